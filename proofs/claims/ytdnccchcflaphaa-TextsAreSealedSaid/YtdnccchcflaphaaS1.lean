namespace Go.Proofs.Try
set_option linter.unusedVariables false
set_option linter.unusedSimpArgs false
/-- A loop that counts from j up to N. -/
def loopS {α : Type} (N : Nat) (f : α → Nat → α) (j : Nat) (x : α) : α := (List.range' j (N - j)).foldl f x
theorem loopS_next {α : Type} {N : Nat} {f : α → Nat → α} {j : Nat} {x : α} (h : j < N) : loopS N f j x = loopS N f (j + 1) (f x j) := by
  unfold loopS
  rw [show N - j = (N - (j + 1)) + 1 by omega, List.range'_succ]
  rfl
theorem loopS_end {α : Type} {N : Nat} {f : α → Nat → α} {x : α} : loopS N f N x = x := by simp [loopS]
theorem loopS_length {α : Type} {N : Nat} {f : List α → Nat → List α} (hf : ∀ w i, (f w i).length = w.length) {j : Nat} {x : List α} : (loopS N f j x).length = x.length := by
  unfold loopS
  generalize List.range' j (N - j) = l
  induction l generalizing x with
  | nil => rfl
  | cons b l ih => rw [List.foldl_cons, ih, hf]
theorem loopS_inv {α : Type} {N : Nat} {f : α → Nat → α} {Q : α → Prop} (hf : ∀ w i, Q w → Q (f w i)) {j : Nat} {x : α} (h : Q x) : Q (loopS N f j x) := by
  unfold loopS
  generalize List.range' j (N - j) = l
  induction l generalizing x with
  | nil => exact h
  | cons b l ih => exact ih (hf _ _ h)
theorem loopS_invN {α : Type} {N : Nat} {f : α → Nat → α} {Q : α → Prop} (hf : ∀ w i, i < N → Q w → Q (f w i)) {j : Nat} {x : α} (h : Q x) : Q (loopS N f j x) := by
  unfold loopS
  have hl : ∀ i ∈ List.range' j (N - j), i < N := by intro i hi; simp [List.mem_range'] at hi; omega
  revert hl
  generalize List.range' j (N - j) = l
  intro hl
  induction l generalizing x with
  | nil => exact h
  | cons b l ih => exact ih (hf _ _ (hl b (by simp)) h) (fun i hi => hl i (by simp [hi]))

def wordS (l : List UInt8) : UInt32 := l[0]!.toUInt32 <<< UInt32.ofNat 24 ||| l[1]!.toUInt32 <<< UInt32.ofNat 16 ||| l[2]!.toUInt32 <<< UInt32.ofNat 8 ||| l[3]!.toUInt32
def octS (n : UInt32) : List UInt8 := [(n >>> UInt32.ofNat 24).toUInt8, (n >>> UInt32.ofNat 16).toUInt8, (n >>> UInt32.ofNat 8).toUInt8, n.toUInt8]
@[simp] theorem octS_length (n : UInt32) : (octS n).length = 4 := rfl
def longS (n : UInt64) : List UInt8 :=
  let h := octS (n >>> UInt64.ofNat 32).toUInt32
  let l := octS n.toUInt32
  [h[0]!, h[1]!, h[2]!, h[3]!, l[0]!, l[1]!, l[2]!, l[3]!]
@[simp] theorem longS_length (n : UInt64) : (longS n).length = 8 := rfl
def rotS (x : UInt32) (k : Nat) : UInt32 := x <<< UInt32.ofNat k ||| x >>> UInt32.ofNat (32 - k)
theorem and31 (k : Nat) (h : k < 32) : (UInt64.ofNat k &&& 31).toNat = k := by
  have e : k % 2 ^ 64 = k := Nat.mod_eq_of_lt (by omega)
  rw [UInt64.toNat_and, UInt64.toNat_ofNat', e]
  have := Nat.and_two_pow_sub_one_eq_mod k 5
  exact this.trans (Nat.mod_eq_of_lt h)
theorem sub31 (k : Nat) (h : k < 32) : ((32 : UInt64) - (UInt64.ofNat k &&& 31)).toNat = 32 - k := by
  rw [UInt64.toNat_sub, and31 k h]
  have : (32 : UInt64).toNat = 32 := rfl
  rw [this]; omega
def turnS (w : List UInt32) (r i : Nat) : UInt32 := rotS w[(i + 1 + r) % 16]! (5 + i) ^^^ (2654435769 * UInt64.ofNat (16 * r + i + 1)).toUInt32
def wordsF (s : List UInt8) (w : List UInt32) (i : Nat) : List UInt32 := w.set i (wordS ((s.drop (4 * i)).take 4))
def wordsS (s : List UInt8) : List UInt32 := loopS 16 (wordsF s) 0 (List.replicate 16 0)
@[simp] theorem wordsF_length (s w i) : (wordsF s w i).length = w.length := by simp [wordsF]
@[simp] theorem wordsS_length (s : List UInt8) : (wordsS s).length = 16 := by rw [wordsS, loopS_length (wordsF_length s)]; rfl
def stateF (w : List UInt32) (s : List UInt8) (i : Nat) : List UInt8 := s.take (4 * i) ++ octS w[i]! ++ s.drop (4 * i + 4)
def stateS (w : List UInt32) : List UInt8 := loopS 16 (stateF w) 0 (List.replicate 64 0)
theorem state_step (w : List UInt32) (s : List UInt8) (j : Nat) (hj : j < 16) :
    s.take (4 * j) ++ ((octS w[j]!).drop 0).take (min 4 (64 - 4 * j)) ++ s.drop (4 * j + min 4 (64 - 4 * j)) = stateF w s j := by
  rw [show min 4 (64 - 4 * j) = 4 by omega]
  rfl
theorem stateF_length (w s j) (hj : j < 16) (hs : s.length = 64) : (stateF w s j).length = 64 := by simp [stateF]; omega
@[simp] theorem stateS_length (w : List UInt32) : (stateS w).length = 64 := loopS_invN (Q := fun s : List UInt8 => s.length = 64) (fun s i hi h => stateF_length w s i hi h) (by simp)
def stepS (r : Nat) (w : List UInt32) (i : Nat) : List UInt32 :=
  let w1 := w.set i (w[i]! + turnS w r i)
  w1.set ((i + 9) % 16) (w1[(i + 9) % 16]! ^^^ rotS w1[i]! 11)
@[simp] theorem stepS_length (r w i) : (stepS r w i).length = w.length := by simp [stepS]
def roundS (w : List UInt32) (r : Nat) : List UInt32 := loopS 16 (stepS r) 0 w
@[simp] theorem roundS_length (w r) : (roundS w r).length = w.length := loopS_length (stepS_length r)
def stirW (w : List UInt32) : List UInt32 := loopS 8 roundS 0 w
@[simp] theorem stirW_length (w) : (stirW w).length = w.length := loopS_length roundS_length
def stirS (s : List UInt8) : List UInt8 := stateS (stirW (wordsS s))
@[simp] theorem stirS_length (s : List UInt8) : (stirS s).length = 64 := stateS_length _

/-! the reference -/
def words1F (s : List UInt8) (w : List UInt32) (i : Nat) : List UInt32 := w.set (i / 4) (w[i / 4]! <<< UInt32.ofNat 8 ||| s[i]!.toUInt32)
def words1 (s : List UInt8) : List UInt32 := loopS 64 (words1F s) 0 (List.replicate 16 0)
@[simp] theorem words1F_length (s w i) : (words1F s w i).length = w.length := by simp [words1F]
@[simp] theorem words1_length (s : List UInt8) : (words1 s).length = 16 := by rw [words1, loopS_length (words1F_length s)]; rfl
def octs1F (w : List UInt32) (s : List UInt8) (i : Nat) : List UInt8 := s.set i (w[i / 4]! >>> UInt32.ofNat (24 - 8 * (i % 4))).toUInt8
def octs1 (w : List UInt32) : List UInt8 := loopS 64 (octs1F w) 0 (List.replicate 64 0)
@[simp] theorem octs1F_length (w s i) : (octs1F w s i).length = s.length := by simp [octs1F]
@[simp] theorem octs1_length (w : List UInt32) : (octs1 w).length = 64 := by rw [octs1, loopS_length (octs1F_length w)]; rfl
def turn1 (w : List UInt32) (r i : Nat) : UInt32 := rotS w[(i + 1 + r) % 16]! (5 + i) ^^^ 2654435769 * UInt32.ofNat (16 * r + i + 1)
def step1 (r : Nat) (w : List UInt32) (i : Nat) : List UInt32 :=
  let w1 := w.set i (w[i]! + turn1 w r i)
  w1.set ((i + 9) % 16) (w1[(i + 9) % 16]! ^^^ rotS w1[i]! 11)
@[simp] theorem step1_length (r w i) : (step1 r w i).length = w.length := by simp [step1]
def round1 (w : List UInt32) (r : Nat) : List UInt32 := loopS 16 (step1 r) 0 w
@[simp] theorem round1_length (w r) : (round1 w r).length = w.length := loopS_length (step1_length r)
def stirW1 (w : List UInt32) : List UInt32 := loopS 8 round1 0 w
@[simp] theorem stirW1_length (w) : (stirW1 w).length = w.length := loopS_length round1_length
def stir1 (s : List UInt8) : List UInt8 := octs1 (stirW1 (words1 s))
@[simp] theorem stir1_length (s : List UInt8) : (stir1 s).length = 64 := octs1_length _
def long1F (n : Nat) (l : List UInt8) (i : Nat) : List UInt8 := l.set i (UInt8.ofNat (n / 2 ^ (56 - 8 * i)))
def long1 (n : Nat) : List UInt8 := loopS 8 (long1F n) 0 (List.replicate 8 0)
@[simp] theorem long1F_length (n l i) : (long1F n l i).length = l.length := by simp [long1F]
@[simp] theorem long1_length (n : Nat) : (long1 n).length = 8 := by rw [long1, loopS_length (long1F_length n)]; rfl
def blockU (k n : List UInt8) (u : UInt64) : List UInt8 := stirS (k ++ n ++ List.replicate 8 0 ++ longS u)
@[simp] theorem blockU_length (k n i) : (blockU k n i).length = 64 := stirS_length _
theorem raw35 (k n o : List UInt8) (hk : k.length = 32) (hn : n.length = 16) (ho : o.length = 8) :
    (((List.replicate 64 (0 : UInt8)).take 0 ++ (k.drop 0).take (min 32 64) ++ (List.replicate 64 (0 : UInt8)).drop (0 + min 32 64)).take 32 ++ (n.drop 0).take (min 16 (64 - 32)) ++
      ((List.replicate 64 (0 : UInt8)).take 0 ++ (k.drop 0).take (min 32 64) ++ (List.replicate 64 (0 : UInt8)).drop (0 + min 32 64)).drop (32 + min 16 (64 - 32))).take 56 ++ (o.drop 0).take (min 8 (64 - 56)) ++
      (((List.replicate 64 (0 : UInt8)).take 0 ++ (k.drop 0).take (min 32 64) ++ (List.replicate 64 (0 : UInt8)).drop (0 + min 32 64)).take 32 ++ (n.drop 0).take (min 16 (64 - 32)) ++
      ((List.replicate 64 (0 : UInt8)).take 0 ++ (k.drop 0).take (min 32 64) ++ (List.replicate 64 (0 : UInt8)).drop (0 + min 32 64)).drop (32 + min 16 (64 - 32))).drop (56 + min 8 (64 - 56)) = k ++ n ++ List.replicate 8 0 ++ o := by
  have a1 : k.take 32 = k := List.take_of_length_le (by omega)
  have a2 : n.take 16 = n := List.take_of_length_le (by omega)
  have a3 : o.take 8 = o := List.take_of_length_le (by omega)
  have a4 : k.drop 48 = [] := List.drop_eq_nil_of_le (by omega)
  have a5 : k.take 56 = k := List.take_of_length_le (by omega)
  have a6 : n.take 24 = n := List.take_of_length_le (by omega)
  have a7 : k.drop 64 = [] := List.drop_eq_nil_of_le (by omega)
  have a8 : n.drop 32 = [] := List.drop_eq_nil_of_le (by omega)
  have e1 : (List.replicate 64 (0 : UInt8)).take 0 ++ (k.drop 0).take (min 32 64) ++ (List.replicate 64 (0 : UInt8)).drop (0 + min 32 64) = k ++ List.replicate 32 0 := by
    simp [a1]
  rw [e1]
  have e2 : (k ++ List.replicate 32 (0 : UInt8)).take 32 ++ (n.drop 0).take (min 16 (64 - 32)) ++ (k ++ List.replicate 32 (0 : UInt8)).drop (32 + min 16 (64 - 32)) = k ++ n ++ List.replicate 16 0 := by
    simp [List.take_append, List.drop_append, hk, a1, a2, a4]
  rw [e2]
  simp [List.take_append, List.drop_append, hk, hn, a1, a3, a5, a6, a7, a8]
/-- A part of the stream. -/
def streamS (k n : List UInt8) (fr many : Nat) : List UInt8 := (List.range many).map fun x => (blockU k n (UInt64.ofNat ((fr + x) / 64)))[(fr + x) % 64]!
@[simp] theorem streamS_length (k n fr many) : (streamS k n fr many).length = many := by simp [streamS]
theorem stream_part (b : List UInt8) (hb : b.length = 64) (lo m : Nat) (hm : lo + m ≤ 64) : (b.drop lo).take m = (List.range m).map fun x => b[lo + x]! := by
  apply List.ext_getElem
  · simp; omega
  · intro i h1 h2
    simp at h1 h2
    rw [List.getElem_take, List.getElem_drop, List.getElem_map, List.getElem_range, getElem!_pos b (lo + i) (by omega)]
theorem streamS_app (k n : List UInt8) (fr L m j lo : Nat) (h : fr + L = 64 * j + lo) (hm : lo + m ≤ 64) (h0 : 0 < m) :
    streamS k n fr L ++ ((blockU k n (UInt64.ofNat j)).drop lo).take m = streamS k n fr (L + m) := by
  unfold streamS
  rw [stream_part (blockU k n (UInt64.ofNat j)) (blockU_length _ _ _) lo m hm, List.range_add, List.map_append, List.map_map]
  refine congrArg (fun z => (List.range L).map (fun x => (blockU k n (UInt64.ofNat ((fr + x) / 64)))[(fr + x) % 64]!) ++ z) ?_
  refine List.map_congr_left fun x hx => ?_
  have hx' := List.mem_range.1 hx
  have e1 : (fr + (L + x)) / 64 = j := by omega
  have e2 : (fr + (L + x)) % 64 = lo + x := by omega
  show (blockU k n (UInt64.ofNat j))[lo + x]! = (blockU k n (UInt64.ofNat ((fr + (L + x)) / 64)))[(fr + (L + x)) % 64]!
  rw [e1, e2]
def hexS (l : List UInt8) : List UInt8 := l.flatMap fun c => [([48, 49, 50, 51, 52, 53, 54, 55, 56, 57, 97, 98, 99, 100, 101, 102] : List UInt8)[(c >>> UInt8.ofNat 4).toNat]!, ([48, 49, 50, 51, 52, 53, 54, 55, 56, 57, 97, 98, 99, 100, 101, 102] : List UInt8)[(c &&& 15).toNat]!]
def coverF (text : List UInt8) (l : List UInt8) (i : Nat) : List UInt8 := l.set i (l[i]! ^^^ text[i]!)
@[simp] theorem coverF_length (t l i) : (coverF t l i).length = l.length := by simp [coverF]
def coverS (k n text : List UInt8) : List UInt8 := loopS text.length (coverF text) 0 (streamS k n 0 text.length)
@[simp] theorem coverS_length (k n t) : (coverS k n t).length = t.length := by rw [coverS, loopS_length (coverF_length t)]; simp
def block1 (k n : List UInt8) (i : Nat) : List UInt8 := stir1 (k ++ n ++ List.replicate 8 0 ++ long1 i)
@[simp] theorem block1_length (k n i) : (block1 k n i).length = 64 := stir1_length _
def stream1 (k n : List UInt8) (fr many : Nat) : List UInt8 := (List.range many).map fun x => (block1 k n ((fr + x) / 64))[(fr + x) % 64]!
@[simp] theorem stream1_length (k n fr many) : (stream1 k n fr many).length = many := by simp [stream1]
theorem stream1_app (k n : List UInt8) (fr L m j lo : Nat) (h : fr + L = 64 * j + lo) (hm : lo + m ≤ 64) :
    stream1 k n fr L ++ ((block1 k n j).drop lo).take m = stream1 k n fr (L + m) := by
  unfold stream1
  rw [stream_part (block1 k n j) (block1_length _ _ _) lo m hm, List.range_add, List.map_append, List.map_map]
  refine congrArg (fun z => (List.range L).map (fun x => (block1 k n ((fr + x) / 64))[(fr + x) % 64]!) ++ z) ?_
  refine List.map_congr_left fun x hx => ?_
  have hx' := List.mem_range.1 hx
  have e1 : (fr + (L + x)) / 64 = j := by omega
  have e2 : (fr + (L + x)) % 64 = lo + x := by omega
  show (block1 k n j)[lo + x]! = (block1 k n ((fr + (L + x)) / 64))[(fr + (L + x)) % 64]!
  rw [e1, e2]
def cover1 (k n text : List UInt8) : List UInt8 := loopS text.length (coverF text) 0 (stream1 k n 0 text.length)
@[simp] theorem cover1_length (k n t) : (cover1 k n t).length = t.length := by rw [cover1, loopS_length (coverF_length t)]; simp

/-! both are the same -/
theorem turn_eq (w : List UInt32) (r i : Nat) : turn1 w r i = turnS w r i := by
  unfold turn1 turnS
  have : (2654435769 * UInt64.ofNat (16 * r + i + 1)).toUInt32 = 2654435769 * UInt32.ofNat (16 * r + i + 1) := by
    apply UInt32.toNat_inj.1
    rw [UInt64.toNat_toUInt32, UInt64.toNat_mul, UInt32.toNat_mul, UInt64.toNat_ofNat', UInt32.toNat_ofNat']
    have e1 : (2654435769 : UInt64).toNat = 2654435769 := rfl
    have e2 : (2654435769 : UInt32).toNat = 2654435769 := rfl
    rw [e1, e2]
    omega
  rw [this]
theorem step_eq (r : Nat) (w : List UInt32) (i : Nat) : step1 r w i = stepS r w i := by
  unfold step1 stepS
  rw [turn_eq]
theorem stirW_eq (w : List UInt32) : stirW1 w = stirW w := by
  have h1 : step1 = stepS := by funext r w i; exact step_eq r w i
  have h2 : round1 = roundS := by funext w r; unfold round1 roundS; rw [h1]
  unfold stirW1 stirW
  rw [h2]
end Go.Proofs.Try
