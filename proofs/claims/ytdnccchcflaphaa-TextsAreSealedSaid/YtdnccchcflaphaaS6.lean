import Derived.Test.YtdnccchcflaphaaS5
namespace Go.Proofs.Try
set_option linter.unusedVariables false
set_option linter.unusedSimpArgs false
def xorF (x : List UInt8) (s : List UInt8) (i : Nat) : List UInt8 := s.set i (s[i]! ^^^ x[i]!)
@[simp] theorem xorF_length (x s i) : (xorF x s i).length = s.length := by simp [xorF]
def xor32 (s x : List UInt8) : List UInt8 := loopS 32 (xorF x) 0 s
@[simp] theorem xor32_length (s x) : (xor32 s x).length = s.length := by rw [xor32, loopS_length (xorF_length x)]
def absorb (s x : List UInt8) : List UInt8 := stirS (xor32 s x)
@[simp] theorem absorb_length (s x) : (absorb s x).length = 64 := stirS_length _
/-- All whole blocks of a text from its place 32 * j on. -/
def eatF (b : List UInt8) (s : List UInt8) (i : Nat) : List UInt8 := absorb s (b.drop (32 * i))
def eat (s b : List UInt8) : List UInt8 := loopS (b.length / 32) (eatF b) 0 s
theorem eat_def (s X : List UInt8) : loopS (X.length / 32) (eatF X) 0 s = eat s X := rfl
theorem eat_length {s : List UInt8} (b : List UInt8) (hs : s.length = 64) : (eat s b).length = 64 := by
  unfold eat
  exact loopS_inv (Q := fun w : List UInt8 => w.length = 64) (fun w i _ => by simp [eatF]) hs
/-- What the summer's 'take' makes of (state, rest, have) and a text. -/
structure Sm where
  s : List UInt8
  r : List UInt8
  h : Nat
def Sm.ok (z : Sm) : Prop := z.s.length = 64 ∧ z.r.length = 32 ∧ z.h < 32
def putR (r : List UInt8) (h : Nat) (b : List UInt8) : List UInt8 := r.take h ++ b.take (min b.length (32 - h)) ++ r.drop (h + min b.length (32 - h))
def takeB (s r b : List UInt8) : Sm := ⟨eat s b, (b.drop (32 * (b.length / 32))) ++ r.drop (b.length % 32), b.length % 32⟩
def takeS (z : Sm) (b : List UInt8) : Sm :=
  if 0 < z.h then
    if z.h + b.length < 32 then ⟨z.s, putR z.r z.h b, z.h + b.length⟩
    else takeB (absorb z.s (putR z.r z.h b)) (putR z.r z.h b) (b.drop (32 - z.h))
  else takeB z.s z.r b
theorem putR_length {r : List UInt8} {h : Nat} (b : List UInt8) (hr : r.length = 32) (hh : h ≤ 32) : (putR r h b).length = 32 := by simp [putR, hr]; omega
theorem takeB_ok {s r : List UInt8} (b : List UInt8) (hs : s.length = 64) (hr : r.length = 32) : (takeB s r b).ok := by
  refine ⟨eat_length b hs, ?_, Nat.mod_lt _ (by omega)⟩
  simp [takeB, hr]; omega
theorem takeS_ok {z : Sm} (b : List UInt8) (hz : z.ok) : (takeS z b).ok := by
  obtain ⟨h1, h2, h3⟩ := hz
  unfold takeS
  split
  · split
    · exact ⟨h1, putR_length b h2 (by omega), by assumption⟩
    · exact takeB_ok _ (by simp) (putR_length b h2 (by omega))
  · exact takeB_ok _ h1 h2
theorem takeS_A (s r x : List UInt8) : takeS ⟨s, r, 0⟩ x = takeB s r x := by simp [takeS]
theorem takeS_B (s r x : List UInt8) (h : Nat) (h0 : 0 < h) (hx : h + x.length < 32) : takeS ⟨s, r, h⟩ x = ⟨s, r.take h ++ x.take x.length ++ r.drop (h + x.length), h + x.length⟩ := by
  simp only [takeS, h0, hx, if_true, putR, show min x.length (32 - h) = x.length by omega]
theorem takeS_C (s r x : List UInt8) (h : Nat) (h0 : 0 < h) (hh : h < 32) (hx : 32 ≤ h + x.length) : takeS ⟨s, r, h⟩ x = takeB (absorb s (r.take h ++ x.take (32 - h) ++ r.drop (h + (32 - h)))) (r.take h ++ x.take (32 - h) ++ r.drop (h + (32 - h))) (x.drop (32 - h)) := by
  simp only [takeS, h0, if_true, if_neg (show ¬ (h + x.length < 32) by omega), putR, show min x.length (32 - h) = 32 - h by omega]
theorem endTake (s r X y S : List UInt8) (j : Nat) (hy : y = X.drop (32 * j)) (hj : 32 * j ≤ X.length) (hS : loopS (X.length / 32) (eatF X) j S = eat s X) (hl : y.length < 32) :
    S = (takeB s r X).s ∧ r.take 0 ++ y.take y.length ++ r.drop (0 + y.length) = (takeB s r X).r ∧ y.length = (takeB s r X).h := by
  have h1 : y.length = X.length - 32 * j := by rw [hy, List.length_drop]
  have h2 : j = X.length / 32 := by omega
  subst h2
  rw [loopS_end] at hS
  have h3 : y.length = X.length % 32 := by omega
  refine ⟨hS, ?_, h3⟩
  simp only [takeB, List.take_zero, List.nil_append, List.take_length, Nat.zero_add]
  rw [← hy, h3]
theorem eat_step (X y S s : List UInt8) (j : Nat) (hy : y = X.drop (32 * j)) (hj : 32 * j ≤ X.length) (hS : loopS (X.length / 32) (eatF X) j S = eat s X) (hl : 32 ≤ y.length) :
    ∃ j', y.drop 32 = X.drop (32 * j') ∧ 32 * j' ≤ X.length ∧ (absorb S y).length = 64 ∧ loopS (X.length / 32) (eatF X) j' (absorb S y) = eat s X := by
  have h1 : y.length = X.length - 32 * j := by rw [hy, List.length_drop]
  refine ⟨j + 1, ?_, by omega, by simp, ?_⟩
  · rw [hy, List.drop_drop]; congr 1
  · rw [← hS, loopS_next (by omega : j < X.length / 32), eatF, ← hy]
/-- The last block. -/
def lastB (t : Nat) : List UInt8 := List.replicate 24 0 ++ longS (UInt64.ofNat t)
@[simp] theorem lastB_length (t) : (lastB t).length = 32 := by simp [lastB]
def endZ (z : Sm) : Sm := let y := takeS z [128]; if 0 < y.h then takeS y (List.replicate (32 - y.h) 0) else y
theorem endZ_ok {z : Sm} (hz : z.ok) : (endZ z).ok := by
  unfold endZ
  have h1 := takeS_ok [128] hz
  dsimp only
  split
  · exact takeS_ok _ h1
  · exact h1
def endS (z : Sm) (t : Nat) : List UInt8 := absorb (endZ z).s (lastB t)
@[simp] theorem endS_length (z t) : (endS z t).length = 64 := absorb_length _ _
def sumS (z : Sm) (t : Nat) : List UInt8 := (endS z t).take 32
@[simp] theorem sumS_length (z t) : (sumS z t).length = 32 := by simp [sumS]

/-! the reference -/
def absorb1 (s x : List UInt8) : List UInt8 := stir1 (xor32 s x)
@[simp] theorem absorb1_length (s x) : (absorb1 s x).length = 64 := stir1_length _
def eat1F (b : List UInt8) (s : List UInt8) (i : Nat) : List UInt8 := absorb1 s (b.drop (32 * i))
def eat1 (s b : List UInt8) : List UInt8 := loopS (b.length / 32) (eat1F b) 0 s
def initS (d : Nat) : List UInt8 := (List.replicate 64 0).set 63 (UInt8.ofNat d)
@[simp] theorem initS_length (d) : (initS d).length = 64 := by simp [initS]
def padN (n : Nat) : Nat := (32 - (n + 1) % 32) % 32
def padded (text : List UInt8) : List UInt8 := text ++ [128] ++ List.replicate (padN text.length) 0 ++ List.replicate 24 0 ++ long1 text.length
def state1 (d : Nat) (text : List UInt8) : List UInt8 := eat1 (initS d) (padded text)
def sum1 (d : Nat) (text : List UInt8) : List UInt8 := (state1 d text).take 32
theorem last_raw (u : UInt64) : (List.replicate 32 (0 : UInt8)).take 24 ++ ((longS u).drop 0).take (min 8 (32 - 24)) ++ (List.replicate 32 (0 : UInt8)).drop (24 + min 8 (32 - 24)) = List.replicate 24 0 ++ longS u := rfl
theorem padded_length (text : List UInt8) : (padded text).length = text.length + 1 + padN text.length + 24 + 8 := by simp [padded]; omega
theorem padded_mod (text : List UInt8) : (padded text).length % 32 = 0 := by rw [padded_length]; unfold padN; omega
def xorG (b : List UInt8) (o : Nat) (s : List UInt8) (i : Nat) : List UInt8 := s.set i (s[i]! ^^^ b[o + i]!)
@[simp] theorem xorG_length (b o s i) : (xorG b o s i).length = s.length := by simp [xorG]
theorem xorG_drop (b s : List UInt8) (o : Nat) (h : o + 32 ≤ b.length) : loopS 32 (xorG b o) 0 s = xor32 s (b.drop o) := by
  unfold xor32 loopS
  have key : ∀ (l : List Nat) (s : List UInt8), (∀ i ∈ l, i < 32) → l.foldl (xorG b o) s = l.foldl (xorF (b.drop o)) s := by
    intro l
    induction l with
    | nil => intro s _; rfl
    | cons i l ih =>
      intro s hl
      have hi := hl i (by simp)
      rw [List.foldl_cons, List.foldl_cons, ih _ fun k hk => hl k (by simp [hk])]
      congr 1
      unfold xorG xorF
      rw [getElem!_pos b (o + i) (by omega), getElem!_pos (b.drop o) i (by simp; omega), List.getElem_drop]
  exact key _ s fun i hi => by simp [List.mem_range'] at hi; omega
theorem sum1_raw (d : Nat) (text : List UInt8) : (List.replicate 32 (0 : UInt8)).take 0 ++ ((state1 d text).drop 0).take (min 32 32) ++ (List.replicate 32 (0 : UInt8)).drop (0 + min 32 32) = sum1 d text := by
  simp [sum1]
theorem eat1_def (s X : List UInt8) : loopS (X.length / 32) (eat1F X) 0 s = eat1 s X := rfl
@[simp] theorem eat1_length {s : List UInt8} (b : List UInt8) (hs : s.length = 64) : (eat1 s b).length = 64 := by
  unfold eat1
  exact loopS_inv (Q := fun w : List UInt8 => w.length = 64) (fun w i _ => by simp [eat1F]) hs
@[simp] theorem state1_length (d text) : (state1 d text).length = 64 := eat1_length _ (by simp)
@[simp] theorem sum1_length (d text) : (sum1 d text).length = 32 := by simp [sum1]
theorem pad_step (A : List UInt8) (p : Nat) : A ++ List.replicate p 0 ++ (([0] : List UInt8).drop 0).take ([0] : List UInt8).length = A ++ List.replicate (p + 1) 0 := by
  rw [List.replicate_succ']; simp
theorem long1_take (n : Nat) : (long1 n).take 8 = long1 n := List.take_of_length_le (Nat.le_of_eq (long1_length n))
theorem padN_lt (n : Nat) : padN n < 32 := by unfold padN; omega
theorem padN_next (n p : Nat) (h : p ≤ padN n) (h1 : (((n + 1 + p : Nat) : Int) % 32 != 0) = true) : p + 1 ≤ padN n := by
  simp only [bne_iff_ne, ne_eq] at h1
  unfold padN at *; omega
theorem padN_end (n p : Nat) (h : p ≤ padN n) (h1 : (((n + 1 + p : Nat) : Int) % 32 != 0) = false) : p = padN n := by
  have h2 : ((n + 1 + p : Nat) : Int) % 32 = 0 := by simpa using h1
  unfold padN at *; omega
end Go.Proofs.Try
