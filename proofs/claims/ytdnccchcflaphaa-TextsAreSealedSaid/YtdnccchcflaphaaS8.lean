import Derived.Test.YtdnccchcflaphaaS7
namespace Go.Proofs.Try
set_option linter.unusedVariables false
set_option linter.unusedSimpArgs false
def num4 (b : List UInt8) (k : Nat) : UInt32 := wordS ((((b.take (k + 4)).drop k).drop 0).take 4)
def num8 (b : List UInt8) (k : Nat) : UInt64 := (num4 b k).toUInt64 <<< UInt64.ofNat 32 ||| (wordS ((((b.take (k + 8)).drop (k + 4)).drop 0).take 4)).toUInt64
def octF (n many : Nat) (X : List UInt8) (j : Nat) : List UInt8 := X.set (many - 1 - j) (UInt8.ofNat (n / 2 ^ (8 * j)))
@[simp] theorem octF_length (n many X j) : (octF n many X j).length = X.length := by simp [octF]
def octs (n many : Nat) : List UInt8 := loopS many (octF n many) 0 (List.replicate many 0)
@[simp] theorem octs_length (n many) : (octs n many).length = many := by rw [octs, loopS_length (octF_length n many)]; simp
def numF (b : List UInt8) (n : Nat) (j : Nat) : Nat := n * 2 ^ 8 + (b[j]!).toNat
def numS (b : List UInt8) : Nat := loopS b.length (numF b) 0 0
theorem pow256_le (j : Nat) (h : j ≤ 4) : 256 ^ j ≤ 4294967296 := by
  match j, h with
  | 0, _ => decide
  | 1, _ => decide
  | 2, _ => decide
  | 3, _ => decide
  | 4, _ => decide
theorem num_next (b : List UInt8) (n j : Nat) (h : n < 256 ^ j) : numF b n j < 256 ^ (j + 1) := by
  unfold numF
  have := (b[j]!).toNat_lt
  rw [Nat.pow_succ]; omega
def frame1 (p : List UInt8) : List UInt8 := (long1 p.length).drop 4 ++ p
def framed1 (parts : List (List UInt8)) : List UInt8 := parts.flatMap frame1
def frameS (p : List UInt8) : List UInt8 := octS (UInt32.ofNat p.length) ++ p
theorem take_next (f : List UInt8 → List UInt8) (parts : List (List UInt8)) (j : Nat) (h : j < parts.length) : (parts.take (j + 1)).flatMap f = (parts.take j).flatMap f ++ f parts[j]! := by
  rw [List.take_succ_eq_append_getElem h, List.flatMap_append, getElem!_pos parts j h]; simp
theorem flat_le (f : List UInt8 → List UInt8) (parts : List (List UInt8)) (j : Nat) : ((parts.take j).flatMap f).length ≤ (parts.flatMap f).length := by
  conv => rhs; rw [← List.take_append_drop j parts, List.flatMap_append]
  simp
theorem flat_all (f : List UInt8 → List UInt8) (parts : List (List UInt8)) : (parts.take parts.length).flatMap f = parts.flatMap f := by rw [List.take_length]
theorem frame1_length (p) : (frame1 p).length = 4 + p.length := by simp [frame1, long1_length]
theorem frameS_length (p) : (frameS p).length = 4 + p.length := by simp [frameS]
/-! parts -/
def cat (parts : List (List UInt8)) : List UInt8 := parts.flatMap fun p => p
theorem cat1 (a : List UInt8) : cat [a] = a := by simp [cat]
theorem cat2 (a b : List UInt8) : cat [a, b] = a ++ b := by simp [cat]
theorem cat4 (a b c d : List UInt8) : cat [a, b, c, d] = a ++ b ++ c ++ d := by simp [cat]
def sumAt (d : Nat) (parts : List (List UInt8)) (j : Nat) : Sm := (parts.take j).foldl takeS ⟨initS d, List.replicate 32 0, 0⟩
def sumAll (d : Nat) (parts : List (List UInt8)) : Sm := parts.foldl takeS ⟨initS d, List.replicate 32 0, 0⟩
theorem sumAt_next (d : Nat) (parts : List (List UInt8)) (j : Nat) (h : j < parts.length) : takeS (sumAt d parts j) parts[j]! = sumAt d parts (j + 1) := by
  unfold sumAt
  rw [List.take_succ_eq_append_getElem h, List.foldl_append, getElem!_pos parts j h]; rfl
theorem sumAt_all (d : Nat) (parts : List (List UInt8)) : sumAt d parts parts.length = sumAll d parts := by unfold sumAt sumAll; rw [List.take_length]
theorem canon_at (d : Nat) (parts : List (List UInt8)) : ∀ j, j ≤ parts.length → Canon d ((parts.take j).flatMap fun p => p) (sumAt d parts j)
  | 0, _ => canon_init d
  | j + 1, h => by
    rw [take_next (fun p => p) parts j (by omega), ← sumAt_next d parts j (by omega)]
    exact canon_take (canon_at d parts j (by omega)) _
theorem canon_all (d : Nat) (parts : List (List UInt8)) : Canon d (cat parts) (sumAll d parts) := by
  have := canon_at d parts parts.length (Nat.le_refl _)
  rwa [flat_all, sumAt_all] at this
def tag1 (d : Nat) (x : List UInt8) : List UInt8 := (sum1 d x).take 16
@[simp] theorem tag1_length (d x) : (tag1 d x).length = 16 := by simp [tag1]
theorem tag_raw (d : Nat) (x : List UInt8) : (List.replicate 16 (0 : UInt8)).take 0 ++ ((sum1 d x).drop 0).take (min 32 16) ++ (List.replicate 16 (0 : UInt8)).drop (0 + min 32 16) = tag1 d x := by
  simp [tag1]
theorem tag_cut (d : Nat) (x : List UInt8) : (((sum1 d x).take 16).drop 0).take 16 = tag1 d x := by
  simp [tag1, List.take_take]
def framedS (parts : List (List UInt8)) : List UInt8 := parts.flatMap frameS
end Go.Proofs.Try
