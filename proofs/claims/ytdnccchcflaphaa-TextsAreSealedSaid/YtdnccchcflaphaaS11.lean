import Derived.Test.YtdnccchcflaphaaS10
import Derived.Test.YtdnccchcflaphaaFF
namespace Go.Proofs.Try
set_option linter.unusedVariables false
set_option linter.unusedSimpArgs false
/-! reading a sealed text: numbers -/
theorem four_of (l : List UInt8) (h : l.length = 4) : ∃ a b c d, l = [a, b, c, d] := by
  match l, h with
  | [a, b, c, d], _ => exact ⟨a, b, c, d, rfl⟩
def num4N (a b c d : UInt8) : Nat := ((a.toNat * 256 + b.toNat) * 256 + c.toNat) * 256 + d.toNat
theorem numS_four (a b c d : UInt8) : numS [a, b, c, d] = num4N a b c d := by
  simp [numS, loopS, numF, List.range'_succ, num4N]
theorem or_add (x y k : Nat) (h : y < 2 ^ k) : x * 2 ^ k ||| y = x * 2 ^ k + y := by
  rw [← Nat.shiftLeft_eq, Nat.shiftLeft_add_eq_or_of_lt h]
theorem wordS_four (a b c d : UInt8) : (wordS [a, b, c, d]).toNat = num4N a b c d := by
  have ha := a.toNat_lt; have hb := b.toNat_lt; have hc := c.toNat_lt; have hd := d.toNat_lt
  show (a.toUInt32 <<< UInt32.ofNat 24 ||| b.toUInt32 <<< UInt32.ofNat 16 ||| c.toUInt32 <<< UInt32.ofNat 8 ||| d.toUInt32).toNat = _
  rw [UInt32.toNat_or, UInt32.toNat_or, UInt32.toNat_or, UInt32.toNat_shiftLeft, UInt32.toNat_shiftLeft, UInt32.toNat_shiftLeft, UInt8.toNat_toUInt32, UInt8.toNat_toUInt32, UInt8.toNat_toUInt32, UInt8.toNat_toUInt32]
  rw [show (UInt32.ofNat 24).toNat % 32 = 24 from rfl, show (UInt32.ofNat 16).toNat % 32 = 16 from rfl, show (UInt32.ofNat 8).toNat % 32 = 8 from rfl]
  rw [Nat.shiftLeft_eq, Nat.shiftLeft_eq, Nat.shiftLeft_eq, Nat.mod_eq_of_lt (by omega), Nat.mod_eq_of_lt (by omega), Nat.mod_eq_of_lt (by omega)]
  rw [or_add _ _ 24 (by omega), show a.toNat * 2 ^ 24 + b.toNat * 2 ^ 16 = (a.toNat * 2 ^ 8 + b.toNat) * 2 ^ 16 by omega, or_add _ _ 16 (by omega),
    show (a.toNat * 2 ^ 8 + b.toNat) * 2 ^ 16 + c.toNat * 2 ^ 8 = ((a.toNat * 2 ^ 8 + b.toNat) * 2 ^ 8 + c.toNat) * 2 ^ 8 by omega, or_add _ _ 8 (by omega)]
  unfold num4N; omega
theorem wordS_num (l : List UInt8) (h : l.length = 4) : (wordS l).toNat = numS l := by
  obtain ⟨a, b, c, d, rfl⟩ := four_of l h
  rw [wordS_four, numS_four]
theorem numS_lt (l : List UInt8) (h : l.length = 4) : numS l < 2 ^ 32 := by
  rw [← wordS_num l h]; exact UInt32.toNat_lt _
theorem numS_zero (l : List UInt8) (h : l.length = 4) : numS l = 0 ↔ ∀ i < 4, l[i]! = 0 := by
  obtain ⟨a, b, c, d, rfl⟩ := four_of l h
  have ha := a.toNat_lt; have hb := b.toNat_lt; have hc := c.toNat_lt; have hd := d.toNat_lt
  rw [numS_four]
  constructor
  · intro h0
    unfold num4N at h0
    have e1 : a = 0 := UInt8.toNat_inj.1 (by simpa using (show a.toNat = 0 by omega))
    have e2 : b = 0 := UInt8.toNat_inj.1 (by simpa using (show b.toNat = 0 by omega))
    have e3 : c = 0 := UInt8.toNat_inj.1 (by simpa using (show c.toNat = 0 by omega))
    have e4 : d = 0 := UInt8.toNat_inj.1 (by simpa using (show d.toNat = 0 by omega))
    subst e1 e2 e3 e4
    intro i hi
    match i, hi with
    | 0, _ => rfl
    | 1, _ => rfl
    | 2, _ => rfl
    | 3, _ => rfl
  · intro h0
    have e1 : a = 0 := h0 0 (by omega)
    have e2 : b = 0 := h0 1 (by omega)
    have e3 : c = 0 := h0 2 (by omega)
    have e4 : d = 0 := h0 3 (by omega)
    subst e1 e2 e3 e4
    rfl
/-! what a reader finds -/
def blkN (b : List UInt8) : Nat := (num4 b 20).toNat
def szN (b : List UInt8) : Nat := (num8 b 24).toNat
def manyN (b : List UInt8) : Nat := manyS (szN b) (blkN b)
def lookE (b : List UInt8) : Int :=
  if b.length < 32 then 1 else if ¬ b.take 4 = [75, 87, 84, 49] then 2 else if blkN b < 16 ∨ 65536 < blkN b then 4 else if 262144 < szN b then 5
  else if b.length < 32 + szN b + 16 * manyN b then 1 else if 32 + szN b + 16 * manyN b < b.length then 2 else 0
structure Ok (b : List UInt8) : Prop where
  len : b.length = 32 + szN b + 16 * manyN b
  kwt : b.take 4 = [75, 87, 84, 49]
  lo : 16 ≤ blkN b
  hi : blkN b ≤ 65536
  sz : szN b ≤ 262144
theorem ok_of {b : List UInt8} (h : lookE b = 0) : Ok b := by
  unfold lookE at h
  split at h; · simp at h
  split at h; · simp at h
  split at h; · simp at h
  split at h; · simp at h
  split at h; · simp at h
  split at h; · simp at h
  rename_i h1 h2 h3 h4 h5 h6
  exact ⟨by omega, Decidable.not_not.1 h2, by omega, by omega, by omega⟩
theorem blkN_num (b : List UInt8) (h : 24 ≤ b.length) : numS ((b.take 24).drop 20) = blkN b := by
  unfold blkN num4
  rw [wordS_num _ (by simp; omega), List.drop_zero, List.take_of_length_le (l := (b.take (20 + 4)).drop 20) (by simp only [List.length_drop, List.length_take]; omega)]
theorem szN_num (b : List UInt8) (h : 32 ≤ b.length) : szN b = numS ((b.take 28).drop 24) * 2 ^ 32 + numS ((b.take 32).drop 28) := by
  have h1 : (num4 b 24).toNat = numS ((b.take 28).drop 24) := by
    unfold num4
    rw [wordS_num _ (by simp; omega), List.drop_zero, List.take_of_length_le (by simp only [List.length_drop, List.length_take]; omega)]
  have h2 : (wordS ((((b.take (24 + 8)).drop (24 + 4)).drop 0).take 4)).toNat = numS ((b.take 32).drop 28) := by
    rw [wordS_num _ (by simp; omega), List.drop_zero, List.take_of_length_le (by simp only [List.length_drop, List.length_take]; omega)]
  have l1 := numS_lt ((b.take 28).drop 24) (by simp; omega)
  have l2 := numS_lt ((b.take 32).drop 28) (by simp; omega)
  unfold szN num8
  rw [UInt64.toNat_or, UInt64.toNat_shiftLeft, UInt32.toNat_toUInt64, UInt32.toNat_toUInt64, h1, h2, show (UInt64.ofNat 32).toNat % 64 = 32 from rfl, Nat.shiftLeft_eq, Nat.mod_eq_of_lt (by omega), or_add _ _ 32 (by omega)]
theorem manyS_le (size block : Nat) (h1 : 16 ≤ block) (h2 : size ≤ 262144) : manyS size block ≤ 16384 := by
  unfold manyS
  rw [Nat.div_le_iff_le_mul_add_pred (by omega)]
  have : 16384 * 16 ≤ block * 16384 := by rw [Nat.mul_comm block]; exact Nat.mul_le_mul_left _ h1
  omega
/-! blocks of a read text -/
theorem many_bound (size block i : Nat) (hb : 0 < block) (h : i < manyS size block) : i * block < size := by
  unfold manyS at h
  have h1 := (Nat.le_div_iff_mul_le hb).1 (show i + 1 ≤ (size + block - 1) / block from h)
  rw [Nat.add_mul, Nat.one_mul] at h1
  omega
theorem many_last (size block i : Nat) (hb : 0 < block) (h : i + 1 < manyS size block) : (i + 1) * block < size := many_bound size block (i + 1) hb h
theorem many_top (size block : Nat) (hb : 0 < block) : size ≤ manyS size block * block := by
  unfold manyS
  have h1 := Nat.div_add_mod (size + block - 1) block
  have h2 := Nat.mod_lt (size + block - 1) hb
  rw [Nat.mul_comm] at h1
  omega
def fromN (b : List UInt8) (i : Nat) : Nat := 32 + i * (blkN b + 16)
def endN (b : List UInt8) (i : Nat) : Nat := fromN b i + min (blkN b) (szN b - i * blkN b)
theorem end_le {b : List UInt8} (o : Ok b) (i : Nat) (h : i < manyN b) : endN b i + 16 ≤ b.length ∧ min b.length (fromN b i + blkN b + 16) = endN b i + 16 ∧ fromN b i < endN b i := by
  have h1 := many_bound (szN b) (blkN b) i (by have := o.lo; omega) h
  have hm : i * (blkN b + 16) = i * blkN b + i * 16 := Nat.mul_add _ _ _
  have h3 := o.len
  have h4 := o.lo
  unfold endN fromN
  rw [hm]
  rcases Nat.lt_or_ge (i + 1) (manyN b) with h2 | h2
  · have h5 := many_last (szN b) (blkN b) i (by omega) h2
    rw [Nat.add_mul, Nat.one_mul] at h5
    refine ⟨by omega, by omega, by omega⟩
  · have e : manyN b = i + 1 := by omega
    have h6 := many_top (szN b) (blkN b) (by omega)
    rw [show manyS (szN b) (blkN b) = i + 1 from e, Nat.add_mul, Nat.one_mul] at h6
    rw [e] at h3
    refine ⟨by omega, by omega, by omega⟩
def partN (b : List UInt8) (i : Nat) : List UInt8 := (b.take (endN b i)).drop (fromN b i)
def tagN (b : List UInt8) (i : Nat) : List UInt8 := (b.drop (endN b i)).take 16
def goodB (k head b : List UInt8) (i : Nat) : Prop := bt1 k head (b.take 32) (partN b i) i = tagN b i
instance (k head b : List UInt8) (i : Nat) : Decidable (goodB k head b i) := inferInstanceAs (Decidable (_ = _))
def plainB (k b : List UInt8) (i : Nat) : List UInt8 := cover1 k (bn1 ((b.take 20).drop 4) i) (partN b i)
theorem partN_length {b : List UInt8} (o : Ok b) (i : Nat) (h : i < manyN b) : (partN b i).length = endN b i - fromN b i := by
  have := (end_le o i h).1
  simp [partN]; omega
theorem plainB_pos {b : List UInt8} (k : List UInt8) (o : Ok b) (i : Nat) (h : i < manyN b) : 0 < (plainB k b i).length := by
  have := (end_le o i h).2.2
  unfold plainB; rw [cover1_length, partN_length o i h]; omega
theorem plainB_le {b : List UInt8} (k : List UInt8) (o : Ok b) (i : Nat) (h : i < manyN b) : (plainB k b i).length ≤ 65536 := by
  unfold plainB; rw [cover1_length, partN_length o i h]; have := o.hi; unfold endN; omega
def openB (k head b : List UInt8) (i : Nat) : List UInt8 := if goodB k head b i then plainB k b i else []
def openE (k head b : List UInt8) (i : Nat) : Int := if goodB k head b i then 0 else 13
theorem openE_zero {k head b : List UInt8} {i : Nat} : openE k head b i = 0 ↔ goodB k head b i := by unfold openE; split <;> simp_all
/-- the first error among the blocks before j -/
def errB (k head b : List UInt8) : Nat → Int
  | 0 => 0
  | j + 1 => if errB k head b j = 0 then openE k head b j else errB k head b j
def catB (k b : List UInt8) (j : Nat) : List UInt8 := (List.range j).flatMap (plainB k b)
theorem catB_zero (k b) : catB k b 0 = [] := rfl
theorem catB_next (k b : List UInt8) (j : Nat) : catB k b (j + 1) = catB k b j ++ plainB k b j := by simp [catB, List.range_succ]
theorem errB_stay {k head b : List UInt8} {j m : Nat} (h : j ≤ m) (hj : errB k head b j ≠ 0) : errB k head b m = errB k head b j := by
  induction m with
  | zero => rw [show j = 0 by omega]
  | succ m ih =>
    rcases Nat.lt_or_ge m j with h1 | h1
    · rw [show j = m + 1 by omega]
    · rw [errB, ih h1, if_neg hj]
theorem errB_at {k head b : List UInt8} {j m : Nat} (h : j < m) (hm : errB k head b m = 0) : goodB k head b j := by
  have h1 : errB k head b (j + 1) = 0 := Classical.byContradiction fun hn => hn (by rw [← errB_stay (show j + 1 ≤ m by omega) hn]; exact hm)
  have h2 : errB k head b j = 0 := Classical.byContradiction fun hn => hn (by rw [← errB_stay (show j ≤ j + 1 by omega) hn]; exact h1)
  rw [errB, if_pos h2] at h1
  exact openE_zero.1 h1
def blkB (k head b : List UInt8) (i : Int) : List UInt8 := if 0 ≤ i ∧ i < manyN b then openB k head b i.toNat else []
def blkE (k head b : List UInt8) (i : Int) : Int := if 0 ≤ i ∧ i < manyN b then openE k head b i.toNat else 4
def allB (k head b : List UInt8) : List UInt8 := if errB k head b (manyN b) = 0 then catB k b (manyN b) else []
theorem look_1 (b : List UInt8) (h1 : b.length < 32) : lookE b = 1 := by unfold lookE; rw [if_pos h1]
theorem look_2 (b : List UInt8) (h1 : ¬ b.length < 32) (h2 : ¬ b.take 4 = [75, 87, 84, 49]) : lookE b = 2 := by unfold lookE; rw [if_neg h1, if_pos h2]
theorem look_4 (b : List UInt8) (h1 : ¬ b.length < 32) (h2 : b.take 4 = [75, 87, 84, 49]) (h3 : blkN b < 16 ∨ 65536 < blkN b) : lookE b = 4 := by unfold lookE; rw [if_neg h1, if_neg (not_not_intro h2), if_pos h3]
theorem look_5 (b : List UInt8) (h1 : ¬ b.length < 32) (h2 : b.take 4 = [75, 87, 84, 49]) (h3 : ¬ (blkN b < 16 ∨ 65536 < blkN b)) (h4 : 262144 < szN b) : lookE b = 5 := by unfold lookE; rw [if_neg h1, if_neg (not_not_intro h2), if_neg h3, if_pos h4]
theorem look_1b (b : List UInt8) (h1 : ¬ b.length < 32) (h2 : b.take 4 = [75, 87, 84, 49]) (h3 : ¬ (blkN b < 16 ∨ 65536 < blkN b)) (h4 : ¬ 262144 < szN b) (h5 : b.length < 32 + szN b + 16 * manyN b) : lookE b = 1 := by
  unfold lookE; rw [if_neg h1, if_neg (not_not_intro h2), if_neg h3, if_neg h4, if_pos h5]
theorem look_2b (b : List UInt8) (h1 : ¬ b.length < 32) (h2 : b.take 4 = [75, 87, 84, 49]) (h3 : ¬ (blkN b < 16 ∨ 65536 < blkN b)) (h4 : ¬ 262144 < szN b) (h6 : 32 + szN b + 16 * manyN b < b.length) : lookE b = 2 := by
  unfold lookE; rw [if_neg h1, if_neg (not_not_intro h2), if_neg h3, if_neg h4, if_neg (by omega), if_pos h6]
theorem look_0 (b : List UInt8) (h1 : ¬ b.length < 32) (h2 : b.take 4 = [75, 87, 84, 49]) (h3 : ¬ (blkN b < 16 ∨ 65536 < blkN b)) (h4 : ¬ 262144 < szN b) (h5 : b.length = 32 + szN b + 16 * manyN b) : lookE b = 0 := by
  unfold lookE; rw [if_neg h1, if_neg (not_not_intro h2), if_neg h3, if_neg h4, if_neg (by omega), if_neg (by omega)]
theorem szN_zero (b : List UInt8) (h : 32 ≤ b.length) (hs : szN b ≤ 262144) : (∀ i < 4, ((b.take 28).drop 24)[i]! = 0) ∧ szN b = numS ((b.take 32).drop 28) := by
  have h1 := szN_num b h
  have h2 : numS ((b.take 28).drop 24) = 0 := by omega
  exact ⟨(numS_zero _ (by simp only [List.length_drop, List.length_take]; omega)).1 h2, by omega⟩
theorem szN_big (b : List UInt8) (h : 32 ≤ b.length) (j : Nat) (hj : j < 4) (hz : ¬ ((b.take 28).drop 24)[j]! = 0) : 262144 < szN b := by
  rcases Nat.lt_or_ge 262144 (szN b) with h1 | h1
  · exact h1
  · exact absurd ((szN_zero b h h1).1 j hj) hz
theorem szN_small (b : List UInt8) (h : 32 ≤ b.length) (hz : ∀ i < 4, ((b.take 28).drop 24)[i]! = 0) : szN b = numS ((b.take 32).drop 28) := by
  have h1 := szN_num b h
  rw [(numS_zero _ (by simp only [List.length_drop, List.length_take]; omega)).2 hz] at h1
  omega
theorem many_int (size block : Nat) (hb : 0 < block) : ((manyS size block : Nat) : Int) = ((size : Int) + (block : Int) - 1) / (block : Int) := by
  unfold manyS
  rw [Int.natCast_ediv, show (((size + block - 1 : Nat)) : Int) = (size : Int) + (block : Int) - 1 by omega]
open Go Go.Kw in
def lookS (full : Bool) (b : List UInt8) : AVal := if lookE b = 0 then .agg ([VS AVal.u8 full b] ++ ([.i (blkN b : Int)] ++ [.i (szN b : Int)])) else .agg ([VS AVal.u8 true ([] : List UInt8)] ++ ([.i 0] ++ [.i 0]))
end Go.Proofs.Try
