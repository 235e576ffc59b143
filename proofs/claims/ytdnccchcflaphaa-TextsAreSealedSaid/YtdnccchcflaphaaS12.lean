import Derived.Test.YtdnccchcflaphaaS11
namespace Go.Proofs.Try
set_option linter.unusedVariables false
set_option linter.unusedSimpArgs false
theorem tagN_of (b : List UInt8) (e : Nat) : (b.take (e + 16)).drop e = (b.drop e).take 16 := by
  rw [List.drop_take, show e + 16 - e = 16 by omega]
theorem tagN_length (b : List UInt8) (i : Nat) (h : endN b i + 16 ≤ b.length) : (tagN b i).length = 16 := by simp [tagN]; omega
theorem tagN_cut (b : List UInt8) (i : Nat) : ((tagN b i).drop 0).take 16 = tagN b i := by
  rw [List.drop_zero, tagN, List.take_take, Nat.min_self]
theorem nonceN (b : List UInt8) : ((((b.take 20).drop 4).drop 0).take 16) = (b.take 20).drop 4 := by
  rw [List.drop_zero, List.take_of_length_le (by simp only [List.length_drop, List.length_take]; omega)]
theorem cmpS (k head b : List UInt8) (i : Nat) (_ : 0 = 0) : (!(btS k head (b.take 32) i (partN b i) == ((tagN b i).drop 0).take 16)) = !decide (goodB k head b i) := by
  rw [tagN_cut, bt_eq]
  unfold goodB
  congr 1
  by_cases h : bt1 k head (b.take 32) (partN b i) i = tagN b i <;> simp [h]
theorem cmp1 (k head b : List UInt8) (i : Nat) (_ : 0 = 0) : (!(((tagN b i).drop 0).take 16 == bt1 k head (b.take 32) (partN b i) i)) = !decide (goodB k head b i) := by
  rw [tagN_cut, Bool.beq_comm]
  unfold goodB
  congr 1
  by_cases h : bt1 k head (b.take 32) (partN b i) i = tagN b i <;> simp [h]
theorem plain_eq (k b : List UInt8) (i : Nat) (hk : k.length = 32) : coverS k (bnS ((b.take 20).drop 4) i) (partN b i) = plainB k b i := by
  rw [plainB, cover_eq _ _ _ hk (by simp), bn_eq]
theorem openB_le (k head : List UInt8) {b : List UInt8} (o : Ok b) (i : Nat) (h : i < manyN b) : (openB k head b i).length ≤ 65536 := by
  unfold openB; split
  · exact plainB_le k o i h
  · simp
theorem blkB_le (k head : List UInt8) {b : List UInt8} (o : Ok b) (i : Int) : (blkB k head b i).length ≤ 65536 := by
  unfold blkB; split
  · rename_i h; exact openB_le k head o _ (by omega)
  · simp
theorem blkB_nat (k head b : List UInt8) (j : Nat) (h : j < manyN b) : blkB k head b (j : Int) = openB k head b j := by
  unfold blkB; rw [if_pos ⟨by omega, by omega⟩]; rfl
theorem blkE_nat (k head b : List UInt8) (j : Nat) (h : j < manyN b) : blkE k head b (j : Int) = openE k head b j := by
  unfold blkE; rw [if_pos ⟨by omega, by omega⟩]; rfl
end Go.Proofs.Try
