import Derived.Test.YtdnccchcflaphaaS12
import Derived.Test.YtdnccchcflaphaaFF
namespace Go.Proofs.Try
set_option linter.unusedVariables false
set_option linter.unusedSimpArgs false
theorem sealG_le (blk : Nat → List UInt8) (first : List UInt8) (c : Nat) (hc : ∀ i, (blk i).length ≤ c) (j : Nat) : (sealG blk first j).length ≤ first.length + j * c := by
  induction j with
  | zero => simp [sealG]
  | succ j ih =>
    rw [sealG_next, List.length_append, Nat.succ_mul]
    have := hc j
    omega
theorem sealS_len (k n head text : List UInt8) (block : Nat) (hn : n.length = 16) (ht : text.length ≤ 262144) (h1 : 16 ≤ block) (h2 : block ≤ 65536) : (sealS k n head text block).length ≤ 600000 ∧ 32 ≤ (sealS k n head text block).length := by
  have hb : ∀ i, (blkS k n head text block i).length ≤ block + 16 := fun i => by
    have := partS_length text block i
    simp [blkS]; omega
  have h3 := sealG_le _ (headS n block text.length) _ hb (manyS text.length block)
  have h4 : manyS text.length block * block ≤ text.length + block - 1 := Nat.div_mul_le_self _ _
  have h5 := manyS_le text.length block h1 ht
  rw [Nat.mul_add, headS_length _ _ _ hn] at h3
  refine ⟨by unfold sealS; omega, ?_⟩
  unfold sealS sealG
  rw [List.length_append, headS_length _ _ _ hn]; omega
theorem getBang_le (L : List (List UInt8)) (N : Nat) (h : ∀ x ∈ L, x.length ≤ N) (j : Nat) : (L[j]!).length ≤ N := by
  rcases Nat.lt_or_ge j L.length with hj | hj
  · rw [getElem!_pos L j hj]; exact h _ (List.getElem_mem hj)
  · rw [getElem!_neg L j (by omega)]; exact Nat.zero_le _
theorem texts_le (S : List UInt8) (hS : S.length ≤ 600000) (i : Nat) (v : UInt8) (c : Nat) : ∀ x ∈ [S, S.set i v, S.take c, S ++ [(0 : UInt8)]], x.length ≤ 16777216 := by
  intro x hx
  simp only [List.mem_cons, List.not_mem_nil, or_false] at hx
  rcases hx with rfl | rfl | rfl | rfl
  · omega
  · rw [List.length_set]; omega
  · rw [List.length_take]; omega
  · rw [List.length_append]; simp; omega
theorem key_len (k other : List UInt8) (hk : k.length = 32) (ho : other.length = 32) (j : Nat) (hj : j < 2) : (((k ++ other).drop (j * 32)).take 32).length = 32 := by
  simp [hk, ho]; omega
end Go.Proofs.Try
