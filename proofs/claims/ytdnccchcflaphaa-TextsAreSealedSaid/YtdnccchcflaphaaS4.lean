import Derived.Test.YtdnccchcflaphaaS3
namespace Go.Proofs.Try
set_option linter.unusedVariables false
set_option linter.unusedSimpArgs false
theorem word_bits (a b c d : UInt32) : (((((0 : UInt32) <<< UInt32.ofNat 8 ||| a) <<< UInt32.ofNat 8 ||| b) <<< UInt32.ofNat 8 ||| c) <<< UInt32.ofNat 8 ||| d) = a <<< UInt32.ofNat 24 ||| b <<< UInt32.ofNat 16 ||| c <<< UInt32.ofNat 8 ||| d := by
  apply UInt32.eq_of_toBitVec_eq
  simp only [UInt32.toBitVec_or, UInt32.toBitVec_shiftLeft]
  apply BitVec.eq_of_getLsbD_eq
  intro i hi
  simp [BitVec.getLsbD_or, BitVec.getLsbD_shiftLeft]
  rw [show i - 8 - 8 - 8 = i - 24 by omega, show i - 8 - 8 = i - 16 by omega]
  by_cases h1 : i < 8
  · simp [h1, show i < 16 by omega, show i < 24 by omega]
  · by_cases h2 : i < 16
    · simp [h1, h2, hi, show i - 8 < 8 by omega, show i < 24 by omega]
    · by_cases h3 : i < 24
      · simp [h1, h2, h3, hi, show ¬ i - 8 < 8 by omega, show i - 8 < 32 by omega, show i - 16 < 8 by omega]
      · simp [h1, h2, h3, hi, show ¬ i - 8 < 8 by omega, show i - 8 < 32 by omega, show ¬ i - 16 < 8 by omega, show i - 16 < 32 by omega]
theorem word_zero (a : UInt32) : (0 : UInt32) <<< UInt32.ofNat 8 ||| a = 0 <<< UInt32.ofNat 8 ||| a := rfl
theorem get_set_eq (w : List UInt32) (i : Nat) (v : UInt32) (h : i < w.length) : (w.set i v)[i]! = v := by
  rw [getElem!_pos _ i (by simpa using h)]; simp
theorem drop4 (s : List UInt8) (i k : Nat) (hk : k < 4) (h : 4 * i + 4 ≤ s.length) : ((s.drop (4 * i)).take 4)[k]! = s[4 * i + k]! := by
  rw [getElem!_pos _ k (by simp; omega), getElem!_pos s (4 * i + k) (by omega)]
  simp
theorem words_eq (s : List UInt8) (hs : s.length = 64) : words1 s = wordsS s := by
  have := loop4 (N := 16) (f := words1F s) (g := wordsF s) (Q := fun w i => w.length = 16 ∧ ∀ j, i ≤ j → j < 16 → w[j]! = 0) ?_ ?_ 16 0 (List.replicate 16 0) rfl ?_
  · exact this
  · intro i x hi ⟨hx, hz⟩
    have h0 := hz i (Nat.le_refl _) hi
    simp only [words1F, show 4 * i / 4 = i by omega, show (4 * i + 1) / 4 = i by omega, show (4 * i + 2) / 4 = i by omega, show (4 * i + 3) / 4 = i by omega, List.set_set]
    rw [get_set_eq _ _ _ (by omega), get_set_eq _ _ _ (by omega), get_set_eq _ _ _ (by omega), h0, word_bits]
    unfold wordsF wordS
    rw [drop4 s i 0 (by omega) (by omega), drop4 s i 1 (by omega) (by omega), drop4 s i 2 (by omega) (by omega), drop4 s i 3 (by omega) (by omega)]
    rfl
  · intro i x hi ⟨hx, hz⟩
    refine ⟨by simp [hx], fun j h1 h2 => ?_⟩
    rw [← hz j (by omega) h2]
    simp [wordsF, List.getElem!_eq_getElem?_getD, List.getElem?_set, show ¬ i = j by omega]
  · refine ⟨by simp, fun j _ h => ?_⟩
    rw [getElem!_pos _ j (by simpa using h), List.getElem_replicate]
theorem set4 (s : List UInt8) (k : Nat) (a b c d : UInt8) (h : k + 4 ≤ s.length) : (((s.set k a).set (k + 1) b).set (k + 2) c).set (k + 3) d = s.take k ++ [a, b, c, d] ++ s.drop (k + 4) := by
  apply List.ext_getElem?
  intro n
  rw [List.append_assoc]
  by_cases h1 : n < k
  · rw [List.getElem?_append_left (by simp; omega)]
    simp [List.getElem?_set, List.getElem?_take, h1, show ¬ k + 3 = n by omega, show ¬ k + 2 = n by omega, show ¬ k + 1 = n by omega, show ¬ k = n by omega]
  · rw [List.getElem?_append_right (by simp; omega)]
    have e : (s.take k).length = k := by simp; omega
    rw [e]
    by_cases h2 : n < k + 4
    · rw [List.getElem?_append_left (by simp; omega)]
      obtain ⟨m, rfl⟩ : ∃ m, n = k + m := ⟨n - k, by omega⟩
      have hm : m < 4 := by omega
      rw [show k + m - k = m by omega]
      match m, hm with
      | 0, _ => simp [List.getElem?_set]; omega
      | 1, _ => simp [List.getElem?_set]; omega
      | 2, _ => simp [List.getElem?_set]; omega
      | 3, _ => simp [List.getElem?_set]; omega
    · rw [List.getElem?_append_right (by simp; omega)]
      simp [List.getElem?_set, show ¬ k + 3 = n by omega, show ¬ k + 2 = n by omega, show ¬ k + 1 = n by omega, show ¬ k = n by omega]
      congr 1; omega
theorem state_eq (w : List UInt32) : octs1 w = stateS w := by
  have := loop4 (N := 16) (f := octs1F w) (g := stateF w) (Q := fun s _ => s.length = 64) ?_ ?_ 16 0 (List.replicate 64 0) rfl (by simp)
  · exact this
  · intro i x hi hx
    simp only [octs1F, show 4 * i / 4 = i by omega, show (4 * i + 1) / 4 = i by omega, show (4 * i + 2) / 4 = i by omega, show (4 * i + 3) / 4 = i by omega, show 4 * i % 4 = 0 by omega, show (4 * i + 1) % 4 = 1 by omega, show (4 * i + 2) % 4 = 2 by omega, show (4 * i + 3) % 4 = 3 by omega]
    rw [set4 _ _ _ _ _ _ (by omega)]
    unfold stateF octS
    simp
  · intro i x hi hx
    exact stateF_length w x i hi hx
theorem stir_eq (s : List UInt8) (hs : s.length = 64) : stir1 s = stirS s := by
  unfold stir1 stirS
  rw [words_eq s hs, stirW_eq, state_eq]
end Go.Proofs.Try
