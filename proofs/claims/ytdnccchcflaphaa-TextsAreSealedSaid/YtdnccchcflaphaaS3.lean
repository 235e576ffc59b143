import Derived.Test.YtdnccchcflaphaaS1
namespace Go.Proofs.Try
set_option linter.unusedVariables false
set_option linter.unusedSimpArgs false
/-- A loop that changes the i-th element in its i-th round. -/
theorem loop_map {N : Nat} (g : UInt8 → Nat → UInt8) (x : List UInt8) (hx : x.length = N) :
    loopS N (fun l i => l.set i (g l[i]! i)) 0 x = (List.range N).map fun i => g x[i]! i := by
  have key : ∀ m j (y : List UInt8), j + m = N → y.length = N → (∀ i, j ≤ i → i < N → y[i]! = x[i]!) → (∀ i, i < j → y[i]! = g x[i]! i) →
      loopS N (fun l i => l.set i (g l[i]! i)) j y = (List.range N).map fun i => g x[i]! i := by
    intro m
    induction m with
    | zero =>
      intro j y hj hy h1 h2
      have : j = N := by omega
      subst this
      rw [loopS_end]
      apply List.ext_getElem
      · simp [hy]
      · intro i h3 h4
        have := h2 i (by omega)
        rw [getElem!_pos y i h3] at this
        simp [this]
    | succ m ih =>
      intro j y hj hy h1 h2
      rw [loopS_next (by omega)]
      refine ih (j + 1) _ (by omega) (by simp [hy]) ?_ ?_
      · intro i hi1 hi2
        rw [← h1 i (by omega) hi2]
        simp [List.getElem!_eq_getElem?_getD, List.getElem?_set, show ¬ j = i by omega]
      · intro i hi
        by_cases hij : i = j
        · subst hij
          rw [← h1 i (Nat.le_refl _) (by omega)]
          simp [List.getElem!_eq_getElem?_getD, List.getElem?_set, show i < y.length by omega]
        · rw [← h2 i (by omega)]
          simp [List.getElem!_eq_getElem?_getD, List.getElem?_set, show ¬ j = i by omega]
  exact key N 0 x (by omega) hx (fun _ _ _ => rfl) (fun i hi => by omega)
theorem cover_map (s text : List UInt8) (h : s.length = text.length) : loopS text.length (coverF text) 0 s = (List.range text.length).map fun i => s[i]! ^^^ text[i]! :=
  loop_map (fun c i => c ^^^ text[i]!) s h
theorem covers_back (k n text : List UInt8) : (coverS k n (coverS k n text) == text) = true := by
  have e1 : coverS k n text = (List.range text.length).map fun i => (streamS k n 0 text.length)[i]! ^^^ text[i]! := cover_map _ _ (by simp)
  have e2 : coverS k n (coverS k n text) = (List.range (coverS k n text).length).map fun i => (streamS k n 0 (coverS k n text).length)[i]! ^^^ (coverS k n text)[i]! := cover_map _ _ (by simp)
  rw [e2, coverS_length]
  rw [beq_iff_eq]
  apply List.ext_getElem
  · simp
  · intro i h1 h2
    simp only [List.getElem_map, List.getElem_range]
    have h3 : i < (coverS k n text).length := by simpa using h2
    have : (coverS k n text)[i]! = (streamS k n 0 text.length)[i]! ^^^ text[i] := by
      rw [e1]
      rw [getElem!_pos _ i (by simpa using h2)]
      simp [List.getElem?_eq_getElem h2]
    rw [this, ← UInt8.xor_assoc, UInt8.xor_self, UInt8.zero_xor]

/-! one loop over 64 against two loops -/
theorem loopS_split {α : Type} {f : α → Nat → α} : ∀ m N j (x : α), j + m ≤ N → loopS N f j x = loopS N f (j + m) ((List.range' j m).foldl f x) := by
  intro m
  induction m with
  | zero => intro N j x h; rfl
  | succ m ih =>
    intro N j x h
    rw [loopS_next (by omega), ih N (j + 1) _ (by omega), List.range'_succ, List.foldl_cons]
    congr 1; omega
/-- A loop of 4 * N rounds is a loop of N rounds of four each. -/
theorem loop4 {α : Type} {f g : α → Nat → α} {N : Nat} {Q : α → Nat → Prop} (hfg : ∀ i x, i < N → Q x i → f (f (f (f x (4 * i)) (4 * i + 1)) (4 * i + 2)) (4 * i + 3) = g x i)
    (hQ : ∀ i x, i < N → Q x i → Q (g x i) (i + 1)) : ∀ m j (x : α), j + m = N → Q x j → loopS (4 * N) f (4 * j) x = loopS N g j x := by
  intro m
  induction m with
  | zero => intro j x h hq; have : j = N := by omega
            subst this; rw [loopS_end, loopS_end]
  | succ m ih =>
    intro j x h hq
    rw [loopS_next (x := x) (j := j) (f := g) (by omega), ← ih (j + 1) _ (by omega) (hQ j x (by omega) hq), ← hfg j x (by omega) hq]
    rw [loopS_next (by omega), loopS_next (by omega), loopS_next (by omega), loopS_next (by omega)]
    rw [show 4 * j + 1 + 1 = 4 * j + 2 by omega, show 4 * j + 2 + 1 = 4 * j + 3 by omega]
    congr 1
end Go.Proofs.Try
