import Derived.Test.YtdnccchcflaphaaF22
namespace Go.Kw
set_option linter.unusedVariables false
set_option linter.unusedSimpArgs false
variable {P : Program}

theorem fillV_run : ∀ (vs : List AVal) (k : Nat) (cells : List AVal), k + vs.length ≤ cells.length → vs.all AVal.scalar = true →
    fillV (fun i => some (i * 1, 1)) cells (List.range' k vs.length) vs = some (cells.take k ++ vs ++ cells.drop (k + vs.length))
  | [], k, cells, h, hs => by simp [fillV]
  | v :: vs, k, cells, h, hs => by
    simp only [List.all_cons, Bool.and_eq_true] at hs
    simp only [List.length_cons] at h
    have hc : v.cellsA = [v] := by cases v <;> first | rfl | (simp [AVal.scalar] at hs)
    have ih := fillV_run vs (k + 1) (cells.take k ++ [v] ++ cells.drop (k + 1)) (by simp; omega) hs.2
    simp only [List.length_cons, List.range'_succ, fillV, hc]
    rw [if_pos ⟨rfl, by omega⟩, Nat.mul_one k, ih]
    have hk : (cells.take k).length = k := by simp; omega
    have e1 : (cells.take k ++ [v] ++ cells.drop (k + 1)).take (k + 1) = cells.take k ++ [v] := by
      rw [List.take_append_of_le_length (by simp; omega), List.take_of_length_le (by simp; omega)]
    have e2 : (cells.take k ++ [v] ++ cells.drop (k + 1)).drop (k + 1 + vs.length) = cells.drop (k + (vs.length + 1)) := by
      rw [List.drop_append, List.drop_eq_nil_of_le (by simp; omega), List.nil_append, List.drop_drop]
      congr 1; simp; omega
    rw [e1, e2]
    simp

section
variable {o : Oper} {t e : TypeId} {n b len by' : Nat} {z vs : List AVal} {zv : AVal}
theorem scal_tup {vs : List AVal} (h : vs.all AVal.scalar = true) : ∀ v ∈ vs, ∀ l, v ≠ .tup l := by
  intro v hv l hl
  subst hl
  have := List.all_eq_true.1 h _ hv
  cases this
theorem op_buildArr {parts : Array (Nat × Operand)} (ho : o.op = .build t parts) (ht : arrT P t = some (n, e, 1)) (hz : zeroT P t = some z) (hzl : z.length = n) (hi : parts.toList.map (·.1) = List.range' 0 vs.length) (hl : vs.length = n)
    (hs : vs.all AVal.scalar = true) : OpV P o vs [] [] (.agg vs) [] := by
  have hp : placesT P t = some (fun i => some (i * 1, 1)) := by
    unfold arrT at ht
    unfold placesT
    cases hu : P.underlying t with
    | none => rw [hu] at ht; cases ht
    | some d =>
      cases d <;> rw [hu] at ht <;> simp only [reduceCtorEq] at ht
      case array n' e' =>
        cases hie : P.info? e' with
        | none => rw [hie] at ht; cases ht
        | some ie =>
          rw [hie] at ht
          simp only [Option.map_some, Option.some.injEq, Prod.mk.injEq] at ht
          simp only [hie, Option.map_some, ht.2.2]
  have hf := fillV_run vs 0 z (by omega) hs
  rw [← hi] at hf
  simp only [List.take_zero, List.nil_append, Nat.zero_add] at hf
  rw [List.drop_eq_nil_of_le (by omega), List.append_nil] at hf
  exact op_build ho hp hz hf (scal_tup hs)
theorem op_buildSlM {parts : Array (Nat × Operand)} (ho : o.op = .buildSlice t len parts) (ht : slT P t = some (e, 1, by')) (hz : zeroT P e = some [zv]) (hi : parts.toList.map (·.1) = List.range' 0 vs.length) (hl : vs.length = len)
    (hs : vs.all AVal.scalar = true) (hfit : len ≤ 16777216) : OpV P o vs [] [b] (.os b 0 len 1 true) [(b, .vec e vs)] := by
  have hf := fillV_run vs 0 (List.replicate len [zv]).flatten (by simp [hl]) hs
  rw [← hi] at hf
  simp only [List.take_zero, List.nil_append, Nat.zero_add] at hf
  rw [List.drop_eq_nil_of_le (by simp [hl]), List.append_nil] at hf
  exact op_buildSlice ho ht hz rfl (by omega) hf (scal_tup hs) (by omega) (by omega)
end
end Go.Kw
