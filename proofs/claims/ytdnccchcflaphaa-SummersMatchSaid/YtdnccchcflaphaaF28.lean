import Derived.Test.YtdnccchcflaphaaF27
import Derived.ChangeSame
namespace Go.Kw
set_option linter.unusedVariables false
variable {P : Program}

theorem St.start (w : World) : St P (fun _ => none) (fun c => c < w.heap.size) [] w where
  obj := by intro b o h; cases h
  nd := by simp
  inj := by intro b b' o o' c h; cases h
  im := fun c h => h

/-- What a contract without memory says of a call in any world. -/
theorem ACalls.row {f : FuncId} {args : List AVal} {v : AVal} (hc : ACalls P f args [] [] v []) (w : World) (args' : Array Value)
    (hv : VRels P (fun _ => none) (fun c => c < w.heap.size) w args args'.toList) :
    Calls P f args' w fun e w' => (∃ v' ρ Im, e = .returned v' ∧ VRel P ρ Im w' v v') ∧ w'.os = w.os ∧ w'.output = w.output ∧ w.heap.size ≤ w'.heap.size ∧ ∀ c, c < w.heap.size → w'.heap[c]? = w.heap[c]? := by
  have fr : Fresh (fun _ => none) [] (fun i => i) := { named := by simp, free := fun _ => rfl, inj := fun _ _ h => h, apart := by simp, nd := by simp }
  refine (hc _ _ w args' _ (St.start w) fr hv).mono fun e w' he => ?_
  obtain ⟨v', ρ', Im', h1, h2, h3⟩ := he
  exact ⟨⟨v', ρ', Im', h1, h2⟩, h3.os, h3.out, h3.size, fun c hlt => h3.keep c hlt fun b o hb => by cases hb⟩

theorem kept_of {w w' : World} (h1 : w'.os = w.os) (h2 : w'.output = w.output) (h3 : ∀ c, c < w.heap.size → w'.heap[c]? = w.heap[c]?) (may : MemPlace → Prop) : w.keptBut w' may := by
  refine ⟨h1, h2, fun i hi => ?_⟩
  rw [h3 i hi]
  have hs : w.heap[i]? = some w.heap[i] := Array.getElem?_eq_getElem hi
  rw [hs]
  cases w.heap[i] <;> simp
end Go.Kw
