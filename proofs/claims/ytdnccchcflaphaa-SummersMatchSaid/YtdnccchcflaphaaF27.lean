import Derived.Test.YtdnccchcflaphaaF26
namespace Go.Kw
set_option linter.unusedVariables false
set_option linter.unusedSimpArgs false
variable {P : Program}
section
variable {α : Type} {g : α → AVal} {f : FuncId} {args : List AVal} {h : AHeap} {T : TypeId} {l : List α} {len : Nat} {full : Bool} {v2 : AVal}
theorem frz_os {b : Nat} (hl : l.length = len) : Frz b (l.map g) (.os b 0 len 1 full) (VS g full l) := by
  have := Frz.os (b := b) (cells := l.map g) 0 len 1 full (by simp; omega)
  simpa [VS, hl, List.take_of_length_le (show (l.map g).length ≤ len by simp; omega)] using this
theorem cool1 (hc : ∀ b, ACalls P f args h [b] (.os b 0 len 1 full) (h ++ [(b, .vec T (l.map g))])) (hl : l.length = len) : ACalls P f args h [] (VS g full l) h :=
  ACalls.cool hc fun b => frz_os hl
theorem cool2 (hc : ∀ b, ACalls P f args h [b] (.tup [.os b 0 len 1 full, v2]) (h ++ [(b, .vec T (l.map g))])) (hl : l.length = len) : ACalls P f args h [] (.tup [VS g full l, v2]) h :=
  ACalls.cool hc fun b => .tup (.cons (frz_os hl) (.cons (.refl _) .nil))
theorem lend1 {b : Nat} {v : AVal} (hc : ACalls P f [VS g full l] [] [] v []) (hl : l.length = len) (hv : noRef v = true) : ACalls P f [.os b 0 len 1 full] [(b, .vec T (l.map g))] [] v [(b, .vec T (l.map g))] :=
  ACalls.lend hc (.cons (frz_os hl) .nil) hv rfl
end
end Go.Kw
