import Derived.Test.YtdnccchcflaphaaF25
namespace Go.Kw
set_option linter.unusedVariables false
set_option linter.unusedSimpArgs false
variable {P : Program}
section
variable {α : Type} {f : α → AVal} {o : Oper} {x y : Operand} {T : TypeId} {b len : Nat} {l l2 : List α} {full f' : Bool} {ts : Array TypeId}
theorem op_appL {b' bytes : Nat} (hs : ∀ a, (f a).scalar = true) (ho : o.op = .call { callee := .builtin .append, args := #[x, y], argTypes := ts }) (ht : appT P ts = some (T, 1, bytes)) (hl : l.length = len)
    (hfit : (len + l2.length) * bytes ≤ 140737488355328) :
    OpV P o [.os b 0 len 1 full, VS f f' l2] [(b, .vec T (l.map f))] [b'] (.os b' 0 (len + l2.length) 1 false) [(b', .vec T ((l ++ l2).map f))] := by
  subst hl
  have := op_appM (P := P) (b := b) (b' := b') (full := full) (f' := f') (l := l) (l2 := l2) hs ho ht hfit
  simpa [OS] using this
theorem op_appLO {b' bytes c lo n : Nat} {Tc : TypeId} (hs : ∀ a, (f a).scalar = true) (ho : o.op = .call { callee := .builtin .append, args := #[x, y], argTypes := ts }) (ht : appT P ts = some (T, 1, bytes)) (hl : l.length = len)
    (hn : lo + n ≤ l2.length) (hfit : (len + n) * bytes ≤ 140737488355328) :
    OpV P o [.os b 0 len 1 full, .os c lo n 1 f'] [(b, .vec T (l.map f)), (c, .vec Tc (l2.map f))] [b'] (.os b' 0 (len + n) 1 false)
      [(b', .vec T ((l ++ (l2.drop lo).take n).map f)), (c, .vec Tc (l2.map f))] := by
  subst hl
  have := op_appMO (P := P) (b := b) (b' := b') (c := c) (Tc := Tc) (full := full) (f' := f') (l := l) (l2 := l2) (lo := lo) (n := n) hs ho ht hn hfit
  have e1 : ((l2.drop lo).take n).length = n := by simp; omega
  simpa [OS, e1, Nat.min_eq_left (show n ≤ l2.length - lo by omega)] using this
end
end Go.Kw
