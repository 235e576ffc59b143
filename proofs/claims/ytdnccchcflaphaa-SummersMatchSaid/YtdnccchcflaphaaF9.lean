import Derived.Test.YtdnccchcflaphaaF8
import Derived.Laws.Sem
import Derived.Laws.CopyRow
import Derived.ChangeKeysEq
import Derived.Laws.Slices
namespace Go.Kw
set_option linter.unusedVariables false
variable {P : Program}

abbrev AVal.u8 (x : UInt8) : AVal := .int .u8 (x.toNat : Int)
abbrev AVal.u16 (x : UInt16) : AVal := .int .u16 (x.toNat : Int)
abbrev AVal.u32 (x : UInt32) : AVal := .int .u32 (x.toNat : Int)
abbrev AVal.u64 (x : UInt64) : AVal := .int .u64 (x.toNat : Int)
abbrev AVal.i (x : Int) : AVal := .int .i64 x
def w64 (x : Int) : Int := IntKind.i64.wrap x

theorem VRels.one {ρ Im w a vs} : VRels P ρ Im w [a] vs ↔ ∃ v, vs = [v] ∧ VRel P ρ Im w a v := by
  simp only [VRels]
  constructor
  · rintro ⟨v, vs', rfl, h, rfl⟩; exact ⟨v, rfl, h⟩
  · rintro ⟨v, rfl, h⟩; exact ⟨v, [], rfl, h, rfl⟩
theorem VRels.two {ρ Im w a b vs} : VRels P ρ Im w [a, b] vs ↔ ∃ v u, vs = [v, u] ∧ VRel P ρ Im w a v ∧ VRel P ρ Im w b u := by
  simp only [VRels]
  constructor
  · rintro ⟨v, vs', rfl, h, u, vs'', rfl, h', rfl⟩; exact ⟨v, u, rfl, h, h'⟩
  · rintro ⟨v, u, rfl, h, h'⟩; exact ⟨v, [u], rfl, h, u, [], rfl, h', rfl⟩
theorem VRels.three {ρ Im w a b c vs} : VRels P ρ Im w [a, b, c] vs ↔ ∃ v u t, vs = [v, u, t] ∧ VRel P ρ Im w a v ∧ VRel P ρ Im w b u ∧ VRel P ρ Im w c t := by
  simp only [VRels]
  constructor
  · rintro ⟨v, vs', rfl, h, u, vs'', rfl, h', t, vs3, rfl, h'', rfl⟩; exact ⟨v, u, t, rfl, h, h', h''⟩
  · rintro ⟨v, u, t, rfl, h, h', h''⟩; exact ⟨v, [u, t], rfl, h, u, [t], rfl, h', t, [], rfl, h'', rfl⟩

section
variable {o : Oper} {x y z : Operand} {t t' : TypeId} {a b c : Int} {k : IntKind} {v u : AVal} {p q : Bool}

theorem op1 (hx : o.op.operands.toList = [x]) {v' : AVal}
    (h : ∀ ρ Im w (a : Act), VRel P ρ Im w v (a.eval x) → ∃ r, (execOp a.eval o).run P w = .ok (.value r) w ∧ VRel P ρ Im w v' r) : OpV P o [v] [] [] v' [] := by
  refine OpV.pure fun ρ Im w a hv => ?_
  rw [Array.toList_map, hx] at hv
  obtain ⟨r, hr, hv⟩ := VRels.one.1 hv
  simp only [List.map_cons, List.map_nil, List.cons.injEq, and_true] at hr
  subst hr
  exact h ρ Im w a hv
theorem op2 (hx : o.op.operands.toList = [x, y]) {v' : AVal}
    (h : ∀ ρ Im w (a : Act), VRel P ρ Im w v (a.eval x) → VRel P ρ Im w u (a.eval y) → ∃ r, (execOp a.eval o).run P w = .ok (.value r) w ∧ VRel P ρ Im w v' r) : OpV P o [v, u] [] [] v' [] := by
  refine OpV.pure fun ρ Im w a hv => ?_
  rw [Array.toList_map, hx] at hv
  obtain ⟨r, s, hr, hv, hu⟩ := VRels.two.1 hv
  simp only [List.map_cons, List.map_nil, List.cons.injEq, and_true] at hr
  obtain ⟨rfl, rfl⟩ := hr
  exact h ρ Im w a hv hu

theorem op_move (ho : o.op = .move x) : OpV P o [v] [] [] v [] :=
  op1 (x := x) (by rw [ho]; rfl) fun ρ Im w a hv => ⟨_, by simp [execOp, ho], hv⟩
theorem op_assign (ho : o.op = .assign x) : OpV P o [v] [] [] v [] :=
  op1 (x := x) (by rw [ho]; rfl) fun ρ Im w a hv => ⟨_, by simp [execOp, ho], hv⟩

theorem eqGuard_int {op : BinOp} {w : World} {k k' : IntKind} {a b : Int} : (eqGuard op t x y (.int k a) (.int k' b)).run P w = .ok () w := by
  unfold eqGuard; cases op <;> simp
theorem eqGuard_bool {op : BinOp} {w : World} {a b : Bool} : (eqGuard op t x y (.bool a) (.bool b)).run P w = .ok () w := by
  unfold eqGuard; cases op <;> simp
theorem eqGuard_str {op : BinOp} {w : World} {a b : ByteArray} : (eqGuard op t x y (.string a) (.string b)).run P w = .ok () w := by
  unfold eqGuard; cases op <;> simp

theorem op_int {bo : BinOp} {r : AVal} (ho : o.op = .binOp bo t x y t')
    (h : ∀ w, ∃ r', (binOp bo t (.int k a) (.int k b)).run P w = .ok r' w ∧ ∀ ρ Im, VRel P ρ Im w r r') : OpV P o [.int k a, .int k b] [] [] r [] := by
  refine op2 (x := x) (y := y) (by rw [ho]; rfl) fun ρ Im w ac hv hu => ?_
  simp only [VRel] at hv hu
  obtain ⟨r', h1, h2⟩ := h w
  exact ⟨r', by simp [execOp, ho, hv, hu, eqGuard_int, h1], h2 ρ Im⟩

theorem op_add (ho : o.op = .binOp .add t x y t') : OpV P o [.int k a, .int k b] [] [] (.int k (k.wrap (a + b))) [] :=
  op_int ho fun w => ⟨_, by simp [binOp, Op.intArith]; rfl, fun _ _ => by simp [VRel]⟩
theorem op_sub (ho : o.op = .binOp .sub t x y t') : OpV P o [.int k a, .int k b] [] [] (.int k (k.wrap (a - b))) [] :=
  op_int ho fun w => ⟨_, by simp [binOp, Op.intArith]; rfl, fun _ _ => by simp [VRel]⟩
theorem op_mul (ho : o.op = .binOp .mul t x y t') : OpV P o [.int k a, .int k b] [] [] (.int k (k.wrap (a * b))) [] :=
  op_int ho fun w => ⟨_, by simp [binOp, Op.intArith]; rfl, fun _ _ => by simp [VRel]⟩
theorem op_quo (ho : o.op = .binOp .quo t x y t') (hb : b ≠ 0) : OpV P o [.int k a, .int k b] [] [] (.int k (k.wrap (a.tdiv b))) [] :=
  op_int ho fun w => ⟨_, by simp [binOp, Op.intDiv, hb]; rfl, fun _ _ => by simp [VRel]⟩
theorem op_rem (ho : o.op = .binOp .rem t x y t') (hb : b ≠ 0) : OpV P o [.int k a, .int k b] [] [] (.int k (a.tmod b)) [] :=
  op_int ho fun w => ⟨_, by simp [binOp, Op.intDiv, hb]; rfl, fun _ _ => by simp [VRel]⟩
theorem op_eql (ho : o.op = .binOp .eql t x y t') : OpV P o [.int k a, .int k b] [] [] (.bool (a == b)) [] :=
  op_int ho fun w => ⟨_, by simp [binOp, Op.intCmp]; rfl, fun _ _ => by simp [VRel]⟩
theorem op_neq (ho : o.op = .binOp .neq t x y t') : OpV P o [.int k a, .int k b] [] [] (.bool (a != b)) [] :=
  op_int ho fun w => ⟨_, by simp [binOp, Op.intCmp]; rfl, fun _ _ => by simp [VRel]⟩
theorem op_lss (ho : o.op = .binOp .lss t x y t') : OpV P o [.int k a, .int k b] [] [] (.bool (decide (a < b))) [] :=
  op_int ho fun w => ⟨_, by simp [binOp, Op.intCmp]; rfl, fun _ _ => by simp [VRel]⟩
theorem op_leq (ho : o.op = .binOp .leq t x y t') : OpV P o [.int k a, .int k b] [] [] (.bool (decide (a ≤ b))) [] :=
  op_int ho fun w => ⟨_, by simp [binOp, Op.intCmp]; rfl, fun _ _ => by simp [VRel]⟩
theorem op_gtr (ho : o.op = .binOp .gtr t x y t') : OpV P o [.int k a, .int k b] [] [] (.bool (decide (a > b))) [] :=
  op_int ho fun w => ⟨_, by simp [binOp, Op.intCmp]; rfl, fun _ _ => by simp [VRel]⟩
theorem op_geq (ho : o.op = .binOp .geq t x y t') : OpV P o [.int k a, .int k b] [] [] (.bool (decide (a ≥ b))) [] :=
  op_int ho fun w => ⟨_, by simp [binOp, Op.intCmp]; rfl, fun _ _ => by simp [VRel]⟩

theorem op_not (ho : o.op = .unOp .not t x) : OpV P o [.bool p] [] [] (.bool !p) [] :=
  op1 (x := x) (by rw [ho]; rfl) fun ρ Im w ac hv => by
    simp only [VRel] at hv
    exact ⟨_, by simp [execOp, ho, hv, Op.unary]; rfl, by simp [VRel]⟩
theorem op_neg (ho : o.op = .unOp .neg t x) : OpV P o [.int k a] [] [] (.int k (k.wrap (0 - a))) [] :=
  op1 (x := x) (by rw [ho]; rfl) fun ρ Im w ac hv => by
    simp only [VRel] at hv
    exact ⟨_, by simp [execOp, ho, hv, Op.unary, Op.intArith]; rfl, by simp [VRel]⟩

theorem op_pick (ho : o.op = .pick x y z) : OpV P o [.bool p, v, u] [] [] (bif p then v else u) [] := by
  refine OpV.pure fun ρ Im w ac hv => ?_
  rw [Array.toList_map, ho] at hv
  obtain ⟨r, s, q, hr, hv, hu, hq⟩ := VRels.three.1 hv
  simp only [Op.operands, List.map_cons, List.map_nil, List.cons.injEq, and_true] at hr
  obtain ⟨rfl, rfl, rfl⟩ := hr
  simp only [VRel] at hv
  cases p with
  | true => exact ⟨_, by simp [execOp, ho, hv, asBool], hu⟩
  | false => exact ⟨_, by simp [execOp, ho, hv, asBool], hq⟩

theorem VRels.get {ρ Im w} : ∀ {as : List AVal} {vs : List Value} {i : Nat} {a : AVal}, VRels P ρ Im w as vs → as[i]? = some a → ∃ v, vs[i]? = some v ∧ VRel P ρ Im w a v
  | [], vs, i, a, h, hi => by simp at hi
  | x :: as, vs, i, a, h, hi => by
    simp only [VRels] at h
    obtain ⟨v, vs', rfl, h1, h2⟩ := h
    cases i with
    | zero => simp only [List.getElem?_cons_zero, Option.some.injEq] at hi ⊢; subst hi; exact ⟨v, rfl, h1⟩
    | succ i => simp only [List.getElem?_cons_succ] at hi ⊢; exact VRels.get h2 hi

theorem op_extract {vs : List AVal} {i : Nat} (ho : o.op = .extract x i) (hi : vs[i]? = some v) : OpV P o [.tup vs] [] [] v [] :=
  op1 (x := x) (by rw [ho]; rfl) fun ρ Im w ac hv => by
    simp only [VRel] at hv
    obtain ⟨cs, h1, h2⟩ := hv
    obtain ⟨r, h3, h4⟩ := h2.get hi
    exact ⟨r, by simp [execOp, ho, h1, Instr.extract, show cs[i]? = some r by simpa using h3], h4⟩

theorem op_conv {d : IntKind} {src dst : TypeId} (ho : o.op = .convert src dst x) (hs : (P.underlying src).isSome = true) (hd : P.underlying dst = some (.int d)) :
    OpV P o [.int k a] [] [] (.int d (d.wrap a)) [] :=
  op1 (x := x) (by rw [ho]; rfl) fun ρ Im w ac hv => by
    simp only [VRel] at hv
    obtain ⟨s, hs⟩ := Option.isSome_iff_exists.1 hs
    exact ⟨_, by simp [execOp, ho, hv, convert, run_underlying hs, run_underlying hd, Conv.intToInt]; rfl, by simp [VRel]⟩
end
end Go.Kw
