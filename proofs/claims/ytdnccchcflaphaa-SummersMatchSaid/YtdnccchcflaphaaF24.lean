import Derived.Test.YtdnccchcflaphaaF23
namespace Go.Kw
set_option linter.unusedVariables false
set_option linter.unusedSimpArgs false
variable {P : Program}
section
variable {α : Type} {f : α → AVal} {o : Oper} {x y z : Operand} {t e T : TypeId} {b k off lo len n : Nat} {l : List α} {full : Bool} {i j : Int} {q : IntKind} {by' : Nat} {cells : List AVal}
theorem op_loadP (ho : o.op = .load t x) (ht : aggT P t = some k) (hk : off + k ≤ l.length) :
    OpV P o [.ptr b off] [(b, .vec T (l.map f))] [] (.agg (((l.drop off).take k).map f)) [(b, .vec T (l.map f))] := by
  have := op_loadA (P := P) (b := b) (T := T) (off := off) (cells := l.map f) ho ht (by simpa using hk)
  simpa [List.map_take, List.map_drop] using this
theorem op_loadVP (ho : o.op = .load t x) (ht : aggT P t = some k) (hk : off + k ≤ l.length) : OpV P o [.vptr (l.map f) off] [] [] (.agg (((l.drop off).take k).map f)) [] := by
  have := op_loadVA (P := P) (off := off) (cells := l.map f) ho ht (by simpa using hk)
  simpa [List.map_take, List.map_drop] using this
theorem op_toArrM {arr : TypeId} [Inhabited α] (ho : o.op = .sliceToArrayPointer arr x) (ht : arrT P arr = some (n, e, 1)) (h1 : n ≤ l.length) (hc : 0 < n) : OpV P o [VS f full l] [] [] (.vptr (l.map f) 0) [] :=
  op_toArrV ho ht h1 (by intro h; simp at h; subst h; simp at h1; omega)
/-- part[:hi] of a slice in a block -/
theorem op_sO01 (hi : Nat) {z : Operand} (ho : o.op = .slice t x none (some z) none) (ht : slT P t = some (e, 1, by')) (h2 : j = hi) (hhi : hi ≤ len) (hp : 0 < hi ∨ 0 < len) :
    OpV P o [.os b lo len 1 full, .int q j] [] [] (.os b lo hi 1 false) [] := by
  subst h2
  refine op2 (x := x) (y := z) (by rw [ho]; simp [Op.operands]) fun ρ Im w a hv hu => ?_
  obtain ⟨hu1, hu2, _⟩ := slT_und ht
  simp only [VRel] at hv hu
  rcases hv with ⟨_, h0, _⟩ | ⟨c, cap, T', n', g1, g2, g3, g4, g5, g6⟩
  · omega
  have hr := run_bounds (P := P) (q := q) (w := w) (isS := true) (len := len) (cap := cap) (lo := none) (hi := some (hi : Int)) (mx := none) trivial (by simp [inB, bnd]; omega) (by simp [inB, bnd]) (by simp)
  refine ⟨.slice (some ⟨c, lo, none⟩) hi cap, ?_, ?_⟩
  · simp only [Option.map_none, Option.map_some] at hr
    simp [execOp, ho, g2, hu, Instr.sliceAt, Instr.slice, run_underlying hu1, hr, hu2, bnd, addr_add]
  · simp only [VRel]
    exact .inr ⟨c, cap, T', n', g1, rfl, by omega, by simp, g5, g6⟩
/-- int >> count, of a natural number -/
theorem op_shrN {m : Nat} (n : Nat) (ho : o.op = .binOp .shr t x y e) {q' : IntKind} (h : j = n ∧ n < 64) : OpV P o [.i (m : Nat), .int q' j] [] [] (.i ((m / 2 ^ n : Nat) : Int)) [] := by
  have := op_shrI (P := P) (a := (m : Nat)) (b := j) (k' := q') n ho h
  have e1 : ((m : Nat) : Int) / 2 ^ n = ((m / 2 ^ n : Nat) : Int) := by rw [Int.natCast_ediv, Int.natCast_pow]; rfl
  rwa [e1] at this
end
theorem ResOf.cellW {env : Env} {h : AHeap} {a : Nat} {t : TypeId} {b k : Nat} {T : TypeId} {cells : List AVal} (i : Nat) (he : env.get a = some (.ptr b 0)) (hi : h[i]? = some (b, .vec T cells)) (ht : aggT P t = some k)
    (hk : cells.length = k) : ResOf P env h (.cell a t) (.agg cells) := by
  have := ResOf.cell (P := P) i he hi ht (by omega)
  simpa [List.take_of_length_le (Nat.le_of_eq hk)] using this
end Go.Kw
