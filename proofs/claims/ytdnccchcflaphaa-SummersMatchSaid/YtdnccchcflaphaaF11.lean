import Derived.Test.YtdnccchcflaphaaF10
namespace Go.Kw
set_option linter.unusedVariables false
set_option linter.unusedSimpArgs false
variable {P : Program}

section
variable {o : Oper} {x y z : Operand} {t t' T : TypeId} {v u : AVal} {b off k len sz n : Nat} {full : Bool} {cells vs : List AVal} {i : Int} {q : IntKind}

theorem opA0 {b : Nat} {X : Nat × AObj} (hx : o.op.operands.toList = [])
    (h : ∀ ρ Im w (a : Act) sup, St P ρ Im [] w → Fresh ρ [b] sup → ∃ r w' ρ' Im', (execOp a.eval o).run P w = .ok (.value r) w' ∧ VRel P ρ' Im' w' v r ∧
      Ev P ρ Im [] w (okOf [b] sup) ρ' Im' [X] w') : OpV P o [] [] [b] v [X] := by
  refine OpV.value fun ρ Im w a sup s fr hv => ?_
  exact h ρ Im w a sup s fr
theorem opA1 {b : Nat} {X : Nat × AObj} (hx : o.op.operands.toList = [x])
    (h : ∀ ρ Im w (a : Act) sup, St P ρ Im [] w → Fresh ρ [b] sup → VRel P ρ Im w u (a.eval x) → ∃ r w' ρ' Im', (execOp a.eval o).run P w = .ok (.value r) w' ∧ VRel P ρ' Im' w' v r ∧
      Ev P ρ Im [] w (okOf [b] sup) ρ' Im' [X] w') : OpV P o [u] [] [b] v [X] := by
  refine OpV.value fun ρ Im w a sup s fr hv => ?_
  rw [Array.toList_map, hx] at hv
  obtain ⟨r, hr, hv⟩ := VRels.one.1 hv
  simp only [List.map_cons, List.map_nil, List.cons.injEq, and_true] at hr
  subst hr
  exact h ρ Im w a sup s fr hv

theorem ptr_new {ρ : Nat → Option Nat} {Im : Nat → Prop} {w w' : World} : VRel P (fun x => if x = b then some (w.heap.size + 1) else ρ x) Im w' (.ptr b 0) (.pointer (some ⟨w.heap.size, 0, none⟩)) := by
  simp only [VRel]
  exact ⟨w.heap.size, by simp, rfl⟩

theorem op_alloc (ho : o.op = .alloc t) (hz : zeroT P t = some cells) : OpV P o [] [] [b] (.ptr b 0) [(b, .vec t cells)] :=
  opA0 (by rw [ho]; rfl) fun ρ Im w a sup s fr => by
    unfold zeroT at hz
    cases hi : P.info? t with
    | none => rw [hi] at hz; cases hz
    | some i =>
      rw [hi] at hz
      simp only [Option.bind_some] at hz
      cases hzz : i.zero with
      | none => rw [hzz] at hz; cases hz
      | some zv =>
        rw [hzz] at hz
        simp only [Option.bind_some] at hz
        refine ⟨.pointer (some ⟨w.heap.size, 0, none⟩), { w with heap := w.heap.push (.cells zv.cells t (0, 0)) }, _, Im, ?_, ptr_new,
          Ev.pushRow s fr (0, 0) (fun i _ => by simp) (vals := zv.cells.toList) (fun i hi => by simp) (absCs_rel hz)⟩
        simp [execOp, ho, Instr.alloc, zeroValue, typeInfo, hi, hzz, newVar, newRow]

theorem op_box (ho : o.op = .box t x) (hs : ∀ l, u ≠ .tup l) : OpV P o [u] [] [b] (.ptr b 0) [(b, .vec t u.cellsA)] :=
  opA1 (x := x) (by rw [ho]; rfl) fun ρ Im w a sup s fr hv => by
    refine ⟨.pointer (some ⟨w.heap.size, 0, none⟩), { w with heap := w.heap.push (.cells (a.eval x).cells t (0, 0)) }, _, Im, ?_, ptr_new,
      Ev.pushRow s fr (0, 0) (fun i _ => by simp) (vals := (a.eval x).cells.toList) (fun i hi => by simp) (hv.cells hs)⟩
    simp [execOp, ho, Instr.box, newVar, newRow]

theorem op_nilCheck (ho : o.op = .nilCheck x) : OpV P o [.ptr b off] [] [] (.ptr b off) [] :=
  op1 (x := x) (by rw [ho]; rfl) fun ρ Im w a hv => by
    have h := hv
    simp only [VRel] at h
    obtain ⟨c, h1, h2⟩ := h
    exact ⟨a.eval x, by simp [execOp, ho, h2], hv⟩
theorem op_nilCheckV (ho : o.op = .nilCheck x) : OpV P o [.vptr cells off] [] [] (.vptr cells off) [] :=
  op1 (x := x) (by rw [ho]; rfl) fun ρ Im w a hv => by
    have h := hv
    simp only [VRel] at h
    obtain ⟨c, base, vals, h2, _⟩ := h
    exact ⟨a.eval x, by simp [execOp, ho, h2], hv⟩

theorem run_fieldAt {w : World} {s f c d : Nat} (hf : fieldT P s f = some d) : (Instr.fieldAt s (.pointer (some ⟨c, off, none⟩)) f).run P w = .ok (.pointer (some ⟨c, off + d, none⟩)) w := by
  unfold fieldT at hf
  cases hu : P.underlying s with
  | none => rw [hu] at hf; cases hf
  | some ds =>
    cases ds <;> rw [hu] at hf <;> simp only [reduceCtorEq] at hf
    rename_i fs
    cases hfd : fs[f]? with
    | none => rw [hfd] at hf; cases hf
    | some fd =>
      rw [hfd] at hf
      simp only [Option.bind_some] at hf
      cases hi : P.info? fd.type with
      | none => rw [hi] at hf; cases hf
      | some i =>
        rw [hi] at hf
        simp only [Option.bind_some] at hf
        split at hf
        · cases hf
        · rename_i hne
          simp only [Option.some.injEq] at hf
          subst hf
          simp [Instr.fieldAt, run_underlying hu, hfd, Instr.sureAddr, fieldPlace, sizeOf, typeInfo, hi, hne, addr_add]

theorem op_field {s f d : Nat} (ho : o.op = .fieldAddr s x f) (hf : fieldT P s f = some d) : OpV P o [.ptr b off] [] [] (.ptr b (off + d)) [] :=
  op1 (x := x) (by rw [ho]; rfl) fun ρ Im w a hv => by
    simp only [VRel] at hv ⊢
    obtain ⟨c, h1, h2⟩ := hv
    exact ⟨.pointer (some ⟨c, off + d, none⟩), by simp [execOp, ho, h2, run_fieldAt hf], c, h1, rfl⟩
theorem op_fieldV {s f d : Nat} (ho : o.op = .fieldAddr s x f) (hf : fieldT P s f = some d) : OpV P o [.vptr cells off] [] [] (.vptr cells (off + d)) [] :=
  op1 (x := x) (by rw [ho]; rfl) fun ρ Im w a hv => by
    simp only [VRel] at hv ⊢
    obtain ⟨c, base, vals, h1, h2⟩ := hv
    exact ⟨.pointer (some ⟨c, base + off + d, none⟩), by simp [execOp, ho, h1, run_fieldAt hf], c, base, vals, by simp [Nat.add_assoc], h2⟩

theorem arrT_und {e : TypeId} (h : arrT P t = some (n, e, sz)) : P.underlying t = some (.array n e) ∧ ∀ w, (sizeOf e).run P w = .ok sz w := by
  unfold arrT at h
  cases hu : P.underlying t with
  | none => rw [hu] at h; cases h
  | some d =>
    cases d <;> rw [hu] at h <;> simp only [reduceCtorEq] at h
    rename_i n' e'
    cases hi : P.info? e' with
    | none => rw [hi] at h; cases h
    | some i =>
      rw [hi] at h
      simp only [Option.map_some, Option.some.injEq, Prod.mk.injEq] at h
      obtain ⟨rfl, rfl, rfl⟩ := h
      exact ⟨rfl, fun w => by simp [sizeOf, typeInfo, hi]⟩
theorem slT_und {e : TypeId} {by' : Nat} (h : slT P t = some (e, sz, by')) : P.underlying t = some (.slice e) ∧ (∀ w, (sizeOf e).run P w = .ok sz w) ∧ ∃ i, P.info? e = some i ∧ i.size = sz ∧ i.bytes = by' := by
  unfold slT at h
  cases hu : P.underlying t with
  | none => rw [hu] at h; cases h
  | some d =>
    cases d <;> rw [hu] at h <;> simp only [reduceCtorEq] at h
    rename_i e'
    cases hi : P.info? e' with
    | none => rw [hi] at h; cases h
    | some i =>
      rw [hi] at h
      simp only [Option.map_some, Option.some.injEq, Prod.mk.injEq] at h
      obtain ⟨rfl, rfl, rfl⟩ := h
      exact ⟨rfl, fun w => by simp [sizeOf, typeInfo, hi], i, hi, rfl, rfl⟩

theorem op_idxA {e : TypeId} (ho : o.op = .indexAddr t x y) (ht : arrT P t = some (n, e, sz)) (h0 : 0 ≤ i) (h1 : i < n) :
    OpV P o [.ptr b off, .int q i] [] [] (.ptr b (off + i.toNat * sz)) [] :=
  op2 (x := x) (y := y) (by rw [ho]; rfl) fun ρ Im w a hv hu => by
    obtain ⟨hu1, hu2⟩ := arrT_und ht
    simp only [VRel] at hv hu ⊢
    obtain ⟨c, g1, g2⟩ := hv
    refine ⟨.pointer (some ⟨c, off + i.toNat * sz, none⟩), ?_, c, g1, rfl⟩
    simp [execOp, ho, g2, hu, Instr.indexAt, asIntOf, run_underlying hu1, Instr.sureAddr, h0, h1, hu2, addr_add]
theorem op_idxVA {e : TypeId} (ho : o.op = .indexAddr t x y) (ht : arrT P t = some (n, e, sz)) (h0 : 0 ≤ i) (h1 : i < n) :
    OpV P o [.vptr cells off, .int q i] [] [] (.vptr cells (off + i.toNat * sz)) [] :=
  op2 (x := x) (y := y) (by rw [ho]; rfl) fun ρ Im w a hv hu => by
    obtain ⟨hu1, hu2⟩ := arrT_und ht
    simp only [VRel] at hv hu ⊢
    obtain ⟨c, base, vals, g1, g2⟩ := hv
    refine ⟨.pointer (some ⟨c, base + off + i.toNat * sz, none⟩), ?_, c, base, vals, by simp [Nat.add_assoc], g2⟩
    simp [execOp, ho, g1, hu, Instr.indexAt, asIntOf, run_underlying hu1, Instr.sureAddr, h0, h1, hu2, addr_add]
theorem op_idxO {e : TypeId} {by' : Nat} (ho : o.op = .indexAddr t x y) (ht : slT P t = some (e, sz, by')) (h0 : 0 ≤ i) (h1 : i < len) :
    OpV P o [.os b off len k full, .int q i] [] [] (.ptr b (off + i.toNat * sz)) [] :=
  op2 (x := x) (y := y) (by rw [ho]; rfl) fun ρ Im w a hv hu => by
    obtain ⟨hu1, hu2, _⟩ := slT_und ht
    simp only [VRel] at hv hu ⊢
    rcases hv with ⟨_, rfl, _⟩ | ⟨c, cap, T, m, g1, g2, g3⟩
    · omega
    refine ⟨.pointer (some ⟨c, off + i.toNat * sz, none⟩), ?_, c, g1, rfl⟩
    simp [execOp, ho, g2, hu, Instr.indexAt, asIntOf, run_underlying hu1, Instr.sureAddr, h0, h1, hu2, addr_add]
theorem op_idxV {e : TypeId} {by' : Nat} (ho : o.op = .indexAddr t x y) (ht : slT P t = some (e, sz, by')) (h0 : 0 ≤ i) (h1 : i < len) (hc : cells ≠ []) :
    OpV P o [.vs len full cells, .int q i] [] [] (.vptr cells (i.toNat * sz)) [] :=
  op2 (x := x) (y := y) (by rw [ho]; rfl) fun ρ Im w a hv hu => by
    obtain ⟨hu1, hu2, _⟩ := slT_und ht
    simp only [VRel] at hv hu ⊢
    obtain ⟨ad, cap, g1, g2, g3, g4⟩ := hv
    rcases g4 with g4 | ⟨c, base, vals, rfl, g5⟩
    · exact absurd g4 hc
    refine ⟨.pointer (some ⟨c, base + i.toNat * sz, none⟩), ?_, c, base, vals, rfl, g5⟩
    simp [execOp, ho, g1, hu, Instr.indexAt, asIntOf, run_underlying hu1, Instr.sureAddr, h0, h1, hu2, addr_add]

/-! ### Slicing -/

def optV (q : IntKind) : Option Int → List AVal
  | none => []
  | some i => [.int q i]
def bnd (x : Option Int) (d : Nat) : Nat := match x with | none => d | some i => i.toNat
def inB (x : Option Int) (d : Nat) : Prop := match x with | none => True | some i => 0 ≤ i ∧ i ≤ d

theorem run_sliceBound {w : World} {y : Nat} {c : BoundsCode} (h0 : 0 ≤ i) (h1 : i ≤ y) : (Instr.sliceBound (.int q i) y c).run P w = .ok i.toNat w := by
  simp [Instr.sliceBound, asIntOf, h0, h1]
theorem run_bounds {w : World} {isS : Bool} {len cap : Nat} {lo hi mx : Option Int} (hm : inB mx cap) (hh : inB hi (bnd mx cap)) (hl : inB lo (bnd hi len)) (hmh : mx.isSome = true → hi.isSome = true) :
    (Instr.sliceBounds isS len cap (lo.map (.int q)) (hi.map (.int q)) (mx.map (.int q))).run P w = .ok (bnd lo 0, bnd hi len, bnd mx cap) w := by
  cases mx with
  | none =>
    cases hi with
    | none =>
      cases lo with
      | none => simp [Instr.sliceBounds, bnd]
      | some l =>
        have hl' : 0 ≤ l ∧ l ≤ (len : Int) := hl
        simp [Instr.sliceBounds, bnd, run_sliceBound hl'.1 hl'.2]
    | some h =>
      have hh' : 0 ≤ h ∧ h ≤ (cap : Int) := hh
      cases lo with
      | none => simp [Instr.sliceBounds, bnd, run_sliceBound hh'.1 hh'.2]
      | some l =>
        have hl' : 0 ≤ l ∧ l ≤ (h.toNat : Int) := hl
        simp [Instr.sliceBounds, bnd, run_sliceBound hh'.1 hh'.2, run_sliceBound hl'.1 hl'.2]
  | some m =>
    have hm' : 0 ≤ m ∧ m ≤ (cap : Int) := hm
    cases hi with
    | none => simp at hmh
    | some h =>
      have hh' : 0 ≤ h ∧ h ≤ (m.toNat : Int) := hh
      cases lo with
      | none => simp [Instr.sliceBounds, bnd, run_sliceBound hm'.1 hm'.2, run_sliceBound hh'.1 hh'.2]
      | some l =>
        have hl' : 0 ≤ l ∧ l ≤ (h.toNat : Int) := hl
        simp [Instr.sliceBounds, bnd, run_sliceBound hm'.1 hm'.2, run_sliceBound hh'.1 hh'.2, run_sliceBound hl'.1 hl'.2]

theorem map_eval_opt {ρ Im w} {a : Act} {lo : Option Operand} {li : Option Int} {rest : List AVal} {vs : List Value} (hs : lo.isSome = li.isSome)
    (h : VRels P ρ Im w (optV q li ++ rest) (lo.toList.map a.eval ++ vs)) : lo.map a.eval = li.map (.int q) ∧ VRels P ρ Im w rest vs := by
  cases lo <;> cases li <;> simp at hs
  · exact ⟨rfl, h⟩
  · simp only [optV, Option.toList_some, List.map_cons, List.map_nil, List.cons_append, List.nil_append, VRels] at h
    obtain ⟨v, vs', h1, h2, h3⟩ := h
    simp only [List.cons.injEq] at h1
    obtain ⟨rfl, rfl⟩ := h1
    simp only [VRel] at h2
    exact ⟨by simp [h2], h3⟩

theorem opSl {lo hi mx : Option Operand} {li hI mi : Option Int} (ho : o.op = .slice t x lo hi mx) (hl : lo.isSome = li.isSome) (hh : hi.isSome = hI.isSome) (hm : mx.isSome = mi.isSome)
    (h : ∀ ρ Im w (a : Act), VRel P ρ Im w u (a.eval x) → ∃ r, (Instr.sliceAt t (a.eval x) (li.map (.int q)) (hI.map (.int q)) (mi.map (.int q))).run P w = .ok r w ∧ VRel P ρ Im w v r) :
    OpV P o (u :: (optV q li ++ (optV q hI ++ optV q mi))) [] [] v [] := by
  refine OpV.pure fun ρ Im w a hv => ?_
  rw [Array.toList_map, ho] at hv
  have e : (Op.slice t x lo hi mx).operands.toList = x :: (lo.toList ++ (hi.toList ++ mx.toList)) := by
    simp [Op.operands]
  rw [e] at hv
  simp only [List.map_cons, List.map_append, VRels] at hv
  obtain ⟨r, rs, h1, h2, h3⟩ := hv
  simp only [List.cons.injEq] at h1
  obtain ⟨rfl, rfl⟩ := h1
  obtain ⟨g1, h4⟩ := map_eval_opt hl h3
  obtain ⟨g2, h5⟩ := map_eval_opt hh h4
  have h6 : VRels P ρ Im w (optV q mi ++ []) (mx.toList.map a.eval ++ []) := by simpa using h5
  obtain ⟨g3, _⟩ := map_eval_opt hm h6
  obtain ⟨r, hr, hv⟩ := h ρ Im w a h2
  exact ⟨r, by simp [execOp, ho, g1, g2, g3, hr], hv⟩

/-- A part of an array that lies in a block. -/
theorem op_slA {e : TypeId} {lo hi mx : Option Operand} {li hI mi : Option Int} (ho : o.op = .slice t x lo hi mx) (ht : arrT P t = some (n, e, sz))
    (hl : lo.isSome = li.isSome) (hh : hi.isSome = hI.isSome) (hm : mx.isSome = mi.isSome) (hmh : mi.isSome = true → hI.isSome = true)
    (b1 : inB mi n) (b2 : inB hI (bnd mi n)) (b3 : inB li (bnd hI n)) (hfull : full = true → bnd hI n = bnd mi n) (hfit : off + n * sz ≤ cells.length) :
    OpV P o (.ptr b off :: (optV q li ++ (optV q hI ++ optV q mi))) [(b, .vec T cells)] [] (.os b (off + bnd li 0 * sz) (bnd hI n - bnd li 0) sz full) [(b, .vec T cells)] := by
  refine OpV.value fun ρ Im w a sup s fr hv => ?_
  rw [Array.toList_map, ho] at hv
  have e0 : (Op.slice t x lo hi mx).operands.toList = x :: (lo.toList ++ (hi.toList ++ mx.toList)) := by
    simp [Op.operands]
  rw [e0] at hv
  simp only [List.map_cons, List.map_append, VRels] at hv
  obtain ⟨r, rs, h1, h2, h3⟩ := hv
  simp only [List.cons.injEq] at h1
  obtain ⟨rfl, rfl⟩ := h1
  obtain ⟨g1, h4⟩ := map_eval_opt hl h3
  obtain ⟨g2, h5⟩ := map_eval_opt hh h4
  have h6 : VRels P ρ Im w (optV q mi ++ []) (mx.toList.map a.eval ++ []) := by simpa using h5
  obtain ⟨g3, _⟩ := map_eval_opt hm h6
  obtain ⟨c, cs, fz, vals, k1, k2, k3, k4, k5, k6⟩ := s.at h2
  obtain ⟨hu1, hu2⟩ := arrT_und ht
  have hr := run_bounds (P := P) (q := q) (w := w) (isS := false) (len := n) b1 b2 b3 hmh
  have hle1 : bnd li 0 ≤ bnd hI n := by cases li with
    | none => simp [bnd]
    | some l => simp only [inB] at b3; simp only [bnd] at b3 ⊢; omega
  have hle2 : bnd hI n ≤ bnd mi n := by
    cases hI with
    | none => cases mi with
      | none => simp [bnd]
      | some m => simp at hmh
    | some h => simp only [inB] at b2; simp only [bnd] at b2 ⊢; omega
  have hle3 : bnd mi n ≤ n := by cases mi with
    | none => simp [bnd]
    | some m => simp only [inB] at b1; simp only [bnd]; omega
  refine ⟨.slice (some (if bnd mi n = bnd li 0 then ⟨c, off, none⟩ else ⟨c, off + bnd li 0 * sz, none⟩)) (bnd hI n - bnd li 0) (bnd mi n - bnd li 0), w, ρ, Im, ?_, ?_, Ev.refl s⟩
  · simp [execOp, ho, g1, g2, g3, Instr.sliceAt, run_underlying hu1, k2, Instr.sureAddr, hr, hu2, addr_add]
  · simp only [VRel]
    by_cases hz : bnd mi n = bnd li 0
    · refine .inl ⟨⟨_, k1⟩, by omega, ?_⟩
      rw [if_pos hz]
      exact ⟨_, by rw [show bnd hI n - bnd li 0 = 0 by omega, show bnd mi n - bnd li 0 = 0 by omega]⟩
    · rw [if_neg hz]
      refine .inr ⟨c, _, T, cs.size, k1, rfl, by omega, fun hf => by have := hfull hf; omega, ?_, ?_⟩
      · simp [World.shape?, k3]
      · obtain ⟨r, hr⟩ := pre_of k5
        have hsz : cs.size = vals.length + r.length := by rw [← Array.length_toList, hr, List.length_append]
        have := k6.length
        have e1 : bnd li 0 * sz + (bnd mi n - bnd li 0) * sz = bnd mi n * sz := by
          rw [← Nat.add_mul]; congr 1; omega
        have e2 : bnd mi n * sz ≤ n * sz := Nat.mul_le_mul_right _ hle3
        omega

/-- A part of data. -/
theorem op_slV {e : TypeId} {by' : Nat} {lo hi mx : Option Operand} {li hI mi : Option Int} {f' : Bool} (ho : o.op = .slice t x lo hi mx) (ht : slT P t = some (e, sz, by'))
    (hl : lo.isSome = li.isSome) (hh : hi.isSome = hI.isSome) (hm : mx.isSome = mi.isSome) (hmh : mi.isSome = true → hI.isSome = true)
    (b1 : inB mi len) (b2 : inB hI (bnd mi len)) (b3 : inB li (bnd hI len)) (hfull : f' = true → (mi.isSome = true ∧ bnd hI len = bnd mi len) ∨ (full = true ∧ bnd hI len = len)) :
    OpV P o (.vs len full cells :: (optV q li ++ (optV q hI ++ optV q mi))) [] [] (.vs (bnd hI len - bnd li 0) f' ((cells.drop (bnd li 0 * sz)).take ((bnd hI len - bnd li 0) * sz))) [] := by
  refine opSl ho hl hh hm fun ρ Im w a hv => ?_
  simp only [VRel] at hv
  obtain ⟨ad, cap, h1, h2, h3, h4⟩ := hv
  obtain ⟨hu1, hu2, _⟩ := slT_und ht
  have b1' : inB mi cap := by
    cases mi with
    | none => trivial
    | some m => simp only [inB] at b1 ⊢; omega
  have hbm : mi = none → bnd mi cap = cap := fun h => by subst h; rfl
  have hbm' : mi.isSome = true → bnd mi cap = bnd mi len := fun h => by cases mi with
    | none => cases h
    | some m => rfl
  have hml : bnd mi len ≤ bnd mi cap := by cases mi with
    | none => simpa [bnd] using h2
    | some m => exact Nat.le_refl _
  have b2' : inB hI (bnd mi cap) := by
    cases hI with
    | none => trivial
    | some m => simp only [inB] at b2 ⊢; omega
  have hr := run_bounds (P := P) (q := q) (w := w) (isS := true) (len := len) b1' b2' b3 hmh
  have hle1 : bnd li 0 ≤ bnd hI len := by cases li with
    | none => simp [bnd]
    | some l => simp only [inB] at b3; simp only [bnd] at b3 ⊢; omega
  have hle2 : bnd hI len ≤ bnd mi cap := by
    cases hI with
    | none => cases mi with
      | none => simpa [bnd] using h2
      | some m => simp at hmh
    | some h => simp only [inB] at b2'; simp only [bnd] at b2' ⊢; omega
  refine ⟨.slice (if bnd mi cap = bnd li 0 then ad else ad.map (·.add (bnd li 0 * sz))) (bnd hI len - bnd li 0) (bnd mi cap - bnd li 0), ?_, ?_⟩
  · rw [h1]
    simp [Instr.sliceAt, Instr.slice, run_underlying hu1, hr, hu2]
  · simp only [VRel]
    refine ⟨_, _, rfl, by omega, ?_, ?_⟩
    · intro hf
      rcases hfull hf with ⟨g1, g2⟩ | ⟨g1, g2⟩
      · rw [hbm' g1]; omega
      · have := h3 g1
        subst this
        cases mi with
        | none => simp only [bnd] at g2 ⊢; omega
        | some m =>
          simp only [inB] at b1
          simp only [bnd] at hle2 g2 ⊢
          omega
    · by_cases hz : bnd mi cap = bnd li 0
      · left
        rw [show bnd hI len - bnd li 0 = 0 by omega]
        simp
      · rw [if_neg hz]
        rcases h4 with h4 | ⟨c, base, vals, rfl, g1, g2, g3⟩
        · left; simp [h4]
        · by_cases hne : (cells.drop (bnd li 0 * sz)).take ((bnd hI len - bnd li 0) * sz) = []
          · exact .inl hne
          · refine .inr ⟨c, base + bnd li 0 * sz, (vals.drop (bnd li 0 * sz)).take ((bnd hI len - bnd li 0) * sz), by simp [addr_add], g1, ?_, (g3.drop _).take _⟩
            intro j hj
            simp only [List.length_take, List.length_drop] at hj
            have := g2 (bnd li 0 * sz + j) (by omega)
            rw [← Nat.add_assoc] at this
            rw [this]
            simp

theorem op_toArr {e : TypeId} {arr : TypeId} (ho : o.op = .sliceToArrayPointer arr x) (ht : arrT P arr = some (n, e, sz)) (h1 : n ≤ len) (hn : 0 < len) :
    OpV P o [.os b off len k full] [] [] (.ptr b off) [] :=
  op1 (x := x) (by rw [ho]; rfl) fun ρ Im w a hv => by
    obtain ⟨hu1, hu2⟩ := arrT_und ht
    simp only [VRel] at hv ⊢
    rcases hv with ⟨_, rfl, _⟩ | ⟨c, cap, T, m, g1, g2, g3⟩
    · omega
    exact ⟨.pointer (some ⟨c, off, none⟩), by simp [execOp, ho, g2, Instr.arrayAt, run_underlying hu1, Nat.not_lt.2 h1], c, g1, rfl⟩
theorem op_toArrV {e : TypeId} {arr : TypeId} (ho : o.op = .sliceToArrayPointer arr x) (ht : arrT P arr = some (n, e, sz)) (h1 : n ≤ len) (hc : cells ≠ []) :
    OpV P o [.vs len full cells] [] [] (.vptr cells 0) [] :=
  op1 (x := x) (by rw [ho]; rfl) fun ρ Im w a hv => by
    obtain ⟨hu1, hu2⟩ := arrT_und ht
    simp only [VRel] at hv ⊢
    obtain ⟨ad, cap, g1, g2, g3, g4⟩ := hv
    rcases g4 with g4 | ⟨c, base, vals, rfl, g5⟩
    · exact absurd g4 hc
    exact ⟨.pointer (some ⟨c, base, none⟩), by simp [execOp, ho, g1, Instr.arrayAt, run_underlying hu1, Nat.not_lt.2 h1], c, base, vals, rfl, g5⟩
end
end Go.Kw
