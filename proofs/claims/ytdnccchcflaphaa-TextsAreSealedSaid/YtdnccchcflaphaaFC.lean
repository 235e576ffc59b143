import Derived.Test.YtdnccchcflaphaaFB
set_option linter.unusedVariables false
set_option linter.unusedSimpArgs false
namespace Go.Kw
set_option linter.unusedVariables false
set_option linter.unusedSimpArgs false
variable {P : Program}

/-! ### Results -/

inductive ResOf (P : Program) (env : Env) (h : AHeap) : ResultVar → AVal → Prop
  | tmp {a : Nat} {v : AVal} (he : env.get a = some v) : ResOf P env h (.tmp a) v
  | cell {a : Nat} {t : TypeId} {b off k : Nat} {T : TypeId} {cells : List AVal} (i : Nat) (he : env.get a = some (.ptr b off)) (hi : h[i]? = some (b, .vec T cells)) (ht : aggT P t = some k)
      (hk : off + k ≤ cells.length) : ResOf P env h (.cell a t) (.agg ((cells.drop off).take k))

inductive RessOf (P : Program) (env : Env) (h : AHeap) : List ResultVar → List AVal → Prop
  | nil : RessOf P env h [] []
  | cons {r rs v vs} (h1 : ResOf P env h r v) (h2 : RessOf P env h rs vs) : RessOf P env h (r :: rs) (v :: vs)

def resRun : ResultVar → Array Value → Sem Value
  | .tmp t, tmps => pure (tmps.getD t undef)
  | .cell a t, tmps => do loadVar t (← asAddr (tmps.getD a undef))

theorem ResOf.run {env h r v ρ Im w} {tmps : Array Value} (hr : ResOf P env h r v) (s : St P ρ Im h w) (he : EnvRel P ρ Im w env tmps) : ∃ v', (resRun r tmps).run P w = .ok v' w ∧ VRel P ρ Im w v v' := by
  cases hr with
  | tmp ha => exact ⟨_, by simp [resRun], he _ _ ha⟩
  | @cell a t b off k T cells i ha hi ht hk =>
    have s' : St P ρ Im [(b, .vec T cells)] w := s.sub (List.singleton_sublist.2 (List.mem_of_getElem? hi))
    obtain ⟨c, cs, fz, vals, h1, h2, h3, h4, h5, h6⟩ := s'.at (he _ _ ha)
    have hl := h6.length
    refine ⟨.agg ((vals.drop off).take k).toArray, ?_, ?_⟩
    · have := run_loadVec (P := P) (k := k) (off := off) h3 h5 (by omega)
      simp [resRun, h2, asAddr, loadVar, (run_isAgg_agg (w := w) ht).1, (run_isAgg_agg (w := w) ht).2, this]
    · simp only [VRel]
      exact ⟨_, rfl, by simpa using (h6.drop off).take k⟩

theorem RessOf.run {env h ρ Im w} {tmps : Array Value} : ∀ {rs : List ResultVar} {vs : List AVal}, RessOf P env h rs vs → St P ρ Im h w → EnvRel P ρ Im w env tmps →
    ∃ vs', (rs.mapM fun r => resRun r tmps).run P w = .ok vs' w ∧ VRels P ρ Im w vs vs'
  | _, _, .nil, s, he => ⟨[], by simp, by simp [VRels]⟩
  | _, _, .cons h1 h2, s, he => by
    obtain ⟨v', g1, g2⟩ := h1.run s he
    obtain ⟨vs', g3, g4⟩ := RessOf.run h2 s he
    refine ⟨v' :: vs', ?_, ?_⟩
    · simp [List.mapM_cons, g1, g3]
    · simp only [VRels]; exact ⟨_, _, rfl, g2, g4⟩

theorem results_eq (fn : Func) (tmps : Array Value) : results fn tmps = (fn.results.mapM (fun r => resRun r tmps) >>= fun vs => pure (if h : vs.size = 1 then vs[0] else .tuple vs)) := by
  unfold results
  congr 1
  congr 1
  funext r
  cases r <;> rfl

section
variable {fn : Func} {env : Env} {h : AHeap} {rs : List ResultVar} {vs : List AVal} {v : AVal}
theorem ResV.many (hr : fn.results = rs.toArray) (hl : Nat.beq rs.length 1 = false) (hv : RessOf P env h rs vs) : ResV P fn env h (.tup vs) := by
  intro ρ Im w tmps s he
  obtain ⟨vs', h1, h2⟩ := hv.run s he
  refine ⟨.tuple vs'.toArray, ?_, by simp only [VRel]; exact ⟨_, rfl, h2⟩⟩
  have hlen : vs'.length ≠ 1 := by
    have e := h2.length
    have : rs.length = vs.length := by
      clear h1 h2 e hl hr
      induction hv with
      | nil => rfl
      | cons _ _ ih => simp [ih]
    intro hh
    rw [e, ← this] at hh
    rw [hh] at hl
    cases hl
  rw [results_eq, hr, Array.mapM_eq_mapM_toList]
  simp [h1, hlen]
theorem ResV.one {r : ResultVar} (hr : fn.results = #[r]) (hv : ResOf P env h r v) : ResV P fn env h v := by
  intro ρ Im w tmps s he
  obtain ⟨v', h1, h2⟩ := hv.run s he
  refine ⟨v', ?_, h2⟩
  rw [results_eq, hr, Array.mapM_eq_mapM_toList]
  simp [h1]
end
end Go.Kw

namespace Go.Kw
set_option linter.unusedVariables false
set_option linter.unusedSimpArgs false
variable {P : Program}
section
variable {fn : Func} {n : Nat} {new : List Nat} {R : AVal → AHeap → Prop} {env : Env} {h h0 : AHeap} {k : List Item}

/-- The end of a function; what is left in the heap may be forgotten. -/
theorem WP.endsS {todo : List Item} (hs : ∀ (b : Frame) (a : Act) cs w, Go.step P (lone (b.at a todo) cs w) = .next (lone { b.at a todo with mode := .returning } cs w))
    {v : AVal} (hr : ResV P fn env h v) (hh : List.Sublist h0 h) (hR : R v h0) : WP P fn n new R todo env h := by
  intro ρ Im w a b cs sup s fr he hn hd
  obtain ⟨v', h1, h2⟩ := hr ρ Im w a.tmps s he
  exact ⟨a, w, todo, .one (hs b a cs w), hd, v', v, h0, ρ, Im, h1, hR, h2, (Ev.refl s).subR hh⟩
theorem WP.retS {v : AVal} (hr : ResV P fn env h v) (hh : List.Sublist h0 h) (hR : R v h0) : WP P fn n new R (.code .ret :: k) env h :=
  WP.endsS (fun b a cs w => step_ret) hr hh hR
theorem WP.finS {v : AVal} (hr : ResV P fn env h v) (hh : List.Sublist h0 h) (hR : R v h0) : WP P fn n new R [] env h :=
  WP.endsS (fun b a cs w => step_end) hr hh hR

/-- As 'endsS'; the result's block gets the caller's name. -/
theorem WP.ends1S {todo : List Item} (hs : ∀ (b : Frame) (a : Act) cs w, Go.step P (lone (b.at a todo) cs w) = .next (lone { b.at a todo with mode := .returning } cs w))
    {b b' : Nat} {o : AObj} {vf : Nat → AVal} (i : Nat) (hr : ResV P fn env h (vf b)) (hi : h[i]? = some (b, o)) (hb : b' ∈ new)
    (hvf : ∀ ρ Im w v' c, ρ b = some c → ρ b' = some c → VRel P ρ Im w (vf b) v' → VRel P ρ Im w (vf b') v')
    (hh : List.Sublist h0 (h.set i (b', o))) (hR : R (vf b') h0) : WP P fn n new R todo env h := by
  intro ρ Im w a fr0 cs sup s fr he hn hd
  obtain ⟨v', h1, h2⟩ := hr ρ Im w a.tmps s he
  have e : Ev P ρ Im h w (okOf new sup) ρ Im h w := Ev.refl s
  obtain ⟨ρ'', e', hext, hb''⟩ := e.rename hi (fr.named b' hb) (.inl hb)
  obtain ⟨c, hc⟩ := s.code (List.mem_of_getElem? hi)
  have m : Mono ρ Im w ρ'' Im w := { rho := hext, im := fun _ h => h, same := fun _ _ => rfl, shape := fun _ _ _ h => h }
  refine ⟨a, w, todo, .one (hs fr0 a cs w), hd, v', vf b', _, ρ'', Im, h1, hR, ?_, e'.subR hh⟩
  exact hvf ρ'' Im w v' c (hext _ _ hc) (by rw [hb'', hc]) (h2.mono m)
theorem WP.ret1S {b b' : Nat} {o : AObj} {vf : Nat → AVal} (i : Nat) (hr : ResV P fn env h (vf b)) (hi : h[i]? = some (b, o)) (hb : b' ∈ new)
    (hvf : ∀ ρ Im w v' c, ρ b = some c → ρ b' = some c → VRel P ρ Im w (vf b) v' → VRel P ρ Im w (vf b') v')
    (hh : List.Sublist h0 (h.set i (b', o))) (hR : R (vf b') h0) : WP P fn n new R (.code .ret :: k) env h :=
  WP.ends1S (fun b a cs w => step_ret) i hr hi hb hvf hh hR
theorem WP.fin1S {b b' : Nat} {o : AObj} {vf : Nat → AVal} (i : Nat) (hr : ResV P fn env h (vf b)) (hi : h[i]? = some (b, o)) (hb : b' ∈ new)
    (hvf : ∀ ρ Im w v' c, ρ b = some c → ρ b' = some c → VRel P ρ Im w (vf b) v' → VRel P ρ Im w (vf b') v')
    (hh : List.Sublist h0 (h.set i (b', o))) (hR : R (vf b') h0) : WP P fn n new R [] env h :=
  WP.ends1S (fun b a cs w => step_end) i hr hi hb hvf hh hR
end

/-- As 'of_wp', with the number of temporaries told. -/
theorem ACalls.of_wp' {f : FuncId} {fn : Func} {c : Code} {args : List AVal} {h : AHeap} {new : List Nat} {v : AVal} {h' : AHeap} {n : Nat}
    (hf : P.funcs[f]? = some fn) (hb : fn.body = some c) (hn : args.length + (fn.ntmps - args.length) = n)
    (hw : WP P fn n new (fun v' h'' => v' = v ∧ h'' = h') [.code c] (argsE 0 args) h) : ACalls P f args h new v h' := by
  subst hn
  exact ACalls.of_wp hf hb hw
end Go.Kw

namespace Go.Kw
set_option linter.unusedVariables false
set_option linter.unusedSimpArgs false
variable {P : Program}

abbrev VS {α : Type} (f : α → AVal) (full : Bool) (l : List α) : AVal := .vs l.length full (l.map f)
abbrev OS {α : Type} (b : Nat) (full : Bool) (l : List α) : AVal := .os b 0 l.length 1 full

section
variable {α : Type} {f : α → AVal} {o : Oper} {x y z : Operand} {t t' T : TypeId} {v u : AVal} {b off k len sz n : Nat} {full f' : Bool} {cells vs : List AVal} {i j : Int} {q : IntKind} {ts : Array TypeId} {l l2 : List α} {e : TypeId} {by' : Nat}

theorem getM [Inhabited α] (hm : n < l.length) : (l.map f)[n]? = some (f l[n]!) := by
  simp [List.getElem?_eq_getElem hm, List.getElem!_eq_getElem?_getD]

theorem op_boxA (ho : o.op = .box t x) : OpV P o [.agg cells] [] [b] (.ptr b 0) [(b, .vec t cells)] := op_box ho (by intro l h; cases h)
theorem op_boxS (ho : o.op = .box t x) (hs : v.scalar = true) : OpV P o [v] [] [b] (.ptr b 0) [(b, .vec t [v])] := by
  have := op_box (P := P) (b := b) (u := v) ho (by intro l h; subst h; cases hs)
  cases v <;> first | exact this | cases hs
theorem op_loadW (ho : o.op = .load t x) (ht : aggT P t = some k) (hk : cells.length = k) : OpV P o [.ptr b 0] [(b, .vec T cells)] [] (.agg cells) [(b, .vec T cells)] := by
  have := op_loadA (P := P) (b := b) (T := T) (off := 0) (cells := cells) ho ht (by omega)
  simpa [List.take_of_length_le (Nat.le_of_eq hk)] using this
theorem op_storeW (ho : o.op = .store t x y) (ht : aggT P t = some k) (hk : vs.length = k) (hc : cells.length = k) (hs : vs.all AVal.scalar = true) :
    OpV P o [.ptr b 0, .agg vs] [(b, .vec T cells)] [] (.tup []) [(b, .vec T vs)] := by
  have := op_storeA (P := P) (b := b) (T := T) (off := 0) (cells := cells) (vs := vs) ho ht hk hs (by omega)
  simpa [List.drop_eq_nil_of_le (Nat.le_of_eq hc)] using this
theorem op_loadM [Inhabited α] (ho : o.op = .load t x) (ht : scalT P t = true) (hm : n < l.length) : OpV P o [.ptr b n] [(b, .vec T (l.map f))] [] (f l[n]!) [(b, .vec T (l.map f))] :=
  op_load ho ht (getM hm)
theorem op_loadVM [Inhabited α] (ho : o.op = .load t x) (ht : scalT P t = true) (hm : n < l.length) : OpV P o [.vptr (l.map f) n] [] [] (f l[n]!) [] :=
  op_loadV ho ht (getM hm)
theorem op_storeM {v : α} (ho : o.op = .store t x y) (ht : scalT P t = true) (hs : (f v).scalar = true) (hm : n < l.length) :
    OpV P o [.ptr b n, f v] [(b, .vec T (l.map f))] [] (.tup []) [(b, .vec T ((l.set n v).map f))] := by
  have := op_store (P := P) (b := b) (T := T) (off := n) (cells := l.map f) (v := f v) ho ht hs (by simpa using hm)
  rwa [← List.map_set] at this
theorem op_iA (m : Nat) (ho : o.op = .indexAddr t x y) (ht : arrT P t = some (n, e, 1)) (hi : i = m) (hm : m < n) : OpV P o [.ptr b 0, .int q i] [] [] (.ptr b m) [] := by
  have := op_idxA (P := P) (b := b) (off := 0) (i := i) (q := q) ho ht (by omega) (by omega)
  rwa [show 0 + i.toNat * 1 = m by omega] at this
theorem op_iVA (m : Nat) (ho : o.op = .indexAddr t x y) (ht : arrT P t = some (n, e, 1)) (hi : i = m) (hm : m < n) : OpV P o [.vptr cells 0, .int q i] [] [] (.vptr cells m) [] := by
  have := op_idxVA (P := P) (cells := cells) (off := 0) (i := i) (q := q) ho ht (by omega) (by omega)
  rwa [show 0 + i.toNat * 1 = m by omega] at this
theorem op_iO (m : Nat) (ho : o.op = .indexAddr t x y) (ht : slT P t = some (e, 1, by')) (hi : i = m) (hm : m < len) : OpV P o [.os b 0 len 1 full, .int q i] [] [] (.ptr b m) [] := by
  have := op_idxO (P := P) (b := b) (off := 0) (len := len) (k := 1) (full := full) (i := i) (q := q) ho ht (by omega) (by omega)
  rwa [show 0 + i.toNat * 1 = m by omega] at this
theorem op_iV (m : Nat) (ho : o.op = .indexAddr t x y) (ht : slT P t = some (e, 1, by')) (hi : i = m) (hm : m < l.length) : OpV P o [VS f full l, .int q i] [] [] (.vptr (l.map f) m) [] := by
  have := op_idxV (P := P) (len := l.length) (full := full) (cells := l.map f) (i := i) (q := q) ho ht (by omega) (by omega) (by intro h; simp at h; subst h; simp at hm)
  rwa [show i.toNat * 1 = m by omega] at this
theorem op_xA [Inhabited α] (m : Nat) (ho : o.op = .index t x y) (ht : arrT P t = some (n, e, 1)) (he : scalT P e = true) (hi : i = m) (hm : m < n) (hl : l.length = n) : OpV P o [.agg (l.map f), .int q i] [] [] (f l[m]!) [] :=
  op_indexA (m := m) ho ht he hi hm (getM (by omega))
theorem op_xS {l : List UInt8} (m : Nat) (ho : o.op = .index t x y) (ht : P.underlying t = some .string) (hi : i = m) (hm : m < l.length) : OpV P o [.str l, .int q i] [] [] (.u8 l[m]!) [] :=
  op_indexS (m := m) ho ht hi (by simp [List.getElem?_eq_getElem hm, List.getElem!_eq_getElem?_getD])

/-! parts of arrays in blocks -/
theorem op_sA00 (ho : o.op = .slice t x none none none) (ht : arrT P t = some (n, e, 1)) (hc : n ≤ cells.length) : OpV P o [.ptr b 0] [(b, .vec T cells)] [] (.os b 0 n 1 true) [(b, .vec T cells)] := by
  have := op_slA (P := P) (q := .i64) (b := b) (off := 0) (T := T) (cells := cells) (li := none) (hI := none) (mi := none) (full := true) ho ht rfl rfl rfl (by simp) trivial trivial trivial (fun _ => rfl) (by omega)
  simpa [optV, bnd] using this
theorem op_sA10 (lo : Nat) {y : Operand} (ho : o.op = .slice t x (some y) none none) (ht : arrT P t = some (n, e, 1)) (hi : i = lo) (hlo : lo ≤ n) (hc : n ≤ cells.length) :
    OpV P o [.ptr b 0, .int q i] [(b, .vec T cells)] [] (.os b lo (n - lo) 1 true) [(b, .vec T cells)] := by
  subst hi
  have := op_slA (P := P) (q := q) (b := b) (off := 0) (T := T) (cells := cells) (li := some lo) (hI := none) (mi := none) (full := true) ho ht rfl rfl rfl (by simp) trivial trivial (by simp [inB, bnd]; omega) (fun _ => rfl) (by omega)
  simpa [optV, bnd] using this
theorem op_sA11 (lo hi : Nat) {y z : Operand} (ho : o.op = .slice t x (some y) (some z) none) (ht : arrT P t = some (n, e, 1)) (h1 : i = lo) (h2 : j = hi) (hlo : lo ≤ hi) (hhi : hi ≤ n) (hc : n ≤ cells.length) :
    OpV P o [.ptr b 0, .int q i, .int q j] [(b, .vec T cells)] [] (.os b lo (hi - lo) 1 false) [(b, .vec T cells)] := by
  subst h1 h2
  have := op_slA (P := P) (q := q) (b := b) (off := 0) (T := T) (cells := cells) (li := some lo) (hI := some hi) (mi := none) (full := false) ho ht rfl rfl rfl (by simp) trivial (by simp [inB, bnd]; omega) (by simp [inB, bnd]; omega) (by simp) (by omega)
  simpa [optV, bnd] using this
theorem op_sA01 (hi : Nat) {z : Operand} (ho : o.op = .slice t x none (some z) none) (ht : arrT P t = some (n, e, 1)) (h2 : j = hi) (hhi : hi ≤ n) (hc : n ≤ cells.length) :
    OpV P o [.ptr b 0, .int q j] [(b, .vec T cells)] [] (.os b 0 hi 1 false) [(b, .vec T cells)] := by
  subst h2
  have := op_slA (P := P) (q := q) (b := b) (off := 0) (T := T) (cells := cells) (li := none) (hI := some hi) (mi := none) (full := false) ho ht rfl rfl rfl (by simp) trivial (by simp [inB, bnd]; omega) (by simp [inB, bnd]) (by simp) (by omega)
  simpa [optV, bnd] using this

/-! parts of data -/
theorem op_sV10 (lo : Nat) {y : Operand} (ho : o.op = .slice t x (some y) none none) (ht : slT P t = some (e, 1, by')) (hi : i = lo) (hlo : lo ≤ l.length) :
    OpV P o [VS f full l, .int q i] [] [] (VS f full (l.drop lo)) [] := by
  subst hi
  have := op_slV (P := P) (q := q) (len := l.length) (full := full) (cells := l.map f) (li := some lo) (hI := none) (mi := none) (f' := full) ho ht rfl rfl rfl (by simp) trivial trivial (by simp [inB, bnd]; omega) (fun h => .inr ⟨h, rfl⟩)
  have e2 : ((l.map f).drop lo).take (l.length - lo) = (l.drop lo).map f := by rw [List.take_of_length_le (by simp), List.map_drop]
  simpa [optV, bnd, VS, e2] using this
theorem op_sV01 (hi : Nat) {z : Operand} (ho : o.op = .slice t x none (some z) none) (ht : slT P t = some (e, 1, by')) (h2 : j = hi) (hhi : hi ≤ l.length) :
    OpV P o [VS f full l, .int q j] [] [] (VS f false (l.take hi)) [] := by
  subst h2
  have := op_slV (P := P) (q := q) (len := l.length) (full := full) (cells := l.map f) (li := none) (hI := some hi) (mi := none) (f' := false) ho ht rfl rfl rfl (by simp) trivial (by simp [inB, bnd]; omega) (by simp [inB, bnd]) (by simp)
  simpa [optV, bnd, VS, Nat.min_eq_left hhi, List.map_take] using this
theorem op_sV11 (lo hi : Nat) {y z : Operand} (ho : o.op = .slice t x (some y) (some z) none) (ht : slT P t = some (e, 1, by')) (h1 : i = lo) (h2 : j = hi) (hlo : lo ≤ hi) (hhi : hi ≤ l.length) :
    OpV P o [VS f full l, .int q i, .int q j] [] [] (VS f false ((l.take hi).drop lo)) [] := by
  subst h1 h2
  have := op_slV (P := P) (q := q) (len := l.length) (full := full) (cells := l.map f) (li := some lo) (hI := some hi) (mi := none) (f' := false) ho ht rfl rfl rfl (by simp) trivial (by simp [inB, bnd]; omega) (by simp [inB, bnd]; omega) (by simp)
  have e2 : ((l.map f).drop lo).take (hi - lo) = ((l.take hi).drop lo).map f := by rw [List.map_drop, List.map_take, List.drop_take]
  have e3 : ((l.take hi).drop lo).length = hi - lo := by simp; omega
  simpa [optV, bnd, VS, e2, e3] using this

/-! whole owned slices -/
theorem op_lenV (ho : o.op = .call { callee := .builtin .len, args := #[x], argTypes := #[t] }) (ht : slT P t = some (e, sz, by')) : OpV P o [VS f full l] [] [] (.i l.length) [] := op_len_v ho ht
theorem op_lenO (ho : o.op = .call { callee := .builtin .len, args := #[x], argTypes := #[t] }) (ht : slT P t = some (e, sz, by')) : OpV P o [.os b off len k full] [] [] (.i len) [] := op_len_s ho ht
theorem op_makeM {z : α} {m c : Nat} (ho : o.op = .makeSlice t x y) (ht : slT P t = some (e, 1, by')) (hz : zeroT P e = some [f z]) (hl : i = m) (hc : j = c) (hlc : m ≤ c)
    (hfit : c * by' ≤ 140737488355328) (hcap : c ≤ 9223372036854775807) :
    OpV P o [.i i, .i j] [] [b] (OS b false (List.replicate m z)) [(b, .vec e ((List.replicate m z).map f))] := by
  have := op_make1 (P := P) (b := b) ho ht hz hl hc hlc hfit hcap
  simpa [OS] using this
theorem op_appM {b' bytes : Nat} (hs : ∀ a, (f a).scalar = true) (ho : o.op = .call { callee := .builtin .append, args := #[x, y], argTypes := ts }) (ht : appT P ts = some (T, 1, bytes))
    (hfit : (l.length + l2.length) * bytes ≤ 140737488355328) :
    OpV P o [OS b full l, VS f f' l2] [(b, .vec T (l.map f))] [b'] (OS b' false (l ++ l2)) [(b', .vec T ((l ++ l2).map f))] := by
  have := op_appV (P := P) (b := b) (b' := b') (len := l.length) (n := l2.length) (full := full) (f' := f') (cells := l.map f) (new := l2.map f) ho ht (by simp) (by simp) (by simp [hs]) hfit
  simpa [OS] using this
theorem op_appMVV {b' bytes : Nat} (ho : o.op = .call { callee := .builtin .append, args := #[x, y], argTypes := ts }) (ht : appT P ts = some (T, 1, bytes))
    (h0 : l.length = 0 ∨ 0 < l2.length) (hfit : (l.length + l2.length) * bytes ≤ 140737488355328) :
    OpV P o [VS f true l, VS f f' l2] [] [b'] (OS b' false (l ++ l2)) [(b', .vec T ((l ++ l2).map f))] := by
  have := op_appVV (P := P) (b' := b') (len := l.length) (n := l2.length) (f' := f') (cells := l.map f) (new := l2.map f) ho ht (by simp) (by simp) h0 hfit
  simpa [OS] using this
/-- append(own, part of another block) -/
theorem op_appMO {b' bytes c lo n : Nat} {Tc : TypeId} (hs : ∀ a, (f a).scalar = true) (ho : o.op = .call { callee := .builtin .append, args := #[x, y], argTypes := ts }) (ht : appT P ts = some (T, 1, bytes))
    (hn : lo + n ≤ l2.length) (hfit : (l.length + n) * bytes ≤ 140737488355328) :
    OpV P o [OS b full l, .os c lo n 1 f'] [(b, .vec T (l.map f)), (c, .vec Tc (l2.map f))] [b'] (OS b' false (l ++ (l2.drop lo).take n))
      [(b', .vec T ((l ++ (l2.drop lo).take n).map f)), (c, .vec Tc (l2.map f))] := by
  have := op_appO (P := P) (b := b) (b' := b') (c := c) (Tc := Tc) (len := l.length) (n := n) (offc := lo) (full := full) (f' := f') (cells := l.map f) (cs2 := l2.map f) ho ht (by simp) (by simpa using hn)
    (by simp only [List.all_eq_true]; intro a ha; obtain ⟨w, _, rfl⟩ := List.mem_map.1 (List.mem_of_mem_drop (List.mem_of_mem_take ha)); exact hs w) hfit
  have e1 : ((l2.drop lo).take n).length = n := by simp; omega
  simpa [OS, List.map_append, List.map_take, List.map_drop, e1, Nat.min_eq_left (show n ≤ l2.length - lo by omega)] using this
/-- copy(part of a block, data) -/
theorem op_copyM {t0 : TypeId} {lo : Nat} (hs : ∀ a, (f a).scalar = true) (ho : o.op = .call { callee := .builtin .copy, args := #[x, y], argTypes := ts }) (ht0 : ts[0]? = some t0) (ht : slT P t0 = some (e, 1, by'))
    (hc : lo + len ≤ l.length) :
    OpV P o [.os b lo len 1 full, VS f f' l2] [(b, .vec T (l.map f))] [] (.i (min l2.length len : Nat)) [(b, .vec T ((l.take lo ++ l2.take (min l2.length len) ++ l.drop (lo + min l2.length len)).map f))] := by
  have := op_copyV (P := P) (b := b) (T := T) (off := lo) (len := len) (m := l2.length) (full := full) (f' := f') (cells := l.map f) (src := l2.map f) ho ht0 ht (by simpa using hc) (by simp) (by simp [hs])
  simpa [List.map_append, List.map_take, List.map_drop] using this
/-- copy(part of a block, part of another block) -/
theorem op_copyMO {t0 : TypeId} {lo c lo2 m : Nat} {Tc : TypeId} (hs : ∀ a, (f a).scalar = true) (ho : o.op = .call { callee := .builtin .copy, args := #[x, y], argTypes := ts }) (ht0 : ts[0]? = some t0) (ht : slT P t0 = some (e, 1, by'))
    (hc : lo + len ≤ l.length) (hm : lo2 + m ≤ l2.length) :
    OpV P o [.os b lo len 1 full, .os c lo2 m 1 f'] [(b, .vec T (l.map f)), (c, .vec Tc (l2.map f))] [] (.i (min m len : Nat))
      [(b, .vec T ((l.take lo ++ (l2.drop lo2).take (min m len) ++ l.drop (lo + min m len)).map f)), (c, .vec Tc (l2.map f))] := by
  have := op_copyO (P := P) (b := b) (T := T) (c := c) (Tc := Tc) (off := lo) (len := len) (m := m) (offc := lo2) (full := full) (f' := f') (cells := l.map f) (cs2 := l2.map f) ho ht0 ht (by simpa using hc) (by simpa using hm)
    (by simp only [List.all_eq_true]; intro a ha; obtain ⟨w, _, rfl⟩ := List.mem_map.1 (List.mem_of_mem_drop (List.mem_of_mem_take ha)); exact hs w)
  simpa [List.map_append, List.map_take, List.map_drop, List.take_take] using this
end
end Go.Kw

namespace Go.Kw
set_option linter.unusedVariables false
set_option linter.unusedSimpArgs false
variable {P : Program}

theorem subE.nil {e : Env} : subE [] e := trivial
theorem subE.cons {e r : Env} {s : Nat} {v : AVal} (h : e.get s = some v) (hr : subE r e) : subE ((s, v) :: r) e := ⟨h, hr⟩

theorem OpV.boolT {o : Oper} {vs : List AVal} {F F' : AHeap} {new : List Nat} {p : Prop} {dp : Decidable p} (h : OpV P o vs F new (.bool (decide p)) F') (hp : p) : OpV P o vs F new (.bool true) F' := by
  rwa [decide_eq_true hp] at h
theorem OpV.boolF {o : Oper} {vs : List AVal} {F F' : AHeap} {new : List Nat} {p : Prop} {dp : Decidable p} (h : OpV P o vs F new (.bool (decide p)) F') (hp : ¬ p) : OpV P o vs F new (.bool false) F' := by
  rwa [decide_eq_false hp] at h
theorem OpV.boolE {o : Oper} {vs : List AVal} {F F' : AHeap} {new : List Nat} {t u : Bool} (h : OpV P o vs F new (.bool t) F') (ht : t = u) : OpV P o vs F new (.bool u) F' := ht ▸ h
theorem OpV.to {o : Oper} {vs : List AVal} {F F' : AHeap} {new : List Nat} {v u : AVal} (h : OpV P o vs F new v F') (ht : v = u) : OpV P o vs F new u F' := ht ▸ h
theorem OpV.toH {o : Oper} {vs : List AVal} {F F' F'' : AHeap} {new : List Nat} {v u : AVal} (h : OpV P o vs F new v F') (ht : v = u) (hF : F' = F'') : OpV P o vs F new u F'' := ht ▸ hF ▸ h

section
variable {fn : Func} {n : Nat} {new : List Nat} {R : AVal → AHeap → Prop} {env : Env} {h : AHeap} {k : List Item} {c : Code}
theorem WP.loopX {α : Type} (E : α → Env) (H : α → AHeap) (I : α → Prop) (m : α → Nat) (x0 : α) (he : subE (E x0) env) (hh : List.Sublist (H x0) h) (h0 : I x0)
    (step : ∀ x, I x → (∀ y, I y → m y < m x → WP P fn n new R (.inLoop c :: k) (E y) (H y)) → WP P fn n new R (.code c :: .inLoop c :: k) (E x) (H x)) :
    WP P fn n new R (.code (.loop c) :: k) env h := by
  refine WP.loop (WP.jump he hh ?_)
  have key : ∀ M x, m x ≤ M → I x → WP P fn n new R (.code c :: .inLoop c :: k) (E x) (H x) := by
    intro M
    induction M with
    | zero => intro x hm hI; exact step x hI fun y _ hlt => absurd hlt (by omega)
    | succ M ih => intro x hm hI; exact step x hI fun y hy hlt => WP.inLoop (ih y (by omega) hy)
  exact key _ x0 (Nat.le_refl _) h0
theorem WP.loop1 {A : Type} (E : A → Env) (H : A → AHeap) (I : A → Prop) (m : A → Nat) (a0 : A) (he : subE (E a0) env) (hh : List.Sublist (H a0) h) (h0 : I a0)
    (step : ∀ a, I a → (∀ a', I a' → m a' < m a → WP P fn n new R (.inLoop c :: k) (E a') (H a')) → WP P fn n new R (.code c :: .inLoop c :: k) (E a) (H a)) :
    WP P fn n new R (.code (.loop c) :: k) env h := WP.loopX E H I m a0 he hh h0 step
theorem WP.loop2 {A B : Type} (E : A → B → Env) (H : A → B → AHeap) (I : A → B → Prop) (m : A → B → Nat) (a0 : A) (b0 : B) (he : subE (E a0 b0) env) (hh : List.Sublist (H a0 b0) h) (h0 : I a0 b0)
    (step : ∀ a b, I a b → (∀ a' b', I a' b' → m a' b' < m a b → WP P fn n new R (.inLoop c :: k) (E a' b') (H a' b')) → WP P fn n new R (.code c :: .inLoop c :: k) (E a b) (H a b)) :
    WP P fn n new R (.code (.loop c) :: k) env h :=
  WP.loopX (fun x : A × B => E x.1 x.2) (fun x => H x.1 x.2) (fun x => I x.1 x.2) (fun x => m x.1 x.2) (a0, b0) he hh h0 fun x hI hn => step x.1 x.2 hI fun a' b' h1 h2 => hn (a', b') h1 h2
theorem WP.loop3 {A B C : Type} (E : A → B → C → Env) (H : A → B → C → AHeap) (I : A → B → C → Prop) (m : A → B → C → Nat) (a0 : A) (b0 : B) (c0 : C) (he : subE (E a0 b0 c0) env) (hh : List.Sublist (H a0 b0 c0) h) (h0 : I a0 b0 c0)
    (step : ∀ a b d, I a b d → (∀ a' b' d', I a' b' d' → m a' b' d' < m a b d → WP P fn n new R (.inLoop c :: k) (E a' b' d') (H a' b' d')) → WP P fn n new R (.code c :: .inLoop c :: k) (E a b d) (H a b d)) :
    WP P fn n new R (.code (.loop c) :: k) env h :=
  WP.loopX (fun x : A × B × C => E x.1 x.2.1 x.2.2) (fun x => H x.1 x.2.1 x.2.2) (fun x => I x.1 x.2.1 x.2.2) (fun x => m x.1 x.2.1 x.2.2) (a0, b0, c0) he hh h0
    fun x hI hn => step x.1 x.2.1 x.2.2 hI fun a' b' d' h1 h2 => hn (a', b', d') h1 h2
theorem WP.loop4 {A B C D : Type} (E : A → B → C → D → Env) (H : A → B → C → D → AHeap) (I : A → B → C → D → Prop) (m : A → B → C → D → Nat) (a0 : A) (b0 : B) (c0 : C) (d0 : D) (he : subE (E a0 b0 c0 d0) env) (hh : List.Sublist (H a0 b0 c0 d0) h) (h0 : I a0 b0 c0 d0)
    (step : ∀ a b d e, I a b d e → (∀ a' b' d' e', I a' b' d' e' → m a' b' d' e' < m a b d e → WP P fn n new R (.inLoop c :: k) (E a' b' d' e') (H a' b' d' e')) → WP P fn n new R (.code c :: .inLoop c :: k) (E a b d e) (H a b d e)) :
    WP P fn n new R (.code (.loop c) :: k) env h :=
  WP.loopX (fun x : A × B × C × D => E x.1 x.2.1 x.2.2.1 x.2.2.2) (fun x => H x.1 x.2.1 x.2.2.1 x.2.2.2) (fun x => I x.1 x.2.1 x.2.2.1 x.2.2.2) (fun x => m x.1 x.2.1 x.2.2.1 x.2.2.2) (a0, b0, c0, d0) he hh h0
    fun x hI hn => step x.1 x.2.1 x.2.2.1 x.2.2.2 hI fun a' b' d' e' h1 h2 => hn (a', b', d', e') h1 h2
end
end Go.Kw

namespace Go.Kw
set_option linter.unusedVariables false
set_option linter.unusedSimpArgs false
variable {P : Program}

theorem fillV_run : ∀ (vs : List AVal) (k : Nat) (cells : List AVal), k + vs.length ≤ cells.length → vs.all AVal.scalar = true →
    fillV (fun i => some (i * 1, 1)) cells (List.range' k vs.length) vs = some (cells.take k ++ vs ++ cells.drop (k + vs.length))
  | [], k, cells, h, hs => by simp [fillV]
  | v :: vs, k, cells, h, hs => by
    simp only [List.all_cons, Bool.and_eq_true] at hs
    simp only [List.length_cons] at h
    have hc : v.cellsA = [v] := by cases v <;> first | rfl | (simp [AVal.scalar] at hs)
    have ih := fillV_run vs (k + 1) (cells.take k ++ [v] ++ cells.drop (k + 1)) (by simp; omega) hs.2
    simp only [List.length_cons, List.range'_succ, fillV, hc]
    rw [if_pos ⟨rfl, by omega⟩, Nat.mul_one k, ih]
    have hk : (cells.take k).length = k := by simp; omega
    have e1 : (cells.take k ++ [v] ++ cells.drop (k + 1)).take (k + 1) = cells.take k ++ [v] := by
      rw [List.take_append_of_le_length (by simp; omega), List.take_of_length_le (by simp; omega)]
    have e2 : (cells.take k ++ [v] ++ cells.drop (k + 1)).drop (k + 1 + vs.length) = cells.drop (k + (vs.length + 1)) := by
      rw [List.drop_append, List.drop_eq_nil_of_le (by simp; omega), List.nil_append, List.drop_drop]
      congr 1; simp; omega
    rw [e1, e2]
    simp

section
variable {o : Oper} {t e : TypeId} {n b len by' : Nat} {z vs : List AVal} {zv : AVal}
theorem scal_tup {vs : List AVal} (h : vs.all AVal.scalar = true) : ∀ v ∈ vs, ∀ l, v ≠ .tup l := by
  intro v hv l hl
  subst hl
  have := List.all_eq_true.1 h _ hv
  cases this
theorem op_buildArr {parts : Array (Nat × Operand)} (ho : o.op = .build t parts) (ht : arrT P t = some (n, e, 1)) (hz : zeroT P t = some z) (hzl : z.length = n) (hi : parts.toList.map (·.1) = List.range' 0 vs.length) (hl : vs.length = n)
    (hs : vs.all AVal.scalar = true) : OpV P o vs [] [] (.agg vs) [] := by
  have hp : placesT P t = some (fun i => some (i * 1, 1)) := by
    unfold arrT at ht
    unfold placesT
    cases hu : P.underlying t with
    | none => rw [hu] at ht; cases ht
    | some d =>
      cases d <;> rw [hu] at ht <;> simp only [reduceCtorEq] at ht
      case array n' e' =>
        cases hie : P.info? e' with
        | none => rw [hie] at ht; cases ht
        | some ie =>
          rw [hie] at ht
          simp only [Option.map_some, Option.some.injEq, Prod.mk.injEq] at ht
          simp only [hie, Option.map_some, ht.2.2]
  have hf := fillV_run vs 0 z (by omega) hs
  rw [← hi] at hf
  simp only [List.take_zero, List.nil_append, Nat.zero_add] at hf
  rw [List.drop_eq_nil_of_le (by omega), List.append_nil] at hf
  exact op_build ho hp hz hf (scal_tup hs)
theorem op_buildSlM {parts : Array (Nat × Operand)} (ho : o.op = .buildSlice t len parts) (ht : slT P t = some (e, 1, by')) (hz : zeroT P e = some [zv]) (hi : parts.toList.map (·.1) = List.range' 0 vs.length) (hl : vs.length = len)
    (hs : vs.all AVal.scalar = true) (hfit : len ≤ 16777216) : OpV P o vs [] [b] (.os b 0 len 1 true) [(b, .vec e vs)] := by
  have hf := fillV_run vs 0 (List.replicate len [zv]).flatten (by simp [hl]) hs
  rw [← hi] at hf
  simp only [List.take_zero, List.nil_append, Nat.zero_add] at hf
  rw [List.drop_eq_nil_of_le (by simp [hl]), List.append_nil] at hf
  exact op_buildSlice ho ht hz rfl (by omega) hf (scal_tup hs) (by omega) (by omega)
end
end Go.Kw

namespace Go.Kw
set_option linter.unusedVariables false
set_option linter.unusedSimpArgs false
variable {P : Program}
section
variable {α : Type} {f : α → AVal} {o : Oper} {x y z : Operand} {t e T : TypeId} {b k off lo len n : Nat} {l : List α} {full : Bool} {i j : Int} {q : IntKind} {by' : Nat} {cells : List AVal}
theorem op_loadP (ho : o.op = .load t x) (ht : aggT P t = some k) (hk : off + k ≤ l.length) :
    OpV P o [.ptr b off] [(b, .vec T (l.map f))] [] (.agg (((l.drop off).take k).map f)) [(b, .vec T (l.map f))] := by
  have := op_loadA (P := P) (b := b) (T := T) (off := off) (cells := l.map f) ho ht (by simpa using hk)
  simpa [List.map_take, List.map_drop] using this
theorem op_loadVP (ho : o.op = .load t x) (ht : aggT P t = some k) (hk : off + k ≤ l.length) : OpV P o [.vptr (l.map f) off] [] [] (.agg (((l.drop off).take k).map f)) [] := by
  have := op_loadVA (P := P) (off := off) (cells := l.map f) ho ht (by simpa using hk)
  simpa [List.map_take, List.map_drop] using this
theorem op_toArrM {arr : TypeId} [Inhabited α] (ho : o.op = .sliceToArrayPointer arr x) (ht : arrT P arr = some (n, e, 1)) (h1 : n ≤ l.length) (hc : 0 < n) : OpV P o [VS f full l] [] [] (.vptr (l.map f) 0) [] :=
  op_toArrV ho ht h1 (by intro h; simp at h; subst h; simp at h1; omega)
/-- part[:hi] of a slice in a block -/
theorem op_sO01 (hi : Nat) {z : Operand} (ho : o.op = .slice t x none (some z) none) (ht : slT P t = some (e, 1, by')) (h2 : j = hi) (hhi : hi ≤ len) (hp : 0 < hi ∨ 0 < len) :
    OpV P o [.os b lo len 1 full, .int q j] [] [] (.os b lo hi 1 false) [] := by
  subst h2
  refine op2 (x := x) (y := z) (by rw [ho]; simp [Op.operands]) fun ρ Im w a hv hu => ?_
  obtain ⟨hu1, hu2, _⟩ := slT_und ht
  simp only [VRel] at hv hu
  rcases hv with ⟨_, h0, _⟩ | ⟨c, cap, T', n', g1, g2, g3, g4, g5, g6⟩
  · omega
  have hr := run_bounds (P := P) (q := q) (w := w) (isS := true) (len := len) (cap := cap) (lo := none) (hi := some (hi : Int)) (mx := none) trivial (by simp [inB, bnd]; omega) (by simp [inB, bnd]) (by simp)
  refine ⟨.slice (some ⟨c, lo, none⟩) hi cap, ?_, ?_⟩
  · simp only [Option.map_none, Option.map_some] at hr
    simp [execOp, ho, g2, hu, Instr.sliceAt, Instr.slice, run_underlying hu1, hr, hu2, bnd, addr_add]
  · simp only [VRel]
    exact .inr ⟨c, cap, T', n', g1, rfl, by omega, by simp, g5, g6⟩
/-- int >> count, of a natural number -/
theorem op_shrN {m : Nat} (n : Nat) (ho : o.op = .binOp .shr t x y e) {q' : IntKind} (h : j = n ∧ n < 64) : OpV P o [.i (m : Nat), .int q' j] [] [] (.i ((m / 2 ^ n : Nat) : Int)) [] := by
  have := op_shrI (P := P) (a := (m : Nat)) (b := j) (k' := q') n ho h
  have e1 : ((m : Nat) : Int) / 2 ^ n = ((m / 2 ^ n : Nat) : Int) := by rw [Int.natCast_ediv, Int.natCast_pow]; rfl
  rwa [e1] at this
end
theorem ResOf.cellW {env : Env} {h : AHeap} {a : Nat} {t : TypeId} {b k : Nat} {T : TypeId} {cells : List AVal} (i : Nat) (he : env.get a = some (.ptr b 0)) (hi : h[i]? = some (b, .vec T cells)) (ht : aggT P t = some k)
    (hk : cells.length = k) : ResOf P env h (.cell a t) (.agg cells) := by
  have := ResOf.cell (P := P) i he hi ht (by omega)
  simpa [List.take_of_length_le (Nat.le_of_eq hk)] using this
end Go.Kw

namespace Go.Kw
set_option linter.unusedVariables false
set_option linter.unusedSimpArgs false
variable {P : Program}
section
variable {fn : Func} {n : Nat} {new : List Nat} {R : AVal → AHeap → Prop} {env : Env} {h : AHeap} {todo : List Item}
/-- A slice that is nil may be taken for an owned one, over a block that is not there. -/
theorem WP.own (t : Nat) (T : TypeId) (sz : Nat) (ht : env.get t = some (.vs 0 true [])) (hw : ∀ b, WP P fn n new R todo ((t, .os b 0 0 sz false) :: env) (h ++ [(b, .vec T [])])) : WP P fn n new R todo env h := by
  intro ρ Im w a b cs sup s fr he hn hd
  let b0 := sup 0
  let ρ' : Nat → Option Nat := fun x => if x = b0 then some 0 else ρ x
  have hb0 : ρ b0 = none := fr.free 0
  have hext : ∀ x c, ρ x = some c → ρ' x = some c := fun x c hx => by
    by_cases hxb : x = b0
    · rw [hxb, hb0] at hx; cases hx
    · simp [ρ', hxb, hx]
  have m : Mono ρ Im w ρ' Im w := { rho := hext, im := fun _ h => h, same := fun _ _ => rfl, shape := fun _ _ _ h => h }
  have hne : ∀ x y, (x, y) ∈ h → x ≠ b0 := fun x y hxy hx => by
    obtain ⟨c, hc⟩ := s.code hxy
    rw [hx, hb0] at hc; cases hc
  have s' : St P ρ' Im (h ++ [(b0, .vec T [])]) w := by
    refine { obj := ?_, nd := ?_, inj := ?_, im := s.im }
    · intro x y hxy
      rcases List.mem_append.1 hxy with hxy | hxy
      · rcases s.obj x y hxy with ⟨g1, g2⟩ | ⟨d, g1, g2, g3⟩
        · exact .inl ⟨hext x _ g1, g2⟩
        · exact .inr ⟨d, hext x _ g1, g2.mono m rfl, g3⟩
      · simp only [List.mem_singleton, Prod.mk.injEq] at hxy
        rw [hxy.1, hxy.2]
        exact .inl ⟨by simp [ρ'], by simp [AObj.void]⟩
    · rw [List.map_append, List.nodup_append]
      refine ⟨s.nd, by simp, ?_⟩
      intro x hx y hy hxy
      simp only [List.map_cons, List.map_nil, List.mem_singleton] at hy
      obtain ⟨⟨u, v⟩, h1, rfl⟩ := List.mem_map.1 hx
      exact hne u v h1 (by rw [← hy]; exact hxy)
    · intro x x' y y' d hx hx' h1 h1'
      rcases List.mem_append.1 hx with hx | hx <;> rcases List.mem_append.1 hx' with hx' | hx'
      · exact s.inj x x' y y' d hx hx' (by simpa [ρ', hne x y hx] using h1) (by simpa [ρ', hne x' y' hx'] using h1')
      · simp only [List.mem_singleton, Prod.mk.injEq] at hx'
        rw [hx'.1] at h1'; simp [ρ'] at h1'
      · simp only [List.mem_singleton, Prod.mk.injEq] at hx
        rw [hx.1] at h1; simp [ρ'] at h1
      · simp only [List.mem_singleton, Prod.mk.injEq] at hx hx'
        rw [hx.1, hx'.1]
  have fr' : Fresh ρ' new (fun i => sup (i + 1)) := by
    refine { named := ?_, free := ?_, inj := fun i j hij => by have := fr.inj _ _ hij; omega, apart := fun i => fr.apart _, nd := fr.nd }
    · intro x hx
      have : x ≠ b0 := fun hh => fr.apart 0 (by rw [← show b0 = sup 0 from rfl, ← hh]; exact hx)
      simp [ρ', this, fr.named x hx]
    · intro i
      have : sup (i + 1) ≠ b0 := fun hh => by have := fr.inj _ _ hh; omega
      simp [ρ', this, fr.free]
  have he' : EnvRel P ρ' Im w ((t, .os b0 0 0 sz false) :: env) a.tmps := by
    intro x v hx
    simp only [Env.get] at hx
    cases hb : Nat.beq t x with
    | true =>
      have := Nat.eq_of_beq_eq_true hb
      subst this
      simp only [hb, cond_true, Option.some.injEq] at hx
      subst hx
      have hv := he _ _ ht
      simp only [VRel] at hv ⊢
      obtain ⟨ad, cap, h1, h2, h3, _⟩ := hv
      have := h3 trivial
      subst this
      exact .inl ⟨⟨0, by simp [ρ']⟩, trivial, ad, h1⟩
    | false =>
      simp only [hb, cond_false] at hx
      exact (he _ _ hx).mono m
  obtain ⟨a', w', todo', g1, g2, v', v, h', ρ1, Im1, g3, g4, g5, g6⟩ := hw b0 ρ' Im w a b cs _ s' fr' he' hn hd
  refine ⟨a', w', todo', g1, g2, v', v, h', ρ1, Im1, g3, g4, g5, ?_⟩
  refine { size := g6.size, os := g6.os, out := g6.out, keep := ?_, rho := fun x c hx => g6.rho x c (hext x c hx), im := g6.im, imNew := ?_, shape := g6.shape, own := ?_, names := ?_, ok := ?_, st := g6.st }
  · intro c hlt hno
    refine g6.keep c hlt fun x y hxy => ?_
    rcases List.mem_append.1 hxy with hxy | hxy
    · intro hx
      exact hno x y hxy (by simpa [ρ', hne x y hxy] using hx)
    · simp only [List.mem_singleton, Prod.mk.injEq] at hxy
      rw [hxy.1]; simp [ρ']
  · intro c hc
    rcases g6.imNew c hc with h1 | ⟨x, y, hxy, hx⟩ | h1
    · exact .inl h1
    · rcases List.mem_append.1 hxy with hxy | hxy
      · exact .inr (.inl ⟨x, y, hxy, by simpa [ρ', hne x y hxy] using hx⟩)
      · simp only [List.mem_singleton, Prod.mk.injEq] at hxy
        rw [hxy.1] at hx; simp [ρ'] at hx
    · exact .inr (.inr h1)
  · intro x y c hxy hx
    rcases g6.own x y c hxy hx with ⟨x0, y0, h1, h2⟩ | h1
    · rcases List.mem_append.1 h1 with h1 | h1
      · exact .inl ⟨x0, y0, h1, by simpa [ρ', hne x0 y0 h1] using h2⟩
      · simp only [List.mem_singleton, Prod.mk.injEq] at h1
        rw [h1.1] at h2; simp [ρ'] at h2
    · exact .inr h1
  · intro x y hxy
    rcases g6.names x y hxy with ⟨y0, h1⟩ | h1
    · rcases List.mem_append.1 h1 with h1 | h1
      · exact .inl ⟨y0, h1⟩
      · simp only [List.mem_singleton, Prod.mk.injEq] at h1
        exact .inr (by rw [h1.1]; exact hb0)
    · refine .inr ?_
      cases hx : ρ x with
      | none => rfl
      | some c => rw [hext x c hx] at h1; cases h1
  · intro x hx
    rcases g6.ok x hx with h1 | h1
    · by_cases hxb : x = b0
      · exact .inr (.inr ⟨0, hxb⟩)
      · exact .inl (by simpa [ρ', hxb] using h1)
    · rcases h1 with h1 | ⟨i, h1⟩
      · exact .inr (.inl h1)
      · exact .inr (.inr ⟨i + 1, h1⟩)
end
end Go.Kw

namespace Go.Kw
set_option linter.unusedVariables false
set_option linter.unusedSimpArgs false
variable {P : Program}
section
variable {α : Type} {f : α → AVal} {o : Oper} {x y : Operand} {T : TypeId} {b len : Nat} {l l2 : List α} {full f' : Bool} {ts : Array TypeId}
theorem op_appL {b' bytes : Nat} (hs : ∀ a, (f a).scalar = true) (ho : o.op = .call { callee := .builtin .append, args := #[x, y], argTypes := ts }) (ht : appT P ts = some (T, 1, bytes)) (hl : l.length = len)
    (hfit : (len + l2.length) * bytes ≤ 140737488355328) :
    OpV P o [.os b 0 len 1 full, VS f f' l2] [(b, .vec T (l.map f))] [b'] (.os b' 0 (len + l2.length) 1 false) [(b', .vec T ((l ++ l2).map f))] := by
  subst hl
  have := op_appM (P := P) (b := b) (b' := b') (full := full) (f' := f') (l := l) (l2 := l2) hs ho ht hfit
  simpa [OS] using this
theorem op_appLO {b' bytes c lo n : Nat} {Tc : TypeId} (hs : ∀ a, (f a).scalar = true) (ho : o.op = .call { callee := .builtin .append, args := #[x, y], argTypes := ts }) (ht : appT P ts = some (T, 1, bytes)) (hl : l.length = len)
    (hn : lo + n ≤ l2.length) (hfit : (len + n) * bytes ≤ 140737488355328) :
    OpV P o [.os b 0 len 1 full, .os c lo n 1 f'] [(b, .vec T (l.map f)), (c, .vec Tc (l2.map f))] [b'] (.os b' 0 (len + n) 1 false)
      [(b', .vec T ((l ++ (l2.drop lo).take n).map f)), (c, .vec Tc (l2.map f))] := by
  subst hl
  have := op_appMO (P := P) (b := b) (b' := b') (c := c) (Tc := Tc) (full := full) (f' := f') (l := l) (l2 := l2) (lo := lo) (n := n) hs ho ht hn hfit
  have e1 : ((l2.drop lo).take n).length = n := by simp; omega
  simpa [OS, e1, Nat.min_eq_left (show n ≤ l2.length - lo by omega)] using this
end
end Go.Kw

namespace Go.Kw
set_option linter.unusedVariables false
set_option linter.unusedSimpArgs false
variable {P : Program}
section
variable {α : Type} {g : α → AVal} {f : FuncId} {args : List AVal} {h : AHeap} {T : TypeId} {l : List α} {len : Nat} {full : Bool} {v2 : AVal}
theorem frz_os {b : Nat} (hl : l.length = len) : Frz b (l.map g) (.os b 0 len 1 full) (VS g full l) := by
  have := Frz.os (b := b) (cells := l.map g) 0 len 1 full (by simp; omega)
  simpa [VS, hl, List.take_of_length_le (show (l.map g).length ≤ len by simp; omega)] using this
theorem cool1 (hc : ∀ b, ACalls P f args h [b] (.os b 0 len 1 full) (h ++ [(b, .vec T (l.map g))])) (hl : l.length = len) : ACalls P f args h [] (VS g full l) h :=
  ACalls.cool hc fun b => frz_os hl
theorem cool2 (hc : ∀ b, ACalls P f args h [b] (.tup [.os b 0 len 1 full, v2]) (h ++ [(b, .vec T (l.map g))])) (hl : l.length = len) : ACalls P f args h [] (.tup [VS g full l, v2]) h :=
  ACalls.cool hc fun b => .tup (.cons (frz_os hl) (.cons (.refl _) .nil))
theorem lend1 {b : Nat} {v : AVal} (hc : ACalls P f [VS g full l] [] [] v []) (hl : l.length = len) (hv : noRef v = true) : ACalls P f [.os b 0 len 1 full] [(b, .vec T (l.map g))] [] v [(b, .vec T (l.map g))] :=
  ACalls.lend hc (.cons (frz_os hl) .nil) hv rfl
end
end Go.Kw
