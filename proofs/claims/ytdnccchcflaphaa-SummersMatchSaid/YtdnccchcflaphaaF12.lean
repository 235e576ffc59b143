import Derived.Test.YtdnccchcflaphaaF11
import Derived.Laws.AppendOwn
namespace Go.Kw
set_option linter.unusedVariables false
set_option linter.unusedSimpArgs false
variable {P : Program}

section
variable {o : Oper} {x y z : Operand} {t t' T : TypeId} {v u : AVal} {b off k len sz n : Nat} {full : Bool} {cells vs : List AVal} {i : Int} {q : IntKind} {ts : Array TypeId}

/-! ### Built-in functions on values -/

theorem opB1 {bi : Builtin} (ho : o.op = .call { callee := .builtin bi, args := #[x], argTypes := ts })
    (h : ∀ ρ Im w (a : Act), VRel P ρ Im w u (a.eval x) → ∃ r, (∀ cs, (builtin bi ts o.type cs #[a.eval x]).run P w = .ok (.value r) w) ∧ VRel P ρ Im w v r) :
    OpV P o [u] [] [] v [] :=
  op1 (x := x) (by rw [ho]; simp [Op.operands, Call.operands]) fun ρ Im w a hv => by
    obtain ⟨r, h1, h2⟩ := h ρ Im w a hv
    refine ⟨r, ?_, h2⟩
    simp only [execOp, ho, resolve, invoke, Sem.run_bind, Sem.run_pure, Result.andThen_ok]
    simpa using h1 _

theorem op_len_s {t0 : TypeId} {e : TypeId} {by' : Nat} (ho : o.op = .call { callee := .builtin .len, args := #[x], argTypes := #[t0] }) (ht : slT P t0 = some (e, sz, by')) :
    OpV P o [.os b off len k full] [] [] (.i len) [] :=
  opB1 ho fun ρ Im w a hv => by
    obtain ⟨hu1, _⟩ := slT_und ht
    simp only [VRel] at hv ⊢
    refine ⟨_, fun cs => ?_, rfl⟩
    rcases hv with ⟨_, rfl, ad, h⟩ | ⟨c, cap, T, m, g1, h, g3⟩ <;> simp [h, builtin, Builtin.len_, run_underlying hu1, goInt]
theorem op_len_v {t0 : TypeId} {e : TypeId} {by' : Nat} (ho : o.op = .call { callee := .builtin .len, args := #[x], argTypes := #[t0] }) (ht : slT P t0 = some (e, sz, by')) :
    OpV P o [.vs len full cells] [] [] (.i len) [] :=
  opB1 ho fun ρ Im w a hv => by
    obtain ⟨hu1, _⟩ := slT_und ht
    simp only [VRel] at hv ⊢
    obtain ⟨ad, cap, h, _⟩ := hv
    exact ⟨_, fun cs => by simp [h, builtin, Builtin.len_, run_underlying hu1, goInt], rfl⟩
theorem op_len_str {t0 : TypeId} {s : List UInt8} (ho : o.op = .call { callee := .builtin .len, args := #[x], argTypes := #[t0] }) (ht : P.underlying t0 = some .string) :
    OpV P o [.str s] [] [] (.i s.length) [] :=
  opB1 ho fun ρ Im w a hv => by
    simp only [VRel] at hv ⊢
    exact ⟨.int .i64 s.length, fun cs => by simp [hv, builtin, Builtin.len_, run_underlying ht, goInt]; rfl, rfl⟩
theorem op_len_arr {t0 : TypeId} {e : TypeId} (ho : o.op = .call { callee := .builtin .len, args := #[x], argTypes := #[t0] }) (ht : arrT P t0 = some (n, e, sz)) :
    OpV P o [u] [] [] (.i n) [] :=
  opB1 ho fun ρ Im w a hv => by
    obtain ⟨hu1, _⟩ := arrT_und ht
    simp only [VRel]
    exact ⟨_, fun cs => by simp [builtin, Builtin.len_, run_underlying hu1, goInt], rfl⟩
theorem op_cap_v {t0 : TypeId} {e : TypeId} {by' : Nat} (ho : o.op = .call { callee := .builtin .cap, args := #[x], argTypes := #[t0] }) (ht : slT P t0 = some (e, sz, by')) :
    OpV P o [.vs len true cells] [] [] (.i len) [] :=
  opB1 ho fun ρ Im w a hv => by
    obtain ⟨hu1, _⟩ := slT_und ht
    simp only [VRel] at hv ⊢
    obtain ⟨ad, cap, h, _, h3, _⟩ := hv
    have := h3 trivial
    subst this
    exact ⟨_, fun cs => by simp [h, builtin, Builtin.cap_, run_underlying hu1, goInt], rfl⟩

theorem op_min {a b : Int} (ho : o.op = .call { callee := .builtin .min, args := #[x, y], argTypes := ts }) : OpV P o [.int q a, .int q b] [] [] (.int q (min a b)) [] :=
  op2 (x := x) (y := y) (by rw [ho]; simp [Op.operands, Call.operands]) fun ρ Im w ac hv hu => by
    simp only [VRel] at hv hu ⊢
    refine ⟨_, ?_, rfl⟩
    have : (if b < a then b else a) = min a b := by rw [Int.min_def]; split <;> split <;> omega
    simp [execOp, ho, resolve, invoke, builtin, Builtin.min_, hv, hu, Builtin.min2, List.foldlM, this]

/-! ### Append -/

/-- What append takes from its second argument. -/
def SrcOf (P : Program) (ρ : Nat → Option Nat) (Im : Nat → Prop) (w : World) (sz n : Nat) (new : List AVal) (r : Value) : Prop :=
  (∀ w', (Builtin.lenOf r).run P w' = .ok n w') ∧ new.length = n * sz ∧
    ∃ vals : List Value, (∀ w', (∀ c, c < w.heap.size → w'.heap[c]? = w.heap[c]?) → (Builtin.firstCells sz n r).run P w' = .ok vals.toArray w') ∧ VRels P ρ Im w new vals

theorem srcOf_vs {ρ Im w} {r : Value} {h : AHeap} (s : St P ρ Im h w) (hv : VRel P ρ Im w (.vs n full cells) r) (hc : cells.length = n * sz) : SrcOf P ρ Im w sz n cells r := by
  simp only [VRel] at hv
  obtain ⟨ad, cap, rfl, h2, h3, h4⟩ := hv
  refine ⟨fun w' => by simp [Builtin.lenOf], hc, ?_⟩
  rcases h4 with rfl | ⟨c, base, vals, rfl, g1, g2, g3⟩
  · refine ⟨[], ?_, by simp [VRels]⟩
    intro w' _
    have h0 : n * sz = 0 := by simpa using hc.symm
    cases ad with
    | none => simp [Builtin.firstCells]
    | some a => simp [Builtin.firstCells, h0, loadCells, loadCellsFrom]
  · refine ⟨vals, ?_, g3⟩
    intro w' hw'
    have hl := g3.length
    have hc' : w'.heap[c]? = w.heap[c]? := hw' c (s.im c g1)
    have := run_loadReads (P := P) (off := 0) (k := n * sz) (g2.mono hc') (by omega)
    simp only [Nat.add_zero, List.drop_zero] at this
    rw [List.take_of_length_le (by omega)] at this
    simpa [Builtin.firstCells] using this
theorem extract_all (s : List UInt8) : ((⟨s.toArray⟩ : ByteArray).extract 0 s.length) = ⟨s.toArray⟩ := by
  have : s.length = (⟨s.toArray⟩ : ByteArray).size := rfl
  rw [this]
  exact ByteArray.extract_zero_size
theorem srcOf_str {ρ Im w} {r : Value} {s : List UInt8} (hv : VRel P ρ Im w (.str s) r) : SrcOf P ρ Im w 1 s.length (s.map AVal.u8) r := by
  simp only [VRel] at hv
  subst hv
  refine ⟨fun w' => by simp only [Builtin.lenOf]; rfl, by simp, s.map fun c => .int .u8 (c.toNat : Int), ?_, ?_⟩
  · intro w' _
    simp only [Builtin.firstCells, extract_all]
    simp
  · induction s with
    | nil => simp [VRels]
    | cons c s ih => simp only [List.map_cons, VRels]; exact ⟨_, _, rfl, by simp [VRel], ih⟩
theorem srcOf_os {ρ Im w} {r : Value} {c : Nat} {Tc : TypeId} {cs2 : List AVal} {offc : Nat} {h : AHeap} (s : St P ρ Im h w) (hm : (c, .vec Tc cs2) ∈ h) (hv : VRel P ρ Im w (.os c offc n sz full) r)
    (hc : offc + n * sz ≤ cs2.length) : SrcOf P ρ Im w sz n ((cs2.drop offc).take (n * sz)) r := by
  have s' : St P ρ Im [(c, .vec Tc cs2)] w := s.sub (List.singleton_sublist.2 hm)
  have hlen : ((cs2.drop offc).take (n * sz)).length = n * sz := by simp; omega
  simp only [VRel] at hv
  rcases hv with ⟨_, rfl, ad, rfl⟩ | ⟨d, cap, T', m, g1, rfl, g3⟩
  · refine ⟨fun w' => by simp [Builtin.lenOf], hlen, [], ?_, by simp [VRels]⟩
    intro w' _
    cases ad with
    | none => simp [Builtin.firstCells]
    | some a => simp [Builtin.firstCells, loadCells, loadCellsFrom]
  · refine ⟨fun w' => by simp [Builtin.lenOf], hlen, ?_⟩
    obtain ⟨d', cs, fz, vals, k1, k2, k3, k4, k5, k6⟩ := s'.at (off := 0) (v := .pointer (some ⟨d, 0, none⟩)) (by simp only [VRel]; exact ⟨d, g1, rfl⟩)
    rw [g1] at k1
    cases k1
    have hl := k6.length
    refine ⟨(vals.drop offc).take (n * sz), ?_, (k6.drop _).take _⟩
    intro w' hw'
    have hlt : d < w.heap.size := (Array.getElem?_eq_some_iff.1 k3).1
    have k3' : w'.heap[d]? = some (.cells cs Tc fz) := by rw [hw' d hlt, k3]
    have := run_loadVec (P := P) (k := n * sz) (off := offc) k3' k5 (by omega)
    simpa [Builtin.firstCells] using this

/-- The types at an append: its slice's element type, that type's cells and bytes. -/
def appT (P : Program) (ts : Array TypeId) : Option (TypeId × Nat × Nat) :=
  match ts[0]?, (ts[1]?).bind P.underlying with
  | some t0, some d => match d with
    | .slice _ | .string => match slT P t0 with
      | some (e, sz, by') => match (P.info? e).bind (·.zero) with
        | some z => if z.cells.size = sz ∧ 0 < by' then some (e, sz, by') else none
        | none => none
      | none => none
    | _ => none
  | _, _ => none

structure AppT (P : Program) (ts : Array TypeId) (T : TypeId) (sz bytes : Nat) (t0 t1 : TypeId) (i : TypeInfo) (z : Value) : Prop where
  h0 : ts[0]? = some t0
  h1 : ts[1]? = some t1
  und : P.underlying t0 = some (.slice T)
  und1 : (∃ e, P.underlying t1 = some (.slice e)) ∨ P.underlying t1 = some .string
  info : P.info? T = some i
  hsize : i.size = sz
  hbytes : i.bytes = bytes
  zero : i.zero = some z
  zsize : z.cells.size = sz
  pos : 0 < bytes

theorem appT_spec {bytes : Nat} (h : appT P ts = some (T, sz, bytes)) : ∃ t0 t1 i z, AppT P ts T sz bytes t0 t1 i z := by
  unfold appT at h
  cases h0 : ts[0]? with
  | none => rw [h0] at h; cases h
  | some t0 =>
    rw [h0] at h
    cases h1 : ts[1]? with
    | none => rw [h1] at h; cases h
    | some t1 =>
      rw [h1] at h
      simp only [Option.bind_some] at h
      cases hu : P.underlying t1 with
      | none => rw [hu] at h; cases h
      | some d =>
        rw [hu] at h
        have key : (match slT P t0 with
            | some (e, sz, by') => match (P.info? e).bind (·.zero) with
              | some z => if z.cells.size = sz ∧ 0 < by' then some (e, sz, by') else none
              | none => none
            | none => none) = some (T, sz, bytes) → ((∃ e, P.underlying t1 = some (.slice e)) ∨ P.underlying t1 = some .string) → ∃ t0 t1 i z, AppT P ts T sz bytes t0 t1 i z := by
          intro h hund
          split at h
          · rename_i e sz' by' hsl
            split at h
            · rename_i z hz
              split at h
              · rename_i hcond
                simp only [Option.some.injEq, Prod.mk.injEq] at h
                obtain ⟨rfl, rfl, rfl⟩ := h
                obtain ⟨g1, _, i, g2, g3, g4⟩ := slT_und hsl
                rw [g2] at hz
                simp only [Option.bind_some] at hz
                exact ⟨t0, t1, i, z, ⟨h0, h1, g1, hund, g2, g3, g4, hz, hcond.1, hcond.2⟩⟩
              · cases h
            · cases h
          · cases h
        cases d <;> first | (cases h; done) | exact key h (.inl ⟨_, hu⟩) | exact key h (.inr hu)

theorem run_append_fits {w : World} {bytes len cap : Nat} {r : Value} {ad : Option Addr} {ty t0 t1 : TypeId} {i : TypeInfo} {z : Value} (hT : AppT P ts T sz bytes t0 t1 i z)
    (hlen : ∀ w', (Builtin.lenOf r).run P w' = .ok n w') (hneed : len + n ≤ cap) {new : List Value} (hnew : (Builtin.firstCells sz n r).run P w = .ok new.toArray w) :
    (Builtin.append_ ts ty #[.slice ad len cap, r]).run P w =
      (match ad with | some a => (storeCells (a.add (len * sz)) new).run P w | none => .ok () w).andThen fun _ w' => .ok (.slice ad (len + n) cap) w' := by
  have hsize := hT.hsize
  subst hsize
  simp only [Builtin.append_, hT.h0, hT.h1]
  rcases hT.und1 with ⟨e, hu⟩ | hu <;> cases ad <;> simp [run_underlying hT.und, run_underlying hu, sizeOf, typeInfo, hT.info, hlen, hneed, hnew]

theorem run_append_new {w : World} {bytes len cap : Nat} {r : Value} {ad : Option Addr} {old new : List Value} {ty t0 t1 : TypeId} {i : TypeInfo} {z : Value} (hT : AppT P ts T sz bytes t0 t1 i z)
    (hlen : ∀ w', (Builtin.lenOf r).run P w' = .ok n w') (hneed : cap < len + n) (hfit : (len + n) * bytes ≤ 140737488355328)
    (hold : ∀ w', (∀ c, c < w.heap.size → w'.heap[c]? = w.heap[c]?) → (Builtin.firstCells sz len (.slice ad len cap)).run P w' = .ok old.toArray w')
    (hnew : ∀ w', (∀ c, c < w.heap.size → w'.heap[c]? = w.heap[c]?) → (Builtin.firstCells sz n r).run P w' = .ok new.toArray w') (hol : old.length = len * sz) (hnl : new.length = n * sz) :
    ∃ cap' rest, len + n ≤ cap' ∧ (len + n) * sz + rest.size = cap' * sz ∧
      (Builtin.append_ ts ty #[.slice ad len cap, r]).run P w = .ok (.slice (some ⟨w.heap.size, 0, none⟩) (len + n) cap')
        (w.drew.alloc (.cells ((old ++ new).toArray ++ rest) T (0, 0))) := by
  have hsize := hT.hsize
  have hbytes := hT.hbytes
  subst hsize
  subst hbytes
  have hn : ¬ (len + n ≤ cap) := by omega
  have h48 : ¬ (281474976710656 < Builtin.nextslicecap (len + n) cap * i.bytes) := by
    have := growslice_fits (old := cap) hneed hfit
    omega
  have hb := hT.pos
  have hb0 : i.bytes ≠ 0 := by omega
  have hge := grownCap_ge w (len + n) cap T
  refine ⟨grownCap w (len + n) cap T, Builtin.zeroCells z.cells (grownCap w (len + n) cap T - (len + n)), hge, ?_, ?_⟩
  · rw [size_zeroCells, hT.zsize, ← Nat.add_mul]
    congr 1; omega
  · have h1 := hold w.drew (fun _ _ => rfl)
    have h2 := hnew w.drew (fun _ _ => rfl)
    simp only [Builtin.append_, hT.h0, hT.h1]
    rcases hT.und1 with ⟨e, hu⟩ | hu <;> simp [run_underlying hT.und, run_underlying hu, sizeOf, typeInfo, hT.info, hlen, hn, hb0, h48, Question.forced, zeroValue, hT.zero, newRow, h1, h2, grownCap]
    all_goals rw [show (old ++ new).toArray = old.toArray ++ new.toArray by simp, Array.append_assoc]
theorem Ev.drew {ρ Im h w ok} (s : St P ρ Im h w) : Ev P ρ Im h w ok ρ Im h w.drew := Ev.drawn _ s

/-- A grown row under a new name. -/
theorem Ev.grown {ρ Im w sup} {b : Nat} {cells : List AVal} {vals : List Value} {rest : Array Value} (s : St P ρ Im [] w) (fr : Fresh ρ [b] sup) (hc : VRels P ρ Im w cells vals) :
    Ev P ρ Im [] w (okOf [b] sup) (fun x => if x = b then some (w.heap.size + 1) else ρ x) Im [(b, .vec T cells)] (w.drew.alloc (.cells (vals.toArray ++ rest) T (0, 0))) := by
  have s' : St P ρ Im [] w.drew := s.drawn _
  have m : Mono ρ Im w ρ Im w.drew := (Ev.drew s (ok := fun _ => True)).mono s
  have e := Ev.pushRow (T := T) (cs := vals.toArray ++ rest) s' fr (0, 0) (fun i _ => by simp) (vals := vals) (fun i hi => by simp [Array.getElem?_append, hi]) (hc.mono m)
  exact (Ev.drew s).trans e

/-- The result of an append that stays in its row or makes a new one. -/
theorem append_core {ρ Im w sup} {b b' bytes : Nat} {new : List AVal} {r v0 : Value} {ty t0 t1 : TypeId} {i : TypeInfo} {z : Value} (hT : AppT P ts T sz bytes t0 t1 i z)
    (s : St P ρ Im [(b, .vec T cells)] w) (fr : Fresh ρ [b'] sup) (hv : VRel P ρ Im w (.os b 0 len sz full) v0) (hcl : cells.length = len * sz) (hsrc : SrcOf P ρ Im w sz n new r)
    (hone : new.all AVal.scalar = true) (hfit : (len + n) * bytes ≤ 140737488355328) :
    ∃ v' w' ρ', (Builtin.append_ ts ty #[v0, r]).run P w = .ok v' w' ∧ VRel P ρ' Im w' (.os b' 0 (len + n) sz false) v' ∧
      Ev P ρ Im [(b, .vec T cells)] w (okOf [b'] sup) ρ' Im [(b', .vec T (cells ++ new))] w' := by
  obtain ⟨hl1, hl2, newv, hf, hnv⟩ := hsrc
  have hnl := hnv.length
  have s0 : St P ρ Im [] w := s.sub (List.nil_sublist _)
  -- a new row
  have grow : ∀ (ad : Option Addr) (cap : Nat) (oldv : List Value), v0 = .slice ad len cap → cap < len + n → VRels P ρ Im w cells oldv →
      (∀ w', (∀ c, c < w.heap.size → w'.heap[c]? = w.heap[c]?) → (Builtin.firstCells sz len (.slice ad len cap)).run P w' = .ok oldv.toArray w') →
      ∃ v' w' ρ', (Builtin.append_ ts ty #[v0, r]).run P w = .ok v' w' ∧ VRel P ρ' Im w' (.os b' 0 (len + n) sz false) v' ∧
        Ev P ρ Im [(b, .vec T cells)] w (okOf [b'] sup) ρ' Im [(b', .vec T (cells ++ new))] w' := by
    intro ad cap oldv hv0 hcap hov hold
    have hol := hov.length
    obtain ⟨cap', rest, g1, g2, g3⟩ := run_append_new (P := P) (w := w) (ty := ty) hT hl1 hcap hfit hold hf (by omega) (by omega)
    have e := Ev.grown (T := T) (rest := rest) s0 fr (hov.append hnv)
    have e' := (e.frame (R := [(b, .vec T cells)]) s).subR (h0 := [(b', .vec T (cells ++ new))]) (by simp)
    refine ⟨_, _, _, by rw [hv0]; exact g3, ?_, e'⟩
    simp only [VRel]
    refine .inr ⟨w.heap.size, cap', T, cap' * sz, by simp, rfl, g1, by simp, ?_, by simp⟩
    have : (oldv ++ newv).length = (len + n) * sz := by simp [hol, hnl, hcl, hl2, Nat.add_mul]
    simp only [World.shape?, World.alloc, World.drew, Array.getElem?_push_size, Option.some.injEq, Prod.mk.injEq, true_and]
    simp only [Array.size_append, List.size_toArray, this]
    exact g2
  simp only [VRel] at hv
  rcases hv with ⟨⟨code, hcode⟩, rfl, ad, rfl⟩ | ⟨c, cap, T', m, g1, rfl, g3, g4, g5, g6⟩
  · have hc0 : cells = [] := List.eq_nil_of_length_eq_zero (by simpa using hcl)
    subst hc0
    by_cases hn : n = 0
    · subst hn
      have hn0 : new = [] := List.eq_nil_of_length_eq_zero (by simpa using hl2)
      subst hn0
      have hn1 : newv = [] := List.eq_nil_of_length_eq_zero (by simpa using hnl)
      subst hn1
      obtain ⟨ρ'', e', hext, hb''⟩ := (Ev.refl s (ok := okOf [b'] sup)).rename (i := 0) (b := b) (b' := b') (o := .vec T []) rfl (fr.named b' (by simp)) (.inl (by simp))
      refine ⟨.slice ad 0 0, w, ρ'', ?_, ?_, by simpa using e'⟩
      · have := run_append_fits (P := P) (w := w) (ty := ty) (len := 0) (cap := 0) (ad := ad) hT hl1 (by omega) (hf w fun _ _ => rfl)
        rw [this]
        cases ad <;> simp [storeCells]
      · simp only [VRel]
        exact .inl ⟨⟨code, by rw [hb'', hcode]⟩, trivial, ad, rfl⟩
    · refine grow ad 0 [] rfl (by omega) (by simp [VRels]) ?_
      intro w' _
      cases ad <;> simp [Builtin.firstCells, loadCells, loadCellsFrom]
  · obtain ⟨c', cs, fz, vals, k1, k2, k3, k4, k5, k6⟩ := s.at (off := 0) (v := .pointer (some ⟨c, 0, none⟩)) (by simp only [VRel]; exact ⟨c, g1, rfl⟩)
    rw [g1] at k1
    cases k1
    have hvl := k6.length
    obtain ⟨rr, hrr⟩ := pre_of k5
    have hsz : cs.size = vals.length + rr.length := by rw [← Array.length_toList, hrr, List.length_append]
    have hm : m = cs.size := by
      simp only [World.shape?, k3, Option.some.injEq, Prod.mk.injEq] at g5
      exact g5.2.symm
    subst hm
    by_cases hroom : len + n ≤ cap
    · have hle : (len + n) * sz ≤ cap * sz := Nat.mul_le_mul_right _ hroom
      rw [Nat.add_mul] at hle
      have hst := run_storeCells_vec (P := P) c (len * sz) T fz newv 0 cs w k3 k4 (by omega) (hnv.oneCell hone)
      simp only [Nat.add_zero] at hst
      have hcs' : (cs.toList.take (len * sz) ++ newv ++ cs.toList.drop (len * sz + newv.length)).toArray.size = cs.size := by simp; omega
      have e := Ev.row (cs' := (cs.toList.take (len * sz) ++ newv ++ cs.toList.drop (len * sz + newv.length)).toArray) (ok := okOf [b'] sup) s g1 k3 k4 hcs' (cells' := cells ++ new) (vals := vals ++ newv) (by
          intro j hj
          rw [List.getElem?_toArray]
          have e1 : cs.toList.take (len * sz) = vals := by
            rw [hrr, List.take_append_of_le_length (by omega), List.take_of_length_le (by omega)]
          rw [e1, List.getElem?_append_left hj, List.getElem?_eq_getElem hj]) (k6.append hnv)
      obtain ⟨ρ'', e', hext, hb''⟩ := e.rename (i := 0) (b := b) (b' := b') (o := .vec T (cells ++ new)) rfl (fr.named b' (by simp)) (.inl (by simp))
      refine ⟨.slice (some ⟨c, 0, none⟩) (len + n) cap, w.setRow c (cs.toList.take (len * sz) ++ newv ++ cs.toList.drop (len * sz + newv.length)).toArray, ρ'', ?_, ?_, e'⟩
      · have := run_append_fits (P := P) (w := w) (ty := ty) (len := len) (cap := cap) (ad := some ⟨c, 0, none⟩) hT hl1 hroom (hf w fun _ _ => rfl)
        rw [this]
        simp only [addr_add, Nat.zero_add, hst, Result.andThen_ok]
      · simp only [VRel]
        refine .inr ⟨c, cap, T', cs.size, by rw [hb'', g1], rfl, hroom, by simp, ?_, g6⟩
        exact e.shape c T' cs.size g5
    · refine grow (some ⟨c, 0, none⟩) cap vals rfl (by omega) k6 ?_
      intro w' hw'
      have hlt : c < w.heap.size := (Array.getElem?_eq_some_iff.1 k3).1
      have k3' : w'.heap[c]? = some (.cells cs T fz) := by rw [hw' c hlt, k3]
      have := run_loadVec (P := P) (k := len * sz) (off := 0) k3' k5 (by omega)
      simp only [List.drop_zero] at this
      rw [List.take_of_length_le (by omega)] at this
      simpa [Builtin.firstCells] using this

/-- An append onto data that has no room: the result is a new row. -/
theorem append_coreV {ρ Im w sup} {b' bytes : Nat} {new : List AVal} {r v0 : Value} {ty t0 t1 : TypeId} {i : TypeInfo} {z : Value} (hT : AppT P ts T sz bytes t0 t1 i z)
    (s : St P ρ Im [] w) (fr : Fresh ρ [b'] sup) (hv : VRel P ρ Im w (.vs len true cells) v0) (hcl : cells.length = len * sz) (hsrc : SrcOf P ρ Im w sz n new r)
    (hn : len = 0 ∨ 0 < n) (hfit : (len + n) * bytes ≤ 140737488355328) :
    ∃ v' w' ρ', (Builtin.append_ ts ty #[v0, r]).run P w = .ok v' w' ∧ VRel P ρ' Im w' (.os b' 0 (len + n) sz false) v' ∧
      Ev P ρ Im [] w (okOf [b'] sup) ρ' Im [(b', .vec T (cells ++ new))] w' := by
  have hsrc0 := srcOf_vs s hv hcl
  obtain ⟨hl1, hl2, newv, hf, hnv⟩ := hsrc
  obtain ⟨_, _, oldv, hof, hov⟩ := hsrc0
  have hnl := hnv.length
  have hol := hov.length
  simp only [VRel] at hv
  obtain ⟨ad, cap, rfl, g2, g3, g4⟩ := hv
  have hcap := g3 trivial
  subst hcap
  by_cases hn0 : n = 0
  · subst hn0
    have hl0 : cap = 0 := by omega
    subst hl0
    have hc0 : cells = [] := List.eq_nil_of_length_eq_zero (by simpa using hcl)
    have hn0 : new = [] := List.eq_nil_of_length_eq_zero (by simpa using hl2)
    subst hn0; subst hc0
    have hn1 : newv = [] := List.eq_nil_of_length_eq_zero (by simpa using hnl)
    subst hn1
    have hb' : ρ b' = none := fr.named b' (by simp)
    let ρ' : Nat → Option Nat := fun x => if x = b' then some 0 else ρ x
    have hext : ∀ x d, ρ x = some d → ρ' x = some d := fun x d hx => by
      by_cases hxb : x = b'
      · subst hxb; rw [hb'] at hx; cases hx
      · simp [ρ', hxb, hx]
    refine ⟨.slice ad 0 0, w, ρ', ?_, ?_, ?_⟩
    · have := run_append_fits (P := P) (w := w) (ty := ty) (len := 0) (cap := 0) (ad := ad) hT hl1 (by omega) (hf w fun _ _ => rfl)
      rw [this]
      cases ad <;> simp [storeCells]
    · simp only [VRel]
      exact .inl ⟨⟨0, by simp [ρ']⟩, trivial, ad, rfl⟩
    · refine { size := Nat.le_refl _, os := rfl, out := rfl, keep := fun _ _ _ => rfl, rho := hext, im := fun _ h => h, imNew := fun _ h => .inl h, shape := fun _ _ _ h => h, own := ?_, names := ?_, ok := ?_, st := ?_ }
      · intro x y d hxy hd
        simp only [List.append_nil, List.mem_singleton, Prod.mk.injEq] at hxy
        obtain ⟨rfl, rfl⟩ := hxy
        simp [ρ'] at hd
      · intro x y hxy
        simp only [List.append_nil, List.mem_singleton, Prod.mk.injEq] at hxy
        obtain ⟨rfl, rfl⟩ := hxy
        exact .inr hb'
      · intro x hx
        by_cases hxb : x = b'
        · subst hxb; exact .inr (.inl (by simp))
        · exact .inl (by simpa [ρ', hxb] using hx)
      · refine { obj := ?_, nd := by simp, inj := ?_, im := s.im }
        · intro x y hxy
          simp only [List.append_nil, List.mem_singleton, Prod.mk.injEq] at hxy
          obtain ⟨rfl, rfl⟩ := hxy
          exact .inl ⟨by simp [ρ'], rfl⟩
        · intro x x' y y' d hx hx' _ _
          simp only [List.append_nil, List.mem_singleton, Prod.mk.injEq] at hx hx'
          rw [hx.1, hx'.1]
  · obtain ⟨cap', rest, k1, k2, k3⟩ := run_append_new (P := P) (w := w) (ty := ty) (len := cap) (cap := cap) (ad := ad) hT hl1 (by omega) hfit hof hf (by omega) (by omega)
    have e := Ev.grown (T := T) (rest := rest) s fr (hov.append hnv)
    refine ⟨_, _, _, k3, ?_, e⟩
    simp only [VRel]
    refine .inr ⟨w.heap.size, cap', T, cap' * sz, by simp, rfl, k1, by simp, ?_, by simp⟩
    have : (oldv ++ newv).length = (cap + n) * sz := by simp [hol, hnl, hcl, hl2, Nat.add_mul]
    simp only [World.shape?, World.alloc, World.drew, Array.getElem?_push_size, Option.some.injEq, Prod.mk.injEq, true_and]
    simp only [Array.size_append, List.size_toArray, this]
    exact k2

theorem opApp {F F' : AHeap} {b' : Nat} (ho : o.op = .call { callee := .builtin .append, args := #[x, y], argTypes := ts })
    (h : ∀ ρ Im w (a : Act) sup, St P ρ Im F w → Fresh ρ [b'] sup → VRel P ρ Im w v (a.eval x) → VRel P ρ Im w u (a.eval y) →
      ∃ v' w' ρ', (Builtin.append_ ts o.type #[a.eval x, a.eval y]).run P w = .ok v' w' ∧ VRel P ρ' Im w' (.os b' 0 (len + n) sz false) v' ∧ Ev P ρ Im F w (okOf [b'] sup) ρ' Im F' w') :
    OpV P o [v, u] F [b'] (.os b' 0 (len + n) sz false) F' := by
  refine OpV.value fun ρ Im w a sup s fr hv => ?_
  rw [Array.toList_map, ho] at hv
  obtain ⟨r, r', hr, hv, hu⟩ := VRels.two.1 hv
  simp only [Op.operands, Call.operands, Array.empty_append, List.map_cons, List.map_nil, List.cons.injEq, and_true] at hr
  obtain ⟨rfl, rfl⟩ := hr
  obtain ⟨v', w', ρ', h1, h2, h3⟩ := h ρ Im w a sup s fr hv hu
  exact ⟨v', w', ρ', Im, by simp [execOp, ho, resolve, invoke, builtin, h1], h2, h3⟩

/-- out = append(out, data...) -/
theorem op_appV {b' bytes : Nat} {f' : Bool} {new : List AVal} (ho : o.op = .call { callee := .builtin .append, args := #[x, y], argTypes := ts }) (ht : appT P ts = some (T, sz, bytes))
    (hc : cells.length = len * sz) (hn : new.length = n * sz) (hone : new.all AVal.scalar = true) (hfit : (len + n) * bytes ≤ 140737488355328) :
    OpV P o [.os b 0 len sz full, .vs n f' new] [(b, .vec T cells)] [b'] (.os b' 0 (len + n) sz false) [(b', .vec T (cells ++ new))] := by
  obtain ⟨t0, t1, i, z, hT⟩ := appT_spec ht
  exact opApp ho fun ρ Im w a sup s fr hv hu => append_core hT s fr hv hc (srcOf_vs s hu hn) hone hfit
theorem op_appS {b' bytes : Nat} {l : List UInt8} (ho : o.op = .call { callee := .builtin .append, args := #[x, y], argTypes := ts }) (ht : appT P ts = some (T, 1, bytes))
    (hc : cells.length = len) (hfit : (len + l.length) * bytes ≤ 140737488355328) :
    OpV P o [.os b 0 len 1 full, .str l] [(b, .vec T cells)] [b'] (.os b' 0 (len + l.length) 1 false) [(b', .vec T (cells ++ l.map AVal.u8))] := by
  obtain ⟨t0, t1, i, z, hT⟩ := appT_spec ht
  exact opApp ho fun ρ Im w a sup s fr hv hu => append_core hT s fr hv (by omega) (srcOf_str hu) (by simp [AVal.scalar]) hfit
/-- out = append(out, other...), other a slice in another block -/
theorem op_appO {b' bytes c offc : Nat} {Tc : TypeId} {cs2 : List AVal} {f' : Bool} (ho : o.op = .call { callee := .builtin .append, args := #[x, y], argTypes := ts }) (ht : appT P ts = some (T, sz, bytes))
    (hc : cells.length = len * sz) (hn : offc + n * sz ≤ cs2.length) (hone : ((cs2.drop offc).take (n * sz)).all AVal.scalar = true) (hfit : (len + n) * bytes ≤ 140737488355328) :
    OpV P o [.os b 0 len sz full, .os c offc n sz f'] [(b, .vec T cells), (c, .vec Tc cs2)] [b'] (.os b' 0 (len + n) sz false)
      [(b', .vec T (cells ++ (cs2.drop offc).take (n * sz))), (c, .vec Tc cs2)] := by
  obtain ⟨t0, t1, i, z, hT⟩ := appT_spec ht
  refine opApp ho fun ρ Im w a sup s fr hv hu => ?_
  obtain ⟨v', w', ρ', h1, h2, h3⟩ := append_core hT (s.sub (by simp)) fr hv hc (srcOf_os s (List.mem_cons_of_mem _ (List.mem_singleton_self _)) hu hn) hone hfit
  exact ⟨v', w', ρ', h1, h2, h3.frame (R := [(c, .vec Tc cs2)]) s⟩
/-- append(data, ..): data without room -/
theorem op_appVV {b' bytes : Nat} {f' : Bool} {new : List AVal} (ho : o.op = .call { callee := .builtin .append, args := #[x, y], argTypes := ts }) (ht : appT P ts = some (T, sz, bytes))
    (hc : cells.length = len * sz) (hn : new.length = n * sz) (h0 : len = 0 ∨ 0 < n) (hfit : (len + n) * bytes ≤ 140737488355328) :
    OpV P o [.vs len true cells, .vs n f' new] [] [b'] (.os b' 0 (len + n) sz false) [(b', .vec T (cells ++ new))] := by
  obtain ⟨t0, t1, i, z, hT⟩ := appT_spec ht
  exact opApp ho fun ρ Im w a sup s fr hv hu => append_coreV hT s fr hv hc (srcOf_vs s hu hn) h0 hfit
theorem op_appVS {b' bytes : Nat} {l : List UInt8} (ho : o.op = .call { callee := .builtin .append, args := #[x, y], argTypes := ts }) (ht : appT P ts = some (T, 1, bytes))
    (hc : cells.length = len) (h0 : len = 0 ∨ 0 < l.length) (hfit : (len + l.length) * bytes ≤ 140737488355328) :
    OpV P o [.vs len true cells, .str l] [] [b'] (.os b' 0 (len + l.length) 1 false) [(b', .vec T (cells ++ l.map AVal.u8))] := by
  obtain ⟨t0, t1, i, z, hT⟩ := appT_spec ht
  exact opApp ho fun ρ Im w a sup s fr hv hu => append_coreV hT s fr hv (by omega) (srcOf_str hu) h0 hfit
theorem op_appVO {b' bytes c offc : Nat} {Tc : TypeId} {cs2 : List AVal} {f' : Bool} (ho : o.op = .call { callee := .builtin .append, args := #[x, y], argTypes := ts }) (ht : appT P ts = some (T, sz, bytes))
    (hc : cells.length = len * sz) (hn : offc + n * sz ≤ cs2.length) (h0 : len = 0 ∨ 0 < n) (hfit : (len + n) * bytes ≤ 140737488355328) :
    OpV P o [.vs len true cells, .os c offc n sz f'] [(c, .vec Tc cs2)] [b'] (.os b' 0 (len + n) sz false) [(c, .vec Tc cs2), (b', .vec T (cells ++ (cs2.drop offc).take (n * sz)))] := by
  obtain ⟨t0, t1, i, z, hT⟩ := appT_spec ht
  refine opApp ho fun ρ Im w a sup s fr hv hu => ?_
  obtain ⟨v', w', ρ', h1, h2, h3⟩ := append_coreV hT (s.sub (List.nil_sublist _)) fr hv hc (srcOf_os s (List.mem_singleton_self _) hu hn) h0 hfit
  exact ⟨v', w', ρ', h1, h2, (h3.frame (R := [(c, .vec Tc cs2)]) s).permR (List.Perm.swap _ _ _)⟩
end
end Go.Kw
