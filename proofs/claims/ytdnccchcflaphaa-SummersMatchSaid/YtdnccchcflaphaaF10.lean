import Derived.Test.YtdnccchcflaphaaF9
namespace Go.Kw
set_option linter.unusedVariables false
set_option linter.unusedSimpArgs false
variable {P : Program}

/-! ### Closed facts on types -/

def scalT (P : Program) (t : TypeId) : Bool := match P.underlying t with
  | none => false
  | some (.struct _) => false
  | some (.array _ _) => false
  | some _ => (P.info? t).any fun i => i.size == 1
/-- An aggregate type's number of cells. -/
def aggT (P : Program) (t : TypeId) : Option Nat := match P.underlying t with
  | some (.struct _) => (P.info? t).map (·.size)
  | some (.array _ _) => (P.info? t).map (·.size)
  | _ => none
/-- Length, element type and cells of an element. -/
def arrT (P : Program) (t : TypeId) : Option (Nat × TypeId × Nat) := match P.underlying t with
  | some (.array n e) => (P.info? e).map fun i => (n, e, i.size)
  | _ => none
/-- Element type, its cells and its bytes. -/
def slT (P : Program) (t : TypeId) : Option (TypeId × Nat × Nat) := match P.underlying t with
  | some (.slice e) => (P.info? e).map fun i => (e, i.size, i.bytes)
  | _ => none
def fieldT (P : Program) (s : TypeId) (f : Nat) : Option Nat := match P.underlying s with
  | some (.struct fs) => (fs[f]?).bind fun fd => (P.info? fd.type).bind fun i => if i.size = 0 then none else some fd.offset
  | _ => none
def absCs : List Value → Option (List AVal)
  | [] => some []
  | v :: vs => match absC v with
    | none => none
    | some a => match absCs vs with
      | none => none
      | some as => some (a :: as)
/-- The zero value's cells. -/
def zeroT (P : Program) (t : TypeId) : Option (List AVal) := ((P.info? t).bind (·.zero)).bind fun z => absCs z.cells.toList

theorem absCs_rel {ρ Im w} : ∀ {vs : List Value} {as : List AVal}, absCs vs = some as → VRels P ρ Im w as vs
  | [], as, h => by simp only [absCs, Option.some.injEq] at h; subst h; simp [VRels]
  | v :: vs, as, h => by
    simp only [absCs] at h
    split at h
    · cases h
    · rename_i a ha
      split at h
      · cases h
      · rename_i as' has
        simp only [Option.some.injEq] at h
        subst h
        simp only [VRels]
        exact ⟨v, vs, rfl, absC_rel ha, absCs_rel has⟩

def AVal.scalar : AVal → Bool
  | .agg _ => false
  | .tup _ => false
  | _ => true
def AVal.cellsA : AVal → List AVal
  | .agg cs => cs
  | v => [v]

theorem VRel.oneCell {ρ Im w} {a : AVal} {v : Value} (h : VRel P ρ Im w a v) (hs : a.scalar = true) : v.oneCell' = true ∧ v.cells = #[v] := by
  cases a <;> simp only [AVal.scalar, reduceCtorEq] at hs <;> simp only [VRel] at h
  case int => subst h; exact ⟨rfl, rfl⟩
  case bool => subst h; exact ⟨rfl, rfl⟩
  case str => subst h; exact ⟨rfl, rfl⟩
  case nilp => subst h; exact ⟨rfl, rfl⟩
  case ptr => obtain ⟨c, _, rfl⟩ := h; exact ⟨rfl, rfl⟩
  case vptr => obtain ⟨c, base, vals, rfl, _⟩ := h; exact ⟨rfl, rfl⟩
  case vs => obtain ⟨a, cap, rfl, _⟩ := h; exact ⟨rfl, rfl⟩
  case os =>
    rcases h with ⟨_, _, a, rfl⟩ | ⟨c, cap, T, n, _, rfl, _⟩ <;> exact ⟨rfl, rfl⟩
  case nilm => subst h; exact ⟨rfl, rfl⟩
  case ns => obtain ⟨_, _, rfl, _⟩ := h; exact ⟨rfl, rfl⟩
  case mp => obtain ⟨c, _, rfl⟩ := h; exact ⟨rfl, rfl⟩
  case nilf => subst h; exact ⟨rfl, rfl⟩
  case fn => obtain ⟨as, bs, rfl, _⟩ := h; exact ⟨rfl, rfl⟩
theorem VRels.oneCell {ρ Im w} : ∀ {as : List AVal} {vs : List Value}, VRels P ρ Im w as vs → as.all AVal.scalar = true → ∀ v ∈ vs, v.oneCell' = true
  | [], vs, h, _ => by simp only [VRels] at h; subst h; simp
  | a :: as, vs, h, hs => by
    simp only [VRels] at h
    obtain ⟨v, vs', rfl, h1, h2⟩ := h
    simp only [List.all_cons, Bool.and_eq_true] at hs
    intro x hx
    rcases List.mem_cons.1 hx with rfl | hx
    · exact (h1.oneCell hs.1).1
    · exact VRels.oneCell h2 hs.2 x hx
theorem VRel.cells {ρ Im w} {a : AVal} {v : Value} (h : VRel P ρ Im w a v) (hs : (∀ l, a ≠ .tup l)) : VRels P ρ Im w a.cellsA v.cells.toList := by
  cases a with
  | agg cs => simp only [VRel] at h; obtain ⟨xs, rfl, h⟩ := h; exact h
  | tup l => exact absurd rfl (hs l)
  | _ => rw [(h.oneCell rfl).2]; exact VRels.one.2 ⟨v, rfl, h⟩

theorem VRels.append {ρ Im w} : ∀ {as bs : List AVal} {vs us : List Value}, VRels P ρ Im w as vs → VRels P ρ Im w bs us → VRels P ρ Im w (as ++ bs) (vs ++ us)
  | [], bs, vs, us, h, h' => by simp only [VRels] at h; subst h; exact h'
  | a :: as, bs, vs, us, h, h' => by
    simp only [VRels] at h
    obtain ⟨v, vs', rfl, h1, h2⟩ := h
    simp only [List.cons_append, VRels]
    exact ⟨v, _, rfl, h1, VRels.append h2 h'⟩
theorem VRels.take {ρ Im w} : ∀ {as : List AVal} {vs : List Value} (n : Nat), VRels P ρ Im w as vs → VRels P ρ Im w (as.take n) (vs.take n)
  | _, _, 0, _ => by simp [VRels]
  | [], vs, n + 1, h => by simp only [VRels] at h; subst h; simp [VRels]
  | a :: as, vs, n + 1, h => by
    simp only [VRels] at h
    obtain ⟨v, vs', rfl, h1, h2⟩ := h
    simp only [List.take_succ_cons, VRels]
    exact ⟨v, _, rfl, h1, VRels.take n h2⟩
theorem VRels.drop {ρ Im w} : ∀ {as : List AVal} {vs : List Value} (n : Nat), VRels P ρ Im w as vs → VRels P ρ Im w (as.drop n) (vs.drop n)
  | _, _, 0, h => by simpa using h
  | [], vs, n + 1, h => by simp only [VRels] at h; subst h; simp [VRels]
  | a :: as, vs, n + 1, h => by
    simp only [VRels] at h
    obtain ⟨v, vs', rfl, h1, h2⟩ := h
    simpa using VRels.drop n h2
theorem VRels.set {ρ Im w} {a : AVal} {v : Value} (h : VRel P ρ Im w a v) : ∀ {as : List AVal} {vs : List Value} (n : Nat), VRels P ρ Im w as vs → VRels P ρ Im w (as.set n a) (vs.set n v)
  | [], vs, n, hh => by simp only [VRels] at hh; subst hh; simp [VRels]
  | b :: as, vs, n, hh => by
    simp only [VRels] at hh
    obtain ⟨u, vs', rfl, h1, h2⟩ := hh
    cases n with
    | zero => simp only [List.set_cons_zero, VRels]; exact ⟨v, vs', rfl, h, h2⟩
    | succ n => simp only [List.set_cons_succ, VRels]; exact ⟨u, _, rfl, h1, VRels.set h n h2⟩

theorem addr_add (c off n : Nat) : (⟨c, off, none⟩ : Addr).add n = ⟨c, off + n, none⟩ := by
  unfold Addr.add; split <;> simp_all

/-! ### A block that is made -/

theorem Ev.push {ρ Im w sup} {b : Nat} {ob : Obj} {o : AObj} (s : St P ρ Im [] w) (fr : Fresh ρ [b] sup)
    (ho : ORel P (fun x => if x = b then some (w.heap.size + 1) else ρ x) Im { w with heap := w.heap.push ob } o w.heap.size) :
    Ev P ρ Im [] w (okOf [b] sup) (fun x => if x = b then some (w.heap.size + 1) else ρ x) Im [(b, o)] { w with heap := w.heap.push ob } := by
  have hb : ρ b = none := fr.named b (by simp)
  refine { size := by simp, os := rfl, out := rfl, keep := ?_, rho := ?_, im := fun _ h => h, imNew := fun _ h => .inl h, shape := ?_, own := ?_, names := ?_, ok := ?_, st := ?_ }
  · intro c hc _
    simp [Array.getElem?_push, Nat.ne_of_lt hc]
  · intro x c hx
    by_cases hxb : x = b
    · subst hxb; rw [hb] at hx; cases hx
    · simp [hxb, hx]
  · intro c T n hs
    unfold World.shape? at hs ⊢
    have : c ≠ w.heap.size := by
      intro h; subst h
      simp at hs
    simpa [Array.getElem?_push, this] using hs
  · intro x y c hxy hr
    simp only [List.mem_singleton, Prod.mk.injEq] at hxy
    obtain ⟨rfl, rfl⟩ := hxy
    simp at hr
    right; omega
  · intro x y hxy
    simp only [List.mem_singleton, Prod.mk.injEq] at hxy
    obtain ⟨rfl, rfl⟩ := hxy
    exact .inr hb
  · intro x hx
    by_cases hxb : x = b
    · subst hxb; exact .inr (.inl (by simp))
    · exact .inl (by simpa [hxb] using hx)
  · refine { obj := ?_, nd := by simp, inj := ?_, im := fun c hc => by have := s.im c hc; simp; omega }
    · intro x y hxy
      simp only [List.mem_singleton, Prod.mk.injEq] at hxy
      obtain ⟨rfl, rfl⟩ := hxy
      refine .inr ⟨w.heap.size, by simp, ho, fun h => ?_⟩
      have := s.im _ h; omega
    · intro x x' y y' c hx hx' _ _
      simp only [List.mem_singleton, Prod.mk.injEq] at hx hx'
      rw [hx.1, hx'.1]

/-- A row that is made. -/
theorem Ev.pushRow {ρ Im w sup} {b : Nat} {T : TypeId} {cs : Array Value} {cells : List AVal} {vals : List Value} (s : St P ρ Im [] w) (fr : Fresh ρ [b] sup) (fz : Nat × Nat)
    (hf : ∀ i, i < cs.size → ¬ (fz.1 ≤ i ∧ i < fz.2)) (hv : ∀ i (h : i < vals.length), cs[i]? = some vals[i]) (hc : VRels P ρ Im w cells vals) :
    Ev P ρ Im [] w (okOf [b] sup) (fun x => if x = b then some (w.heap.size + 1) else ρ x) Im [(b, .vec T cells)] { w with heap := w.heap.push (.cells cs T fz) } := by
  refine Ev.push s fr ?_
  refine ⟨cs, fz, vals, by simp, hf, hv, ?_⟩
  refine VRels.mono { rho := ?_, im := fun _ h => h, same := ?_, shape := ?_ } hc
  · intro x c hx
    by_cases hxb : x = b
    · subst hxb; rw [fr.named x (by simp)] at hx; cases hx
    · simp [hxb, hx]
  · intro c hc
    have := s.im c hc
    simp [Array.getElem?_push, Nat.ne_of_lt this]
  · intro c T n hs
    unfold World.shape? at hs ⊢
    have : c ≠ w.heap.size := by
      intro h; subst h
      simp at hs
    simpa [Array.getElem?_push, this] using hs

/-- A block that is changed. -/
theorem Ev.row {ρ Im w ok} {b c : Nat} {T : TypeId} {cs cs' : Array Value} {fz : Nat × Nat} {cells cells' : List AVal} {vals : List Value} (s : St P ρ Im [(b, .vec T cells)] w)
    (hb : ρ b = some (c + 1)) (hg : w.heap[c]? = some (.cells cs T fz)) (hf : ∀ i, i < cs.size → ¬ (fz.1 ≤ i ∧ i < fz.2)) (hsz : cs'.size = cs.size)
    (hv : ∀ i (h : i < vals.length), cs'[i]? = some vals[i]) (hc : VRels P ρ Im w cells' vals) :
    Ev P ρ Im [(b, .vec T cells)] w ok ρ Im [(b, .vec T cells')] (w.setRow c cs') := by
  have hIm : ¬ Im c := by
    rcases s.obj b _ (List.mem_singleton_self _) with ⟨h1, _⟩ | ⟨d, h1, _, h3⟩
    · rw [hb] at h1; cases h1
    · rw [hb] at h1; cases h1; exact h3
  have hshape : ∀ d T n, w.shape? d = some (T, n) → (w.setRow c cs').shape? d = some (T, n) := by
    intro d T' n hs
    unfold World.shape? at hs ⊢
    by_cases hd : d = c
    · subst hd
      rw [hg] at hs
      rw [setRow_heap w d cs cs' T fz hg]
      simp only [Option.some.injEq, Prod.mk.injEq] at hs ⊢
      exact ⟨hs.1, by rw [hsz]; exact hs.2⟩
    · rw [setRow_other w c d cs' hd]; exact hs
  refine { size := by simp, os := rfl, out := rfl, keep := ?_, rho := fun _ _ h => h, im := fun _ h => h, imNew := fun _ h => .inl h, shape := hshape, own := ?_, names := ?_, ok := fun _ h => .inl h, st := ?_ }
  · intro d hd hn
    refine setRow_other w c d cs' fun h => ?_
    subst h
    exact hn b _ (List.mem_singleton_self _) hb
  · intro x y d hxy hr
    simp only [List.mem_singleton, Prod.mk.injEq] at hxy
    obtain ⟨rfl, rfl⟩ := hxy
    exact .inl ⟨x, _, List.mem_singleton_self _, hr⟩
  · intro x y hxy
    simp only [List.mem_singleton, Prod.mk.injEq] at hxy
    obtain ⟨rfl, rfl⟩ := hxy
    exact .inl ⟨_, List.mem_singleton_self _⟩
  · refine { obj := ?_, nd := by simp, inj := ?_, im := fun d hd => by have := s.im d hd; simpa using this }
    · intro x y hxy
      simp only [List.mem_singleton, Prod.mk.injEq] at hxy
      obtain ⟨rfl, rfl⟩ := hxy
      refine .inr ⟨c, hb, ⟨cs', fz, vals, setRow_heap w c cs cs' T fz hg, by rw [hsz]; exact hf, hv, ?_⟩, hIm⟩
      refine VRels.mono { rho := fun _ _ h => h, im := fun _ h => h, same := ?_, shape := hshape } hc
      intro d hd
      refine setRow_other w c d cs' fun h => ?_
      subst h
      exact hIm hd
    · intro x x' y y' d hx hx' _ _
      simp only [List.mem_singleton, Prod.mk.injEq] at hx hx'
      rw [hx.1, hx'.1]

theorem run_storeCells_vec (g o : Nat) (t : TypeId) (fz : Nat × Nat) : ∀ (vs : List Value) (i : Nat) (cur : Array Value) (w : World), w.heap[g]? = some (.cells cur t fz) →
    (∀ j, j < cur.size → ¬ (fz.1 ≤ j ∧ j < fz.2)) → o + i + vs.length ≤ cur.size → (∀ v ∈ vs, v.oneCell' = true) →
    (storeCells ⟨g, o, none⟩ vs i).run P w = .ok () (w.setRow g (cur.toList.take (o + i) ++ vs ++ cur.toList.drop (o + i + vs.length)).toArray)
  | [], i, cur, w, hg, _, _, _ => by
    simp only [storeCells, List.append_nil, List.length_nil, Nat.add_zero, List.take_append_drop, Array.toArray_toList]
    rw [setRow_self w g cur t fz hg]
    rfl
  | v :: rest, i, cur, w, hg, hf, hl, h1 => by
    have hi : o + i < cur.size := by simp at hl; omega
    have hadd : (⟨g, o, none⟩ : Addr).add i = ⟨g, o + i, none⟩ := addr_add _ _ _
    have hcell : w.cell? ⟨g, o + i, none⟩ = some cur[o + i] := by simp [World.cell?, hg, hi]
    have hfro : w.frozen? ⟨g, o + i, none⟩ = false := by
      have := hf (o + i) hi
      simp only [World.frozen?, hg]
      rw [Bool.and_eq_false_iff, decide_eq_false_iff_not, decide_eq_false_iff_not]
      rcases Nat.lt_or_ge (o + i) fz.1 with h2 | h2
      · exact .inl (by omega)
      · exact .inr fun h3 => this ⟨h2, h3⟩
    have hst : (store ((⟨g, o, none⟩ : Addr).add i) v).run P w = .ok () (w.setRow g (cur.setIfInBounds (o + i) v)) := by
      rw [hadd, run_store P w _ v _ (h1 v (by simp)), hcell]
      simp [hfro, setCell_eq_setRow w g (o + i) cur t fz v hg]
    have ih := run_storeCells_vec g o t fz rest (i + 1) (cur.setIfInBounds (o + i) v) (w.setRow g (cur.setIfInBounds (o + i) v)) (setRow_heap w g cur _ t _ hg) (by simpa using hf) (by simp at hl ⊢; omega) (fun x hx => h1 x (by simp [hx]))
    simp only [storeCells, Sem.run_bind, hst, Result.andThen_ok, ih, setRow_setRow]
    congr 3
    have e := list_seg_step cur.toList (o + i) v rest (by simp at hl ⊢; omega)
    simpa [Array.toList_setIfInBounds, Nat.add_assoc] using e

/-- What is known of a block behind a pointer. -/
theorem St.at {ρ Im w b T cells off} {v : Value} (s : St P ρ Im [(b, .vec T cells)] w) (h : VRel P ρ Im w (.ptr b off) v) :
    ∃ c cs fz vals, ρ b = some (c + 1) ∧ v = .pointer (some ⟨c, off, none⟩) ∧ w.heap[c]? = some (.cells cs T fz) ∧ (∀ i, i < cs.size → ¬ (fz.1 ≤ i ∧ i < fz.2)) ∧
      (∀ i (h : i < vals.length), cs[i]? = some vals[i]) ∧ VRels P ρ Im w cells vals := by
  simp only [VRel] at h
  obtain ⟨c, h1, h2⟩ := h
  rcases s.obj b _ (List.mem_singleton_self _) with ⟨h3, _⟩ | ⟨d, h3, ⟨cs, fz, vals, g1, g2, g3, g4⟩, _⟩
  · rw [h1] at h3; cases h3
  · rw [h1] at h3; cases h3
    exact ⟨c, cs, fz, vals, h1, h2, g1, g2, g3, g4⟩

theorem run_loadVec {w : World} {c off k : Nat} {cs : Array Value} {T : TypeId} {fz : Nat × Nat} {vals : List Value} (hg : w.heap[c]? = some (.cells cs T fz))
    (hv : ∀ i (h : i < vals.length), cs[i]? = some vals[i]) (hk : off + k ≤ vals.length) :
    (loadCells ⟨c, off, none⟩ k).run P w = .ok ((vals.drop off).take k).toArray w := by
  have := run_loadCells_list (P := P) w ⟨c, off, none⟩ ((vals.drop off).take k) (fun j v hj => by
    rw [addr_add]
    rw [List.getElem?_take, List.getElem?_drop] at hj
    split at hj
    · have hlt : off + j < vals.length := by omega
      simp only [World.cell?, hg, Option.isSome_none, Bool.false_eq_true, if_false]
      rw [hv (off + j) hlt]
      rw [List.getElem?_eq_getElem hlt] at hj
      exact hj
    · cases hj)
  have hl : ((vals.drop off).take k).length = k := by simp; omega
  rwa [hl] at this

section
variable {o : Oper} {x y z : Operand} {t t' T : TypeId} {v u : AVal} {b off k : Nat} {cells vs : List AVal}

theorem run_isAgg_scal {w : World} (h : scalT P t = true) : (isAgg t).run P w = .ok false w ∧ (sizeOf t).run P w = .ok 1 w := by
  unfold scalT at h
  cases hu : P.underlying t with
  | none => rw [hu] at h; cases h
  | some d =>
    rw [hu] at h
    have hi : ∃ i, P.info? t = some i := info_of_underlying hu
    obtain ⟨i, hi⟩ := hi
    constructor
    · cases d <;> simp only [reduceCtorEq, Bool.false_eq_true] at h <;> simp [isAgg, run_underlying hu]
    · have : i.size = 1 := by cases d <;> simp [hi] at h <;> exact h
      simp [sizeOf, typeInfo, hi, this]
theorem run_isAgg_agg {w : World} (h : aggT P t = some k) : (isAgg t).run P w = .ok true w ∧ (sizeOf t).run P w = .ok k w := by
  unfold aggT at h
  cases hu : P.underlying t with
  | none => rw [hu] at h; cases h
  | some d =>
    rw [hu] at h
    have hi : ∃ i, P.info? t = some i := info_of_underlying hu
    obtain ⟨i, hi⟩ := hi
    constructor
    · cases d <;> simp only [reduceCtorEq] at h <;> simp [isAgg, run_underlying hu]
    · have : i.size = k := by cases d <;> simp [hi] at h <;> exact h
      simp [sizeOf, typeInfo, hi, this]

theorem opF1 {F F' : AHeap} (hx : o.op.operands.toList = [x])
    (h : ∀ ρ Im w (a : Act) sup, St P ρ Im F w → Fresh ρ [] sup → VRel P ρ Im w v (a.eval x) → ∃ r w' ρ' Im', (execOp a.eval o).run P w = .ok (.value r) w' ∧ VRel P ρ' Im' w' u r ∧
      Ev P ρ Im F w (okOf [] sup) ρ' Im' F' w') : OpV P o [v] F [] u F' := by
  refine OpV.value fun ρ Im w a sup s fr hv => ?_
  rw [Array.toList_map, hx] at hv
  obtain ⟨r, hr, hv⟩ := VRels.one.1 hv
  simp only [List.map_cons, List.map_nil, List.cons.injEq, and_true] at hr
  subst hr
  exact h ρ Im w a sup s fr hv

theorem op_load (ho : o.op = .load t x) (ht : scalT P t = true) (hc : cells[off]? = some v) :
    OpV P o [.ptr b off] [(b, .vec T cells)] [] v [(b, .vec T cells)] :=
  opF1 (x := x) (by rw [ho]; rfl) fun ρ Im w a sup s fr hv => by
    obtain ⟨c, cs, fz, vals, h1, h2, h3, h4, h5, h6⟩ := s.at hv
    obtain ⟨r, h7, h8⟩ := h6.get hc
    obtain ⟨hlt, hget⟩ := List.getElem?_eq_some_iff.1 h7
    refine ⟨r, w, ρ, Im, ?_, h8, Ev.refl s⟩
    have hcell : w.cell? ⟨c, off, none⟩ = some r := by simp [World.cell?, h3, h5 off hlt, hget]
    simp [execOp, ho, h2, Instr.loadAt, Instr.sureAddr, loadVar, (run_isAgg_scal (w := w) ht).1, hcell]

theorem op_loadA (ho : o.op = .load t x) (ht : aggT P t = some k) (hk : off + k ≤ cells.length) :
    OpV P o [.ptr b off] [(b, .vec T cells)] [] (.agg ((cells.drop off).take k)) [(b, .vec T cells)] :=
  opF1 (x := x) (by rw [ho]; rfl) fun ρ Im w a sup s fr hv => by
    obtain ⟨c, cs, fz, vals, h1, h2, h3, h4, h5, h6⟩ := s.at hv
    have hl := h6.length
    refine ⟨.agg ((vals.drop off).take k).toArray, w, ρ, Im, ?_, ?_, Ev.refl s⟩
    · have := run_loadVec (P := P) (k := k) (off := off) h3 h5 (by omega)
      simp [execOp, ho, h2, Instr.loadAt, Instr.sureAddr, loadVar, (run_isAgg_agg (w := w) ht).1, (run_isAgg_agg (w := w) ht).2, this]
    · simp only [VRel]
      exact ⟨_, rfl, by simpa using (h6.drop off).take k⟩

theorem vptr_at {ρ Im w} {r : Value} (h : VRel P ρ Im w (.vptr cells off) r) : ∃ c base vals, r = .pointer (some ⟨c, base + off, none⟩) ∧ Reads w c base vals ∧ VRels P ρ Im w cells vals := by
  simp only [VRel] at h
  obtain ⟨c, base, vals, h1, _, h3, h4⟩ := h
  exact ⟨c, base, vals, h1, h3, h4⟩

theorem run_loadReads {w : World} {c base k off : Nat} {vals : List Value} (hr : Reads w c base vals) (hk : off + k ≤ vals.length) :
    (loadCells ⟨c, base + off, none⟩ k).run P w = .ok ((vals.drop off).take k).toArray w := by
  have := run_loadCells_list (P := P) w ⟨c, base + off, none⟩ ((vals.drop off).take k) (fun j v hj => by
    rw [addr_add]
    rw [List.getElem?_take, List.getElem?_drop] at hj
    split at hj
    · have hlt : off + j < vals.length := by omega
      have := hr (off + j) hlt
      rw [← Nat.add_assoc] at this
      rw [this]
      rw [List.getElem?_eq_getElem hlt] at hj
      exact hj
    · cases hj)
  have hl : ((vals.drop off).take k).length = k := by simp; omega
  rwa [hl] at this

theorem op_loadV (ho : o.op = .load t x) (ht : scalT P t = true) (hc : cells[off]? = some v) : OpV P o [.vptr cells off] [] [] v [] :=
  op1 (x := x) (by rw [ho]; rfl) fun ρ Im w a hv => by
    obtain ⟨c, base, vals, h1, h2, h3⟩ := vptr_at hv
    obtain ⟨r, h7, h8⟩ := h3.get hc
    obtain ⟨hlt, hget⟩ := List.getElem?_eq_some_iff.1 h7
    have := h2 off hlt
    refine ⟨r, ?_, h8⟩
    simp [execOp, ho, h1, Instr.loadAt, Instr.sureAddr, loadVar, (run_isAgg_scal (w := w) ht).1, this, hget]
theorem op_loadVA (ho : o.op = .load t x) (ht : aggT P t = some k) (hk : off + k ≤ cells.length) : OpV P o [.vptr cells off] [] [] (.agg ((cells.drop off).take k)) [] :=
  op1 (x := x) (by rw [ho]; rfl) fun ρ Im w a hv => by
    obtain ⟨c, base, vals, h1, h2, h3⟩ := vptr_at hv
    have hl := h3.length
    refine ⟨.agg ((vals.drop off).take k).toArray, ?_, ?_⟩
    · have := run_loadReads (P := P) (k := k) h2 (by omega : off + k ≤ vals.length)
      simp [execOp, ho, h1, Instr.loadAt, Instr.sureAddr, loadVar, (run_isAgg_agg (w := w) ht).1, (run_isAgg_agg (w := w) ht).2, this]
    · simp only [VRel]
      exact ⟨_, rfl, by simpa using (h3.drop off).take k⟩

theorem opS2 {F F' : AHeap} (hx : o.op.operands.toList = [x, y])
    (h : ∀ ρ Im w (a : Act) sup, St P ρ Im F w → Fresh ρ [] sup → VRel P ρ Im w v (a.eval x) → VRel P ρ Im w u (a.eval y) → ∃ w' ρ' Im', (execOp a.eval o).run P w = .ok .skip w' ∧
      Ev P ρ Im F w (okOf [] sup) ρ' Im' F' w') : OpV P o [v, u] F [] (.tup []) F' := by
  refine OpV.skip fun ρ Im w a sup s fr hv => ?_
  rw [Array.toList_map, hx] at hv
  obtain ⟨r, r', hr, hv, hu⟩ := VRels.two.1 hv
  simp only [List.map_cons, List.map_nil, List.cons.injEq, and_true] at hr
  obtain ⟨rfl, rfl⟩ := hr
  exact h ρ Im w a sup s fr hv hu

theorem set_toArray (cs : Array Value) (off : Nat) (v : Value) (h : off < cs.size) :
    (cs.toList.take off ++ [v] ++ cs.toList.drop (off + 1)).toArray = cs.setIfInBounds off v := by
  apply Array.ext'
  simp only [Array.toList_setIfInBounds]
  rw [List.set_eq_take_append_cons_drop, if_pos (by simpa using h)]
  simp

theorem op_store (ho : o.op = .store t x y) (ht : scalT P t = true) (hs : v.scalar = true) (hc : off < cells.length) :
    OpV P o [.ptr b off, v] [(b, .vec T cells)] [] (.tup []) [(b, .vec T (cells.set off v))] :=
  opS2 (x := x) (y := y) (by rw [ho]; rfl) fun ρ Im w a sup s fr hv hu => by
    obtain ⟨c, cs, fz, vals, h1, h2, h3, h4, h5, h6⟩ := s.at hv
    have hl := h6.length
    have hoc := hu.oneCell hs
    have hlt : off < cs.size := by
      have := h5 off (by omega)
      exact (Array.getElem?_eq_some_iff.1 this).1
    have hst := run_storeCells_vec (P := P) c off T fz [a.eval y] 0 cs w h3 h4 (by simp; omega) (by simpa using hoc.1)
    refine ⟨w.setRow c (cs.setIfInBounds off (a.eval y)), ρ, Im, ?_, ?_⟩
    · simp only [Nat.add_zero, List.length_singleton, set_toArray cs off _ hlt] at hst
      simp [execOp, ho, h2, Instr.storeAt, Instr.sureAddr, storeVar, (run_isAgg_scal (w := w) ht).2, hoc.2, hst]
    · refine Ev.row s h1 h3 h4 (by simp) (vals := vals.set off (a.eval y)) ?_ (h6.set hu off)
      intro i hi
      rw [List.length_set] at hi
      rw [Array.getElem?_setIfInBounds, List.getElem_set]
      split
      · subst_vars; simp [hlt]
      · exact h5 i hi

theorem pre_of {cs : Array Value} {vals : List Value} (h : ∀ i (h : i < vals.length), cs[i]? = some vals[i]) : ∃ r, cs.toList = vals ++ r := by
  refine ⟨cs.toList.drop vals.length, ?_⟩
  have hl : vals.length ≤ cs.size := by
    rcases Nat.eq_zero_or_pos vals.length with h0 | h0
    · omega
    · have := h (vals.length - 1) (by omega)
      have := (Array.getElem?_eq_some_iff.1 this).1
      omega
  apply List.ext_getElem?
  intro j
  by_cases hj : j < vals.length
  · rw [List.getElem?_append_left hj, Array.getElem?_toList, h j hj, List.getElem?_eq_getElem hj]
  · rw [List.getElem?_append_right (by omega), List.getElem?_drop]
    congr 1; omega

theorem op_storeA (ho : o.op = .store t x y) (ht : aggT P t = some k) (hk : vs.length = k) (hs : vs.all AVal.scalar = true) (hc : off + k ≤ cells.length) :
    OpV P o [.ptr b off, .agg vs] [(b, .vec T cells)] [] (.tup []) [(b, .vec T (cells.take off ++ vs ++ cells.drop (off + k)))] :=
  opS2 (x := x) (y := y) (by rw [ho]; rfl) fun ρ Im w a sup s fr hv hu => by
    obtain ⟨c, cs, fz, vals, h1, h2, h3, h4, h5, h6⟩ := s.at hv
    have hl := h6.length
    simp only [VRel] at hu
    obtain ⟨us, h7, h8⟩ := hu
    have hlu := h8.length
    have hone := h8.oneCell hs
    obtain ⟨r, hr⟩ := pre_of h5
    have hsz : cs.size = vals.length + r.length := by rw [← Array.length_toList, hr, List.length_append]
    have hul : us.size = k := by simpa [hk] using hlu
    have hst := run_storeCells_vec (P := P) c off T fz us.toList 0 cs w h3 h4 (by simp; omega) hone
    have e1 : cs.toList.take off ++ us.toList ++ cs.toList.drop (off + k) = (vals.take off ++ us.toList ++ vals.drop (off + k)) ++ r := by
      rw [hr, List.take_append_of_le_length (by omega), List.drop_append_of_le_length (by omega)]
      simp
    simp only [Nat.add_zero, Array.length_toList, hul, e1] at hst
    refine ⟨w.setRow c ((vals.take off ++ us.toList ++ vals.drop (off + k)) ++ r).toArray, ρ, Im, ?_, ?_⟩
    · simp [execOp, ho, h2, h7, Instr.storeAt, Instr.sureAddr, storeVar, (run_isAgg_agg (w := w) ht).2, Value.cells, hul]
      rw [show vals.take off ++ (us.toList ++ (vals.drop (off + k) ++ r)) = (vals.take off ++ us.toList ++ vals.drop (off + k)) ++ r by simp, hst]
      rfl
    · refine Ev.row s h1 h3 h4 ?_ (vals := vals.take off ++ us.toList ++ vals.drop (off + k)) ?_ ?_
      · simp; omega
      · intro i hi
        rw [List.getElem?_toArray, List.getElem?_append_left hi, List.getElem?_eq_getElem hi]
      · exact ((h6.take off).append h8).append (h6.drop _)
end
end Go.Kw
