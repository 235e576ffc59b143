import Derived.Test.YtdnccchcflaphaaFA
import Derived.Laws.AppendOwn
import Derived.Laws.MakeOwn
import Derived.Laws.Tables
import Derived.Laws.BytesString
import Derived.Laws.IdiomStrings
set_option linter.unusedVariables false
set_option linter.unusedSimpArgs false
namespace Go.Kw
set_option linter.unusedVariables false
set_option linter.unusedSimpArgs false
variable {P : Program}

/-! ### Closed facts on types -/

def scalT (P : Program) (t : TypeId) : Bool := match P.underlying t with
  | none => false
  | some (.struct _) => false
  | some (.array _ _) => false
  | some _ => (P.info? t).any fun i => i.size == 1
/-- An aggregate type's number of cells. -/
def aggT (P : Program) (t : TypeId) : Option Nat := match P.underlying t with
  | some (.struct _) => (P.info? t).map (·.size)
  | some (.array _ _) => (P.info? t).map (·.size)
  | _ => none
/-- Length, element type and cells of an element. -/
def arrT (P : Program) (t : TypeId) : Option (Nat × TypeId × Nat) := match P.underlying t with
  | some (.array n e) => (P.info? e).map fun i => (n, e, i.size)
  | _ => none
/-- Element type, its cells and its bytes. -/
def slT (P : Program) (t : TypeId) : Option (TypeId × Nat × Nat) := match P.underlying t with
  | some (.slice e) => (P.info? e).map fun i => (e, i.size, i.bytes)
  | _ => none
def fieldT (P : Program) (s : TypeId) (f : Nat) : Option Nat := match P.underlying s with
  | some (.struct fs) => (fs[f]?).bind fun fd => (P.info? fd.type).bind fun i => if i.size = 0 then none else some fd.offset
  | _ => none
def absCs : List Value → Option (List AVal)
  | [] => some []
  | v :: vs => match absC v with
    | none => none
    | some a => match absCs vs with
      | none => none
      | some as => some (a :: as)
/-- The zero value's cells. -/
def zeroT (P : Program) (t : TypeId) : Option (List AVal) := ((P.info? t).bind (·.zero)).bind fun z => absCs z.cells.toList

theorem absCs_rel {ρ Im w} : ∀ {vs : List Value} {as : List AVal}, absCs vs = some as → VRels P ρ Im w as vs
  | [], as, h => by simp only [absCs, Option.some.injEq] at h; subst h; simp [VRels]
  | v :: vs, as, h => by
    simp only [absCs] at h
    split at h
    · cases h
    · rename_i a ha
      split at h
      · cases h
      · rename_i as' has
        simp only [Option.some.injEq] at h
        subst h
        simp only [VRels]
        exact ⟨v, vs, rfl, absC_rel ha, absCs_rel has⟩

def AVal.scalar : AVal → Bool
  | .agg _ => false
  | .tup _ => false
  | _ => true
def AVal.cellsA : AVal → List AVal
  | .agg cs => cs
  | v => [v]

theorem VRel.oneCell {ρ Im w} {a : AVal} {v : Value} (h : VRel P ρ Im w a v) (hs : a.scalar = true) : v.oneCell' = true ∧ v.cells = #[v] := by
  cases a <;> simp only [AVal.scalar, reduceCtorEq] at hs <;> simp only [VRel] at h
  case int => subst h; exact ⟨rfl, rfl⟩
  case bool => subst h; exact ⟨rfl, rfl⟩
  case str => subst h; exact ⟨rfl, rfl⟩
  case nilp => subst h; exact ⟨rfl, rfl⟩
  case ptr => obtain ⟨c, _, rfl⟩ := h; exact ⟨rfl, rfl⟩
  case vptr => obtain ⟨c, base, vals, rfl, _⟩ := h; exact ⟨rfl, rfl⟩
  case vs => obtain ⟨a, cap, rfl, _⟩ := h; exact ⟨rfl, rfl⟩
  case os =>
    rcases h with ⟨_, _, a, rfl⟩ | ⟨c, cap, T, n, _, rfl, _⟩ <;> exact ⟨rfl, rfl⟩
  case nilm => subst h; exact ⟨rfl, rfl⟩
  case ns => obtain ⟨_, _, rfl, _⟩ := h; exact ⟨rfl, rfl⟩
  case mp => obtain ⟨c, _, rfl⟩ := h; exact ⟨rfl, rfl⟩
  case nilf => subst h; exact ⟨rfl, rfl⟩
  case fn => obtain ⟨as, bs, rfl, _⟩ := h; exact ⟨rfl, rfl⟩
theorem VRels.oneCell {ρ Im w} : ∀ {as : List AVal} {vs : List Value}, VRels P ρ Im w as vs → as.all AVal.scalar = true → ∀ v ∈ vs, v.oneCell' = true
  | [], vs, h, _ => by simp only [VRels] at h; subst h; simp
  | a :: as, vs, h, hs => by
    simp only [VRels] at h
    obtain ⟨v, vs', rfl, h1, h2⟩ := h
    simp only [List.all_cons, Bool.and_eq_true] at hs
    intro x hx
    rcases List.mem_cons.1 hx with rfl | hx
    · exact (h1.oneCell hs.1).1
    · exact VRels.oneCell h2 hs.2 x hx
theorem VRel.cells {ρ Im w} {a : AVal} {v : Value} (h : VRel P ρ Im w a v) (hs : (∀ l, a ≠ .tup l)) : VRels P ρ Im w a.cellsA v.cells.toList := by
  cases a with
  | agg cs => simp only [VRel] at h; obtain ⟨xs, rfl, h⟩ := h; exact h
  | tup l => exact absurd rfl (hs l)
  | _ => rw [(h.oneCell rfl).2]; exact VRels.one.2 ⟨v, rfl, h⟩

theorem VRels.append {ρ Im w} : ∀ {as bs : List AVal} {vs us : List Value}, VRels P ρ Im w as vs → VRels P ρ Im w bs us → VRels P ρ Im w (as ++ bs) (vs ++ us)
  | [], bs, vs, us, h, h' => by simp only [VRels] at h; subst h; exact h'
  | a :: as, bs, vs, us, h, h' => by
    simp only [VRels] at h
    obtain ⟨v, vs', rfl, h1, h2⟩ := h
    simp only [List.cons_append, VRels]
    exact ⟨v, _, rfl, h1, VRels.append h2 h'⟩
theorem VRels.take {ρ Im w} : ∀ {as : List AVal} {vs : List Value} (n : Nat), VRels P ρ Im w as vs → VRels P ρ Im w (as.take n) (vs.take n)
  | _, _, 0, _ => by simp [VRels]
  | [], vs, n + 1, h => by simp only [VRels] at h; subst h; simp [VRels]
  | a :: as, vs, n + 1, h => by
    simp only [VRels] at h
    obtain ⟨v, vs', rfl, h1, h2⟩ := h
    simp only [List.take_succ_cons, VRels]
    exact ⟨v, _, rfl, h1, VRels.take n h2⟩
theorem VRels.drop {ρ Im w} : ∀ {as : List AVal} {vs : List Value} (n : Nat), VRels P ρ Im w as vs → VRels P ρ Im w (as.drop n) (vs.drop n)
  | _, _, 0, h => by simpa using h
  | [], vs, n + 1, h => by simp only [VRels] at h; subst h; simp [VRels]
  | a :: as, vs, n + 1, h => by
    simp only [VRels] at h
    obtain ⟨v, vs', rfl, h1, h2⟩ := h
    simpa using VRels.drop n h2
theorem VRels.set {ρ Im w} {a : AVal} {v : Value} (h : VRel P ρ Im w a v) : ∀ {as : List AVal} {vs : List Value} (n : Nat), VRels P ρ Im w as vs → VRels P ρ Im w (as.set n a) (vs.set n v)
  | [], vs, n, hh => by simp only [VRels] at hh; subst hh; simp [VRels]
  | b :: as, vs, n, hh => by
    simp only [VRels] at hh
    obtain ⟨u, vs', rfl, h1, h2⟩ := hh
    cases n with
    | zero => simp only [List.set_cons_zero, VRels]; exact ⟨v, vs', rfl, h, h2⟩
    | succ n => simp only [List.set_cons_succ, VRels]; exact ⟨u, _, rfl, h1, VRels.set h n h2⟩

theorem addr_add (c off n : Nat) : (⟨c, off, none⟩ : Addr).add n = ⟨c, off + n, none⟩ := by
  unfold Addr.add; split <;> simp_all

/-! ### A block that is made -/

theorem Ev.push {ρ Im w sup} {b : Nat} {ob : Obj} {o : AObj} (s : St P ρ Im [] w) (fr : Fresh ρ [b] sup)
    (ho : ORel P (fun x => if x = b then some (w.heap.size + 1) else ρ x) Im { w with heap := w.heap.push ob } o w.heap.size) :
    Ev P ρ Im [] w (okOf [b] sup) (fun x => if x = b then some (w.heap.size + 1) else ρ x) Im [(b, o)] { w with heap := w.heap.push ob } := by
  have hb : ρ b = none := fr.named b (by simp)
  refine { size := by simp, os := rfl, out := rfl, keep := ?_, rho := ?_, im := fun _ h => h, imNew := fun _ h => .inl h, shape := ?_, own := ?_, names := ?_, ok := ?_, st := ?_ }
  · intro c hc _
    simp [Array.getElem?_push, Nat.ne_of_lt hc]
  · intro x c hx
    by_cases hxb : x = b
    · subst hxb; rw [hb] at hx; cases hx
    · simp [hxb, hx]
  · intro c T n hs
    unfold World.shape? at hs ⊢
    have : c ≠ w.heap.size := by
      intro h; subst h
      simp at hs
    simpa [Array.getElem?_push, this] using hs
  · intro x y c hxy hr
    simp only [List.mem_singleton, Prod.mk.injEq] at hxy
    obtain ⟨rfl, rfl⟩ := hxy
    simp at hr
    right; omega
  · intro x y hxy
    simp only [List.mem_singleton, Prod.mk.injEq] at hxy
    obtain ⟨rfl, rfl⟩ := hxy
    exact .inr hb
  · intro x hx
    by_cases hxb : x = b
    · subst hxb; exact .inr (.inl (by simp))
    · exact .inl (by simpa [hxb] using hx)
  · refine { obj := ?_, nd := by simp, inj := ?_, im := fun c hc => by have := s.im c hc; simp; omega }
    · intro x y hxy
      simp only [List.mem_singleton, Prod.mk.injEq] at hxy
      obtain ⟨rfl, rfl⟩ := hxy
      refine .inr ⟨w.heap.size, by simp, ho, fun h => ?_⟩
      have := s.im _ h; omega
    · intro x x' y y' c hx hx' _ _
      simp only [List.mem_singleton, Prod.mk.injEq] at hx hx'
      rw [hx.1, hx'.1]

/-- A row that is made. -/
theorem Ev.pushRow {ρ Im w sup} {b : Nat} {T : TypeId} {cs : Array Value} {cells : List AVal} {vals : List Value} (s : St P ρ Im [] w) (fr : Fresh ρ [b] sup) (fz : Nat × Nat)
    (hf : fz.1 ≤ fz.2 ∧ ∀ i, i < cs.size → ¬ (fz.1 ≤ i ∧ i < fz.2)) (hv : ∀ i (h : i < vals.length), cs[i]? = some vals[i]) (hc : VRels P ρ Im w cells vals) :
    Ev P ρ Im [] w (okOf [b] sup) (fun x => if x = b then some (w.heap.size + 1) else ρ x) Im [(b, .vec T cells)] { w with heap := w.heap.push (.cells cs T fz) } := by
  refine Ev.push s fr ?_
  refine ⟨cs, fz, vals, by simp, hf, hv, ?_⟩
  refine VRels.mono { rho := ?_, im := fun _ h => h, same := ?_, shape := ?_ } hc
  · intro x c hx
    by_cases hxb : x = b
    · subst hxb; rw [fr.named x (by simp)] at hx; cases hx
    · simp [hxb, hx]
  · intro c hc
    have := s.im c hc
    simp [Array.getElem?_push, Nat.ne_of_lt this]
  · intro c T n hs
    unfold World.shape? at hs ⊢
    have : c ≠ w.heap.size := by
      intro h; subst h
      simp at hs
    simpa [Array.getElem?_push, this] using hs

/-- A block that is changed. -/
theorem Ev.row {ρ Im w ok} {b c : Nat} {T : TypeId} {cs cs' : Array Value} {fz : Nat × Nat} {cells cells' : List AVal} {vals : List Value} (s : St P ρ Im [(b, .vec T cells)] w)
    (hb : ρ b = some (c + 1)) (hg : w.heap[c]? = some (.cells cs T fz)) (hf : fz.1 ≤ fz.2 ∧ ∀ i, i < cs.size → ¬ (fz.1 ≤ i ∧ i < fz.2)) (hsz : cs'.size = cs.size)
    (hv : ∀ i (h : i < vals.length), cs'[i]? = some vals[i]) (hc : VRels P ρ Im w cells' vals) :
    Ev P ρ Im [(b, .vec T cells)] w ok ρ Im [(b, .vec T cells')] (w.setRow c cs') := by
  have hIm : ¬ Im c := by
    rcases s.obj b _ (List.mem_singleton_self _) with ⟨h1, _⟩ | ⟨d, h1, _, h3⟩
    · rw [hb] at h1; cases h1
    · rw [hb] at h1; cases h1; exact h3
  have hshape : ∀ d T n, w.shape? d = some (T, n) → (w.setRow c cs').shape? d = some (T, n) := by
    intro d T' n hs
    unfold World.shape? at hs ⊢
    by_cases hd : d = c
    · subst hd
      rw [hg] at hs
      rw [setRow_heap w d cs cs' T fz hg]
      simp only [Option.some.injEq, Prod.mk.injEq] at hs ⊢
      exact ⟨hs.1, by rw [hsz]; exact hs.2⟩
    · rw [setRow_other w c d cs' hd]; exact hs
  refine { size := by simp, os := rfl, out := rfl, keep := ?_, rho := fun _ _ h => h, im := fun _ h => h, imNew := fun _ h => .inl h, shape := hshape, own := ?_, names := ?_, ok := fun _ h => .inl h, st := ?_ }
  · intro d hd hn
    refine setRow_other w c d cs' fun h => ?_
    subst h
    exact hn b _ (List.mem_singleton_self _) hb
  · intro x y d hxy hr
    simp only [List.mem_singleton, Prod.mk.injEq] at hxy
    obtain ⟨rfl, rfl⟩ := hxy
    exact .inl ⟨x, _, List.mem_singleton_self _, hr⟩
  · intro x y hxy
    simp only [List.mem_singleton, Prod.mk.injEq] at hxy
    obtain ⟨rfl, rfl⟩ := hxy
    exact .inl ⟨_, List.mem_singleton_self _⟩
  · refine { obj := ?_, nd := by simp, inj := ?_, im := fun d hd => by have := s.im d hd; simpa using this }
    · intro x y hxy
      simp only [List.mem_singleton, Prod.mk.injEq] at hxy
      obtain ⟨rfl, rfl⟩ := hxy
      refine .inr ⟨c, hb, ⟨cs', fz, vals, setRow_heap w c cs cs' T fz hg, by rw [hsz]; exact hf, hv, ?_⟩, hIm⟩
      refine VRels.mono { rho := fun _ _ h => h, im := fun _ h => h, same := ?_, shape := hshape } hc
      intro d hd
      refine setRow_other w c d cs' fun h => ?_
      subst h
      exact hIm hd
    · intro x x' y y' d hx hx' _ _
      simp only [List.mem_singleton, Prod.mk.injEq] at hx hx'
      rw [hx.1, hx'.1]

theorem run_storeCells_vec (g o : Nat) (t : TypeId) (fz : Nat × Nat) : ∀ (vs : List Value) (i : Nat) (cur : Array Value) (w : World), w.heap[g]? = some (.cells cur t fz) →
    (∀ j, j < cur.size → ¬ (fz.1 ≤ j ∧ j < fz.2)) → o + i + vs.length ≤ cur.size → (∀ v ∈ vs, v.oneCell' = true) →
    (storeCells ⟨g, o, none⟩ vs i).run P w = .ok () (w.setRow g (cur.toList.take (o + i) ++ vs ++ cur.toList.drop (o + i + vs.length)).toArray)
  | [], i, cur, w, hg, _, _, _ => by
    simp only [storeCells, List.append_nil, List.length_nil, Nat.add_zero, List.take_append_drop, Array.toArray_toList]
    rw [setRow_self w g cur t fz hg]
    rfl
  | v :: rest, i, cur, w, hg, hf, hl, h1 => by
    have hi : o + i < cur.size := by simp at hl; omega
    have hadd : (⟨g, o, none⟩ : Addr).add i = ⟨g, o + i, none⟩ := addr_add _ _ _
    have hcell : w.cell? ⟨g, o + i, none⟩ = some cur[o + i] := by simp [World.cell?, hg, hi]
    have hfro : w.frozen? ⟨g, o + i, none⟩ = false := by
      have := hf (o + i) hi
      simp only [World.frozen?, hg]
      rw [Bool.and_eq_false_iff, decide_eq_false_iff_not, decide_eq_false_iff_not]
      rcases Nat.lt_or_ge (o + i) fz.1 with h2 | h2
      · exact .inl (by omega)
      · exact .inr fun h3 => this ⟨h2, h3⟩
    have hst : (store ((⟨g, o, none⟩ : Addr).add i) v).run P w = .ok () (w.setRow g (cur.setIfInBounds (o + i) v)) := by
      rw [hadd, run_store P w _ v _ (h1 v (by simp)), hcell]
      simp [hfro, setCell_eq_setRow w g (o + i) cur t fz v hg]
    have ih := run_storeCells_vec g o t fz rest (i + 1) (cur.setIfInBounds (o + i) v) (w.setRow g (cur.setIfInBounds (o + i) v)) (setRow_heap w g cur _ t _ hg) (by simpa using hf) (by simp at hl ⊢; omega) (fun x hx => h1 x (by simp [hx]))
    simp only [storeCells, Sem.run_bind, hst, Result.andThen_ok, ih, setRow_setRow]
    congr 3
    have e := list_seg_step cur.toList (o + i) v rest (by simp at hl ⊢; omega)
    simpa [Array.toList_setIfInBounds, Nat.add_assoc] using e

/-- What is known of a block behind a pointer. -/
theorem St.at {ρ Im w b T cells off} {v : Value} (s : St P ρ Im [(b, .vec T cells)] w) (h : VRel P ρ Im w (.ptr b off) v) :
    ∃ c cs fz vals, ρ b = some (c + 1) ∧ v = .pointer (some ⟨c, off, none⟩) ∧ w.heap[c]? = some (.cells cs T fz) ∧ (fz.1 ≤ fz.2 ∧ ∀ i, i < cs.size → ¬ (fz.1 ≤ i ∧ i < fz.2)) ∧
      (∀ i (h : i < vals.length), cs[i]? = some vals[i]) ∧ VRels P ρ Im w cells vals := by
  simp only [VRel] at h
  obtain ⟨c, h1, h2⟩ := h
  rcases s.obj b _ (List.mem_singleton_self _) with ⟨h3, _⟩ | ⟨d, h3, ⟨cs, fz, vals, g1, g2, g3, g4⟩, _⟩
  · rw [h1] at h3; cases h3
  · rw [h1] at h3; cases h3
    exact ⟨c, cs, fz, vals, h1, h2, g1, g2, g3, g4⟩

theorem run_loadVec {w : World} {c off k : Nat} {cs : Array Value} {T : TypeId} {fz : Nat × Nat} {vals : List Value} (hg : w.heap[c]? = some (.cells cs T fz))
    (hv : ∀ i (h : i < vals.length), cs[i]? = some vals[i]) (hk : off + k ≤ vals.length) :
    (loadCells ⟨c, off, none⟩ k).run P w = .ok ((vals.drop off).take k).toArray w := by
  have := run_loadCells_list (P := P) w ⟨c, off, none⟩ ((vals.drop off).take k) (fun j v hj => by
    rw [addr_add]
    rw [List.getElem?_take, List.getElem?_drop] at hj
    split at hj
    · have hlt : off + j < vals.length := by omega
      simp only [World.cell?, hg, Option.isSome_none, Bool.false_eq_true, if_false]
      rw [hv (off + j) hlt]
      rw [List.getElem?_eq_getElem hlt] at hj
      exact hj
    · cases hj)
  have hl : ((vals.drop off).take k).length = k := by simp; omega
  rwa [hl] at this

section
variable {o : Oper} {x y z : Operand} {t t' T : TypeId} {v u : AVal} {b off k : Nat} {cells vs : List AVal}

theorem run_isAgg_scal {w : World} (h : scalT P t = true) : (isAgg t).run P w = .ok false w ∧ (sizeOf t).run P w = .ok 1 w := by
  unfold scalT at h
  cases hu : P.underlying t with
  | none => rw [hu] at h; cases h
  | some d =>
    rw [hu] at h
    have hi : ∃ i, P.info? t = some i := info_of_underlying hu
    obtain ⟨i, hi⟩ := hi
    constructor
    · cases d <;> simp only [reduceCtorEq, Bool.false_eq_true] at h <;> simp [isAgg, run_underlying hu]
    · have : i.size = 1 := by cases d <;> simp [hi] at h <;> exact h
      simp [sizeOf, typeInfo, hi, this]
theorem run_isAgg_agg {w : World} (h : aggT P t = some k) : (isAgg t).run P w = .ok true w ∧ (sizeOf t).run P w = .ok k w := by
  unfold aggT at h
  cases hu : P.underlying t with
  | none => rw [hu] at h; cases h
  | some d =>
    rw [hu] at h
    have hi : ∃ i, P.info? t = some i := info_of_underlying hu
    obtain ⟨i, hi⟩ := hi
    constructor
    · cases d <;> simp only [reduceCtorEq] at h <;> simp [isAgg, run_underlying hu]
    · have : i.size = k := by cases d <;> simp [hi] at h <;> exact h
      simp [sizeOf, typeInfo, hi, this]

theorem opF1 {F F' : AHeap} (hx : o.op.operands.toList = [x])
    (h : ∀ ρ Im w (a : Act) sup, St P ρ Im F w → Fresh ρ [] sup → VRel P ρ Im w v (a.eval x) → ∃ r w' ρ' Im', (execOp a.eval o).run P w = .ok (.value r) w' ∧ VRel P ρ' Im' w' u r ∧
      Ev P ρ Im F w (okOf [] sup) ρ' Im' F' w') : OpV P o [v] F [] u F' := by
  refine OpV.value fun ρ Im w a sup s fr hv => ?_
  rw [Array.toList_map, hx] at hv
  obtain ⟨r, hr, hv⟩ := VRels.one.1 hv
  simp only [List.map_cons, List.map_nil, List.cons.injEq, and_true] at hr
  subst hr
  exact h ρ Im w a sup s fr hv

theorem op_load (ho : o.op = .load t x) (ht : scalT P t = true) (hc : cells[off]? = some v) :
    OpV P o [.ptr b off] [(b, .vec T cells)] [] v [(b, .vec T cells)] :=
  opF1 (x := x) (by rw [ho]; rfl) fun ρ Im w a sup s fr hv => by
    obtain ⟨c, cs, fz, vals, h1, h2, h3, h4, h5, h6⟩ := s.at hv
    obtain ⟨r, h7, h8⟩ := h6.get hc
    obtain ⟨hlt, hget⟩ := List.getElem?_eq_some_iff.1 h7
    refine ⟨r, w, ρ, Im, ?_, h8, Ev.refl s⟩
    have hcell : w.cell? ⟨c, off, none⟩ = some r := by simp [World.cell?, h3, h5 off hlt, hget]
    simp [execOp, ho, h2, Instr.loadAt, Instr.sureAddr, loadVar, (run_isAgg_scal (w := w) ht).1, hcell]

theorem op_loadA (ho : o.op = .load t x) (ht : aggT P t = some k) (hk : off + k ≤ cells.length) :
    OpV P o [.ptr b off] [(b, .vec T cells)] [] (.agg ((cells.drop off).take k)) [(b, .vec T cells)] :=
  opF1 (x := x) (by rw [ho]; rfl) fun ρ Im w a sup s fr hv => by
    obtain ⟨c, cs, fz, vals, h1, h2, h3, h4, h5, h6⟩ := s.at hv
    have hl := h6.length
    refine ⟨.agg ((vals.drop off).take k).toArray, w, ρ, Im, ?_, ?_, Ev.refl s⟩
    · have := run_loadVec (P := P) (k := k) (off := off) h3 h5 (by omega)
      simp [execOp, ho, h2, Instr.loadAt, Instr.sureAddr, loadVar, (run_isAgg_agg (w := w) ht).1, (run_isAgg_agg (w := w) ht).2, this]
    · simp only [VRel]
      exact ⟨_, rfl, by simpa using (h6.drop off).take k⟩

theorem vptr_at {ρ Im w} {r : Value} (h : VRel P ρ Im w (.vptr cells off) r) : ∃ c base vals, r = .pointer (some ⟨c, base + off, none⟩) ∧ Reads w c base vals ∧ VRels P ρ Im w cells vals := by
  simp only [VRel] at h
  obtain ⟨c, base, vals, h1, _, h3, h4⟩ := h
  exact ⟨c, base, vals, h1, h3, h4⟩

theorem run_loadReads {w : World} {c base k off : Nat} {vals : List Value} (hr : Reads w c base vals) (hk : off + k ≤ vals.length) :
    (loadCells ⟨c, base + off, none⟩ k).run P w = .ok ((vals.drop off).take k).toArray w := by
  have := run_loadCells_list (P := P) w ⟨c, base + off, none⟩ ((vals.drop off).take k) (fun j v hj => by
    rw [addr_add]
    rw [List.getElem?_take, List.getElem?_drop] at hj
    split at hj
    · have hlt : off + j < vals.length := by omega
      have := hr (off + j) hlt
      rw [← Nat.add_assoc] at this
      rw [this]
      rw [List.getElem?_eq_getElem hlt] at hj
      exact hj
    · cases hj)
  have hl : ((vals.drop off).take k).length = k := by simp; omega
  rwa [hl] at this

theorem op_loadV (ho : o.op = .load t x) (ht : scalT P t = true) (hc : cells[off]? = some v) : OpV P o [.vptr cells off] [] [] v [] :=
  op1 (x := x) (by rw [ho]; rfl) fun ρ Im w a hv => by
    obtain ⟨c, base, vals, h1, h2, h3⟩ := vptr_at hv
    obtain ⟨r, h7, h8⟩ := h3.get hc
    obtain ⟨hlt, hget⟩ := List.getElem?_eq_some_iff.1 h7
    have := h2 off hlt
    refine ⟨r, ?_, h8⟩
    simp [execOp, ho, h1, Instr.loadAt, Instr.sureAddr, loadVar, (run_isAgg_scal (w := w) ht).1, this, hget]
theorem op_loadVA (ho : o.op = .load t x) (ht : aggT P t = some k) (hk : off + k ≤ cells.length) : OpV P o [.vptr cells off] [] [] (.agg ((cells.drop off).take k)) [] :=
  op1 (x := x) (by rw [ho]; rfl) fun ρ Im w a hv => by
    obtain ⟨c, base, vals, h1, h2, h3⟩ := vptr_at hv
    have hl := h3.length
    refine ⟨.agg ((vals.drop off).take k).toArray, ?_, ?_⟩
    · have := run_loadReads (P := P) (k := k) h2 (by omega : off + k ≤ vals.length)
      simp [execOp, ho, h1, Instr.loadAt, Instr.sureAddr, loadVar, (run_isAgg_agg (w := w) ht).1, (run_isAgg_agg (w := w) ht).2, this]
    · simp only [VRel]
      exact ⟨_, rfl, by simpa using (h3.drop off).take k⟩

theorem opS2 {F F' : AHeap} (hx : o.op.operands.toList = [x, y])
    (h : ∀ ρ Im w (a : Act) sup, St P ρ Im F w → Fresh ρ [] sup → VRel P ρ Im w v (a.eval x) → VRel P ρ Im w u (a.eval y) → ∃ w' ρ' Im', (execOp a.eval o).run P w = .ok .skip w' ∧
      Ev P ρ Im F w (okOf [] sup) ρ' Im' F' w') : OpV P o [v, u] F [] (.tup []) F' := by
  refine OpV.skip fun ρ Im w a sup s fr hv => ?_
  rw [Array.toList_map, hx] at hv
  obtain ⟨r, r', hr, hv, hu⟩ := VRels.two.1 hv
  simp only [List.map_cons, List.map_nil, List.cons.injEq, and_true] at hr
  obtain ⟨rfl, rfl⟩ := hr
  exact h ρ Im w a sup s fr hv hu

theorem set_toArray (cs : Array Value) (off : Nat) (v : Value) (h : off < cs.size) :
    (cs.toList.take off ++ [v] ++ cs.toList.drop (off + 1)).toArray = cs.setIfInBounds off v := by
  apply Array.ext'
  simp only [Array.toList_setIfInBounds]
  rw [List.set_eq_take_append_cons_drop, if_pos (by simpa using h)]
  simp

theorem op_store (ho : o.op = .store t x y) (ht : scalT P t = true) (hs : v.scalar = true) (hc : off < cells.length) :
    OpV P o [.ptr b off, v] [(b, .vec T cells)] [] (.tup []) [(b, .vec T (cells.set off v))] :=
  opS2 (x := x) (y := y) (by rw [ho]; rfl) fun ρ Im w a sup s fr hv hu => by
    obtain ⟨c, cs, fz, vals, h1, h2, h3, h4, h5, h6⟩ := s.at hv
    have hl := h6.length
    have hoc := hu.oneCell hs
    have hlt : off < cs.size := by
      have := h5 off (by omega)
      exact (Array.getElem?_eq_some_iff.1 this).1
    have hst := run_storeCells_vec (P := P) c off T fz [a.eval y] 0 cs w h3 h4.2 (by simp; omega) (by simpa using hoc.1)
    refine ⟨w.setRow c (cs.setIfInBounds off (a.eval y)), ρ, Im, ?_, ?_⟩
    · simp only [Nat.add_zero, List.length_singleton, set_toArray cs off _ hlt] at hst
      simp [execOp, ho, h2, Instr.storeAt, Instr.sureAddr, storeVar, (run_isAgg_scal (w := w) ht).2, hoc.2, hst]
    · refine Ev.row s h1 h3 h4 (by simp) (vals := vals.set off (a.eval y)) ?_ (h6.set hu off)
      intro i hi
      rw [List.length_set] at hi
      rw [Array.getElem?_setIfInBounds, List.getElem_set]
      split
      · subst_vars; simp [hlt]
      · exact h5 i hi

theorem pre_of {cs : Array Value} {vals : List Value} (h : ∀ i (h : i < vals.length), cs[i]? = some vals[i]) : ∃ r, cs.toList = vals ++ r := by
  refine ⟨cs.toList.drop vals.length, ?_⟩
  have hl : vals.length ≤ cs.size := by
    rcases Nat.eq_zero_or_pos vals.length with h0 | h0
    · omega
    · have := h (vals.length - 1) (by omega)
      have := (Array.getElem?_eq_some_iff.1 this).1
      omega
  apply List.ext_getElem?
  intro j
  by_cases hj : j < vals.length
  · rw [List.getElem?_append_left hj, Array.getElem?_toList, h j hj, List.getElem?_eq_getElem hj]
  · rw [List.getElem?_append_right (by omega), List.getElem?_drop]
    congr 1; omega

theorem op_storeA (ho : o.op = .store t x y) (ht : aggT P t = some k) (hk : vs.length = k) (hs : vs.all AVal.scalar = true) (hc : off + k ≤ cells.length) :
    OpV P o [.ptr b off, .agg vs] [(b, .vec T cells)] [] (.tup []) [(b, .vec T (cells.take off ++ vs ++ cells.drop (off + k)))] :=
  opS2 (x := x) (y := y) (by rw [ho]; rfl) fun ρ Im w a sup s fr hv hu => by
    obtain ⟨c, cs, fz, vals, h1, h2, h3, h4, h5, h6⟩ := s.at hv
    have hl := h6.length
    simp only [VRel] at hu
    obtain ⟨us, h7, h8⟩ := hu
    have hlu := h8.length
    have hone := h8.oneCell hs
    obtain ⟨r, hr⟩ := pre_of h5
    have hsz : cs.size = vals.length + r.length := by rw [← Array.length_toList, hr, List.length_append]
    have hul : us.size = k := by simpa [hk] using hlu
    have hst := run_storeCells_vec (P := P) c off T fz us.toList 0 cs w h3 h4.2 (by simp; omega) hone
    have e1 : cs.toList.take off ++ us.toList ++ cs.toList.drop (off + k) = (vals.take off ++ us.toList ++ vals.drop (off + k)) ++ r := by
      rw [hr, List.take_append_of_le_length (by omega), List.drop_append_of_le_length (by omega)]
      simp
    simp only [Nat.add_zero, Array.length_toList, hul, e1] at hst
    refine ⟨w.setRow c ((vals.take off ++ us.toList ++ vals.drop (off + k)) ++ r).toArray, ρ, Im, ?_, ?_⟩
    · simp [execOp, ho, h2, h7, Instr.storeAt, Instr.sureAddr, storeVar, (run_isAgg_agg (w := w) ht).2, Value.cells, hul]
      rw [show vals.take off ++ (us.toList ++ (vals.drop (off + k) ++ r)) = (vals.take off ++ us.toList ++ vals.drop (off + k)) ++ r by simp, hst]
      rfl
    · refine Ev.row s h1 h3 h4 ?_ (vals := vals.take off ++ us.toList ++ vals.drop (off + k)) ?_ ?_
      · simp; omega
      · intro i hi
        rw [List.getElem?_toArray, List.getElem?_append_left hi, List.getElem?_eq_getElem hi]
      · exact ((h6.take off).append h8).append (h6.drop _)
end
end Go.Kw

namespace Go.Kw
set_option linter.unusedVariables false
set_option linter.unusedSimpArgs false
variable {P : Program}

section
variable {o : Oper} {x y z : Operand} {t t' T : TypeId} {v u : AVal} {b off k len sz n : Nat} {full : Bool} {cells vs : List AVal} {i : Int} {q : IntKind}

theorem opA0 {b : Nat} {X : Nat × AObj} (hx : o.op.operands.toList = [])
    (h : ∀ ρ Im w (a : Act) sup, St P ρ Im [] w → Fresh ρ [b] sup → ∃ r w' ρ' Im', (execOp a.eval o).run P w = .ok (.value r) w' ∧ VRel P ρ' Im' w' v r ∧
      Ev P ρ Im [] w (okOf [b] sup) ρ' Im' [X] w') : OpV P o [] [] [b] v [X] := by
  refine OpV.value fun ρ Im w a sup s fr hv => ?_
  exact h ρ Im w a sup s fr
theorem opA1 {b : Nat} {X : Nat × AObj} (hx : o.op.operands.toList = [x])
    (h : ∀ ρ Im w (a : Act) sup, St P ρ Im [] w → Fresh ρ [b] sup → VRel P ρ Im w u (a.eval x) → ∃ r w' ρ' Im', (execOp a.eval o).run P w = .ok (.value r) w' ∧ VRel P ρ' Im' w' v r ∧
      Ev P ρ Im [] w (okOf [b] sup) ρ' Im' [X] w') : OpV P o [u] [] [b] v [X] := by
  refine OpV.value fun ρ Im w a sup s fr hv => ?_
  rw [Array.toList_map, hx] at hv
  obtain ⟨r, hr, hv⟩ := VRels.one.1 hv
  simp only [List.map_cons, List.map_nil, List.cons.injEq, and_true] at hr
  subst hr
  exact h ρ Im w a sup s fr hv

theorem ptr_new {ρ : Nat → Option Nat} {Im : Nat → Prop} {w w' : World} : VRel P (fun x => if x = b then some (w.heap.size + 1) else ρ x) Im w' (.ptr b 0) (.pointer (some ⟨w.heap.size, 0, none⟩)) := by
  simp only [VRel]
  exact ⟨w.heap.size, by simp, rfl⟩

theorem op_alloc (ho : o.op = .alloc t) (hz : zeroT P t = some cells) : OpV P o [] [] [b] (.ptr b 0) [(b, .vec t cells)] :=
  opA0 (by rw [ho]; rfl) fun ρ Im w a sup s fr => by
    unfold zeroT at hz
    cases hi : P.info? t with
    | none => rw [hi] at hz; cases hz
    | some i =>
      rw [hi] at hz
      simp only [Option.bind_some] at hz
      cases hzz : i.zero with
      | none => rw [hzz] at hz; cases hz
      | some zv =>
        rw [hzz] at hz
        simp only [Option.bind_some] at hz
        refine ⟨.pointer (some ⟨w.heap.size, 0, none⟩), { w with heap := w.heap.push (.cells zv.cells t (0, 0)) }, _, Im, ?_, ptr_new,
          Ev.pushRow s fr (0, 0) ⟨Nat.le_refl _, fun i _ => by simp⟩ (vals := zv.cells.toList) (fun i hi => by simp) (absCs_rel hz)⟩
        simp [execOp, ho, Instr.alloc, zeroValue, typeInfo, hi, hzz, newVar, newRow]

theorem op_box (ho : o.op = .box t x) (hs : ∀ l, u ≠ .tup l) : OpV P o [u] [] [b] (.ptr b 0) [(b, .vec t u.cellsA)] :=
  opA1 (x := x) (by rw [ho]; rfl) fun ρ Im w a sup s fr hv => by
    refine ⟨.pointer (some ⟨w.heap.size, 0, none⟩), { w with heap := w.heap.push (.cells (a.eval x).cells t (0, 0)) }, _, Im, ?_, ptr_new,
      Ev.pushRow s fr (0, 0) ⟨Nat.le_refl _, fun i _ => by simp⟩ (vals := (a.eval x).cells.toList) (fun i hi => by simp) (hv.cells hs)⟩
    simp [execOp, ho, Instr.box, newVar, newRow]

theorem op_nilCheck (ho : o.op = .nilCheck x) : OpV P o [.ptr b off] [] [] (.ptr b off) [] :=
  op1 (x := x) (by rw [ho]; rfl) fun ρ Im w a hv => by
    have h := hv
    simp only [VRel] at h
    obtain ⟨c, h1, h2⟩ := h
    exact ⟨a.eval x, by simp [execOp, ho, h2], hv⟩
theorem op_nilCheckV (ho : o.op = .nilCheck x) : OpV P o [.vptr cells off] [] [] (.vptr cells off) [] :=
  op1 (x := x) (by rw [ho]; rfl) fun ρ Im w a hv => by
    have h := hv
    simp only [VRel] at h
    obtain ⟨c, base, vals, h2, _⟩ := h
    exact ⟨a.eval x, by simp [execOp, ho, h2], hv⟩

theorem run_fieldAt {w : World} {s f c d : Nat} (hf : fieldT P s f = some d) : (Instr.fieldAt s (.pointer (some ⟨c, off, none⟩)) f).run P w = .ok (.pointer (some ⟨c, off + d, none⟩)) w := by
  unfold fieldT at hf
  cases hu : P.underlying s with
  | none => rw [hu] at hf; cases hf
  | some ds =>
    cases ds <;> rw [hu] at hf <;> simp only [reduceCtorEq] at hf
    rename_i fs
    cases hfd : fs[f]? with
    | none => rw [hfd] at hf; cases hf
    | some fd =>
      rw [hfd] at hf
      simp only [Option.bind_some] at hf
      cases hi : P.info? fd.type with
      | none => rw [hi] at hf; cases hf
      | some i =>
        rw [hi] at hf
        simp only [Option.bind_some] at hf
        split at hf
        · cases hf
        · rename_i hne
          simp only [Option.some.injEq] at hf
          subst hf
          simp [Instr.fieldAt, run_underlying hu, hfd, Instr.sureAddr, fieldPlace, sizeOf, typeInfo, hi, hne, addr_add]

theorem op_field {s f d : Nat} (ho : o.op = .fieldAddr s x f) (hf : fieldT P s f = some d) : OpV P o [.ptr b off] [] [] (.ptr b (off + d)) [] :=
  op1 (x := x) (by rw [ho]; rfl) fun ρ Im w a hv => by
    simp only [VRel] at hv ⊢
    obtain ⟨c, h1, h2⟩ := hv
    exact ⟨.pointer (some ⟨c, off + d, none⟩), by simp [execOp, ho, h2, run_fieldAt hf], c, h1, rfl⟩
theorem op_fieldV {s f d : Nat} (ho : o.op = .fieldAddr s x f) (hf : fieldT P s f = some d) : OpV P o [.vptr cells off] [] [] (.vptr cells (off + d)) [] :=
  op1 (x := x) (by rw [ho]; rfl) fun ρ Im w a hv => by
    simp only [VRel] at hv ⊢
    obtain ⟨c, base, vals, h1, h2⟩ := hv
    exact ⟨.pointer (some ⟨c, base + off + d, none⟩), by simp [execOp, ho, h1, run_fieldAt hf], c, base, vals, by simp [Nat.add_assoc], h2⟩

theorem arrT_und {e : TypeId} (h : arrT P t = some (n, e, sz)) : P.underlying t = some (.array n e) ∧ ∀ w, (sizeOf e).run P w = .ok sz w := by
  unfold arrT at h
  cases hu : P.underlying t with
  | none => rw [hu] at h; cases h
  | some d =>
    cases d <;> rw [hu] at h <;> simp only [reduceCtorEq] at h
    rename_i n' e'
    cases hi : P.info? e' with
    | none => rw [hi] at h; cases h
    | some i =>
      rw [hi] at h
      simp only [Option.map_some, Option.some.injEq, Prod.mk.injEq] at h
      obtain ⟨rfl, rfl, rfl⟩ := h
      exact ⟨rfl, fun w => by simp [sizeOf, typeInfo, hi]⟩
theorem slT_und {e : TypeId} {by' : Nat} (h : slT P t = some (e, sz, by')) : P.underlying t = some (.slice e) ∧ (∀ w, (sizeOf e).run P w = .ok sz w) ∧ ∃ i, P.info? e = some i ∧ i.size = sz ∧ i.bytes = by' := by
  unfold slT at h
  cases hu : P.underlying t with
  | none => rw [hu] at h; cases h
  | some d =>
    cases d <;> rw [hu] at h <;> simp only [reduceCtorEq] at h
    rename_i e'
    cases hi : P.info? e' with
    | none => rw [hi] at h; cases h
    | some i =>
      rw [hi] at h
      simp only [Option.map_some, Option.some.injEq, Prod.mk.injEq] at h
      obtain ⟨rfl, rfl, rfl⟩ := h
      exact ⟨rfl, fun w => by simp [sizeOf, typeInfo, hi], i, hi, rfl, rfl⟩

theorem op_idxA {e : TypeId} (ho : o.op = .indexAddr t x y) (ht : arrT P t = some (n, e, sz)) (h0 : 0 ≤ i) (h1 : i < n) :
    OpV P o [.ptr b off, .int q i] [] [] (.ptr b (off + i.toNat * sz)) [] :=
  op2 (x := x) (y := y) (by rw [ho]; rfl) fun ρ Im w a hv hu => by
    obtain ⟨hu1, hu2⟩ := arrT_und ht
    simp only [VRel] at hv hu ⊢
    obtain ⟨c, g1, g2⟩ := hv
    refine ⟨.pointer (some ⟨c, off + i.toNat * sz, none⟩), ?_, c, g1, rfl⟩
    simp [execOp, ho, g2, hu, Instr.indexAt, asIntOf, run_underlying hu1, Instr.sureAddr, h0, h1, hu2, addr_add]
theorem op_idxVA {e : TypeId} (ho : o.op = .indexAddr t x y) (ht : arrT P t = some (n, e, sz)) (h0 : 0 ≤ i) (h1 : i < n) :
    OpV P o [.vptr cells off, .int q i] [] [] (.vptr cells (off + i.toNat * sz)) [] :=
  op2 (x := x) (y := y) (by rw [ho]; rfl) fun ρ Im w a hv hu => by
    obtain ⟨hu1, hu2⟩ := arrT_und ht
    simp only [VRel] at hv hu ⊢
    obtain ⟨c, base, vals, g1, g2⟩ := hv
    refine ⟨.pointer (some ⟨c, base + off + i.toNat * sz, none⟩), ?_, c, base, vals, by simp [Nat.add_assoc], g2⟩
    simp [execOp, ho, g1, hu, Instr.indexAt, asIntOf, run_underlying hu1, Instr.sureAddr, h0, h1, hu2, addr_add]
theorem op_idxO {e : TypeId} {by' : Nat} (ho : o.op = .indexAddr t x y) (ht : slT P t = some (e, sz, by')) (h0 : 0 ≤ i) (h1 : i < len) :
    OpV P o [.os b off len k full, .int q i] [] [] (.ptr b (off + i.toNat * sz)) [] :=
  op2 (x := x) (y := y) (by rw [ho]; rfl) fun ρ Im w a hv hu => by
    obtain ⟨hu1, hu2, _⟩ := slT_und ht
    simp only [VRel] at hv hu ⊢
    rcases hv with ⟨_, rfl, _⟩ | ⟨c, cap, T, m, g1, g2, g3⟩
    · omega
    refine ⟨.pointer (some ⟨c, off + i.toNat * sz, none⟩), ?_, c, g1, rfl⟩
    simp [execOp, ho, g2, hu, Instr.indexAt, asIntOf, run_underlying hu1, Instr.sureAddr, h0, h1, hu2, addr_add]
theorem op_idxV {e : TypeId} {by' : Nat} (ho : o.op = .indexAddr t x y) (ht : slT P t = some (e, sz, by')) (h0 : 0 ≤ i) (h1 : i < len) (hc : cells ≠ []) :
    OpV P o [.vs len full cells, .int q i] [] [] (.vptr cells (i.toNat * sz)) [] :=
  op2 (x := x) (y := y) (by rw [ho]; rfl) fun ρ Im w a hv hu => by
    obtain ⟨hu1, hu2, _⟩ := slT_und ht
    simp only [VRel] at hv hu ⊢
    obtain ⟨ad, cap, g1, g2, g3, g4⟩ := hv
    rcases g4 with g4 | ⟨c, base, vals, rfl, g5⟩
    · exact absurd g4 hc
    refine ⟨.pointer (some ⟨c, base + i.toNat * sz, none⟩), ?_, c, base, vals, rfl, g5⟩
    simp [execOp, ho, g1, hu, Instr.indexAt, asIntOf, run_underlying hu1, Instr.sureAddr, h0, h1, hu2, addr_add]

/-! ### Slicing -/

def optV (q : IntKind) : Option Int → List AVal
  | none => []
  | some i => [.int q i]
def bnd (x : Option Int) (d : Nat) : Nat := match x with | none => d | some i => i.toNat
def inB (x : Option Int) (d : Nat) : Prop := match x with | none => True | some i => 0 ≤ i ∧ i ≤ d

theorem run_sliceBound {w : World} {y : Nat} {c : BoundsCode} (h0 : 0 ≤ i) (h1 : i ≤ y) : (Instr.sliceBound (.int q i) y c).run P w = .ok i.toNat w := by
  simp [Instr.sliceBound, asIntOf, h0, h1]
theorem run_bounds {w : World} {isS : Bool} {len cap : Nat} {lo hi mx : Option Int} (hm : inB mx cap) (hh : inB hi (bnd mx cap)) (hl : inB lo (bnd hi len)) (hmh : mx.isSome = true → hi.isSome = true) :
    (Instr.sliceBounds isS len cap (lo.map (.int q)) (hi.map (.int q)) (mx.map (.int q))).run P w = .ok (bnd lo 0, bnd hi len, bnd mx cap) w := by
  cases mx with
  | none =>
    cases hi with
    | none =>
      cases lo with
      | none => simp [Instr.sliceBounds, bnd]
      | some l =>
        have hl' : 0 ≤ l ∧ l ≤ (len : Int) := hl
        simp [Instr.sliceBounds, bnd, run_sliceBound hl'.1 hl'.2]
    | some h =>
      have hh' : 0 ≤ h ∧ h ≤ (cap : Int) := hh
      cases lo with
      | none => simp [Instr.sliceBounds, bnd, run_sliceBound hh'.1 hh'.2]
      | some l =>
        have hl' : 0 ≤ l ∧ l ≤ (h.toNat : Int) := hl
        simp [Instr.sliceBounds, bnd, run_sliceBound hh'.1 hh'.2, run_sliceBound hl'.1 hl'.2]
  | some m =>
    have hm' : 0 ≤ m ∧ m ≤ (cap : Int) := hm
    cases hi with
    | none => simp at hmh
    | some h =>
      have hh' : 0 ≤ h ∧ h ≤ (m.toNat : Int) := hh
      cases lo with
      | none => simp [Instr.sliceBounds, bnd, run_sliceBound hm'.1 hm'.2, run_sliceBound hh'.1 hh'.2]
      | some l =>
        have hl' : 0 ≤ l ∧ l ≤ (h.toNat : Int) := hl
        simp [Instr.sliceBounds, bnd, run_sliceBound hm'.1 hm'.2, run_sliceBound hh'.1 hh'.2, run_sliceBound hl'.1 hl'.2]

theorem map_eval_opt {ρ Im w} {a : Act} {lo : Option Operand} {li : Option Int} {rest : List AVal} {vs : List Value} (hs : lo.isSome = li.isSome)
    (h : VRels P ρ Im w (optV q li ++ rest) (lo.toList.map a.eval ++ vs)) : lo.map a.eval = li.map (.int q) ∧ VRels P ρ Im w rest vs := by
  cases lo <;> cases li <;> simp at hs
  · exact ⟨rfl, h⟩
  · simp only [optV, Option.toList_some, List.map_cons, List.map_nil, List.cons_append, List.nil_append, VRels] at h
    obtain ⟨v, vs', h1, h2, h3⟩ := h
    simp only [List.cons.injEq] at h1
    obtain ⟨rfl, rfl⟩ := h1
    simp only [VRel] at h2
    exact ⟨by simp [h2], h3⟩

theorem opSl {lo hi mx : Option Operand} {li hI mi : Option Int} (ho : o.op = .slice t x lo hi mx) (hl : lo.isSome = li.isSome) (hh : hi.isSome = hI.isSome) (hm : mx.isSome = mi.isSome)
    (h : ∀ ρ Im w (a : Act), VRel P ρ Im w u (a.eval x) → ∃ r, (Instr.sliceAt t (a.eval x) (li.map (.int q)) (hI.map (.int q)) (mi.map (.int q))).run P w = .ok r w ∧ VRel P ρ Im w v r) :
    OpV P o (u :: (optV q li ++ (optV q hI ++ optV q mi))) [] [] v [] := by
  refine OpV.pure fun ρ Im w a hv => ?_
  rw [Array.toList_map, ho] at hv
  have e : (Op.slice t x lo hi mx).operands.toList = x :: (lo.toList ++ (hi.toList ++ mx.toList)) := by
    simp [Op.operands]
  rw [e] at hv
  simp only [List.map_cons, List.map_append, VRels] at hv
  obtain ⟨r, rs, h1, h2, h3⟩ := hv
  simp only [List.cons.injEq] at h1
  obtain ⟨rfl, rfl⟩ := h1
  obtain ⟨g1, h4⟩ := map_eval_opt hl h3
  obtain ⟨g2, h5⟩ := map_eval_opt hh h4
  have h6 : VRels P ρ Im w (optV q mi ++ []) (mx.toList.map a.eval ++ []) := by simpa using h5
  obtain ⟨g3, _⟩ := map_eval_opt hm h6
  obtain ⟨r, hr, hv⟩ := h ρ Im w a h2
  exact ⟨r, by simp [execOp, ho, g1, g2, g3, hr], hv⟩

/-- A part of an array that lies in a block. -/
theorem op_slA {e : TypeId} {lo hi mx : Option Operand} {li hI mi : Option Int} (ho : o.op = .slice t x lo hi mx) (ht : arrT P t = some (n, e, sz))
    (hl : lo.isSome = li.isSome) (hh : hi.isSome = hI.isSome) (hm : mx.isSome = mi.isSome) (hmh : mi.isSome = true → hI.isSome = true)
    (b1 : inB mi n) (b2 : inB hI (bnd mi n)) (b3 : inB li (bnd hI n)) (hfull : full = true → bnd hI n = bnd mi n) (hfit : off + n * sz ≤ cells.length) :
    OpV P o (.ptr b off :: (optV q li ++ (optV q hI ++ optV q mi))) [(b, .vec T cells)] [] (.os b (off + bnd li 0 * sz) (bnd hI n - bnd li 0) sz full) [(b, .vec T cells)] := by
  refine OpV.value fun ρ Im w a sup s fr hv => ?_
  rw [Array.toList_map, ho] at hv
  have e0 : (Op.slice t x lo hi mx).operands.toList = x :: (lo.toList ++ (hi.toList ++ mx.toList)) := by
    simp [Op.operands]
  rw [e0] at hv
  simp only [List.map_cons, List.map_append, VRels] at hv
  obtain ⟨r, rs, h1, h2, h3⟩ := hv
  simp only [List.cons.injEq] at h1
  obtain ⟨rfl, rfl⟩ := h1
  obtain ⟨g1, h4⟩ := map_eval_opt hl h3
  obtain ⟨g2, h5⟩ := map_eval_opt hh h4
  have h6 : VRels P ρ Im w (optV q mi ++ []) (mx.toList.map a.eval ++ []) := by simpa using h5
  obtain ⟨g3, _⟩ := map_eval_opt hm h6
  obtain ⟨c, cs, fz, vals, k1, k2, k3, k4, k5, k6⟩ := s.at h2
  obtain ⟨hu1, hu2⟩ := arrT_und ht
  have hr := run_bounds (P := P) (q := q) (w := w) (isS := false) (len := n) b1 b2 b3 hmh
  have hle1 : bnd li 0 ≤ bnd hI n := by cases li with
    | none => simp [bnd]
    | some l => simp only [inB] at b3; simp only [bnd] at b3 ⊢; omega
  have hle2 : bnd hI n ≤ bnd mi n := by
    cases hI with
    | none => cases mi with
      | none => simp [bnd]
      | some m => simp at hmh
    | some h => simp only [inB] at b2; simp only [bnd] at b2 ⊢; omega
  have hle3 : bnd mi n ≤ n := by cases mi with
    | none => simp [bnd]
    | some m => simp only [inB] at b1; simp only [bnd]; omega
  refine ⟨.slice (some (if bnd mi n = bnd li 0 then ⟨c, off, none⟩ else ⟨c, off + bnd li 0 * sz, none⟩)) (bnd hI n - bnd li 0) (bnd mi n - bnd li 0), w, ρ, Im, ?_, ?_, Ev.refl s⟩
  · simp [execOp, ho, g1, g2, g3, Instr.sliceAt, run_underlying hu1, k2, Instr.sureAddr, hr, hu2, addr_add]
  · simp only [VRel]
    by_cases hz : bnd mi n = bnd li 0
    · refine .inl ⟨⟨_, k1⟩, by omega, ?_⟩
      rw [if_pos hz]
      exact ⟨_, by rw [show bnd hI n - bnd li 0 = 0 by omega, show bnd mi n - bnd li 0 = 0 by omega]⟩
    · rw [if_neg hz]
      refine .inr ⟨c, _, T, cs.size, k1, rfl, by omega, fun hf => by have := hfull hf; omega, ?_, ?_⟩
      · simp [World.shape?, k3]
      · obtain ⟨r, hr⟩ := pre_of k5
        have hsz : cs.size = vals.length + r.length := by rw [← Array.length_toList, hr, List.length_append]
        have := k6.length
        have e1 : bnd li 0 * sz + (bnd mi n - bnd li 0) * sz = bnd mi n * sz := by
          rw [← Nat.add_mul]; congr 1; omega
        have e2 : bnd mi n * sz ≤ n * sz := Nat.mul_le_mul_right _ hle3
        omega

/-- A part of data. -/
theorem op_slV {e : TypeId} {by' : Nat} {lo hi mx : Option Operand} {li hI mi : Option Int} {f' : Bool} (ho : o.op = .slice t x lo hi mx) (ht : slT P t = some (e, sz, by'))
    (hl : lo.isSome = li.isSome) (hh : hi.isSome = hI.isSome) (hm : mx.isSome = mi.isSome) (hmh : mi.isSome = true → hI.isSome = true)
    (b1 : inB mi len) (b2 : inB hI (bnd mi len)) (b3 : inB li (bnd hI len)) (hfull : f' = true → (mi.isSome = true ∧ bnd hI len = bnd mi len) ∨ (full = true ∧ bnd hI len = len)) :
    OpV P o (.vs len full cells :: (optV q li ++ (optV q hI ++ optV q mi))) [] [] (.vs (bnd hI len - bnd li 0) f' ((cells.drop (bnd li 0 * sz)).take ((bnd hI len - bnd li 0) * sz))) [] := by
  refine opSl ho hl hh hm fun ρ Im w a hv => ?_
  simp only [VRel] at hv
  obtain ⟨ad, cap, h1, h2, h3, h4⟩ := hv
  obtain ⟨hu1, hu2, _⟩ := slT_und ht
  have b1' : inB mi cap := by
    cases mi with
    | none => trivial
    | some m => simp only [inB] at b1 ⊢; omega
  have hbm : mi = none → bnd mi cap = cap := fun h => by subst h; rfl
  have hbm' : mi.isSome = true → bnd mi cap = bnd mi len := fun h => by cases mi with
    | none => cases h
    | some m => rfl
  have hml : bnd mi len ≤ bnd mi cap := by cases mi with
    | none => simpa [bnd] using h2
    | some m => exact Nat.le_refl _
  have b2' : inB hI (bnd mi cap) := by
    cases hI with
    | none => trivial
    | some m => simp only [inB] at b2 ⊢; omega
  have hr := run_bounds (P := P) (q := q) (w := w) (isS := true) (len := len) b1' b2' b3 hmh
  have hle1 : bnd li 0 ≤ bnd hI len := by cases li with
    | none => simp [bnd]
    | some l => simp only [inB] at b3; simp only [bnd] at b3 ⊢; omega
  have hle2 : bnd hI len ≤ bnd mi cap := by
    cases hI with
    | none => cases mi with
      | none => simpa [bnd] using h2
      | some m => simp at hmh
    | some h => simp only [inB] at b2'; simp only [bnd] at b2' ⊢; omega
  refine ⟨.slice (if bnd mi cap = bnd li 0 then ad else ad.map (·.add (bnd li 0 * sz))) (bnd hI len - bnd li 0) (bnd mi cap - bnd li 0), ?_, ?_⟩
  · rw [h1]
    simp [Instr.sliceAt, Instr.slice, run_underlying hu1, hr, hu2]
  · simp only [VRel]
    refine ⟨_, _, rfl, by omega, ?_, ?_⟩
    · intro hf
      rcases hfull hf with ⟨g1, g2⟩ | ⟨g1, g2⟩
      · rw [hbm' g1]; omega
      · have := h3 g1
        subst this
        cases mi with
        | none => simp only [bnd] at g2 ⊢; omega
        | some m =>
          simp only [inB] at b1
          simp only [bnd] at hle2 g2 ⊢
          omega
    · by_cases hz : bnd mi cap = bnd li 0
      · left
        rw [show bnd hI len - bnd li 0 = 0 by omega]
        simp
      · rw [if_neg hz]
        rcases h4 with h4 | ⟨c, base, vals, rfl, g1, g2, g3⟩
        · left; simp [h4]
        · by_cases hne : (cells.drop (bnd li 0 * sz)).take ((bnd hI len - bnd li 0) * sz) = []
          · exact .inl hne
          · refine .inr ⟨c, base + bnd li 0 * sz, (vals.drop (bnd li 0 * sz)).take ((bnd hI len - bnd li 0) * sz), by simp [addr_add], g1, ?_, (g3.drop _).take _⟩
            intro j hj
            simp only [List.length_take, List.length_drop] at hj
            have := g2 (bnd li 0 * sz + j) (by omega)
            rw [← Nat.add_assoc] at this
            rw [this]
            simp

theorem op_toArr {e : TypeId} {arr : TypeId} (ho : o.op = .sliceToArrayPointer arr x) (ht : arrT P arr = some (n, e, sz)) (h1 : n ≤ len) (hn : 0 < len) :
    OpV P o [.os b off len k full] [] [] (.ptr b off) [] :=
  op1 (x := x) (by rw [ho]; rfl) fun ρ Im w a hv => by
    obtain ⟨hu1, hu2⟩ := arrT_und ht
    simp only [VRel] at hv ⊢
    rcases hv with ⟨_, rfl, _⟩ | ⟨c, cap, T, m, g1, g2, g3⟩
    · omega
    exact ⟨.pointer (some ⟨c, off, none⟩), by simp [execOp, ho, g2, Instr.arrayAt, run_underlying hu1, Nat.not_lt.2 h1], c, g1, rfl⟩
theorem op_toArrV {e : TypeId} {arr : TypeId} (ho : o.op = .sliceToArrayPointer arr x) (ht : arrT P arr = some (n, e, sz)) (h1 : n ≤ len) (hc : cells ≠ []) :
    OpV P o [.vs len full cells] [] [] (.vptr cells 0) [] :=
  op1 (x := x) (by rw [ho]; rfl) fun ρ Im w a hv => by
    obtain ⟨hu1, hu2⟩ := arrT_und ht
    simp only [VRel] at hv ⊢
    obtain ⟨ad, cap, g1, g2, g3, g4⟩ := hv
    rcases g4 with g4 | ⟨c, base, vals, rfl, g5⟩
    · exact absurd g4 hc
    exact ⟨.pointer (some ⟨c, base, none⟩), by simp [execOp, ho, g1, Instr.arrayAt, run_underlying hu1, Nat.not_lt.2 h1], c, base, vals, rfl, g5⟩
end
end Go.Kw

namespace Go.Kw
set_option linter.unusedVariables false
set_option linter.unusedSimpArgs false
variable {P : Program}

section
variable {o : Oper} {x y z : Operand} {t t' T : TypeId} {v u : AVal} {b off k len sz n : Nat} {full : Bool} {cells vs : List AVal} {i : Int} {q : IntKind} {ts : Array TypeId}

/-! ### Built-in functions on values -/

theorem opB1 {bi : Builtin} (ho : o.op = .call { callee := .builtin bi, args := #[x], argTypes := ts })
    (h : ∀ ρ Im w (a : Act), VRel P ρ Im w u (a.eval x) → ∃ r, (∀ cs, (builtin bi ts o.type cs #[a.eval x]).run P w = .ok (.value r) w) ∧ VRel P ρ Im w v r) :
    OpV P o [u] [] [] v [] :=
  op1 (x := x) (by rw [ho]; simp [Op.operands, Call.operands]) fun ρ Im w a hv => by
    obtain ⟨r, h1, h2⟩ := h ρ Im w a hv
    refine ⟨r, ?_, h2⟩
    simp only [execOp, ho, resolve, invoke, Sem.run_bind, Sem.run_pure, Result.andThen_ok]
    simpa using h1 _

theorem op_len_s {t0 : TypeId} {e : TypeId} {by' : Nat} (ho : o.op = .call { callee := .builtin .len, args := #[x], argTypes := #[t0] }) (ht : slT P t0 = some (e, sz, by')) :
    OpV P o [.os b off len k full] [] [] (.i len) [] :=
  opB1 ho fun ρ Im w a hv => by
    obtain ⟨hu1, _⟩ := slT_und ht
    simp only [VRel] at hv ⊢
    refine ⟨_, fun cs => ?_, rfl⟩
    rcases hv with ⟨_, rfl, ad, h⟩ | ⟨c, cap, T, m, g1, h, g3⟩ <;> simp [h, builtin, Builtin.len_, run_underlying hu1, goInt]
theorem op_len_v {t0 : TypeId} {e : TypeId} {by' : Nat} (ho : o.op = .call { callee := .builtin .len, args := #[x], argTypes := #[t0] }) (ht : slT P t0 = some (e, sz, by')) :
    OpV P o [.vs len full cells] [] [] (.i len) [] :=
  opB1 ho fun ρ Im w a hv => by
    obtain ⟨hu1, _⟩ := slT_und ht
    simp only [VRel] at hv ⊢
    obtain ⟨ad, cap, h, _⟩ := hv
    exact ⟨_, fun cs => by simp [h, builtin, Builtin.len_, run_underlying hu1, goInt], rfl⟩
theorem op_len_str {t0 : TypeId} {s : List UInt8} (ho : o.op = .call { callee := .builtin .len, args := #[x], argTypes := #[t0] }) (ht : P.underlying t0 = some .string) :
    OpV P o [.str s] [] [] (.i s.length) [] :=
  opB1 ho fun ρ Im w a hv => by
    simp only [VRel] at hv ⊢
    exact ⟨.int .i64 s.length, fun cs => by simp [hv, builtin, Builtin.len_, run_underlying ht, goInt]; rfl, rfl⟩
theorem op_len_arr {t0 : TypeId} {e : TypeId} (ho : o.op = .call { callee := .builtin .len, args := #[x], argTypes := #[t0] }) (ht : arrT P t0 = some (n, e, sz)) :
    OpV P o [u] [] [] (.i n) [] :=
  opB1 ho fun ρ Im w a hv => by
    obtain ⟨hu1, _⟩ := arrT_und ht
    simp only [VRel]
    exact ⟨_, fun cs => by simp [builtin, Builtin.len_, run_underlying hu1, goInt], rfl⟩
theorem op_cap_v {t0 : TypeId} {e : TypeId} {by' : Nat} (ho : o.op = .call { callee := .builtin .cap, args := #[x], argTypes := #[t0] }) (ht : slT P t0 = some (e, sz, by')) :
    OpV P o [.vs len true cells] [] [] (.i len) [] :=
  opB1 ho fun ρ Im w a hv => by
    obtain ⟨hu1, _⟩ := slT_und ht
    simp only [VRel] at hv ⊢
    obtain ⟨ad, cap, h, _, h3, _⟩ := hv
    have := h3 trivial
    subst this
    exact ⟨_, fun cs => by simp [h, builtin, Builtin.cap_, run_underlying hu1, goInt], rfl⟩

theorem op_min {a b : Int} (ho : o.op = .call { callee := .builtin .min, args := #[x, y], argTypes := ts }) : OpV P o [.int q a, .int q b] [] [] (.int q (min a b)) [] :=
  op2 (x := x) (y := y) (by rw [ho]; simp [Op.operands, Call.operands]) fun ρ Im w ac hv hu => by
    simp only [VRel] at hv hu ⊢
    refine ⟨_, ?_, rfl⟩
    have : (if b < a then b else a) = min a b := by rw [Int.min_def]; split <;> split <;> omega
    simp [execOp, ho, resolve, invoke, builtin, Builtin.min_, hv, hu, Builtin.min2, List.foldlM, this]

/-! ### Append -/

/-- What append takes from its second argument. -/
def SrcOf (P : Program) (ρ : Nat → Option Nat) (Im : Nat → Prop) (w : World) (sz n : Nat) (new : List AVal) (r : Value) : Prop :=
  (∀ w', (Builtin.lenOf r).run P w' = .ok n w') ∧ new.length = n * sz ∧
    ∃ vals : List Value, (∀ w', (∀ c, c < w.heap.size → w'.heap[c]? = w.heap[c]?) → (Builtin.firstCells sz n r).run P w' = .ok vals.toArray w') ∧ VRels P ρ Im w new vals

theorem srcOf_vs {ρ Im w} {r : Value} {h : AHeap} (s : St P ρ Im h w) (hv : VRel P ρ Im w (.vs n full cells) r) (hc : cells.length = n * sz) : SrcOf P ρ Im w sz n cells r := by
  simp only [VRel] at hv
  obtain ⟨ad, cap, rfl, h2, h3, h4⟩ := hv
  refine ⟨fun w' => by simp [Builtin.lenOf], hc, ?_⟩
  rcases h4 with rfl | ⟨c, base, vals, rfl, g1, g2, g3⟩
  · refine ⟨[], ?_, by simp [VRels]⟩
    intro w' _
    have h0 : n * sz = 0 := by simpa using hc.symm
    cases ad with
    | none => simp [Builtin.firstCells]
    | some a => simp [Builtin.firstCells, h0, loadCells, loadCellsFrom]
  · refine ⟨vals, ?_, g3⟩
    intro w' hw'
    have hl := g3.length
    have hc' : w'.heap[c]? = w.heap[c]? := hw' c (s.im c g1)
    have := run_loadReads (P := P) (off := 0) (k := n * sz) (g2.mono hc') (by omega)
    simp only [Nat.add_zero, List.drop_zero] at this
    rw [List.take_of_length_le (by omega)] at this
    simpa [Builtin.firstCells] using this
theorem extract_all (s : List UInt8) : ((⟨s.toArray⟩ : ByteArray).extract 0 s.length) = ⟨s.toArray⟩ := by
  have : s.length = (⟨s.toArray⟩ : ByteArray).size := rfl
  rw [this]
  exact ByteArray.extract_zero_size
theorem srcOf_str {ρ Im w} {r : Value} {s : List UInt8} (hv : VRel P ρ Im w (.str s) r) : SrcOf P ρ Im w 1 s.length (s.map AVal.u8) r := by
  simp only [VRel] at hv
  subst hv
  refine ⟨fun w' => by simp only [Builtin.lenOf]; rfl, by simp, s.map fun c => .int .u8 (c.toNat : Int), ?_, ?_⟩
  · intro w' _
    simp only [Builtin.firstCells, extract_all]
    simp
  · induction s with
    | nil => simp [VRels]
    | cons c s ih => simp only [List.map_cons, VRels]; exact ⟨_, _, rfl, by simp [VRel], ih⟩
theorem srcOf_os {ρ Im w} {r : Value} {c : Nat} {Tc : TypeId} {cs2 : List AVal} {offc : Nat} {h : AHeap} (s : St P ρ Im h w) (hm : (c, .vec Tc cs2) ∈ h) (hv : VRel P ρ Im w (.os c offc n sz full) r)
    (hc : offc + n * sz ≤ cs2.length) : SrcOf P ρ Im w sz n ((cs2.drop offc).take (n * sz)) r := by
  have s' : St P ρ Im [(c, .vec Tc cs2)] w := s.sub (List.singleton_sublist.2 hm)
  have hlen : ((cs2.drop offc).take (n * sz)).length = n * sz := by simp; omega
  simp only [VRel] at hv
  rcases hv with ⟨_, rfl, ad, rfl⟩ | ⟨d, cap, T', m, g1, rfl, g3⟩
  · refine ⟨fun w' => by simp [Builtin.lenOf], hlen, [], ?_, by simp [VRels]⟩
    intro w' _
    cases ad with
    | none => simp [Builtin.firstCells]
    | some a => simp [Builtin.firstCells, loadCells, loadCellsFrom]
  · refine ⟨fun w' => by simp [Builtin.lenOf], hlen, ?_⟩
    obtain ⟨d', cs, fz, vals, k1, k2, k3, k4, k5, k6⟩ := s'.at (off := 0) (v := .pointer (some ⟨d, 0, none⟩)) (by simp only [VRel]; exact ⟨d, g1, rfl⟩)
    rw [g1] at k1
    cases k1
    have hl := k6.length
    refine ⟨(vals.drop offc).take (n * sz), ?_, (k6.drop _).take _⟩
    intro w' hw'
    have hlt : d < w.heap.size := (Array.getElem?_eq_some_iff.1 k3).1
    have k3' : w'.heap[d]? = some (.cells cs Tc fz) := by rw [hw' d hlt, k3]
    have := run_loadVec (P := P) (k := n * sz) (off := offc) k3' k5 (by omega)
    simpa [Builtin.firstCells] using this

/-- The types at an append: its slice's element type, that type's cells and bytes. -/
def appT (P : Program) (ts : Array TypeId) : Option (TypeId × Nat × Nat) :=
  match ts[0]?, (ts[1]?).bind P.underlying with
  | some t0, some d => match d with
    | .slice _ | .string => match slT P t0 with
      | some (e, sz, by') => match (P.info? e).bind (·.zero) with
        | some z => if z.cells.size = sz ∧ 0 < by' then some (e, sz, by') else none
        | none => none
      | none => none
    | _ => none
  | _, _ => none

structure AppT (P : Program) (ts : Array TypeId) (T : TypeId) (sz bytes : Nat) (t0 t1 : TypeId) (i : TypeInfo) (z : Value) : Prop where
  h0 : ts[0]? = some t0
  h1 : ts[1]? = some t1
  und : P.underlying t0 = some (.slice T)
  und1 : (∃ e, P.underlying t1 = some (.slice e)) ∨ P.underlying t1 = some .string
  info : P.info? T = some i
  hsize : i.size = sz
  hbytes : i.bytes = bytes
  zero : i.zero = some z
  zsize : z.cells.size = sz
  pos : 0 < bytes

theorem appT_spec {bytes : Nat} (h : appT P ts = some (T, sz, bytes)) : ∃ t0 t1 i z, AppT P ts T sz bytes t0 t1 i z := by
  unfold appT at h
  cases h0 : ts[0]? with
  | none => rw [h0] at h; cases h
  | some t0 =>
    rw [h0] at h
    cases h1 : ts[1]? with
    | none => rw [h1] at h; cases h
    | some t1 =>
      rw [h1] at h
      simp only [Option.bind_some] at h
      cases hu : P.underlying t1 with
      | none => rw [hu] at h; cases h
      | some d =>
        rw [hu] at h
        have key : (match slT P t0 with
            | some (e, sz, by') => match (P.info? e).bind (·.zero) with
              | some z => if z.cells.size = sz ∧ 0 < by' then some (e, sz, by') else none
              | none => none
            | none => none) = some (T, sz, bytes) → ((∃ e, P.underlying t1 = some (.slice e)) ∨ P.underlying t1 = some .string) → ∃ t0 t1 i z, AppT P ts T sz bytes t0 t1 i z := by
          intro h hund
          split at h
          · rename_i e sz' by' hsl
            split at h
            · rename_i z hz
              split at h
              · rename_i hcond
                simp only [Option.some.injEq, Prod.mk.injEq] at h
                obtain ⟨rfl, rfl, rfl⟩ := h
                obtain ⟨g1, _, i, g2, g3, g4⟩ := slT_und hsl
                rw [g2] at hz
                simp only [Option.bind_some] at hz
                exact ⟨t0, t1, i, z, ⟨h0, h1, g1, hund, g2, g3, g4, hz, hcond.1, hcond.2⟩⟩
              · cases h
            · cases h
          · cases h
        cases d <;> first | (cases h; done) | exact key h (.inl ⟨_, hu⟩) | exact key h (.inr hu)

theorem run_append_fits {w : World} {bytes len cap : Nat} {r : Value} {ad : Option Addr} {ty t0 t1 : TypeId} {i : TypeInfo} {z : Value} (hT : AppT P ts T sz bytes t0 t1 i z)
    (hlen : ∀ w', (Builtin.lenOf r).run P w' = .ok n w') (hneed : len + n ≤ cap) {new : List Value} (hnew : (Builtin.firstCells sz n r).run P w = .ok new.toArray w) :
    (Builtin.append_ ts ty #[.slice ad len cap, r]).run P w =
      (match ad with | some a => (storeCells (a.add (len * sz)) new).run P w | none => .ok () w).andThen fun _ w' => .ok (.slice ad (len + n) cap) w' := by
  have hsize := hT.hsize
  subst hsize
  simp only [Builtin.append_, hT.h0, hT.h1]
  rcases hT.und1 with ⟨e, hu⟩ | hu <;> cases ad <;> simp [run_underlying hT.und, run_underlying hu, sizeOf, typeInfo, hT.info, hlen, hneed, hnew]

theorem run_append_new {w : World} {bytes len cap : Nat} {r : Value} {ad : Option Addr} {old new : List Value} {ty t0 t1 : TypeId} {i : TypeInfo} {z : Value} (hT : AppT P ts T sz bytes t0 t1 i z)
    (hlen : ∀ w', (Builtin.lenOf r).run P w' = .ok n w') (hneed : cap < len + n) (hfit : (len + n) * bytes ≤ 140737488355328)
    (hold : ∀ w', (∀ c, c < w.heap.size → w'.heap[c]? = w.heap[c]?) → (Builtin.firstCells sz len (.slice ad len cap)).run P w' = .ok old.toArray w')
    (hnew : ∀ w', (∀ c, c < w.heap.size → w'.heap[c]? = w.heap[c]?) → (Builtin.firstCells sz n r).run P w' = .ok new.toArray w') (hol : old.length = len * sz) (hnl : new.length = n * sz) :
    ∃ cap' rest, len + n ≤ cap' ∧ (len + n) * sz + rest.size = cap' * sz ∧
      (Builtin.append_ ts ty #[.slice ad len cap, r]).run P w = .ok (.slice (some ⟨w.heap.size, 0, none⟩) (len + n) cap')
        (w.drew.alloc (.cells ((old ++ new).toArray ++ rest) T (0, 0))) := by
  have hsize := hT.hsize
  have hbytes := hT.hbytes
  subst hsize
  subst hbytes
  have hn : ¬ (len + n ≤ cap) := by omega
  have h48 : ¬ (281474976710656 < Builtin.nextslicecap (len + n) cap * i.bytes) := by
    have := growslice_fits (old := cap) hneed hfit
    omega
  have hb := hT.pos
  have hb0 : i.bytes ≠ 0 := by omega
  have hge := grownCap_ge w (len + n) cap T
  refine ⟨grownCap w (len + n) cap T, Builtin.zeroCells z.cells (grownCap w (len + n) cap T - (len + n)), hge, ?_, ?_⟩
  · rw [size_zeroCells, hT.zsize, ← Nat.add_mul]
    congr 1; omega
  · have h1 := hold w.drew (fun _ _ => rfl)
    have h2 := hnew w.drew (fun _ _ => rfl)
    simp only [Builtin.append_, hT.h0, hT.h1]
    rcases hT.und1 with ⟨e, hu⟩ | hu <;> simp [run_underlying hT.und, run_underlying hu, sizeOf, typeInfo, hT.info, hlen, hn, hb0, h48, Question.forced, zeroValue, hT.zero, newRow, h1, h2, grownCap]
    all_goals rw [show (old ++ new).toArray = old.toArray ++ new.toArray by simp, Array.append_assoc]
theorem Ev.drew {ρ Im h w ok} (s : St P ρ Im h w) : Ev P ρ Im h w ok ρ Im h w.drew := Ev.drawn _ s

/-- A grown row under a new name. -/
theorem Ev.grown {ρ Im w sup} {b : Nat} {cells : List AVal} {vals : List Value} {rest : Array Value} (s : St P ρ Im [] w) (fr : Fresh ρ [b] sup) (hc : VRels P ρ Im w cells vals) :
    Ev P ρ Im [] w (okOf [b] sup) (fun x => if x = b then some (w.heap.size + 1) else ρ x) Im [(b, .vec T cells)] (w.drew.alloc (.cells (vals.toArray ++ rest) T (0, 0))) := by
  have s' : St P ρ Im [] w.drew := s.drawn _
  have m : Mono ρ Im w ρ Im w.drew := (Ev.drew s (ok := fun _ => True)).mono s
  have e := Ev.pushRow (T := T) (cs := vals.toArray ++ rest) s' fr (0, 0) ⟨Nat.le_refl _, fun i _ => by simp⟩ (vals := vals) (fun i hi => by simp [Array.getElem?_append, hi]) (hc.mono m)
  exact (Ev.drew s).trans e

/-- The result of an append that stays in its row or makes a new one. -/
theorem append_core {ρ Im w sup} {b b' bytes : Nat} {new : List AVal} {r v0 : Value} {ty t0 t1 : TypeId} {i : TypeInfo} {z : Value} (hT : AppT P ts T sz bytes t0 t1 i z)
    (s : St P ρ Im [(b, .vec T cells)] w) (fr : Fresh ρ [b'] sup) (hv : VRel P ρ Im w (.os b 0 len sz full) v0) (hcl : cells.length = len * sz) (hsrc : SrcOf P ρ Im w sz n new r)
    (hone : new.all AVal.scalar = true) (hfit : (len + n) * bytes ≤ 140737488355328) :
    ∃ v' w' ρ', (Builtin.append_ ts ty #[v0, r]).run P w = .ok v' w' ∧ VRel P ρ' Im w' (.os b' 0 (len + n) sz false) v' ∧
      Ev P ρ Im [(b, .vec T cells)] w (okOf [b'] sup) ρ' Im [(b', .vec T (cells ++ new))] w' := by
  obtain ⟨hl1, hl2, newv, hf, hnv⟩ := hsrc
  have hnl := hnv.length
  have s0 : St P ρ Im [] w := s.sub (List.nil_sublist _)
  -- a new row
  have grow : ∀ (ad : Option Addr) (cap : Nat) (oldv : List Value), v0 = .slice ad len cap → cap < len + n → VRels P ρ Im w cells oldv →
      (∀ w', (∀ c, c < w.heap.size → w'.heap[c]? = w.heap[c]?) → (Builtin.firstCells sz len (.slice ad len cap)).run P w' = .ok oldv.toArray w') →
      ∃ v' w' ρ', (Builtin.append_ ts ty #[v0, r]).run P w = .ok v' w' ∧ VRel P ρ' Im w' (.os b' 0 (len + n) sz false) v' ∧
        Ev P ρ Im [(b, .vec T cells)] w (okOf [b'] sup) ρ' Im [(b', .vec T (cells ++ new))] w' := by
    intro ad cap oldv hv0 hcap hov hold
    have hol := hov.length
    obtain ⟨cap', rest, g1, g2, g3⟩ := run_append_new (P := P) (w := w) (ty := ty) hT hl1 hcap hfit hold hf (by omega) (by omega)
    have e := Ev.grown (T := T) (rest := rest) s0 fr (hov.append hnv)
    have e' := (e.frame (R := [(b, .vec T cells)]) s).subR (h0 := [(b', .vec T (cells ++ new))]) (by simp)
    refine ⟨_, _, _, by rw [hv0]; exact g3, ?_, e'⟩
    simp only [VRel]
    refine .inr ⟨w.heap.size, cap', T, cap' * sz, by simp, rfl, g1, by simp, ?_, by simp⟩
    have : (oldv ++ newv).length = (len + n) * sz := by simp [hol, hnl, hcl, hl2, Nat.add_mul]
    simp only [World.shape?, World.alloc, World.drew, Array.getElem?_push_size, Option.some.injEq, Prod.mk.injEq, true_and]
    simp only [Array.size_append, List.size_toArray, this]
    exact g2
  simp only [VRel] at hv
  rcases hv with ⟨⟨code, hcode⟩, rfl, ad, rfl⟩ | ⟨c, cap, T', m, g1, rfl, g3, g4, g5, g6⟩
  · have hc0 : cells = [] := List.eq_nil_of_length_eq_zero (by simpa using hcl)
    subst hc0
    by_cases hn : n = 0
    · subst hn
      have hn0 : new = [] := List.eq_nil_of_length_eq_zero (by simpa using hl2)
      subst hn0
      have hn1 : newv = [] := List.eq_nil_of_length_eq_zero (by simpa using hnl)
      subst hn1
      obtain ⟨ρ'', e', hext, hb''⟩ := (Ev.refl s (ok := okOf [b'] sup)).rename (i := 0) (b := b) (b' := b') (o := .vec T []) rfl (fr.named b' (by simp)) (.inl (by simp))
      refine ⟨.slice ad 0 0, w, ρ'', ?_, ?_, by simpa using e'⟩
      · have := run_append_fits (P := P) (w := w) (ty := ty) (len := 0) (cap := 0) (ad := ad) hT hl1 (by omega) (hf w fun _ _ => rfl)
        rw [this]
        cases ad <;> simp [storeCells]
      · simp only [VRel]
        exact .inl ⟨⟨code, by rw [hb'', hcode]⟩, trivial, ad, rfl⟩
    · refine grow ad 0 [] rfl (by omega) (by simp [VRels]) ?_
      intro w' _
      cases ad <;> simp [Builtin.firstCells, loadCells, loadCellsFrom]
  · obtain ⟨c', cs, fz, vals, k1, k2, k3, k4, k5, k6⟩ := s.at (off := 0) (v := .pointer (some ⟨c, 0, none⟩)) (by simp only [VRel]; exact ⟨c, g1, rfl⟩)
    rw [g1] at k1
    cases k1
    have hvl := k6.length
    obtain ⟨rr, hrr⟩ := pre_of k5
    have hsz : cs.size = vals.length + rr.length := by rw [← Array.length_toList, hrr, List.length_append]
    have hm : m = cs.size := by
      simp only [World.shape?, k3, Option.some.injEq, Prod.mk.injEq] at g5
      exact g5.2.symm
    subst hm
    by_cases hroom : len + n ≤ cap
    · have hle : (len + n) * sz ≤ cap * sz := Nat.mul_le_mul_right _ hroom
      rw [Nat.add_mul] at hle
      have hst := run_storeCells_vec (P := P) c (len * sz) T fz newv 0 cs w k3 k4.2 (by omega) (hnv.oneCell hone)
      simp only [Nat.add_zero] at hst
      have hcs' : (cs.toList.take (len * sz) ++ newv ++ cs.toList.drop (len * sz + newv.length)).toArray.size = cs.size := by simp; omega
      have e := Ev.row (cs' := (cs.toList.take (len * sz) ++ newv ++ cs.toList.drop (len * sz + newv.length)).toArray) (ok := okOf [b'] sup) s g1 k3 k4 hcs' (cells' := cells ++ new) (vals := vals ++ newv) (by
          intro j hj
          rw [List.getElem?_toArray]
          have e1 : cs.toList.take (len * sz) = vals := by
            rw [hrr, List.take_append_of_le_length (by omega), List.take_of_length_le (by omega)]
          rw [e1, List.getElem?_append_left hj, List.getElem?_eq_getElem hj]) (k6.append hnv)
      obtain ⟨ρ'', e', hext, hb''⟩ := e.rename (i := 0) (b := b) (b' := b') (o := .vec T (cells ++ new)) rfl (fr.named b' (by simp)) (.inl (by simp))
      refine ⟨.slice (some ⟨c, 0, none⟩) (len + n) cap, w.setRow c (cs.toList.take (len * sz) ++ newv ++ cs.toList.drop (len * sz + newv.length)).toArray, ρ'', ?_, ?_, e'⟩
      · have := run_append_fits (P := P) (w := w) (ty := ty) (len := len) (cap := cap) (ad := some ⟨c, 0, none⟩) hT hl1 hroom (hf w fun _ _ => rfl)
        rw [this]
        simp only [addr_add, Nat.zero_add, hst, Result.andThen_ok]
      · simp only [VRel]
        refine .inr ⟨c, cap, T', cs.size, by rw [hb'', g1], rfl, hroom, by simp, ?_, g6⟩
        exact e.shape c T' cs.size g5
    · refine grow (some ⟨c, 0, none⟩) cap vals rfl (by omega) k6 ?_
      intro w' hw'
      have hlt : c < w.heap.size := (Array.getElem?_eq_some_iff.1 k3).1
      have k3' : w'.heap[c]? = some (.cells cs T fz) := by rw [hw' c hlt, k3]
      have := run_loadVec (P := P) (k := len * sz) (off := 0) k3' k5 (by omega)
      simp only [List.drop_zero] at this
      rw [List.take_of_length_le (by omega)] at this
      simpa [Builtin.firstCells] using this

/-- An append onto data that has no room: the result is a new row. -/
theorem append_coreV {ρ Im w sup} {b' bytes : Nat} {new : List AVal} {r v0 : Value} {ty t0 t1 : TypeId} {i : TypeInfo} {z : Value} (hT : AppT P ts T sz bytes t0 t1 i z)
    (s : St P ρ Im [] w) (fr : Fresh ρ [b'] sup) (hv : VRel P ρ Im w (.vs len true cells) v0) (hcl : cells.length = len * sz) (hsrc : SrcOf P ρ Im w sz n new r)
    (hn : len = 0 ∨ 0 < n) (hfit : (len + n) * bytes ≤ 140737488355328) :
    ∃ v' w' ρ', (Builtin.append_ ts ty #[v0, r]).run P w = .ok v' w' ∧ VRel P ρ' Im w' (.os b' 0 (len + n) sz false) v' ∧
      Ev P ρ Im [] w (okOf [b'] sup) ρ' Im [(b', .vec T (cells ++ new))] w' := by
  have hsrc0 := srcOf_vs s hv hcl
  obtain ⟨hl1, hl2, newv, hf, hnv⟩ := hsrc
  obtain ⟨_, _, oldv, hof, hov⟩ := hsrc0
  have hnl := hnv.length
  have hol := hov.length
  simp only [VRel] at hv
  obtain ⟨ad, cap, rfl, g2, g3, g4⟩ := hv
  have hcap := g3 trivial
  subst hcap
  by_cases hn0 : n = 0
  · subst hn0
    have hl0 : cap = 0 := by omega
    subst hl0
    have hc0 : cells = [] := List.eq_nil_of_length_eq_zero (by simpa using hcl)
    have hn0 : new = [] := List.eq_nil_of_length_eq_zero (by simpa using hl2)
    subst hn0; subst hc0
    have hn1 : newv = [] := List.eq_nil_of_length_eq_zero (by simpa using hnl)
    subst hn1
    have hb' : ρ b' = none := fr.named b' (by simp)
    let ρ' : Nat → Option Nat := fun x => if x = b' then some 0 else ρ x
    have hext : ∀ x d, ρ x = some d → ρ' x = some d := fun x d hx => by
      by_cases hxb : x = b'
      · subst hxb; rw [hb'] at hx; cases hx
      · simp [ρ', hxb, hx]
    refine ⟨.slice ad 0 0, w, ρ', ?_, ?_, ?_⟩
    · have := run_append_fits (P := P) (w := w) (ty := ty) (len := 0) (cap := 0) (ad := ad) hT hl1 (by omega) (hf w fun _ _ => rfl)
      rw [this]
      cases ad <;> simp [storeCells]
    · simp only [VRel]
      exact .inl ⟨⟨0, by simp [ρ']⟩, trivial, ad, rfl⟩
    · refine { size := Nat.le_refl _, os := rfl, out := rfl, keep := fun _ _ _ => rfl, rho := hext, im := fun _ h => h, imNew := fun _ h => .inl h, shape := fun _ _ _ h => h, own := ?_, names := ?_, ok := ?_, st := ?_ }
      · intro x y d hxy hd
        simp only [List.append_nil, List.mem_singleton, Prod.mk.injEq] at hxy
        obtain ⟨rfl, rfl⟩ := hxy
        simp [ρ'] at hd
      · intro x y hxy
        simp only [List.append_nil, List.mem_singleton, Prod.mk.injEq] at hxy
        obtain ⟨rfl, rfl⟩ := hxy
        exact .inr hb'
      · intro x hx
        by_cases hxb : x = b'
        · subst hxb; exact .inr (.inl (by simp))
        · exact .inl (by simpa [ρ', hxb] using hx)
      · refine { obj := ?_, nd := by simp, inj := ?_, im := s.im }
        · intro x y hxy
          simp only [List.append_nil, List.mem_singleton, Prod.mk.injEq] at hxy
          obtain ⟨rfl, rfl⟩ := hxy
          exact .inl ⟨by simp [ρ'], rfl⟩
        · intro x x' y y' d hx hx' _ _
          simp only [List.append_nil, List.mem_singleton, Prod.mk.injEq] at hx hx'
          rw [hx.1, hx'.1]
  · obtain ⟨cap', rest, k1, k2, k3⟩ := run_append_new (P := P) (w := w) (ty := ty) (len := cap) (cap := cap) (ad := ad) hT hl1 (by omega) hfit hof hf (by omega) (by omega)
    have e := Ev.grown (T := T) (rest := rest) s fr (hov.append hnv)
    refine ⟨_, _, _, k3, ?_, e⟩
    simp only [VRel]
    refine .inr ⟨w.heap.size, cap', T, cap' * sz, by simp, rfl, k1, by simp, ?_, by simp⟩
    have : (oldv ++ newv).length = (cap + n) * sz := by simp [hol, hnl, hcl, hl2, Nat.add_mul]
    simp only [World.shape?, World.alloc, World.drew, Array.getElem?_push_size, Option.some.injEq, Prod.mk.injEq, true_and]
    simp only [Array.size_append, List.size_toArray, this]
    exact k2

theorem opApp {F F' : AHeap} {b' : Nat} (ho : o.op = .call { callee := .builtin .append, args := #[x, y], argTypes := ts })
    (h : ∀ ρ Im w (a : Act) sup, St P ρ Im F w → Fresh ρ [b'] sup → VRel P ρ Im w v (a.eval x) → VRel P ρ Im w u (a.eval y) →
      ∃ v' w' ρ', (Builtin.append_ ts o.type #[a.eval x, a.eval y]).run P w = .ok v' w' ∧ VRel P ρ' Im w' (.os b' 0 (len + n) sz false) v' ∧ Ev P ρ Im F w (okOf [b'] sup) ρ' Im F' w') :
    OpV P o [v, u] F [b'] (.os b' 0 (len + n) sz false) F' := by
  refine OpV.value fun ρ Im w a sup s fr hv => ?_
  rw [Array.toList_map, ho] at hv
  obtain ⟨r, r', hr, hv, hu⟩ := VRels.two.1 hv
  simp only [Op.operands, Call.operands, Array.empty_append, List.map_cons, List.map_nil, List.cons.injEq, and_true] at hr
  obtain ⟨rfl, rfl⟩ := hr
  obtain ⟨v', w', ρ', h1, h2, h3⟩ := h ρ Im w a sup s fr hv hu
  exact ⟨v', w', ρ', Im, by simp [execOp, ho, resolve, invoke, builtin, h1], h2, h3⟩

/-- out = append(out, data...) -/
theorem op_appV {b' bytes : Nat} {f' : Bool} {new : List AVal} (ho : o.op = .call { callee := .builtin .append, args := #[x, y], argTypes := ts }) (ht : appT P ts = some (T, sz, bytes))
    (hc : cells.length = len * sz) (hn : new.length = n * sz) (hone : new.all AVal.scalar = true) (hfit : (len + n) * bytes ≤ 140737488355328) :
    OpV P o [.os b 0 len sz full, .vs n f' new] [(b, .vec T cells)] [b'] (.os b' 0 (len + n) sz false) [(b', .vec T (cells ++ new))] := by
  obtain ⟨t0, t1, i, z, hT⟩ := appT_spec ht
  exact opApp ho fun ρ Im w a sup s fr hv hu => append_core hT s fr hv hc (srcOf_vs s hu hn) hone hfit
theorem op_appS {b' bytes : Nat} {l : List UInt8} (ho : o.op = .call { callee := .builtin .append, args := #[x, y], argTypes := ts }) (ht : appT P ts = some (T, 1, bytes))
    (hc : cells.length = len) (hfit : (len + l.length) * bytes ≤ 140737488355328) :
    OpV P o [.os b 0 len 1 full, .str l] [(b, .vec T cells)] [b'] (.os b' 0 (len + l.length) 1 false) [(b', .vec T (cells ++ l.map AVal.u8))] := by
  obtain ⟨t0, t1, i, z, hT⟩ := appT_spec ht
  exact opApp ho fun ρ Im w a sup s fr hv hu => append_core hT s fr hv (by omega) (srcOf_str hu) (by simp [AVal.scalar]) hfit
/-- out = append(out, other...), other a slice in another block -/
theorem op_appO {b' bytes c offc : Nat} {Tc : TypeId} {cs2 : List AVal} {f' : Bool} (ho : o.op = .call { callee := .builtin .append, args := #[x, y], argTypes := ts }) (ht : appT P ts = some (T, sz, bytes))
    (hc : cells.length = len * sz) (hn : offc + n * sz ≤ cs2.length) (hone : ((cs2.drop offc).take (n * sz)).all AVal.scalar = true) (hfit : (len + n) * bytes ≤ 140737488355328) :
    OpV P o [.os b 0 len sz full, .os c offc n sz f'] [(b, .vec T cells), (c, .vec Tc cs2)] [b'] (.os b' 0 (len + n) sz false)
      [(b', .vec T (cells ++ (cs2.drop offc).take (n * sz))), (c, .vec Tc cs2)] := by
  obtain ⟨t0, t1, i, z, hT⟩ := appT_spec ht
  refine opApp ho fun ρ Im w a sup s fr hv hu => ?_
  obtain ⟨v', w', ρ', h1, h2, h3⟩ := append_core hT (s.sub (by simp)) fr hv hc (srcOf_os s (List.mem_cons_of_mem _ (List.mem_singleton_self _)) hu hn) hone hfit
  exact ⟨v', w', ρ', h1, h2, h3.frame (R := [(c, .vec Tc cs2)]) s⟩
/-- append(data, ..): data without room -/
theorem op_appVV {b' bytes : Nat} {f' : Bool} {new : List AVal} (ho : o.op = .call { callee := .builtin .append, args := #[x, y], argTypes := ts }) (ht : appT P ts = some (T, sz, bytes))
    (hc : cells.length = len * sz) (hn : new.length = n * sz) (h0 : len = 0 ∨ 0 < n) (hfit : (len + n) * bytes ≤ 140737488355328) :
    OpV P o [.vs len true cells, .vs n f' new] [] [b'] (.os b' 0 (len + n) sz false) [(b', .vec T (cells ++ new))] := by
  obtain ⟨t0, t1, i, z, hT⟩ := appT_spec ht
  exact opApp ho fun ρ Im w a sup s fr hv hu => append_coreV hT s fr hv hc (srcOf_vs s hu hn) h0 hfit
theorem op_appVS {b' bytes : Nat} {l : List UInt8} (ho : o.op = .call { callee := .builtin .append, args := #[x, y], argTypes := ts }) (ht : appT P ts = some (T, 1, bytes))
    (hc : cells.length = len) (h0 : len = 0 ∨ 0 < l.length) (hfit : (len + l.length) * bytes ≤ 140737488355328) :
    OpV P o [.vs len true cells, .str l] [] [b'] (.os b' 0 (len + l.length) 1 false) [(b', .vec T (cells ++ l.map AVal.u8))] := by
  obtain ⟨t0, t1, i, z, hT⟩ := appT_spec ht
  exact opApp ho fun ρ Im w a sup s fr hv hu => append_coreV hT s fr hv (by omega) (srcOf_str hu) h0 hfit
theorem op_appVO {b' bytes c offc : Nat} {Tc : TypeId} {cs2 : List AVal} {f' : Bool} (ho : o.op = .call { callee := .builtin .append, args := #[x, y], argTypes := ts }) (ht : appT P ts = some (T, sz, bytes))
    (hc : cells.length = len * sz) (hn : offc + n * sz ≤ cs2.length) (h0 : len = 0 ∨ 0 < n) (hfit : (len + n) * bytes ≤ 140737488355328) :
    OpV P o [.vs len true cells, .os c offc n sz f'] [(c, .vec Tc cs2)] [b'] (.os b' 0 (len + n) sz false) [(c, .vec Tc cs2), (b', .vec T (cells ++ (cs2.drop offc).take (n * sz)))] := by
  obtain ⟨t0, t1, i, z, hT⟩ := appT_spec ht
  refine opApp ho fun ρ Im w a sup s fr hv hu => ?_
  obtain ⟨v', w', ρ', h1, h2, h3⟩ := append_coreV hT (s.sub (List.nil_sublist _)) fr hv hc (srcOf_os s (List.mem_singleton_self _) hu hn) h0 hfit
  exact ⟨v', w', ρ', h1, h2, (h3.frame (R := [(c, .vec Tc cs2)]) s).permR (List.Perm.swap _ _ _)⟩
end
end Go.Kw

namespace Go.Kw
set_option linter.unusedVariables false
set_option linter.unusedSimpArgs false
variable {P : Program}

/-! ### Equality of arrays and structs of numbers, bools and strings -/

inductive Leaf where
  | int (k : IntKind)
  | bool
  | str
  deriving DecidableEq

def fitB : Leaf → AVal → Bool
  | .int k, .int k' _ => k == k'
  | .bool, .bool _ => true
  | .str, .str _ => true
  | _, _ => false
def fitsB : List Leaf → List AVal → Bool
  | [], [] => true
  | l :: ls, a :: as => fitB l a && fitsB ls as
  | _, _ => false
def sameB : AVal → AVal → Bool
  | .int _ a, .int _ b => a == b
  | .bool a, .bool b => a == b
  | .str a, .str b => a == b
  | _, _ => false
def samesB : List AVal → List AVal → Bool
  | a :: as, b :: bs => sameB a b && samesB as bs
  | _, _ => true

/-- The leaves of a type that is compared leaf by leaf. -/
def cmpT (P : Program) : Nat → TypeId → Option (List Leaf)
  | 0, _ => none
  | f + 1, t => match P.underlying t with
    | some (.int k) => some [.int k]
    | some .bool => some [.bool]
    | some .string => some [.str]
    | some (.array n e) => match cmpT P f e with
      | some ls => if P.cellsOf e = ls.length ∧ (P.info? e).isSome then some (List.replicate n ls).flatten else none
      | none => none
    | some (.struct fs) => if P.stoodInHeld t then none else go f fs.toList 0
    | _ => none
where
  go (f : Nat) : List Field → Nat → Option (List Leaf)
    | [], _ => some []
    | fd :: fs, off => if fd.name ≠ "_" ∧ fd.offset = off then
        match cmpT P f fd.type with
        | some ls => if P.cellsOf fd.type = ls.length ∧ (P.info? fd.type).isSome then
            match go f fs (off + ls.length) with
            | some r => some (ls ++ r)
            | none => none
          else none
        | none => none
      else none

theorem fitsB_length : ∀ {ls : List Leaf} {as : List AVal}, fitsB ls as = true → as.length = ls.length
  | [], [], _ => rfl
  | [], _ :: _, h => by simp [fitsB] at h
  | _ :: _, [], h => by simp [fitsB] at h
  | l :: ls, a :: as, h => by
    simp only [fitsB, Bool.and_eq_true] at h
    simp [fitsB_length h.2]
theorem fitsB_split : ∀ {ls ms : List Leaf} {as : List AVal}, fitsB (ls ++ ms) as = true → fitsB ls (as.take ls.length) = true ∧ fitsB ms (as.drop ls.length) = true
  | [], ms, as, h => by simpa [fitsB] using h
  | l :: ls, ms, [], h => by simp [fitsB] at h
  | l :: ls, ms, a :: as, h => by
    simp only [List.cons_append, fitsB, Bool.and_eq_true] at h
    obtain ⟨h1, h2⟩ := fitsB_split h.2
    simp [fitsB, h.1, h1, h2]
theorem samesB_split (n : Nat) : ∀ {as bs : List AVal}, as.length = bs.length → samesB as bs = (samesB (as.take n) (bs.take n) && samesB (as.drop n) (bs.drop n)) := by
  induction n with
  | zero => intro as bs h; simp [samesB]
  | succ n ih =>
    intro as bs h
    cases as with
    | nil => cases bs with
      | nil => simp [samesB]
      | cons b bs => simp at h
    | cons a as =>
      cases bs with
      | nil => simp at h
      | cons b bs =>
        simp only [List.take_succ_cons, List.drop_succ_cons, samesB]
        rw [ih (by simpa using h), Bool.and_assoc]

/-- A value of a type, by its cells. -/
def mkV (P : Program) (t : TypeId) (cs : List Value) : Value :=
  match P.underlying t with
  | some (.struct _) => .agg cs.toArray
  | some (.array _ _) => .agg cs.toArray
  | _ => cs.headD undef

theorem cmpT_ne {f : Nat} {t : TypeId} {ls : List Leaf} (h : cmpT P f t = some ls) : ∃ d, P.underlying t = some d := by
  cases f with
  | zero => simp [cmpT] at h
  | succ f =>
    rw [cmpT] at h
    cases hu : P.underlying t with
    | none => rw [hu] at h; cases h
    | some d => exact ⟨d, rfl⟩

theorem run_part_at {w : World} {f : Nat} {e : TypeId} {ls : List Leaf} (h : cmpT P f e = some ls) (hc : P.cellsOf e = ls.length) (hi : (P.info? e).isSome = true) (xs : Array Value) (off : Nat)
    (hlen : off + ls.length ≤ xs.size) : (part e xs off).run P w = .ok (mkV P e ((xs.toList.drop off).take ls.length)) w := by
  obtain ⟨i, hi⟩ := Option.isSome_iff_exists.1 hi
  have hsz : (sizeOf e).run P w = .ok ls.length w := by rw [run_sizeOf w hi, hc]
  obtain ⟨d, hu⟩ := cmpT_ne h
  have scal : ls.length = 1 → (isAgg e).run P w = .ok false w → mkV P e ((xs.toList.drop off).take ls.length) = ((xs.toList.drop off).take ls.length).headD undef →
      (part e xs off).run P w = .ok (mkV P e ((xs.toList.drop off).take ls.length)) w := by
    intro h1 h2 h3
    have hlt : off < xs.size := by omega
    simp only [part, Sem.run_bind, h2, Result.andThen_ok, Bool.false_eq_true, if_false]
    rw [Array.getElem?_eq_getElem hlt, h3, h1]
    have : xs.toList.drop off = xs[off] :: xs.toList.drop (off + 1) := by
      rw [List.drop_eq_getElem_cons (by simpa using hlt)]
      simp
    simp [this]
  cases f with
  | zero => simp [cmpT] at h
  | succ f =>
    rw [cmpT, hu] at h
    cases d <;> simp only [reduceCtorEq] at h
    case bool => simp only [Option.some.injEq] at h; subst h; exact scal rfl (by simp [isAgg, run_underlying hu]) (by simp [mkV, hu])
    case int k => simp only [Option.some.injEq] at h; subst h; exact scal rfl (by simp [isAgg, run_underlying hu]) (by simp [mkV, hu])
    case string => simp only [Option.some.injEq] at h; subst h; exact scal rfl (by simp [isAgg, run_underlying hu]) (by simp [mkV, hu])
    case array n e' =>
      simp only [part, isAgg, Sem.run_bind, run_underlying hu, Result.andThen_ok, Sem.run_pure, if_true, hsz, mkV, hu]
      congr 2
      apply Array.ext'
      simp [Array.toList_extract, List.extract_eq_take_drop]
    case struct fs =>
      simp only [part, isAgg, Sem.run_bind, run_underlying hu, Result.andThen_ok, Sem.run_pure, if_true, hsz, mkV, hu]
      congr 2
      apply Array.ext'
      simp [Array.toList_extract, List.extract_eq_take_drop]

def conc : AVal → Value
  | .int k n => .int k n
  | .bool b => .bool b
  | .str s => .string ⟨s.toArray⟩
  | _ => undef

theorem str_eq (s s' : List UInt8) : ((⟨s.toArray⟩ : ByteArray).toList == (⟨s'.toArray⟩ : ByteArray).toList) = (s == s') := by
  simp [ByteArray.toList_eq]

theorem run_eqItems {w : World} {d f : Nat} {e : TypeId} {ls : List Leaf} (h : cmpT P f e = some ls) (hc : P.cellsOf e = ls.length) (hi : (P.info? e).isSome = true) (as bs : List AVal)
    (ih : ∀ as bs, fitsB ls as = true → fitsB ls bs = true → (Op.equalIn d e (mkV P e (as.map conc)) (mkV P e (bs.map conc))).run P w = .ok (samesB as bs) w) (n : Nat) :
    ∀ k, n * ls.length ≤ as.length → n * ls.length ≤ bs.length → fitsB (List.replicate k ls).flatten (as.drop (n * ls.length)) = true → fitsB (List.replicate k ls).flatten (bs.drop (n * ls.length)) = true →
      (Op.eqItems d e (P.cellsOf e) (as.map conc).toArray (bs.map conc).toArray (List.range' n k)).run P w = .ok (samesB (as.drop (n * ls.length)) (bs.drop (n * ls.length))) w := by
  intro k
  induction k generalizing n with
  | zero =>
    intro hA hB h1 h2
    have h1 := fitsB_length h1
    have h2 := fitsB_length h2
    simp only [List.replicate_zero, List.flatten_nil, List.length_nil] at h1 h2
    rw [List.eq_nil_of_length_eq_zero h1, List.eq_nil_of_length_eq_zero h2]
    simp [Op.eqItems, samesB]
  | succ k ihk =>
    intro hA hB h1 h2
    have l1 := fitsB_length h1
    have l2 := fitsB_length h2
    rw [List.replicate_succ, List.flatten_cons] at h1 h2
    simp only [List.replicate_succ, List.flatten_cons, List.length_append, List.length_drop] at l1 l2
    obtain ⟨h3, h4⟩ := fitsB_split h1
    obtain ⟨h5, h6⟩ := fitsB_split h2
    have e1 : ∀ cs : List AVal, (cs.drop (n * ls.length)).drop ls.length = cs.drop ((n + 1) * ls.length) := fun cs => by
      rw [List.drop_drop, Nat.add_mul, Nat.one_mul]
    rw [e1] at h4 h6
    have p1 := run_part_at (w := w) h hc hi (as.map conc).toArray (n * ls.length) (by simp; omega)
    have p2 := run_part_at (w := w) h hc hi (bs.map conc).toArray (n * ls.length) (by simp; omega)
    simp only [← List.map_drop, ← List.map_take] at p1 p2
    simp only [List.range'_succ, Op.eqItems, Sem.run_bind, hc, p1, p2, Result.andThen_ok, ih _ _ h3 h5]
    rw [samesB_split ls.length (as := as.drop (n * ls.length)) (by simp; omega), e1, e1]
    have ihk' := ihk (n + 1) (by rw [Nat.add_mul]; omega) (by rw [Nat.add_mul]; omega) h4 h6
    rw [hc] at ihk'
    cases hs : samesB ((as.drop (n * ls.length)).take ls.length) ((bs.drop (n * ls.length)).take ls.length) with
    | false => simp
    | true => simpa using ihk'

theorem run_eqFs {w : World} {d f : Nat} (as bs : List AVal)
    (ih : ∀ t ls, cmpT P f t = some ls → ∀ as bs, fitsB ls as = true → fitsB ls bs = true → (Op.equalIn d t (mkV P t (as.map conc)) (mkV P t (bs.map conc))).run P w = .ok (samesB as bs) w) :
    ∀ (fs : List Field) (off : Nat) (ls : List Leaf), cmpT.go P f fs off = some ls → off ≤ as.length → off ≤ bs.length → fitsB ls (as.drop off) = true → fitsB ls (bs.drop off) = true →
      (Op.eqFields d (as.map conc).toArray (bs.map conc).toArray fs).run P w = .ok (samesB (as.drop off) (bs.drop off)) w
  | [], off, ls, h, hA, hB, h1, h2 => by
    simp only [cmpT.go, Option.some.injEq] at h
    subst h
    have h1 := fitsB_length h1
    have h2 := fitsB_length h2
    simp only [List.length_nil] at h1 h2
    rw [List.eq_nil_of_length_eq_zero h1, List.eq_nil_of_length_eq_zero h2]
    simp [Op.eqFields, samesB]
  | fd :: fs, off, ls, h, hA, hB, h1, h2 => by
    simp only [cmpT.go] at h
    split at h
    · rename_i hcond
      split at h
      · rename_i ls1 hls1
        split at h
        · rename_i hc
          split at h
          · rename_i r hr
            simp only [Option.some.injEq] at h
            subst h
            have l1 := fitsB_length h1
            have l2 := fitsB_length h2
            simp only [List.length_append, List.length_drop] at l1 l2
            obtain ⟨h3, h4⟩ := fitsB_split h1
            obtain ⟨h5, h6⟩ := fitsB_split h2
            rw [List.drop_drop] at h4 h6
            have p1 := run_part_at (w := w) hls1 hc.1 hc.2 (as.map conc).toArray off (by simp; omega)
            have p2 := run_part_at (w := w) hls1 hc.1 hc.2 (bs.map conc).toArray off (by simp; omega)
            simp only [← List.map_drop, ← List.map_take] at p1 p2
            have hrest := run_eqFs as bs ih fs (off + ls1.length) r hr (by omega) (by omega) h4 h6
            simp only [Op.eqFields, hcond.1, ne_eq, not_false_eq_true, if_true, Sem.run_bind, hcond.2, p1, p2, Result.andThen_ok, ih _ _ hls1 _ _ h3 h5]
            rw [samesB_split ls1.length (as := as.drop off) (by simp; omega), List.drop_drop, List.drop_drop]
            cases hs : samesB ((as.drop off).take ls1.length) ((bs.drop off).take ls1.length) with
            | false => simp
            | true => simpa using hrest
          · cases h
        · cases h
      · cases h
    · cases h

theorem fits_one {l : Leaf} {as : List AVal} (h : fitsB [l] as = true) : ∃ a, as = [a] ∧ fitB l a = true := by
  cases as with
  | nil => simp [fitsB] at h
  | cons a as =>
    cases as with
    | nil => exact ⟨a, rfl, by simpa [fitsB] using h⟩
    | cons b bs => simp [fitsB] at h

theorem run_equal {w : World} : ∀ (f : Nat) (t : TypeId) (ls : List Leaf) (d : Nat), cmpT P f t = some ls → f ≤ d → ∀ as bs, fitsB ls as = true → fitsB ls bs = true →
    (Op.equalIn d t (mkV P t (as.map conc)) (mkV P t (bs.map conc))).run P w = .ok (samesB as bs) w := by
  intro f
  induction f with
  | zero => intro t ls d h; simp [cmpT] at h
  | succ f ih =>
    intro t ls d h hd as bs ha hb
    obtain ⟨d, rfl⟩ : ∃ d', d = d' + 1 := ⟨d - 1, by omega⟩
    obtain ⟨ds, hu⟩ := cmpT_ne h
    have h0 := h
    rw [cmpT, hu] at h
    cases ds <;> simp only [reduceCtorEq] at h
    case bool =>
      simp only [Option.some.injEq] at h; subst h
      obtain ⟨x, rfl, hx⟩ := fits_one ha
      obtain ⟨y, rfl, hy⟩ := fits_one hb
      cases x <;> simp [fitB] at hx
      cases y <;> simp [fitB] at hy
      simp [mkV, hu, conc, run_equalIn_bool w d t _ _ hu, samesB, sameB]
    case int k =>
      simp only [Option.some.injEq] at h; subst h
      obtain ⟨x, rfl, hx⟩ := fits_one ha
      obtain ⟨y, rfl, hy⟩ := fits_one hb
      cases x <;> simp [fitB] at hx
      cases y <;> simp [fitB] at hy
      subst hx; subst hy
      simp [mkV, hu, conc, run_equalIn_int w d t _ _ _ _ hu, samesB, sameB]
    case string =>
      simp only [Option.some.injEq] at h; subst h
      obtain ⟨x, rfl, hx⟩ := fits_one ha
      obtain ⟨y, rfl, hy⟩ := fits_one hb
      cases x <;> simp [fitB] at hx
      cases y <;> simp [fitB] at hy
      simp only [mkV, hu, conc, List.map_cons, List.map_nil, List.headD_cons, run_equalIn_string w d t _ _ hu, samesB, sameB, Bool.and_true, str_eq]
    case array n e =>
      cases he : cmpT P f e with
      | none => rw [he] at h; cases h
      | some l1 =>
        rw [he] at h
        simp only at h
        split at h
        · rename_i hc
          simp only [Option.some.injEq] at h
          subst h
          obtain ⟨i, hi⟩ := Option.isSome_iff_exists.1 hc.2
          simp only [mkV, hu]
          rw [run_equalIn_array w d _ _ hu hi, List.range_eq_range']
          have := run_eqItems (w := w) (d := d) he hc.1 hc.2 as bs (fun as bs h1 h2 => ih e l1 d he (by omega) as bs h1 h2) 0 n (by simp) (by simp) (by simpa using ha) (by simpa using hb)
          simpa using this
        · cases h
    case struct fs =>
      split at h
      · cases h
      · rename_i hstood
        simp only [mkV, hu]
        have hf : P.fieldsOf t = fs := by unfold Program.fieldsOf; rw [hu]
        rw [run_equalIn_struct w d t _ _ (by rw [hf]; exact hu) (by simpa using hstood), hf]
        have := run_eqFs (w := w) (d := d) as bs (fun t ls hls as bs h1 h2 => ih t ls d hls (by omega) as bs h1 h2) fs.toList 0 ls h (by omega) (by omega) (by simpa using ha) (by simpa using hb)
        simpa using this

theorem conc_rel {ρ Im w} : ∀ {ls : List Leaf} {as : List AVal} {vs : List Value}, fitsB ls as = true → VRels P ρ Im w as vs → vs = as.map conc
  | [], [], vs, _, h => by simpa [VRels] using h
  | [], _ :: _, _, h, _ => by simp [fitsB] at h
  | _ :: _, [], _, h, _ => by simp [fitsB] at h
  | l :: ls, a :: as, vs, h, hv => by
    simp only [fitsB, Bool.and_eq_true] at h
    simp only [VRels] at hv
    obtain ⟨v, vs', rfl, h1, h2⟩ := hv
    rw [conc_rel h.2 h2]
    cases l <;> cases a <;> simp [fitB] at h <;> simp only [VRel] at h1 <;> subst h1 <;> rfl

section
variable {o : Oper} {x y : Operand} {t t' : TypeId} {as bs : List AVal} {ls : List Leaf}

def guardT (P : Program) (t : TypeId) : Bool := !P.eqGuardType P.depth t

theorem aggOf {t : TypeId} {f : Nat} (hl : cmpT P f t = some ls) (hg : (aggT P t).isSome = true) (cs : List Value) : mkV P t cs = .agg cs.toArray := by
  unfold aggT at hg
  unfold mkV
  cases hu : P.underlying t with
  | none => rw [hu] at hg; cases hg
  | some d => cases d <;> simp [hu] at hg ⊢

theorem run_eqA {w : World} (hl : cmpT P 20 t = some ls) (hg : (aggT P t).isSome = true) (ha : fitsB ls as = true) (hb : fitsB ls bs = true) :
    (Op.equal t (.agg (as.map conc).toArray) (.agg (bs.map conc).toArray)).run P w = .ok (samesB as bs) w := by
  have := run_equal (P := P) (w := w) 20 t ls 10000 hl (by omega) as bs ha hb
  rw [aggOf hl hg, aggOf hl hg] at this
  exact this

theorem op_eqA (ho : o.op = .binOp .eql t x y t') (hl : cmpT P 20 t = some ls) (hg : (aggT P t).isSome = true) (hgd : guardT P t = true) (ha : fitsB ls as = true) (hb : fitsB ls bs = true) :
    OpV P o [.agg as, .agg bs] [] [] (.bool (samesB as bs)) [] :=
  op2 (x := x) (y := y) (by rw [ho]; rfl) fun ρ Im w ac hv hu => by
    simp only [VRel] at hv hu ⊢
    obtain ⟨xs, h1, h2⟩ := hv
    obtain ⟨ys, h3, h4⟩ := hu
    have e1 := conc_rel ha h2
    have e2 := conc_rel hb h4
    have h5 := run_eqA (P := P) (w := w) hl hg ha hb
    rw [← e1, ← e2] at h5
    have hgd' : P.eqGuardType P.depth t = false := by simpa [guardT] using hgd
    refine ⟨_, ?_, rfl⟩
    simp [execOp, ho, h1, h3, eqGuard, hgd', binOp]
    simp only [Array.toArray_toList] at h5
    rw [h5]; rfl
theorem op_neqA (ho : o.op = .binOp .neq t x y t') (hl : cmpT P 20 t = some ls) (hg : (aggT P t).isSome = true) (hgd : guardT P t = true) (ha : fitsB ls as = true) (hb : fitsB ls bs = true) :
    OpV P o [.agg as, .agg bs] [] [] (.bool (!samesB as bs)) [] :=
  op2 (x := x) (y := y) (by rw [ho]; rfl) fun ρ Im w ac hv hu => by
    simp only [VRel] at hv hu ⊢
    obtain ⟨xs, h1, h2⟩ := hv
    obtain ⟨ys, h3, h4⟩ := hu
    have e1 := conc_rel ha h2
    have e2 := conc_rel hb h4
    have h5 := run_eqA (P := P) (w := w) hl hg ha hb
    rw [← e1, ← e2] at h5
    have hgd' : P.eqGuardType P.depth t = false := by simpa [guardT] using hgd
    refine ⟨_, ?_, rfl⟩
    simp [execOp, ho, h1, h3, eqGuard, hgd', binOp]
    simp only [Array.toArray_toList] at h5
    rw [h5]; rfl

theorem op_eqS {s s' : List UInt8} (ho : o.op = .binOp .eql t x y t') : OpV P o [.str s, .str s'] [] [] (.bool (s == s')) [] :=
  op2 (x := x) (y := y) (by rw [ho]; rfl) fun ρ Im w ac hv hu => by
    simp only [VRel] at hv hu ⊢
    exact ⟨_, by simp [execOp, ho, hv, hu, eqGuard_str, binOp, Op.stringOp, str_eq], rfl⟩
theorem op_neqS {s s' : List UInt8} (ho : o.op = .binOp .neq t x y t') : OpV P o [.str s, .str s'] [] [] (.bool (!(s == s'))) [] :=
  op2 (x := x) (y := y) (by rw [ho]; rfl) fun ρ Im w ac hv hu => by
    simp only [VRel] at hv hu ⊢
    exact ⟨_, by simp [execOp, ho, hv, hu, eqGuard_str, binOp, Op.stringOp, str_eq], rfl⟩
theorem op_eqB {p q : Bool} (ho : o.op = .binOp .eql t x y t') (ht : P.underlying t = some .bool) : OpV P o [.bool p, .bool q] [] [] (.bool (p == q)) [] :=
  op2 (x := x) (y := y) (by rw [ho]; rfl) fun ρ Im w ac hv hu => by
    simp only [VRel] at hv hu ⊢
    exact ⟨_, by simp [execOp, ho, hv, hu, eqGuard_bool, binOp, Op.equal, Op.maxDepth, run_equalIn_bool w _ t _ _ ht], rfl⟩
theorem op_neqB {p q : Bool} (ho : o.op = .binOp .neq t x y t') (ht : P.underlying t = some .bool) : OpV P o [.bool p, .bool q] [] [] (.bool (!(p == q))) [] :=
  op2 (x := x) (y := y) (by rw [ho]; rfl) fun ρ Im w ac hv hu => by
    simp only [VRel] at hv hu ⊢
    exact ⟨_, by simp [execOp, ho, hv, hu, eqGuard_bool, binOp, Op.equal, Op.maxDepth, run_equalIn_bool w _ t _ _ ht], rfl⟩
theorem run_eqPN {w : World} {e : TypeId} (ht : P.underlying t = some (.pointer e)) (ad : Option Addr) : (Op.equal t (.pointer ad) (.pointer none)).run P w = .ok ad.isNone w := by
  have : ∀ d, (Op.equalIn (d + 1) t (.pointer ad) (.pointer none)).run P w = .ok ad.isNone w := by
    intro d
    cases ad <;> simp [Op.equalIn, run_underlying ht]
  exact this 9999
/-- A pointer against nil. -/
theorem op_eqNil {b off : Nat} (ho : o.op = .binOp .eql t x y t') {e : TypeId} (ht : P.underlying t = some (.pointer e)) : OpV P o [.ptr b off, .nilp] [] [] (.bool false) [] :=
  op2 (x := x) (y := y) (by rw [ho]; rfl) fun ρ Im w ac hv hu => by
    simp only [VRel] at hv hu ⊢
    obtain ⟨c, _, h2⟩ := hv
    exact ⟨.bool false, by simp [execOp, ho, h2, hu, eqGuard, binOp, run_eqPN ht], rfl⟩
theorem op_eqNilNil (ho : o.op = .binOp .eql t x y t') {e : TypeId} (ht : P.underlying t = some (.pointer e)) : OpV P o [.nilp, .nilp] [] [] (.bool true) [] :=
  op2 (x := x) (y := y) (by rw [ho]; rfl) fun ρ Im w ac hv hu => by
    simp only [VRel] at hv hu ⊢
    exact ⟨.bool true, by simp [execOp, ho, hv, hu, eqGuard, binOp, run_eqPN ht], rfl⟩
end
end Go.Kw

namespace Go.Kw
set_option linter.unusedVariables false
set_option linter.unusedSimpArgs false
variable {P : Program}

/-! ### Calls -/
section
variable {o : Oper} {x y : Operand} {t : TypeId} {f : FuncId} {args first caps : List AVal} {h h' : AHeap} {new : List Nat} {v : AVal} {xs : Array Operand} {ts : Array TypeId}

theorem run_callFunc {w : World} (hc : callable P f = true) (as : Array Value) : (callFunc f as).run P w = .ok (.enter f as) w := by
  unfold callable at hc
  cases hf : P.funcs[f]? with
  | none => rw [hf] at hc; cases hc
  | some fn =>
    rw [hf] at hc
    simp only [Option.any_some, Bool.and_eq_true, bne_iff_ne, ne_eq] at hc
    obtain ⟨hc1, hc2⟩ := hc
    obtain ⟨body, hb⟩ := Option.isSome_iff_exists.1 hc2
    simp [callFunc, hf, hc1, hb]

theorem op_callV (ho : o.op = .call { callee := .value x, args := xs, argTypes := ts }) (hc : callable P f = true) (ha : ACalls P f (first ++ args ++ caps) h new v h') :
    OpV P o (.fn f first caps :: args) h new v h' := by
  refine OpV.enter ?_ ha
  intro ρ Im w a hv
  rw [Array.toList_map, ho] at hv
  simp only [Op.operands, Call.operands, Array.toList_append, List.map_append, List.map_cons, List.map_nil, List.cons_append, List.nil_append, VRels] at hv
  obtain ⟨r, rs, h1, h2, h3⟩ := hv
  simp only [List.cons.injEq] at h1
  obtain ⟨rfl, rfl⟩ := h1
  simp only [VRel] at h2
  obtain ⟨as, bs, h4, h5, h6⟩ := h2
  refine ⟨as ++ xs.map a.eval ++ bs, ?_, ?_⟩
  · simp [execOp, ho, resolve, Deferred.ofValue, h4, invoke, run_callFunc hc]
  · rw [Array.toList_append, Array.toList_append, Array.toList_map]
    exact (h5.append h3).append h6
theorem op_call (ho : o.op = .call { callee := .value (.func f), args := xs, argTypes := ts }) (hc : callable P f = true) (ha : ACalls P f args h new v h') :
    OpV P o (.fn f [] [] :: args) h new v h' := op_callV ho hc (by simpa using ha)

theorem op_makeFunc {cs : Array Operand} (ho : o.op = .makeFunc (.func f) #[] cs) : OpV P o caps [] [] (.fn f [] caps) [] := by
  refine OpV.pure fun ρ Im w a hv => ?_
  rw [Array.toList_map, ho] at hv
  simp only [Op.operands, Array.empty_append] at hv
  refine ⟨_, by simp [execOp, ho, Instr.makeFunc]; rfl, ?_⟩
  simp only [VRel]
  exact ⟨#[], cs.map a.eval, rfl, by simp [VRels], by simpa using hv⟩
end

/-! ### Blocks that are given up to be data -/

mutual
inductive Frz (b : Nat) (cells : List AVal) : AVal → AVal → Prop
  | refl (v) : Frz b cells v v
  | ptr (off) : Frz b cells (.ptr b off) (.vptr cells off)
  | os (off len sz full) (h : off + len * sz ≤ cells.length) : Frz b cells (.os b off len sz full) (.vs len full ((cells.drop off).take (len * sz)))
  | agg {as bs} (h : Frzs b cells as bs) : Frz b cells (.agg as) (.agg bs)
  | tup {as bs} (h : Frzs b cells as bs) : Frz b cells (.tup as) (.tup bs)
inductive Frzs (b : Nat) (cells : List AVal) : List AVal → List AVal → Prop
  | nil : Frzs b cells [] []
  | cons {a a' as as'} (h : Frz b cells a a') (hs : Frzs b cells as as') : Frzs b cells (a :: as) (a' :: as')
end

theorem Frzs.refl {b : Nat} {cells : List AVal} : ∀ (as : List AVal), Frzs b cells as as
  | [] => .nil
  | a :: as => .cons (.refl a) (Frzs.refl as)

section
variable {b c : Nat} {cells : List AVal} {ρ : Nat → Option Nat} {Im Im' : Nat → Prop} {w : World}

/-- How the block reads, once it is data. -/
structure Cold (P : Program) (ρ : Nat → Option Nat) (Im' : Nat → Prop) (w : World) (b : Nat) (cells : List AVal) : Prop where
  rd : (∃ c vals, ρ b = some (c + 1) ∧ Im' c ∧ Reads w c 0 vals ∧ VRels P ρ Im' w cells vals) ∨ (ρ b = some 0 ∧ cells = [])

mutual
theorem Frz.rel (m : Mono ρ Im w ρ Im' w) (hc : Cold P ρ Im' w b cells) : ∀ {v v' : AVal} {r : Value}, Frz b cells v v' → VRel P ρ Im w v r → VRel P ρ Im' w v' r
  | _, _, r, .refl v, h => h.mono m
  | _, _, r, .ptr off, h => by
    simp only [VRel] at h ⊢
    obtain ⟨d, h1, h2⟩ := h
    rcases hc.rd with ⟨c, vals, g1, g2, g3, g4⟩ | ⟨g1, _⟩
    · rw [h1] at g1; cases g1
      exact ⟨d, 0, vals, by rw [h2, Nat.zero_add], g2, g3, g4⟩
    · rw [h1] at g1; cases g1
  | _, _, r, .os off len sz full hle, h => by
    simp only [VRel] at h ⊢
    rcases h with ⟨_, rfl, ad, rfl⟩ | ⟨d, cap, T, n, h1, rfl, h3, h4, h5, h6⟩
    · exact ⟨ad, 0, rfl, Nat.le_refl _, fun _ => rfl, .inl (by simp)⟩
    · refine ⟨_, cap, rfl, h3, h4, ?_⟩
      rcases hc.rd with ⟨c, vals, g1, g2, g3, g4⟩ | ⟨g1, _⟩
      · rw [h1] at g1; cases g1
        have hl := g4.length
        refine .inr ⟨d, off, (vals.drop off).take (len * sz), rfl, g2, ?_, (g4.drop _).take _⟩
        intro j hj
        simp only [List.length_take, List.length_drop] at hj
        have := g3 (off + j) (by omega)
        rw [Nat.zero_add] at this
        rw [this]
        simp
      · rw [h1] at g1; cases g1
  | _, _, r, .agg hs, h => by
    simp only [VRel] at h ⊢
    obtain ⟨cs, h1, h2⟩ := h
    exact ⟨cs, h1, Frzs.rel m hc hs h2⟩
  | _, _, r, .tup hs, h => by
    simp only [VRel] at h ⊢
    obtain ⟨cs, h1, h2⟩ := h
    exact ⟨cs, h1, Frzs.rel m hc hs h2⟩
theorem Frzs.rel (m : Mono ρ Im w ρ Im' w) (hc : Cold P ρ Im' w b cells) : ∀ {vs vs' : List AVal} {rs : List Value}, Frzs b cells vs vs' → VRels P ρ Im w vs rs → VRels P ρ Im' w vs' rs
  | _, _, rs, .nil, h => by simpa only [VRels] using h
  | _, _, rs, .cons h1 h2, h => by
    simp only [VRels] at h ⊢
    obtain ⟨r, rs', e, g1, g2⟩ := h
    exact ⟨r, rs', e, Frz.rel m hc h1 g1, Frzs.rel m hc h2 g2⟩
end

/-- The block is given up: what was a block is data from now on; a void takes its place. -/
theorem St.freeze {T : TypeId} {R : AHeap} (s : St P ρ Im ((b, .vec T cells) :: R) w) : ∃ Im', Mono ρ Im w ρ Im' w ∧ Cold P ρ Im' w b cells ∧ St P ρ Im' R w ∧
    (∀ c, Im' c → Im c ∨ ρ b = some (c + 1)) := by
  have hsub : St P ρ Im R w := s.sub (List.sublist_cons_self _ _)
  rcases s.obj b _ (List.mem_cons_self) with ⟨h1, h2⟩ | ⟨c, h1, h2, h3⟩
  · exact ⟨Im, { rho := fun _ _ h => h, im := fun _ h => h, same := fun _ _ => rfl, shape := fun _ _ _ h => h }, ⟨.inr ⟨h1, h2⟩⟩, hsub, fun _ h => .inl h⟩
  · have m : Mono ρ Im w ρ (fun x => Im x ∨ x = c) w := { rho := fun _ _ h => h, im := fun _ h => .inl h, same := fun _ _ => rfl, shape := fun _ _ _ h => h }
    refine ⟨fun x => Im x ∨ x = c, m, ?_, ?_, ?_⟩
    · obtain ⟨cs, fz, vals, g1, g2, g3, g4⟩ := h2
      refine ⟨.inl ⟨c, vals, h1, .inr rfl, ?_, g4.mono m⟩⟩
      intro i hi
      simp [World.cell?, g1, g3 i hi]
    · refine { obj := ?_, nd := hsub.nd, inj := hsub.inj, im := ?_ }
      · intro x y hxy
        rcases hsub.obj x y hxy with g | ⟨d, g1, g2, g3⟩
        · exact .inl g
        · refine .inr ⟨d, g1, g2.mono m rfl, ?_⟩
          rintro (h | rfl)
          · exact g3 h
          · have := s.inj x b y _ d (List.mem_cons_of_mem _ hxy) (List.mem_cons_self) g1 h1
            subst this
            have hnd := s.nd
            simp only [List.map_cons, List.nodup_cons] at hnd
            exact hnd.1 (List.mem_map_of_mem (f := Prod.fst) hxy)
      · rintro x (h | rfl)
        · exact s.im x h
        · exact h2.lt
    · rintro x (h | rfl)
      · exact .inl h
      · exact .inr h1
end

/-- A call whose argument is a block that is given up: it is data for the callee and from then on; a void (b') stays in its place. -/
theorem ACalls.frz {f : FuncId} {args args' : List AVal} {R R' : AHeap} {new : List Nat} {v : AVal} {b b' : Nat} {T : TypeId} {cells : List AVal}
    (hc : ACalls P f args' R new v R') (hf : Frzs b cells args args') : ACalls P f args ((b, .vec T cells) :: R) (b' :: new) v ((b', .vec T []) :: R') := by
  intro ρ Im w as sup s fr hv
  obtain ⟨Im1, m, cold, s1, hI⟩ := s.freeze
  have hnd := fr.nd
  simp only [List.nodup_cons] at hnd
  have fr1 : Fresh ρ new sup := { named := fun x hx => fr.named x (List.mem_cons_of_mem _ hx), free := fr.free, inj := fr.inj, apart := fun i hi => fr.apart i (List.mem_cons_of_mem _ hi), nd := hnd.2 }
  have hb' : ρ b' = none := fr.named b' (List.mem_cons_self)
  refine (hc ρ Im1 w as sup s1 fr1 (hf.rel m cold hv)).mono fun e w' he => ?_
  obtain ⟨v', ρ', Im', rfl, h1, h2⟩ := he
  have hb'' : ρ' b' = none := by
    cases hx : ρ' b' with
    | none => rfl
    | some c =>
      rcases h2.ok b' (by rw [hx]; simp) with h | h | ⟨i, h⟩
      · exact absurd hb' h
      · exact absurd h hnd.1
      · exact absurd (List.mem_cons_self) (h ▸ fr.apart i)
  let ρ'' : Nat → Option Nat := fun x => if x = b' then some 0 else ρ' x
  have hext : ∀ x c, ρ' x = some c → ρ'' x = some c := fun x c hx => by
    by_cases hxb : x = b'
    · subst hxb; rw [hb''] at hx; cases hx
    · simp [ρ'', hxb, hx]
  have m2 : Mono ρ' Im' w' ρ'' Im' w' := { rho := hext, im := fun _ h => h, same := fun _ _ => rfl, shape := fun _ _ _ h => h }
  have hne : ∀ x y, (x, y) ∈ R' → x ≠ b' := fun x y hxy hx => by
    subst hx
    obtain ⟨c, hc⟩ := h2.st.code hxy
    rw [hb''] at hc; cases hc
  refine ⟨v', ρ'', Im', rfl, h1.mono m2, ?_⟩
  refine { size := h2.size, os := h2.os, out := h2.out, keep := ?_, rho := fun x c hx => hext x c (h2.rho x c hx), im := fun c hc => h2.im c (m.im c hc), imNew := ?_, shape := h2.shape, own := ?_, names := ?_, ok := ?_, st := ?_ }
  · intro c hlt hn
    exact h2.keep c hlt fun x y hxy => hn x y (List.mem_cons_of_mem _ hxy)
  · intro c hcI
    rcases h2.imNew c hcI with h | ⟨x, y, hxy, hx⟩ | h
    · rcases hI c h with h | h
      · exact .inl h
      · exact .inr (.inl ⟨b, _, List.mem_cons_self, h⟩)
    · exact .inr (.inl ⟨x, y, List.mem_cons_of_mem _ hxy, hx⟩)
    · exact .inr (.inr h)
  · intro x y c hxy hx
    rcases List.mem_cons.1 hxy with h | hxy
    · simp only [Prod.mk.injEq] at h
      rw [h.1] at hx
      simp [ρ''] at hx
    · have hxb := hne x y hxy
      rcases h2.own x y c hxy (by simpa [ρ'', hxb] using hx) with ⟨x0, y0, h3, h4⟩ | h
      · exact .inl ⟨x0, y0, List.mem_cons_of_mem _ h3, h4⟩
      · exact .inr h
  · intro x y hxy
    rcases List.mem_cons.1 hxy with h | hxy
    · simp only [Prod.mk.injEq] at h
      rw [h.1]; exact .inr hb'
    · rcases h2.names x y hxy with ⟨y0, h⟩ | h
      · exact .inl ⟨y0, List.mem_cons_of_mem _ h⟩
      · exact .inr h
  · intro x hx
    by_cases hxb : x = b'
    · subst hxb; exact .inr (.inl (List.mem_cons_self))
    · rcases h2.ok x (by simpa [ρ'', hxb] using hx) with h | h | h
      · exact .inl h
      · exact .inr (.inl (List.mem_cons_of_mem _ h))
      · exact .inr (.inr h)
  · refine { obj := ?_, nd := ?_, inj := ?_, im := h2.st.im }
    · intro x y hxy
      rcases List.mem_cons.1 hxy with h | hxy
      · simp only [Prod.mk.injEq] at h
        rw [h.1, h.2]
        exact .inl ⟨by simp [ρ''], by simp [AObj.void]⟩
      · rcases h2.st.obj x y hxy with ⟨g1, g2⟩ | ⟨d, g1, g2, g3⟩
        · exact .inl ⟨hext x _ g1, g2⟩
        · exact .inr ⟨d, hext x _ g1, g2.mono m2 rfl, g3⟩
    · simp only [List.map_cons, List.nodup_cons]
      refine ⟨?_, h2.st.nd⟩
      intro hh
      obtain ⟨⟨x, y⟩, hx, rfl⟩ := List.mem_map.1 hh
      exact hne _ _ hx rfl
    · intro x x' y y' d hx hx' hd hd'
      rcases List.mem_cons.1 hx with h | hx
      · simp only [Prod.mk.injEq] at h
        rw [h.1] at hd; simp [ρ''] at hd
      · rcases List.mem_cons.1 hx' with h | hx'
        · simp only [Prod.mk.injEq] at h
          rw [h.1] at hd'; simp [ρ''] at hd'
        · exact h2.st.inj x x' y y' d hx hx' (by simpa [ρ'', hne x y hx] using hd) (by simpa [ρ'', hne x' y' hx'] using hd')

/-! ### Blocks that are lent -/

mutual
/-- A value that refers to no data in memory. -/
def noRef : AVal → Bool
  | .vptr _ _ => false
  | .vs _ _ cells => cells.isEmpty
  | .agg cs => noRefs cs
  | .tup vs => noRefs vs
  | .fn _ as bs => noRefs as && noRefs bs
  | _ => true
def noRefs : List AVal → Bool
  | [] => true
  | a :: as => noRef a && noRefs as
end
mutual
theorem noRef_rel {ρ Im Im' w} : ∀ {v : AVal} {r : Value}, noRef v = true → VRel P ρ Im w v r → VRel P ρ Im' w v r
  | .int _ _, r, h, hv => by simpa only [VRel] using hv
  | .bool _, r, h, hv => by simpa only [VRel] using hv
  | .str _, r, h, hv => by simpa only [VRel] using hv
  | .nilp, r, h, hv => by simpa only [VRel] using hv
  | .ptr _ _, r, h, hv => by simpa only [VRel] using hv
  | .vptr _ _, r, h, hv => by simp [noRef] at h
  | .vs _ _ cells, r, h, hv => by
    have : cells = [] := by simpa [noRef] using h
    subst this
    simp only [VRel] at hv ⊢
    obtain ⟨a, cap, h1, h2, h3, _⟩ := hv
    exact ⟨a, cap, h1, h2, h3, by simp⟩
  | .os _ _ _ _ _, r, h, hv => by simpa only [VRel] using hv
  | .nilm, r, h, hv => by simpa only [VRel] using hv
  | .ns _, r, h, hv => by simpa only [VRel] using hv
  | .mp _, r, h, hv => by simpa only [VRel] using hv
  | .nilf, r, h, hv => by simpa only [VRel] using hv
  | .fn _ as bs, r, h, hv => by
    simp only [noRef, Bool.and_eq_true] at h
    simp only [VRel] at hv ⊢
    obtain ⟨xs, ys, h1, h2, h3⟩ := hv
    exact ⟨xs, ys, h1, noRefs_rel h.1 h2, noRefs_rel h.2 h3⟩
  | .agg cs, r, h, hv => by
    simp only [noRef] at h
    simp only [VRel] at hv ⊢
    obtain ⟨xs, h1, h2⟩ := hv
    exact ⟨xs, h1, noRefs_rel h h2⟩
  | .tup cs, r, h, hv => by
    simp only [noRef] at h
    simp only [VRel] at hv ⊢
    obtain ⟨xs, h1, h2⟩ := hv
    exact ⟨xs, h1, noRefs_rel h h2⟩
theorem noRefs_rel {ρ Im Im' w} : ∀ {vs : List AVal} {rs : List Value}, noRefs vs = true → VRels P ρ Im w vs rs → VRels P ρ Im' w vs rs
  | [], rs, h, hv => by simpa only [VRels] using hv
  | a :: as, rs, h, hv => by
    simp only [noRefs, Bool.and_eq_true] at h
    simp only [VRels] at hv ⊢
    obtain ⟨r, rs', e, h1, h2⟩ := hv
    exact ⟨r, rs', e, noRef_rel h.1 h1, noRefs_rel h.2 h2⟩
end
def noRefO : AObj → Bool
  | .vec _ cells => noRefs cells
  | .map es => noRefs (es.map (·.1)) && noRefs (es.map (·.2))
theorem noRefO_rel {ρ Im Im' w o c} (h : noRefO o = true) (ho : ORel P ρ Im w o c) : ORel P ρ Im' w o c := by
  cases o with
  | vec T cells =>
    obtain ⟨cs, fz, vals, h1, h2, h3, h4⟩ := ho
    exact ⟨cs, fz, vals, h1, h2, h3, noRefs_rel h h4⟩
  | map es =>
    simp only [noRefO, Bool.and_eq_true] at h
    obtain ⟨xs, clock, h1, h2, h3, h4, h5⟩ := ho
    exact ⟨xs, clock, h1, noRefs_rel h.1 h2, noRefs_rel h.2 h3, h4, h5⟩

/-- A call whose argument is a block that is lent: it is data for the callee; the block stays the caller's. -/
theorem ACalls.lend {f : FuncId} {args args' : List AVal} {R R' : AHeap} {new : List Nat} {v : AVal} {b : Nat} {T : TypeId} {cells : List AVal}
    (hc : ACalls P f args' R new v R') (hf : Frzs b cells args args') (hv0 : noRef v = true) (hR : R'.all (fun e => noRefO e.2) = true) :
    ACalls P f args ((b, .vec T cells) :: R) new v ((b, .vec T cells) :: R') := by
  intro ρ Im w as sup s fr hv
  obtain ⟨Im1, m, cold, s1, hI⟩ := s.freeze
  refine (hc ρ Im1 w as sup s1 fr (hf.rel m cold hv)).mono fun e w' he => ?_
  obtain ⟨v', ρ', Im', rfl, h1, h2⟩ := he
  have hRall : ∀ x y, (x, y) ∈ R' → noRefO y = true := fun x y hxy => List.all_eq_true.1 hR (x, y) hxy
  -- the block b as before
  have hbcode := s.code (List.mem_cons_self (a := (b, AObj.vec T cells)))
  obtain ⟨code, hcode⟩ := hbcode
  have hnd0 := s.nd
  simp only [List.map_cons, List.nodup_cons] at hnd0
  have hbR' : ∀ y, (b, y) ∉ R' := by
    intro y hy
    rcases h2.names b y hy with ⟨y0, h⟩ | h
    · exact hnd0.1 (List.mem_map_of_mem (f := Prod.fst) h)
    · rw [hcode] at h; cases h
  have hkeepb : ∀ c, ρ b = some (c + 1) → w'.heap[c]? = w.heap[c]? := by
    intro c hcb
    have hlt : c < w.heap.size := by
      rcases s.obj b _ (List.mem_cons_self) with ⟨g, _⟩ | ⟨d, g, g2, _⟩
      · rw [hcb] at g; cases g
      · rw [hcb] at g; cases g; exact g2.lt
    refine h2.keep c hlt fun x y hxy hx => ?_
    have := s.inj x b y _ c (List.mem_cons_of_mem _ hxy) (List.mem_cons_self) hx hcb
    subst this
    exact hnd0.1 (List.mem_map_of_mem (f := Prod.fst) hxy)
  let Im2 : Nat → Prop := fun c => Im' c ∧ ρ b ≠ some (c + 1)
  have hImb : ∀ c, Im c → ρ b ≠ some (c + 1) := by
    intro c hcI hcb
    rcases s.obj b _ (List.mem_cons_self) with ⟨g, _⟩ | ⟨d, g, _, g3⟩
    · rw [hcb] at g; cases g
    · rw [hcb] at g; cases g; exact g3 hcI
  have m2 : Mono ρ Im w ρ' Im2 w' := { rho := h2.rho, im := fun c hcI => ⟨h2.im c (m.im c hcI), hImb c hcI⟩, same := fun c hcI => (h2.mono s1).same c (m.im c hcI), shape := h2.shape }
  refine ⟨v', ρ', Im2, rfl, noRef_rel hv0 h1, ?_⟩
  refine { size := h2.size, os := h2.os, out := h2.out, keep := ?_, rho := h2.rho, im := m2.im, imNew := ?_, shape := h2.shape, own := ?_, names := ?_, ok := h2.ok, st := ?_ }
  · intro c hlt hn
    exact h2.keep c hlt fun x y hxy => hn x y (List.mem_cons_of_mem _ hxy)
  · rintro c ⟨hcI, hnb⟩
    rcases h2.imNew c hcI with h | ⟨x, y, hxy, hx⟩ | h
    · rcases hI c h with h | h
      · exact .inl h
      · exact absurd h hnb
    · exact .inr (.inl ⟨x, y, List.mem_cons_of_mem _ hxy, hx⟩)
    · exact .inr (.inr h)
  · intro x y c hxy hx
    rcases List.mem_cons.1 hxy with h | hxy
    · simp only [Prod.mk.injEq] at h
      obtain ⟨rfl, rfl⟩ := h
      have := h2.rho x code hcode
      rw [hx] at this; cases this
      exact .inl ⟨x, _, List.mem_cons_self, hcode⟩
    · rcases h2.own x y c hxy hx with ⟨x0, y0, h3, h4⟩ | h
      · exact .inl ⟨x0, y0, List.mem_cons_of_mem _ h3, h4⟩
      · exact .inr h
  · intro x y hxy
    rcases List.mem_cons.1 hxy with h | hxy
    · simp only [Prod.mk.injEq] at h
      rw [h.1]; exact .inl ⟨_, List.mem_cons_self⟩
    · rcases h2.names x y hxy with ⟨y0, h⟩ | h
      · exact .inl ⟨y0, List.mem_cons_of_mem _ h⟩
      · exact .inr h
  · refine { obj := ?_, nd := ?_, inj := ?_, im := fun c hcI => h2.st.im c hcI.1 }
    · intro x y hxy
      rcases List.mem_cons.1 hxy with h | hxy
      · simp only [Prod.mk.injEq] at h
        obtain ⟨rfl, rfl⟩ := h
        rcases s.obj x _ (List.mem_cons_self) with ⟨g1, g2⟩ | ⟨d, g1, g2, g3⟩
        · exact .inl ⟨h2.rho x _ g1, g2⟩
        · exact .inr ⟨d, h2.rho x _ g1, g2.mono m2 (hkeepb d g1), fun hI2 => hI2.2 g1⟩
      · rcases h2.st.obj x y hxy with g | ⟨d, g1, g2, g3⟩
        · exact .inl g
        · exact .inr ⟨d, g1, noRefO_rel (hRall x y hxy) g2, fun hI2 => g3 hI2.1⟩
    · simp only [List.map_cons, List.nodup_cons]
      refine ⟨?_, h2.st.nd⟩
      intro hh
      obtain ⟨⟨x, y⟩, hx, rfl⟩ := List.mem_map.1 hh
      exact hbR' _ hx
    · have hcross : ∀ x y d, (x, y) ∈ R' → ρ' x = some (d + 1) → ρ' b ≠ some (d + 1) := by
        intro x y d hx hd hdb
        have hbd : ρ b = some (d + 1) := by
          have := h2.rho b code hcode
          rw [hdb] at this; cases this
          exact hcode
        have hlt : d < w.heap.size := by
          rcases s.obj b _ (List.mem_cons_self) with ⟨g, _⟩ | ⟨d', g, g2, _⟩
          · rw [hbd] at g; cases g
          · rw [hbd] at g; cases g; exact g2.lt
        rcases h2.own x y d hx hd with ⟨x0, y0, h3, h4⟩ | h
        · have := s.inj x0 b y0 _ d (List.mem_cons_of_mem _ h3) (List.mem_cons_self) h4 hbd
          subst this
          exact hnd0.1 (List.mem_map_of_mem (f := Prod.fst) h3)
        · omega
      intro x x' y y' d hx hx' hd hd'
      rcases List.mem_cons.1 hx with h | hx <;> rcases List.mem_cons.1 hx' with h' | hx'
      · simp only [Prod.mk.injEq] at h h'
        rw [h.1, h'.1]
      · simp only [Prod.mk.injEq] at h
        rw [h.1] at hd
        exact absurd hd (hcross x' y' d hx' hd')
      · simp only [Prod.mk.injEq] at h'
        rw [h'.1] at hd'
        exact absurd hd' (hcross x y d hx hd)
      · exact h2.st.inj x x' y y' d hx hx' hd hd'
end Go.Kw

namespace Go.Kw
set_option linter.unusedVariables false
set_option linter.unusedSimpArgs false
variable {P : Program}

/-! ### Whole numbers by their types -/

theorem wrap_i64 {n : Int} (h1 : -9223372036854775808 ≤ n) (h2 : n ≤ 9223372036854775807) : IntKind.i64.wrap n = n := by
  show (if (true && decide ((n % 18446744073709551616) ≥ 9223372036854775808)) = true then n % 18446744073709551616 - 18446744073709551616 else n % 18446744073709551616) = n
  simp only [Bool.true_and, decide_eq_true_eq]
  split <;> omega
theorem wrap_u8 {n : Int} : IntKind.u8.wrap n = n % 256 := by simp [IntKind.wrap, IntKind.signed, IntKind.bits]
theorem wrap_u16 {n : Int} : IntKind.u16.wrap n = n % 65536 := by simp [IntKind.wrap, IntKind.signed, IntKind.bits]
theorem wrap_u32 {n : Int} : IntKind.u32.wrap n = n % 4294967296 := by simp [IntKind.wrap, IntKind.signed, IntKind.bits]
theorem wrap_u64 {n : Int} : IntKind.u64.wrap n = n % 18446744073709551616 := by simp [IntKind.wrap, IntKind.signed, IntKind.bits]

section
variable {o : Oper} {x y z : Operand} {t t' : TypeId} {a b c : Int} {k k' : IntKind} {v u : AVal} {p q : Bool}

theorem op_addI (ho : o.op = .binOp .add t x y t') (h : -9223372036854775808 ≤ a + b ∧ a + b ≤ 9223372036854775807) : OpV P o [.i a, .i b] [] [] (.i (a + b)) [] := by
  have := op_add (P := P) (k := .i64) (a := a) (b := b) ho
  rwa [wrap_i64 h.1 h.2] at this
theorem op_subI (ho : o.op = .binOp .sub t x y t') (h : -9223372036854775808 ≤ a - b ∧ a - b ≤ 9223372036854775807) : OpV P o [.i a, .i b] [] [] (.i (a - b)) [] := by
  have := op_sub (P := P) (k := .i64) (a := a) (b := b) ho
  rwa [wrap_i64 h.1 h.2] at this
theorem op_mulI (ho : o.op = .binOp .mul t x y t') (h : -9223372036854775808 ≤ a * b ∧ a * b ≤ 9223372036854775807) : OpV P o [.i a, .i b] [] [] (.i (a * b)) [] := by
  have := op_mul (P := P) (k := .i64) (a := a) (b := b) ho
  rwa [wrap_i64 h.1 h.2] at this
theorem op_quoI (ho : o.op = .binOp .quo t x y t') (h : 0 ≤ a ∧ a ≤ 9223372036854775807 ∧ 0 < b) : OpV P o [.i a, .i b] [] [] (.i (a / b)) [] := by
  have := op_quo (P := P) (k := .i64) (a := a) (b := b) ho (by omega)
  rw [Int.tdiv_eq_ediv_of_nonneg h.1] at this
  have h1 : 0 ≤ a / b := Int.ediv_nonneg h.1 (by omega)
  have h2 : a / b ≤ a := Int.ediv_le_self _ h.1
  rwa [wrap_i64 (by omega) (by omega)] at this
theorem op_remI (ho : o.op = .binOp .rem t x y t') (h : 0 ≤ a ∧ 0 < b) : OpV P o [.i a, .i b] [] [] (.i (a % b)) [] := by
  have := op_rem (P := P) (k := .i64) (a := a) (b := b) ho (by omega)
  rwa [Int.tmod_eq_emod_of_nonneg h.1] at this

/-! unsigned ones -/
theorem nat_u8 (n : Nat) : ((n : Int) % 256) = (((UInt8.ofNat n).toNat : Nat) : Int) := by simp
theorem nat_u16 (n : Nat) : ((n : Int) % 65536) = (((UInt16.ofNat n).toNat : Nat) : Int) := by simp
theorem nat_u32 (n : Nat) : ((n : Int) % 4294967296) = (((UInt32.ofNat n).toNat : Nat) : Int) := by simp
theorem nat_u64 (n : Nat) : ((n : Int) % 18446744073709551616) = (((UInt64.ofNat n).toNat : Nat) : Int) := by simp

theorem op_add8 {a b : UInt8} (ho : o.op = .binOp .add t x y t') : OpV P o [.u8 a, .u8 b] [] [] (.u8 (a + b)) [] := by
  have := op_add (P := P) (k := .u8) (a := a.toNat) (b := b.toNat) ho
  rw [wrap_u8, ← Int.natCast_add, nat_u8] at this
  simpa [AVal.u8] using this
theorem op_sub8 {a b : UInt8} (ho : o.op = .binOp .sub t x y t') : OpV P o [.u8 a, .u8 b] [] [] (.u8 (a - b)) [] := by
  have := op_sub (P := P) (k := .u8) (a := a.toNat) (b := b.toNat) ho
  have e : IntKind.u8.wrap ((a.toNat : Int) - b.toNat) = ((a - b).toNat : Nat) := by
    rw [wrap_u8, UInt8.toNat_sub]; have := a.toNat_lt; have := b.toNat_lt; omega
  rwa [e] at this
theorem op_add32 {a b : UInt32} (ho : o.op = .binOp .add t x y t') : OpV P o [.u32 a, .u32 b] [] [] (.u32 (a + b)) [] := by
  have := op_add (P := P) (k := .u32) (a := a.toNat) (b := b.toNat) ho
  have e : IntKind.u32.wrap ((a.toNat : Int) + b.toNat) = ((a + b).toNat : Nat) := by
    rw [wrap_u32, UInt32.toNat_add]; omega
  rwa [e] at this
theorem op_mul32 {a b : UInt32} (ho : o.op = .binOp .mul t x y t') : OpV P o [.u32 a, .u32 b] [] [] (.u32 (a * b)) [] := by
  have := op_mul (P := P) (k := .u32) (a := a.toNat) (b := b.toNat) ho
  have e : IntKind.u32.wrap ((a.toNat : Int) * b.toNat) = ((a * b).toNat : Nat) := by
    rw [wrap_u32, UInt32.toNat_mul]; simp
  rwa [e] at this
theorem op_mul64 {a b : UInt64} (ho : o.op = .binOp .mul t x y t') : OpV P o [.u64 a, .u64 b] [] [] (.u64 (a * b)) [] := by
  have := op_mul (P := P) (k := .u64) (a := a.toNat) (b := b.toNat) ho
  have e : IntKind.u64.wrap ((a.toNat : Int) * b.toNat) = ((a * b).toNat : Nat) := by
    rw [wrap_u64, UInt64.toNat_mul]; simp
  rwa [e] at this
theorem op_sub64 {a b : UInt64} (ho : o.op = .binOp .sub t x y t') : OpV P o [.u64 a, .u64 b] [] [] (.u64 (a - b)) [] := by
  have := op_sub (P := P) (k := .u64) (a := a.toNat) (b := b.toNat) ho
  have e : IntKind.u64.wrap ((a.toNat : Int) - b.toNat) = ((a - b).toNat : Nat) := by
    rw [wrap_u64, UInt64.toNat_sub]; have := a.toNat_lt; have := b.toNat_lt; omega
  rwa [e] at this

theorem op_bits {bo : BinOp} {r : AVal} (ho : o.op = .binOp bo t x y t') (h : ∀ w, (binOp bo t (.int k a) (.int k b)).run P w = .ok (.int k c) w) : OpV P o [.int k a, .int k b] [] [] (.int k c) [] :=
  op_int ho fun w => ⟨_, h w, fun _ _ => by simp [VRel]⟩

theorem bv8 (a : UInt8) : BitVec.ofInt 8 (a.toNat : Int) = a.toBitVec := by
  apply BitVec.eq_of_toNat_eq; simp
theorem bv32 (a : UInt32) : BitVec.ofInt 32 (a.toNat : Int) = a.toBitVec := by
  apply BitVec.eq_of_toNat_eq; simp
theorem bv64 (a : UInt64) : BitVec.ofInt 64 (a.toNat : Int) = a.toBitVec := by
  apply BitVec.eq_of_toNat_eq; simp
theorem wr8 (a : UInt8) : IntKind.u8.wrap (a.toNat : Int) = a.toNat := by rw [wrap_u8]; have := a.toNat_lt; omega
theorem wr32 (a : UInt32) : IntKind.u32.wrap (a.toNat : Int) = a.toNat := by rw [wrap_u32]; have := a.toNat_lt; omega
theorem wr64 (a : UInt64) : IntKind.u64.wrap (a.toNat : Int) = a.toNat := by rw [wrap_u64]; have := a.toNat_lt; omega

theorem op_xor8 {a b : UInt8} (ho : o.op = .binOp .xor t x y t') : OpV P o [.u8 a, .u8 b] [] [] (.u8 (a ^^^ b)) [] :=
  op_bits (r := .tup []) ho fun w => by
    have : IntKind.u8.wrap (((a.toBitVec ^^^ b.toBitVec).toNat : Nat) : Int) = ((a ^^^ b).toNat : Nat) := wr8 (a ^^^ b)
    simp only [binOp, Op.intBits, IntKind.bits, bv8, ne_eq, not_true, if_false, not_true_eq_false, Sem.run_pure]
    exact congrArg (fun z => Result.ok (Value.int .u8 z) w) this
theorem op_and8 {a b : UInt8} (ho : o.op = .binOp .and t x y t') : OpV P o [.u8 a, .u8 b] [] [] (.u8 (a &&& b)) [] :=
  op_bits (r := .tup []) ho fun w => by
    have : IntKind.u8.wrap (((a.toBitVec &&& b.toBitVec).toNat : Nat) : Int) = ((a &&& b).toNat : Nat) := wr8 (a &&& b)
    simp only [binOp, Op.intBits, IntKind.bits, bv8, ne_eq, not_true, if_false, not_true_eq_false, Sem.run_pure]
    exact congrArg (fun z => Result.ok (Value.int .u8 z) w) this
theorem op_or8 {a b : UInt8} (ho : o.op = .binOp .or t x y t') : OpV P o [.u8 a, .u8 b] [] [] (.u8 (a ||| b)) [] :=
  op_bits (r := .tup []) ho fun w => by
    have : IntKind.u8.wrap (((a.toBitVec ||| b.toBitVec).toNat : Nat) : Int) = ((a ||| b).toNat : Nat) := wr8 (a ||| b)
    simp only [binOp, Op.intBits, IntKind.bits, bv8, ne_eq, not_true, if_false, not_true_eq_false, Sem.run_pure]
    exact congrArg (fun z => Result.ok (Value.int .u8 z) w) this
theorem op_xor32 {a b : UInt32} (ho : o.op = .binOp .xor t x y t') : OpV P o [.u32 a, .u32 b] [] [] (.u32 (a ^^^ b)) [] :=
  op_bits (r := .tup []) ho fun w => by
    have : IntKind.u32.wrap (((a.toBitVec ^^^ b.toBitVec).toNat : Nat) : Int) = ((a ^^^ b).toNat : Nat) := wr32 (a ^^^ b)
    simp only [binOp, Op.intBits, IntKind.bits, bv32, ne_eq, not_true, if_false, not_true_eq_false, Sem.run_pure]
    exact congrArg (fun z => Result.ok (Value.int .u32 z) w) this
theorem op_or32 {a b : UInt32} (ho : o.op = .binOp .or t x y t') : OpV P o [.u32 a, .u32 b] [] [] (.u32 (a ||| b)) [] :=
  op_bits (r := .tup []) ho fun w => by
    have : IntKind.u32.wrap (((a.toBitVec ||| b.toBitVec).toNat : Nat) : Int) = ((a ||| b).toNat : Nat) := wr32 (a ||| b)
    simp only [binOp, Op.intBits, IntKind.bits, bv32, ne_eq, not_true, if_false, not_true_eq_false, Sem.run_pure]
    exact congrArg (fun z => Result.ok (Value.int .u32 z) w) this
theorem op_or64 {a b : UInt64} (ho : o.op = .binOp .or t x y t') : OpV P o [.u64 a, .u64 b] [] [] (.u64 (a ||| b)) [] :=
  op_bits (r := .tup []) ho fun w => by
    have : IntKind.u64.wrap (((a.toBitVec ||| b.toBitVec).toNat : Nat) : Int) = ((a ||| b).toNat : Nat) := wr64 (a ||| b)
    simp only [binOp, Op.intBits, IntKind.bits, bv64, ne_eq, not_true, if_false, not_true_eq_false, Sem.run_pure]
    exact congrArg (fun z => Result.ok (Value.int .u64 z) w) this
theorem op_and64 {a b : UInt64} (ho : o.op = .binOp .and t x y t') : OpV P o [.u64 a, .u64 b] [] [] (.u64 (a &&& b)) [] :=
  op_bits (r := .tup []) ho fun w => by
    have : IntKind.u64.wrap (((a.toBitVec &&& b.toBitVec).toNat : Nat) : Int) = ((a &&& b).toNat : Nat) := wr64 (a &&& b)
    simp only [binOp, Op.intBits, IntKind.bits, bv64, ne_eq, not_true, if_false, not_true_eq_false, Sem.run_pure]
    exact congrArg (fun z => Result.ok (Value.int .u64 z) w) this

theorem op_shift {bo : BinOp} (ho : o.op = .binOp bo t x y t') (h : ∀ w, (binOp bo t (.int k a) (.int k' b)).run P w = .ok (.int k c) w) : OpV P o [.int k a, .int k' b] [] [] (.int k c) [] :=
  op2 (x := x) (y := y) (by rw [ho]; rfl) fun ρ Im w ac hv hu => by
    simp only [VRel] at hv hu ⊢
    refine ⟨_, ?_, rfl⟩
    simp [execOp, ho, hv, hu, h, eqGuard_int]

theorem op_shl32 {a : UInt32} (n : Nat) (ho : o.op = .binOp .shl t x y t') (h : b = n ∧ n < 32) : OpV P o [.u32 a, .int k' b] [] [] (.u32 (a <<< UInt32.ofNat n)) [] :=
  op_shift ho fun w => by
    obtain ⟨rfl, hn⟩ := h
    have h0 : ¬ ((n : Int) < 0) := by omega
    have e : IntKind.u32.wrap ((a.toNat : Int) * 2 ^ n) = ((a <<< UInt32.ofNat n).toNat : Nat) := by
      have h32 : n % 2 ^ 32 = n := Nat.mod_eq_of_lt (by omega)
      rw [wrap_u32, UInt32.toNat_shiftLeft, Nat.shiftLeft_eq]
      simp only [UInt32.toNat_ofNat', h32, Nat.mod_eq_of_lt hn]
      rw [Int.natCast_emod, Int.natCast_mul, Int.natCast_pow]; rfl
    simp [binOp, Op.shift, h0, IntKind.bits, show min n 32 = n by omega, e]
theorem op_shr32 {a : UInt32} (n : Nat) (ho : o.op = .binOp .shr t x y t') (h : b = n ∧ n < 32) : OpV P o [.u32 a, .int k' b] [] [] (.u32 (a >>> UInt32.ofNat n)) [] :=
  op_shift ho fun w => by
    obtain ⟨rfl, hn⟩ := h
    have h0 : ¬ ((n : Int) < 0) := by omega
    have e : (a.toNat : Int).fdiv (2 ^ n) = ((a >>> UInt32.ofNat n).toNat : Nat) := by
      have h32 : n % 2 ^ 32 = n := Nat.mod_eq_of_lt (by omega)
      rw [UInt32.toNat_shiftRight, Nat.shiftRight_eq_div_pow]
      simp only [UInt32.toNat_ofNat', h32, Nat.mod_eq_of_lt hn]
      rw [Int.fdiv_eq_ediv_of_nonneg _ (by exact_mod_cast Nat.zero_le _), Int.natCast_ediv, Int.natCast_pow]; rfl
    simp [binOp, Op.shift, h0, IntKind.bits, show min n 32 = n by omega, e]
theorem op_shl64 {a : UInt64} (n : Nat) (ho : o.op = .binOp .shl t x y t') (h : b = n ∧ n < 64) : OpV P o [.u64 a, .int k' b] [] [] (.u64 (a <<< UInt64.ofNat n)) [] :=
  op_shift ho fun w => by
    obtain ⟨rfl, hn⟩ := h
    have h0 : ¬ ((n : Int) < 0) := by omega
    have e : IntKind.u64.wrap ((a.toNat : Int) * 2 ^ n) = ((a <<< UInt64.ofNat n).toNat : Nat) := by
      have h32 : n % 2 ^ 64 = n := Nat.mod_eq_of_lt (by omega)
      rw [wrap_u64, UInt64.toNat_shiftLeft, Nat.shiftLeft_eq]
      simp only [UInt64.toNat_ofNat', h32, Nat.mod_eq_of_lt hn]
      rw [Int.natCast_emod, Int.natCast_mul, Int.natCast_pow]; rfl
    simp [binOp, Op.shift, h0, IntKind.bits, show min n 64 = n by omega, e]
theorem op_shr64 {a : UInt64} (n : Nat) (ho : o.op = .binOp .shr t x y t') (h : b = n ∧ n < 64) : OpV P o [.u64 a, .int k' b] [] [] (.u64 (a >>> UInt64.ofNat n)) [] :=
  op_shift ho fun w => by
    obtain ⟨rfl, hn⟩ := h
    have h0 : ¬ ((n : Int) < 0) := by omega
    have e : (a.toNat : Int).fdiv (2 ^ n) = ((a >>> UInt64.ofNat n).toNat : Nat) := by
      have h32 : n % 2 ^ 64 = n := Nat.mod_eq_of_lt (by omega)
      rw [UInt64.toNat_shiftRight, Nat.shiftRight_eq_div_pow]
      simp only [UInt64.toNat_ofNat', h32, Nat.mod_eq_of_lt hn]
      rw [Int.fdiv_eq_ediv_of_nonneg _ (by exact_mod_cast Nat.zero_le _), Int.natCast_ediv, Int.natCast_pow]; rfl
    simp [binOp, Op.shift, h0, IntKind.bits, show min n 64 = n by omega, e]
theorem op_shr8 {a : UInt8} (n : Nat) (ho : o.op = .binOp .shr t x y t') (h : b = n ∧ n < 8) : OpV P o [.u8 a, .int k' b] [] [] (.u8 (a >>> UInt8.ofNat n)) [] :=
  op_shift ho fun w => by
    obtain ⟨rfl, hn⟩ := h
    have h0 : ¬ ((n : Int) < 0) := by omega
    have e : (a.toNat : Int).fdiv (2 ^ n) = ((a >>> UInt8.ofNat n).toNat : Nat) := by
      have h32 : n % 2 ^ 8 = n := Nat.mod_eq_of_lt (by omega)
      rw [UInt8.toNat_shiftRight, Nat.shiftRight_eq_div_pow]
      simp only [UInt8.toNat_ofNat', h32, Nat.mod_eq_of_lt hn]
      rw [Int.fdiv_eq_ediv_of_nonneg _ (by exact_mod_cast Nat.zero_le _), Int.natCast_ediv, Int.natCast_pow]; rfl
    simp [binOp, Op.shift, h0, IntKind.bits, show min n 8 = n by omega, e]
/-- int >> count, of a number that is not negative -/
theorem op_shrI (n : Nat) (ho : o.op = .binOp .shr t x y t') (h : b = n ∧ n < 64) : OpV P o [.i a, .int k' b] [] [] (.i (a / 2 ^ n)) [] :=
  op_shift ho fun w => by
    obtain ⟨rfl, hn⟩ := h
    have h0 : ¬ ((n : Int) < 0) := by omega
    have e : a.fdiv (2 ^ n) = a / 2 ^ n := Int.fdiv_eq_ediv_of_nonneg _ (Int.le_of_lt (Int.pow_pos (by omega)))
    simp [binOp, Op.shift, h0, IntKind.bits, show min n 64 = n by omega, e]
theorem op_shlI (n : Nat) (ho : o.op = .binOp .shl t x y t') (h : b = n ∧ n < 64) (hr : -9223372036854775808 ≤ a * 2 ^ n ∧ a * 2 ^ n ≤ 9223372036854775807) : OpV P o [.i a, .int k' b] [] [] (.i (a * 2 ^ n)) [] :=
  op_shift ho fun w => by
    obtain ⟨rfl, hn⟩ := h
    have h0 : ¬ ((n : Int) < 0) := by omega
    simp [binOp, Op.shift, h0, IntKind.bits, show min n 64 = n by omega, wrap_i64 hr.1 hr.2]

/-! conversions -/
theorem op_cv {d : IntKind} {src dst : TypeId} {r : Int} (ho : o.op = .convert src dst x) (hs : (P.underlying src).isSome = true) (hd : P.underlying dst = some (.int d)) (hr : d.wrap a = r) :
    OpV P o [.int k a] [] [] (.int d r) [] := by
  have := op_conv (P := P) (k := k) (a := a) ho hs hd
  rwa [hr] at this
theorem cv_8_32 {a : UInt8} : IntKind.u32.wrap (a.toNat : Int) = (a.toUInt32.toNat : Nat) := by rw [wrap_u32, UInt8.toNat_toUInt32]; have := a.toNat_lt; omega
theorem cv_8_64 {a : UInt8} : IntKind.u64.wrap (a.toNat : Int) = (a.toUInt64.toNat : Nat) := by rw [wrap_u64, UInt8.toNat_toUInt64]; have := a.toNat_lt; omega
theorem cv_8_i {a : UInt8} : IntKind.i64.wrap (a.toNat : Int) = a.toNat := by have := a.toNat_lt; exact wrap_i64 (by omega) (by omega)
theorem cv_16_i {a : UInt16} : IntKind.i64.wrap (a.toNat : Int) = a.toNat := by have := a.toNat_lt; exact wrap_i64 (by omega) (by omega)
theorem cv_32_i {a : UInt32} : IntKind.i64.wrap (a.toNat : Int) = a.toNat := by have := a.toNat_lt; exact wrap_i64 (by omega) (by omega)
theorem cv_32_8 {a : UInt32} : IntKind.u8.wrap (a.toNat : Int) = (a.toUInt8.toNat : Nat) := by rw [wrap_u8, UInt32.toNat_toUInt8]; omega
theorem cv_32_64 {a : UInt32} : IntKind.u64.wrap (a.toNat : Int) = (a.toUInt64.toNat : Nat) := by rw [wrap_u64, UInt32.toNat_toUInt64]; have := a.toNat_lt; omega
theorem cv_64_32 {a : UInt64} : IntKind.u32.wrap (a.toNat : Int) = (a.toUInt32.toNat : Nat) := by rw [wrap_u32, UInt64.toNat_toUInt32]; omega
theorem cv_i_64 {a : Int} (h : 0 ≤ a) : IntKind.u64.wrap a = ((UInt64.ofNat a.toNat).toNat : Nat) := by
  rw [wrap_u64]; simp only [UInt64.toNat_ofNat']; omega
theorem cv_i_32 {a : Int} (h : 0 ≤ a) : IntKind.u32.wrap a = ((UInt32.ofNat a.toNat).toNat : Nat) := by
  rw [wrap_u32]; simp only [UInt32.toNat_ofNat']; omega
theorem cv_i_16 {a : Int} (h : 0 ≤ a) : IntKind.u16.wrap a = ((UInt16.ofNat a.toNat).toNat : Nat) := by
  rw [wrap_u16]; simp only [UInt16.toNat_ofNat']; omega
theorem cv_i_8 {a : Int} (h : 0 ≤ a) : IntKind.u8.wrap a = ((UInt8.ofNat a.toNat).toNat : Nat) := by
  rw [wrap_u8]; simp only [UInt8.toNat_ofNat']; omega
theorem cv_64_i {a : UInt64} (h : a.toNat ≤ 9223372036854775807) : IntKind.i64.wrap (a.toNat : Int) = a.toNat := wrap_i64 (by omega) (by omega)
end
end Go.Kw

namespace Go.Kw
set_option linter.unusedVariables false
set_option linter.unusedSimpArgs false
variable {P : Program}

section
variable {o : Oper} {x y z : Operand} {t t' T : TypeId} {v u : AVal} {b off k len sz n m : Nat} {full f' : Bool} {cells vs src : List AVal} {i : Int} {q : IntKind} {ts : Array TypeId}

/-! ### copy -/

/-- The first n elements of a source. -/
def SrcPre (P : Program) (ρ : Nat → Option Nat) (Im : Nat → Prop) (w : World) (sz m : Nat) (src : List AVal) (r : Value) : Prop :=
  (Builtin.lenOf r).run P w = .ok m w ∧ ∀ n, n ≤ m → ∃ vals : List Value, (Builtin.firstCells sz n r).run P w = .ok vals.toArray w ∧ VRels P ρ Im w (src.take (n * sz)) vals

theorem srcPre_vs {ρ Im w} {r : Value} {h : AHeap} (s : St P ρ Im h w) (hv : VRel P ρ Im w (.vs m full src) r) (hc : src.length = m * sz) : SrcPre P ρ Im w sz m src r := by
  simp only [VRel] at hv
  obtain ⟨ad, cap, rfl, h2, h3, h4⟩ := hv
  refine ⟨by simp [Builtin.lenOf], fun n hn => ?_⟩
  have hle : n * sz ≤ m * sz := Nat.mul_le_mul_right _ hn
  have hv' : VRel P ρ Im w (.vs n false (src.take (n * sz))) (.slice ad n cap) := by
    simp only [VRel]
    refine ⟨ad, cap, rfl, by omega, by simp, ?_⟩
    rcases h4 with rfl | ⟨c, base, vals, rfl, g1, g2, g3⟩
    · left; simp
    · refine .inr ⟨c, base, vals.take (n * sz), rfl, g1, ?_, g3.take _⟩
      intro j hj
      simp only [List.length_take] at hj
      rw [g2 j (by omega)]
      simp
  obtain ⟨_, _, vals, g1, g2⟩ := srcOf_vs (n := n) (sz := sz) s hv' (by rw [List.length_take]; omega)
  have := g1 w (fun _ _ => rfl)
  refine ⟨vals, ?_, g2⟩
  cases ad <;> simpa [Builtin.firstCells] using this
theorem srcPre_os {ρ Im w} {r : Value} {c : Nat} {Tc : TypeId} {cs2 : List AVal} {offc : Nat} {h : AHeap} (s : St P ρ Im h w) (hm : (c, .vec Tc cs2) ∈ h) (hv : VRel P ρ Im w (.os c offc m sz full) r)
    (hc : offc + m * sz ≤ cs2.length) : SrcPre P ρ Im w sz m ((cs2.drop offc).take (m * sz)) r := by
  have hlen : (Builtin.lenOf r).run P w = .ok m w := by
    simp only [VRel] at hv
    rcases hv with ⟨_, rfl, ad, rfl⟩ | ⟨d, cap, T', m', g1, rfl, g3⟩ <;> simp [Builtin.lenOf]
  refine ⟨hlen, fun n hn => ?_⟩
  have hle : n * sz ≤ m * sz := Nat.mul_le_mul_right _ hn
  simp only [VRel] at hv
  rw [List.take_take, Nat.min_eq_left hle]
  rcases hv with ⟨h0, rfl, ad, rfl⟩ | ⟨d, cap, T', m', g1, rfl, g3, g4, g5, g6⟩
  · have hn0 : n = 0 := by omega
    subst hn0
    refine ⟨[], ?_, by simp [VRels]⟩
    cases ad <;> simp [Builtin.firstCells, loadCells, loadCellsFrom]
  · have hv' : VRel P ρ Im w (.os c offc n sz false) (.slice (some ⟨d, offc, none⟩) n cap) := by
      simp only [VRel]
      exact .inr ⟨d, cap, T', m', g1, rfl, by omega, by simp, g5, g6⟩
    obtain ⟨_, _, vals, k1, k2⟩ := srcOf_os (n := n) (sz := sz) s hm hv' (by omega)
    refine ⟨vals, ?_, k2⟩
    simpa [Builtin.firstCells] using k1 w (fun _ _ => rfl)
theorem srcPre_str {ρ Im w} {r : Value} {s : List UInt8} (hv : VRel P ρ Im w (.str s) r) : SrcPre P ρ Im w 1 s.length (s.map AVal.u8) r := by
  simp only [VRel] at hv
  subst hv
  refine ⟨by simp only [Builtin.lenOf]; rfl, fun n hn => ?_⟩
  have e : (⟨s.toArray⟩ : ByteArray).extract 0 n = ⟨(s.take n).toArray⟩ := by
    apply ByteArray.ext
    simp [ByteArray.data_extract]
  refine ⟨(s.take n).map fun c => .int .u8 (c.toNat : Int), ?_, ?_⟩
  · simp only [Builtin.firstCells, e]
    simp
  · simp only [Nat.mul_one, ← List.map_take]
    generalize s.take n = l
    induction l with
    | nil => simp [VRels]
    | cons c s ih => simp only [List.map_cons, VRels]; exact ⟨_, _, rfl, by simp [VRel], ih⟩

theorem copy_core {ρ Im w ok} {t0 e : TypeId} {by' : Nat} {type : TypeId} {r r' : Value} (ht0 : ts[0]? = some t0) (ht : slT P t0 = some (e, sz, by')) (s : St P ρ Im [(b, .vec T cells)] w)
    (hv : VRel P ρ Im w (.os b off len sz full) r) (hs : SrcPre P ρ Im w sz m src r') (hc : off + len * sz ≤ cells.length) (hm : src.length = m * sz) (hone : src.all AVal.scalar = true) :
    ∃ w', (Builtin.copy_ ts type #[r, r']).run P w = .ok (.int .i64 (min m len : Nat)) w' ∧
      Ev P ρ Im [(b, .vec T cells)] w ok ρ Im [(b, .vec T (cells.take off ++ src.take (min m len * sz) ++ cells.drop (off + min m len * sz)))] w' := by
  obtain ⟨hl, hf⟩ := hs
  obtain ⟨vals, hf, hvals⟩ := hf (min m len) (Nat.min_le_left _ _)
  obtain ⟨hu1, hu2, _⟩ := slT_und ht
  have hlen := hvals.length
  have hvl : vals.length = min m len * sz := by
    rw [hlen, List.length_take, hm]
    exact Nat.min_eq_left (Nat.mul_le_mul_right _ (Nat.min_le_left _ _))
  simp only [VRel] at hv
  rcases hv with ⟨h0, rfl, ad, rfl⟩ | ⟨c, cap, T', m', g1, rfl, g3, g4, g5, g6⟩
  · simp only [Nat.min_zero, Nat.zero_mul, List.length_eq_zero_iff] at hvl
    subst hvl
    refine ⟨w, ?_, ?_⟩
    · simp only [Builtin.copy_, List.getElem?_toArray, List.getElem?_cons_zero, List.getElem?_cons_succ, ht0]
      cases ad <;> simp [run_underlying hu1, hl, hu2, goInt, Nat.min_def ▸ hf, storeCells] <;> simp_all [Nat.min_def, storeCells, goInt]
    · simpa using Ev.refl s
  · obtain ⟨c', cs, fz, vals0, k1, k2, k3, k4, k5, k6⟩ := s.at (off := off) (v := .pointer (some ⟨c, off, none⟩)) (by simp only [VRel]; exact ⟨c, g1, rfl⟩)
    rw [g1] at k1; cases k1
    have hl0 := k6.length
    obtain ⟨r0, hr0⟩ := pre_of k5
    have hsz : cs.size = vals0.length + r0.length := by rw [← Array.length_toList, hr0, List.length_append]
    have hle : min m len * sz ≤ len * sz := Nat.mul_le_mul_right _ (Nat.min_le_right _ _)
    have hone' := hvals.oneCell (by rw [List.all_eq_true] at hone ⊢; exact fun x hx => hone x (List.mem_of_mem_take hx))
    have hst := run_storeCells_vec (P := P) c off T fz vals 0 cs w k3 k4.2 (by omega) hone'
    simp only [Nat.add_zero, hvl] at hst
    have e1 : cs.toList.take off ++ vals ++ cs.toList.drop (off + min m len * sz) = (vals0.take off ++ vals ++ vals0.drop (off + min m len * sz)) ++ r0 := by
      rw [hr0, List.take_append_of_le_length (by omega), List.drop_append_of_le_length (by omega)]
      simp
    rw [e1] at hst
    refine ⟨w.setRow c ((vals0.take off ++ vals ++ vals0.drop (off + min m len * sz)) ++ r0).toArray, ?_, ?_⟩
    · have hmin : Nat.min m len = min m len := rfl
      simp [Builtin.copy_, ht0, run_underlying hu1, hl, hu2, goInt, hmin, hf]
      simp at hst
      rw [hst]
      simp
    · refine Ev.row s g1 k3 k4 ?_ (vals := vals0.take off ++ vals ++ vals0.drop (off + min m len * sz)) ?_ ?_
      · simp; omega
      · intro j hj
        rw [List.getElem?_toArray, List.getElem?_append_left hj, List.getElem?_eq_getElem hj]
      · exact ((k6.take off).append hvals).append (k6.drop _)

theorem opCopy {F F' : AHeap} (ho : o.op = .call { callee := .builtin .copy, args := #[x, y], argTypes := ts })
    (h : ∀ ρ Im w (a : Act) sup, St P ρ Im F w → Fresh ρ [] sup → VRel P ρ Im w v (a.eval x) → VRel P ρ Im w u (a.eval y) →
      ∃ w' ρ', (Builtin.copy_ ts o.type #[a.eval x, a.eval y]).run P w = .ok (.int .i64 (k : Nat)) w' ∧ Ev P ρ Im F w (okOf [] sup) ρ' Im F' w') :
    OpV P o [v, u] F [] (.i (k : Nat)) F' := by
  refine OpV.value fun ρ Im w a sup s fr hv => ?_
  rw [Array.toList_map, ho] at hv
  obtain ⟨r, r', hr, hv, hu⟩ := VRels.two.1 hv
  simp only [Op.operands, Call.operands, Array.empty_append, List.map_cons, List.map_nil, List.cons.injEq, and_true] at hr
  obtain ⟨rfl, rfl⟩ := hr
  obtain ⟨w', ρ', h1, h3⟩ := h ρ Im w a sup s fr hv hu
  exact ⟨.int .i64 (k : Nat), w', ρ', Im, by simp [execOp, ho, resolve, invoke, builtin, h1], by simp [VRel], h3⟩

theorem op_copyV {t0 e : TypeId} {by' : Nat} (ho : o.op = .call { callee := .builtin .copy, args := #[x, y], argTypes := ts }) (ht0 : ts[0]? = some t0) (ht : slT P t0 = some (e, sz, by'))
    (hc : off + len * sz ≤ cells.length) (hm : src.length = m * sz) (hone : src.all AVal.scalar = true) :
    OpV P o [.os b off len sz full, .vs m f' src] [(b, .vec T cells)] [] (.i (min m len : Nat)) [(b, .vec T (cells.take off ++ src.take (min m len * sz) ++ cells.drop (off + min m len * sz)))] :=
  opCopy ho fun ρ Im w a sup s fr hv hu => by
    obtain ⟨w', h1, h2⟩ := copy_core (type := o.type) (ok := okOf [] sup) ht0 ht s hv (srcPre_vs s hu hm) hc hm hone
    exact ⟨w', ρ, h1, h2⟩
theorem op_copyO {t0 e : TypeId} {by' c offc : Nat} {Tc : TypeId} {cs2 : List AVal} (ho : o.op = .call { callee := .builtin .copy, args := #[x, y], argTypes := ts }) (ht0 : ts[0]? = some t0) (ht : slT P t0 = some (e, sz, by'))
    (hc : off + len * sz ≤ cells.length) (hm : offc + m * sz ≤ cs2.length) (hone : ((cs2.drop offc).take (m * sz)).all AVal.scalar = true) :
    OpV P o [.os b off len sz full, .os c offc m sz f'] [(b, .vec T cells), (c, .vec Tc cs2)] [] (.i (min m len : Nat))
      [(b, .vec T (cells.take off ++ ((cs2.drop offc).take (m * sz)).take (min m len * sz) ++ cells.drop (off + min m len * sz))), (c, .vec Tc cs2)] :=
  opCopy ho fun ρ Im w a sup s fr hv hu => by
    obtain ⟨w', h1, h2⟩ := copy_core (type := o.type) (ok := okOf [] sup) ht0 ht (s.sub (h0 := [(b, .vec T cells)]) (by simp)) hv (srcPre_os s (List.mem_cons_of_mem _ (List.mem_singleton_self _)) hu hm) hc (by simp; omega) hone
    exact ⟨w', ρ, h1, h2.frame (R := [(c, .vec Tc cs2)]) s⟩

/-! ### makeSlice -/

theorem opA2 {b : Nat} {X : Nat × AObj} (hx : o.op.operands.toList = [x, y])
    (h : ∀ ρ Im w (a : Act) sup, St P ρ Im [] w → Fresh ρ [b] sup → VRel P ρ Im w u (a.eval x) → VRel P ρ Im w v (a.eval y) → ∃ r w' ρ' Im', (execOp a.eval o).run P w = .ok (.value r) w' ∧ VRel P ρ' Im' w' (.os b off len sz full) r ∧
      Ev P ρ Im [] w (okOf [b] sup) ρ' Im' [X] w') : OpV P o [u, v] [] [b] (.os b off len sz full) [X] := by
  refine OpV.value fun ρ Im w a sup s fr hv => ?_
  rw [Array.toList_map, hx] at hv
  obtain ⟨r, r', hr, hv, hu⟩ := VRels.two.1 hv
  simp only [List.map_cons, List.map_nil, List.cons.injEq, and_true] at hr
  obtain ⟨rfl, rfl⟩ := hr
  exact h ρ Im w a sup s fr hv hu

theorem VRels.repl {ρ Im w} {a : AVal} {v : Value} (h : VRel P ρ Im w a v) : ∀ n, VRels P ρ Im w (List.replicate n a) (List.replicate n v)
  | 0 => by simp [VRels]
  | n + 1 => by simp only [List.replicate_succ, VRels]; exact ⟨_, _, rfl, h, VRels.repl h n⟩

theorem madeOne (z0 : Value) (n : Nat) : madeCells #[z0] n = Array.replicate n z0 := by
  apply Array.ext
  · simp [madeCells]
  · intro i h1 h2
    simp [madeCells, Nat.mod_one]

/-- make([]T, l, c) of a type of one cell -/
theorem op_make1 {e : TypeId} {by' cap : Nat} {zv : AVal} {il ic : Int} (ho : o.op = .makeSlice t x y) (ht : slT P t = some (e, 1, by')) (hz : zeroT P e = some [zv]) (hl : il = len) (hc : ic = cap) (hlc : len ≤ cap)
    (hfit : cap * by' ≤ 140737488355328) (hcap : cap ≤ 9223372036854775807) :
    OpV P o [.i il, .i ic] [] [b] (.os b 0 len 1 false) [(b, .vec e (List.replicate len zv))] :=
  opA2 (by rw [ho]; rfl) fun ρ Im w a sup s fr hv hu => by
    obtain ⟨hu1, hu2, i, hi, hi1, hi2⟩ := slT_und ht
    simp only [VRel] at hv hu
    subst hl hc
    unfold zeroT at hz
    rw [hi] at hz
    simp only [Option.bind_some] at hz
    cases hzz : i.zero with
    | none => rw [hzz] at hz; cases hz
    | some z =>
      rw [hzz] at hz
      simp only [Option.bind_some] at hz
      have hrel := absCs_rel (P := P) (ρ := ρ) (Im := Im) (w := w) hz
      obtain ⟨z0, hz0, hz1⟩ := VRels.one.1 hrel
      have hzc : z.cells = #[z0] := Array.ext' (by simpa using hz0)
      have hb : (i.bytes : Int) * (cap : Int) ≤ 281474976710656 := by
        have : i.bytes * cap ≤ 281474976710656 := by rw [hi2, Nat.mul_comm]; omega
        rw [← Int.natCast_mul]; exact Int.ofNat_le.2 this
      have hr := run_make (P := P) w t e i z hu1 hi hzz .i64 .i64 len cap (by omega) (by omega) hb (by omega)
      simp only [Int.toNat_natCast, hzc, hi1, Nat.mul_one, madeOne] at hr
      refine ⟨.slice (some ⟨w.heap.size, 0, none⟩) len cap, { w with heap := w.heap.push (.cells (Array.replicate cap z0) e (0, 0)) }, _, Im, ?_, ?_,
        Ev.pushRow s fr (0, 0) ⟨Nat.le_refl _, fun i _ => by simp⟩ (vals := List.replicate len z0) ?_ (VRels.repl hz1 len)⟩
      · simp only [execOp, ho, hv, hu]
        simp only [Sem.run_bind, hr, Result.andThen_ok]
        rfl
      · simp only [VRel]
        exact .inr ⟨w.heap.size, cap, e, cap, by simp, rfl, hlc, by simp, by simp [World.shape?], by simp⟩
      · intro j hj
        have hj' : j < len := by simpa using hj
        rw [Array.getElem?_replicate, if_pos (by omega)]
        simp
end
end Go.Kw

namespace Go.Kw
set_option linter.unusedVariables false
set_option linter.unusedSimpArgs false
variable {P : Program}

/-! ### Literals -/

def fillV (place : Nat → Option (Nat × Nat)) (cells : List AVal) : List Nat → List AVal → Option (List AVal)
  | [], _ => some cells
  | i :: is, [] => none
  | i :: is, v :: vs => match place i with
    | none => none
    | some (off, size) => if v.cellsA.length = size ∧ off + size ≤ cells.length then fillV place (cells.take off ++ v.cellsA ++ cells.drop (off + size)) is vs else none

theorem fold_set (off : Nat) : ∀ (vs : List Value) (j : Nat) (cs : Array Value), off + j + vs.length ≤ cs.size →
    ((vs.zipIdx j).foldl (fun cs (c, j) => cs.setIfInBounds (off + j) c) cs).toList = cs.toList.take (off + j) ++ vs ++ cs.toList.drop (off + j + vs.length)
  | [], j, cs, h => by simp
  | v :: vs, j, cs, h => by
    simp only [List.length_cons] at h
    rw [List.zipIdx_cons, List.foldl_cons, fold_set off vs (j + 1) _ (by simp; omega)]
    have e := list_seg_step cs.toList (off + j) v vs (by simp; omega)
    simpa [Array.toList_setIfInBounds, Nat.add_assoc] using e

theorem fill_rel {ρ Im w} {place : Nat → Option (Nat × Nat)} : ∀ {is : List Nat} {vals : List AVal} {rs : List Value} {cells out : List AVal} {cs : Array Value}, VRels P ρ Im w cells cs.toList → VRels P ρ Im w vals rs →
    (∀ v ∈ vals, ∀ l, v ≠ .tup l) → fillV place cells is vals = some out → ∃ out', Instr.fill place cs (is.zip rs) = some out' ∧ VRels P ρ Im w out out'.toList
  | [], vals, rs, cells, out, cs, hc, hv, ht, hf => by
    simp only [fillV, Option.some.injEq] at hf
    subst hf
    exact ⟨cs, by simp [Instr.fill], hc⟩
  | i :: is, [], rs, cells, out, cs, hc, hv, ht, hf => by simp [fillV] at hf
  | i :: is, v :: vals, rs, cells, out, cs, hc, hv, ht, hf => by
    simp only [VRels] at hv
    obtain ⟨r, rs', rfl, h1, h2⟩ := hv
    simp only [fillV] at hf
    cases hp : place i with
    | none => simp [hp] at hf
    | some q =>
      obtain ⟨off, size⟩ := q
      simp only [hp] at hf
      split at hf
      · rename_i hg
        have hcell := h1.cells (ht v (by simp))
        have hl1 := hcell.length
        have hl2 := hc.length
        simp only [Array.length_toList] at hl1 hl2
        have hfs := fold_set off r.cells.toList 0 cs (by simp; omega)
        simp only [Nat.add_zero, Array.length_toList, hl1, hg.1] at hfs
        have hrel : VRels P ρ Im w (cells.take off ++ v.cellsA ++ cells.drop (off + size)) (r.cells.zipIdx.foldl (fun cs (c, j) => cs.setIfInBounds (off + j) c) cs).toList := by
          have e : r.cells.zipIdx.foldl (fun cs (c, j) => cs.setIfInBounds (off + j) c) cs = (r.cells.toList.zipIdx 0).foldl (fun cs (c, j) => cs.setIfInBounds (off + j) c) cs := by
            rw [← Array.foldl_toList, Array.toList_zipIdx]
          rw [e, hfs]
          exact ((hc.take off).append hcell).append (hc.drop _)
        obtain ⟨out', h3, h4⟩ := fill_rel hrel h2 (fun x hx => ht x (by simp [hx])) hf
        refine ⟨out', ?_, h4⟩
        simp only [List.zip_cons_cons, Instr.fill, hp]
        rw [if_neg (by simp; omega)]
        exact h3
      · cases hf

def placesT (P : Program) (t : TypeId) : Option (Nat → Option (Nat × Nat)) :=
  match P.underlying t with
  | some (.array _ e) => (P.info? e).map fun ie => fun i => some (i * ie.size, ie.size)
  | some (.struct fields) => (fields.toList.mapM (fun f => (P.info? f.type).map fun i => (f.offset, i.size))).map fun places => fun i => places.toArray[i]?
  | _ => none

section
variable {o : Oper} {x y z : Operand} {t t' T : TypeId} {v u : AVal} {b off k len sz n m : Nat} {full f' : Bool} {cells vs out : List AVal} {i : Int} {q : IntKind} {ts : Array TypeId}

theorem zip_unzip (ps : List (Nat × Operand)) (a : Act) : (ps.map fun x => (x.1, a.eval x.2)) = (ps.map (·.1)).zip ((ps.map (·.2)).map a.eval) := by
  induction ps with
  | nil => rfl
  | cons p ps ih => simp [ih]

theorem op_build {parts : Array (Nat × Operand)} {pl : Nat → Option (Nat × Nat)} {z : List AVal} (ho : o.op = .build t parts) (hp : placesT P t = some pl) (hz : zeroT P t = some z) 
    (hf : fillV pl z (parts.toList.map (·.1)) vs = some out) (ht : ∀ v ∈ vs, ∀ l, v ≠ .tup l) : OpV P o vs [] [] (.agg out) [] := by
  refine OpV.pure fun ρ Im w a hv => ?_
  rw [Array.toList_map, ho] at hv
  simp only [Op.operands] at hv
  unfold zeroT at hz
  cases hi : P.info? t with
  | none => rw [hi] at hz; cases hz
  | some it =>
    rw [hi] at hz
    simp only [Option.bind_some] at hz
    cases hzz : it.zero with
    | none => rw [hzz] at hz; cases hz
    | some zv =>
      rw [hzz] at hz
      simp only [Option.bind_some] at hz
      obtain ⟨out', h1, h2⟩ := fill_rel (absCs_rel (P := P) (ρ := ρ) (Im := Im) (w := w) hz) hv ht hf
      have hb : P.built t (parts.map fun x => (x.1, a.eval x.2)).toList = some out' := by
        rw [Array.toList_map, zip_unzip]
        unfold placesT at hp
        unfold Program.built
        cases hu : P.underlying t with
        | none => rw [hu] at hp; cases hp
        | some d =>
          cases d <;> simp only [hu, reduceCtorEq] at hp
          case array n e =>
            cases hie : P.info? e with
            | none => rw [hie] at hp; cases hp
            | some ie =>
              simp only [hie, Option.map_some, Option.some.injEq] at hp
              subst hp
              simp only [hi, hzz, hie]
              exact h1
          case struct fields =>
            cases hpl : fields.toList.mapM (fun f => (P.info? f.type).map fun i => (f.offset, i.size)) with
            | none => rw [hpl] at hp; cases hp
            | some places =>
              simp only [hpl, Option.map_some, Option.some.injEq] at hp
              subst hp
              simp only [hi, hzz, hpl]
              exact h1
      refine ⟨.agg out', ?_, ?_⟩
      · simp only [execOp, ho, Sem.run_bind]
        rw [run_build w t _ out' hb]
        rfl
      · simp only [VRel]; exact ⟨out', rfl, h2⟩

theorem VRels.flat {ρ Im w} {a : List AVal} {v : List Value} (h : VRels P ρ Im w a v) : ∀ n, VRels P ρ Im w (List.replicate n a).flatten (List.replicate n v).flatten
  | 0 => by simp [VRels]
  | n + 1 => by simp only [List.replicate_succ, List.flatten_cons]; exact h.append (VRels.flat h n)

theorem madeFlat (z : Array Value) (hz : z.size = k) (hk : 0 < k) : ∀ n, (madeCells z (n * k)).toList = (List.replicate n z.toList).flatten := by
  intro n
  apply List.ext_getElem?
  intro j
  have hlen : (List.replicate n z.toList).flatten.length = n * k := by simp [hz]
  by_cases hj : j < n * k
  · have h1 : (madeCells z (n * k)).toList[j]? = some z[j % k]! := by
      simp [madeCells, hj, hz]
    rw [h1]
    clear h1 hlen
    induction n generalizing j with
    | zero => simp at hj
    | succ n ih =>
      rw [List.replicate_succ, List.flatten_cons]
      by_cases hjk : j < k
      · rw [List.getElem?_append_left (by simp [hz]; omega), Nat.mod_eq_of_lt hjk]
        simp [hz, hjk]
      · rw [List.getElem?_append_right (by simp [hz]; omega)]
        simp only [Array.length_toList, hz]
        rw [Nat.succ_mul] at hj
        rw [← ih (j - k) (by omega)]
        congr 2
        rw [Nat.mod_eq_sub_mod (by omega)]
  · rw [List.getElem?_eq_none (by simp [size_madeCells]; omega), List.getElem?_eq_none (by rw [hlen]; omega)]

/-- []T{..} -/
theorem op_buildSlice {e : TypeId} {by' : Nat} {parts : Array (Nat × Operand)} {z : List AVal} (ho : o.op = .buildSlice t len parts) (ht : slT P t = some (e, sz, by')) (hz : zeroT P e = some z) (hzl : z.length = sz) (hsz : 0 < sz)
    (hf : fillV (fun i => some (i * sz, sz)) (List.replicate len z).flatten (parts.toList.map (·.1)) vs = some out) (htp : ∀ v ∈ vs, ∀ l, v ≠ .tup l) (hfit : len * sz ≤ 16777216) (hout : out.length = len * sz) :
    OpV P o vs [] [b] (.os b 0 len sz true) [(b, .vec e out)] := by
  refine OpV.value fun ρ Im w a sup s fr hv => ?_
  rw [Array.toList_map, ho] at hv
  simp only [Op.operands] at hv
  obtain ⟨hu1, hu2, i, hi, hi1, hi2⟩ := slT_und ht
  unfold zeroT at hz
  rw [hi] at hz
  simp only [Option.bind_some] at hz
  cases hzz : i.zero with
  | none => rw [hzz] at hz; cases hz
  | some zv =>
    rw [hzz] at hz
    simp only [Option.bind_some] at hz
    have hzr := absCs_rel (P := P) (ρ := ρ) (Im := Im) (w := w) hz
    have hzs : zv.cells.size = sz := by have := hzr.length; simpa [hzl] using this
    have hbase : VRels P ρ Im w (List.replicate len z).flatten (madeCells zv.cells (len * sz)).toList := by
      rw [madeFlat zv.cells hzs hsz]
      exact hzr.flat len
    obtain ⟨out', h1, h2⟩ := fill_rel hbase hv htp hf
    have hol := h2.length
    simp only [Array.length_toList, hout] at hol
    rw [← zip_unzip] at h1
    refine ⟨.slice (some ⟨w.heap.size, 0, none⟩) len len, { w with heap := w.heap.push (.cells out' e (0, 0)) }, _, Im, ?_, ?_,
      Ev.pushRow s fr (0, 0) ⟨Nat.le_refl _, fun i _ => by simp⟩ (vals := out'.toList) (fun j hj => by simp) h2⟩
    · have hmade : ∀ (hne : ¬ len * sz = 0), ((Array.range (len * sz)).map (zv.cells[· % zv.cells.size]!)) = madeCells zv.cells (len * sz) := fun _ => rfl
      by_cases h0 : len * sz = 0
      · have hm0 : madeCells zv.cells (len * sz) = #[] := by rw [h0]; simp [madeCells]
        rw [hm0] at h1
        simp only [execOp, ho]
        have h1' : Instr.fill (fun i => some (i * sz, sz)) (Array.map (fun x => (default : Value)) (Array.range 0)) (List.map (fun x => (x.fst, a.eval x.snd)) parts.toList) = some out' := by
          have e0 : Array.map (fun x => (default : Value)) (Array.range 0) = #[] := by simp
          rw [e0]; exact h1
        simp [Instr.buildSlice, run_underlying hu1, hu2, h0, hzz, newRow, h1']
      · simp only [madeCells] at h1
        have h16 : ¬ 16777216 < len * sz := by omega
        simp only [execOp, ho]
        simp [Instr.buildSlice, run_underlying hu1, hu2, h0, h16, zeroValue, typeInfo, hi, hzz, newRow, h1]
    · simp only [VRel]
      refine .inr ⟨w.heap.size, len, e, len * sz, by simp, rfl, Nat.le_refl _, by simp, ?_, by simp⟩
      simp [World.shape?, hol]

/-! ### Parts of values -/

theorem op_indexA {e : TypeId} (ho : o.op = .index t x y) (ht : arrT P t = some (n, e, 1)) (he : scalT P e = true) (hi : i = (m : Nat)) (hlt : m < n) (hc : cells[m]? = some v) :
    OpV P o [.agg cells, .int q i] [] [] v [] :=
  op2 (x := x) (y := y) (by rw [ho]; rfl) fun ρ Im w a hv hu => by
    obtain ⟨hu1, hu2⟩ := arrT_und ht
    simp only [VRel] at hv hu
    obtain ⟨cs, hcs, hrel⟩ := hv
    obtain ⟨r, hr, hv⟩ := hrel.get hc
    subst hi
    refine ⟨r, ?_, hv⟩
    have hr' : cs[m]? = some r := by simpa using hr
    simp [execOp, ho, hcs, hu, Instr.index, asIntOf, run_underlying hu1, hlt, hu2, part, (run_isAgg_scal (w := w) he).1, hr']
theorem op_indexS {s : List UInt8} {c : UInt8} (ho : o.op = .index t x y) (ht : P.underlying t = some .string) (hi : i = (m : Nat)) (hc : s[m]? = some c) :
    OpV P o [.str s, .int q i] [] [] (.u8 c) [] :=
  op2 (x := x) (y := y) (by rw [ho]; rfl) fun ρ Im w a hv hu => by
    simp only [VRel] at hv hu ⊢
    subst hi
    refine ⟨_, ?_, rfl⟩
    have hlt : m < s.length := (List.getElem?_eq_some_iff.1 hc).1
    have e : (⟨s.toArray⟩ : ByteArray)[m]? = some c := by
      rw [getElem?_pos _ m (by show m < s.toArray.size; simpa using hlt)]
      have := (List.getElem?_eq_some_iff.1 hc).2
      simp only [Option.some.injEq]
      rw [← this]
      rfl
    simp [execOp, ho, hv, hu, Instr.index, asIntOf, run_underlying ht, e]

/-! ### Octets and texts -/

theorem rel_bytes {ρ Im w} : ∀ {l : List UInt8} {vs : List Value}, VRels P ρ Im w (l.map AVal.u8) vs → vs = (l.map fun b => (b.toNat : Int)).map (Value.int .u8)
  | [], vs, h => by simp only [List.map_nil, VRels] at h; simp [h]
  | c :: l, vs, h => by
    simp only [List.map_cons, VRels, VRel] at h
    obtain ⟨v, vs', rfl, h1, h2⟩ := h
    rw [rel_bytes h2, h1]
    simp

theorem run_toStr {w : World} {src dst e : TypeId} {ad : Option Addr} {cap : Nat} {l : List UInt8} (hs : P.underlying src = some (.slice e)) (he : P.underlying e = some (.int .u8)) (hd : P.underlying dst = some .string)
    (h : ad = none → l = []) (hl : (Builtin.firstCells 1 l.length (.slice ad l.length cap)).run P w = .ok ((l.map fun b => (b.toNat : Int)).map (Value.int .u8)).toArray w) :
    (convert src dst (.slice ad l.length cap)).run P w = .ok (.string ⟨l.toArray⟩) w := by
  rw [run_convert_bytes_string w src dst e ad l.length cap hs he hd]
  cases ad with
  | none => rw [h rfl]; simp [Conv.bytesToString]; rfl
  | some a =>
    simp only [Builtin.firstCells, Nat.mul_one] at hl
    rw [run_bytesToString w a l.length cap _ hl, foldl_push_byteCells]
    have he0 : ByteArray.empty.data = #[] := rfl
    rw [he0]
    simp

/-- string(b) of data -/
theorem op_toStrV {src dst e : TypeId} {l : List UInt8} (ho : o.op = .convert src dst x) (hs : P.underlying src = some (.slice e)) (he : P.underlying e = some (.int .u8)) (hd : P.underlying dst = some .string) (hl : len = l.length) :
    OpV P o [.vs len full (l.map AVal.u8)] [] [] (.str l) [] := by
  refine OpV.value fun ρ Im w a sup s fr hv => ?_
  rw [Array.toList_map, ho] at hv
  obtain ⟨r, hr, hv⟩ := VRels.one.1 hv
  simp only [Op.operands, List.map_cons, List.map_nil, List.cons.injEq, and_true] at hr
  subst hr hl
  obtain ⟨_, _, vals, g1, g2⟩ := srcOf_vs (n := l.length) (sz := 1) s hv (by simp)
  have hw := g1 w (fun _ _ => rfl)
  rw [rel_bytes g2] at hw
  simp only [VRel] at hv
  obtain ⟨ad, cap, h1, h2, h3, h4⟩ := hv
  rw [h1] at hw
  refine ⟨.string ⟨l.toArray⟩, w, ρ, Im, ?_, by simp [VRel], Ev.refl s⟩
  have := run_toStr hs he hd (fun h => by rcases h4 with h4 | ⟨c, base, vals, h5, _⟩; · simpa using h4
                                          · rw [h] at h5; cases h5) hw
  simp [execOp, ho, h1, this]
/-- string(b) of a slice in a block -/
theorem op_toStrO {src dst e : TypeId} {l : List UInt8} (ho : o.op = .convert src dst x) (hs : P.underlying src = some (.slice e)) (he : P.underlying e = some (.int .u8)) (hd : P.underlying dst = some .string)
    (hl : (cells.drop off).take len = l.map AVal.u8) (hc : off + len ≤ cells.length) :
    OpV P o [.os b off len 1 full] [(b, .vec T cells)] [] (.str l) [(b, .vec T cells)] := by
  refine OpV.value fun ρ Im w a sup s fr hv => ?_
  rw [Array.toList_map, ho] at hv
  obtain ⟨r, hr, hv⟩ := VRels.one.1 hv
  simp only [Op.operands, List.map_cons, List.map_nil, List.cons.injEq, and_true] at hr
  subst hr
  obtain ⟨_, _, vals, g1, g2⟩ := srcOf_os (n := len) (sz := 1) s (List.mem_singleton_self _) hv (by omega)
  have hw := g1 w (fun _ _ => rfl)
  rw [Nat.mul_one, hl] at g2
  rw [rel_bytes g2] at hw
  have hlen : len = l.length := by
    have := congrArg List.length hl
    simp at this; omega
  subst hlen
  simp only [VRel] at hv
  refine ⟨.string ⟨l.toArray⟩, w, ρ, Im, ?_, by simp [VRel], Ev.refl s⟩
  rcases hv with ⟨_, h0, ad, h1⟩ | ⟨c, cap, T', n', h1, h2, h3⟩
  · have hnil : l = [] := List.length_eq_zero_iff.1 h0
    subst hnil
    have hw' : (Builtin.firstCells 1 ([] : List UInt8).length (.slice ad ([] : List UInt8).length 0)).run P w = .ok ((([] : List UInt8).map fun b => (b.toNat : Int)).map (Value.int .u8)).toArray w := by
      cases ad <;> simp [Builtin.firstCells, loadCells, loadCellsFrom]
    have := run_toStr (P := P) (w := w) (cap := 0) (ad := ad) hs he hd (fun _ => rfl) hw'
    simp only [List.length_nil] at this
    simp [execOp, ho, h1, this]
  · rw [h2] at hw
    have := run_toStr hs he hd (fun h => by cases h) hw
    simp [execOp, ho, h2, this]
end
end Go.Kw

namespace Go.Kw
set_option linter.unusedVariables false
set_option linter.unusedSimpArgs false
variable {P : Program}

section
variable {fn : Func} {n : Nat} {new : List Nat} {R : AVal → AHeap → Prop} {env env' : Env} {h h' : AHeap} {k todo : List Item}

theorem WP.condD {c : Operand} {x y : Code} {p : Prop} {dp : Decidable p} (hc : ev env c = some (.bool (decide p))) (h1 : p → WP P fn n new R (.code x :: k) env h) (h2 : ¬ p → WP P fn n new R (.code y :: k) env h) :
    WP P fn n new R (.code (.cond c x y) :: k) env h := by
  refine WP.cond hc ?_
  by_cases hp : p
  · simpa [hp] using h1 hp
  · simpa [hp] using h2 hp
theorem WP.condB {c : Operand} {x y : Code} {t : Bool} (hc : ev env c = some (.bool t)) (h1 : t = true → WP P fn n new R (.code x :: k) env h) (h2 : t = false → WP P fn n new R (.code y :: k) env h) :
    WP P fn n new R (.code (.cond c x y) :: k) env h := by
  refine WP.cond hc ?_
  cases t
  · simpa using h2 rfl
  · simpa using h1 rfl

def subE : Env → Env → Prop
  | [], _ => True
  | (s, v) :: r, e => Env.get e s = some v ∧ subE r e

theorem subE.get : ∀ {env' env : Env}, subE env' env → ∀ s v, env'.get s = some v → env.get s = some v
  | [], env, _, s, v, h => by simp [Env.get] at h
  | (t, u) :: r, env, hs, s, v, h => by
    obtain ⟨h1, h2⟩ := hs
    simp only [Env.get] at h
    cases hb : Nat.beq t s with
    | true =>
      have := Nat.eq_of_beq_eq_true hb
      subst this
      simp only [hb, cond_true, Option.some.injEq] at h
      subst h
      exact h1
    | false =>
      simp only [hb, cond_false] at h
      exact h2.get s v h

/-- On to a place of which more general things are known. -/
theorem WP.jump (he : subE env' env) (hs : List.Sublist h' h) (hw : WP P fn n new R todo env' h') : WP P fn n new R todo env h := hw.weaken he.get hs
end

section
variable {ρ ρ' : Nat → Option Nat} {Im Im' : Nat → Prop} {w w' : World} {h R : AHeap} {ok : Nat → Prop} {b : Nat} {T : TypeId} {cells : List AVal}

theorem Ev.freeze (s : St P ρ Im h w) (e : Ev P ρ Im h w ok ρ' Im' ((b, .vec T cells) :: R) w') : ∃ Im'', Mono ρ' Im' w' ρ' Im'' w' ∧ Cold P ρ' Im'' w' b cells ∧ Ev P ρ Im h w ok ρ' Im'' R w' := by
  obtain ⟨Im2, m, cold, s2, hI⟩ := e.st.freeze
  refine ⟨Im2, m, cold, ?_⟩
  refine { size := e.size, os := e.os, out := e.out, keep := e.keep, rho := e.rho, im := fun c hc => m.im c (e.im c hc), imNew := ?_, shape := e.shape, own := fun x y c hxy hx => e.own x y c (List.mem_cons_of_mem _ hxy) hx, names := fun x y hxy => e.names x y (List.mem_cons_of_mem _ hxy), ok := e.ok, st := s2 }
  intro c hc
  rcases hI c hc with h1 | h1
  · exact e.imNew c h1
  · rcases e.own b _ c (List.mem_cons_self) h1 with ⟨b0, o0, h2, h3⟩ | h2
    · exact .inr (.inl ⟨b0, o0, h2, h3⟩)
    · exact .inr (.inr h2)
end

/-- A function's new block may be taken for data. -/
theorem ACalls.cool {f : FuncId} {args : List AVal} {h R : AHeap} {v : Nat → AVal} {v' : AVal} {T : TypeId} {cells : List AVal}
    (hc : ∀ b, ACalls P f args h [b] (v b) (R ++ [(b, .vec T cells)])) (hf : ∀ b, Frz b cells (v b) v') : ACalls P f args h [] v' R := by
  intro ρ Im w as sup s fr hv
  have fr1 : Fresh ρ [sup 0] (fun i => sup (i + 1)) := { named := fun x hx => by simp only [List.mem_singleton] at hx; rw [hx]; exact fr.free 0, free := fun i => fr.free _, inj := fun i j hij => by have := fr.inj _ _ hij; omega, apart := fun i => by simp only [List.mem_singleton]; intro hh; have := fr.inj _ _ hh; omega, nd := by simp }
  refine (hc (sup 0) ρ Im w as _ s fr1 hv).mono fun e w' he => ?_
  obtain ⟨v1, ρ', Im', rfl, h1, h2⟩ := he
  have h2' := h2.permR (List.perm_append_comm (l₁ := R) (l₂ := [(sup 0, AObj.vec T cells)]))
  obtain ⟨Im2, m, cold, h3⟩ := Ev.freeze s h2'
  refine ⟨v1, ρ', Im2, rfl, (hf (sup 0)).rel m cold h1, h3.okMono ?_⟩
  rintro x (hx | ⟨i, hx⟩)
  · simp only [List.mem_singleton] at hx
    exact .inr ⟨0, hx⟩
  · exact .inr ⟨i + 1, hx⟩
end Go.Kw
