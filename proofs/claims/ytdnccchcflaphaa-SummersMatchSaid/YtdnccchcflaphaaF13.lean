import Derived.Test.YtdnccchcflaphaaF12
namespace Go.Kw
set_option linter.unusedVariables false
set_option linter.unusedSimpArgs false
variable {P : Program}

/-! ### Equality of arrays and structs of numbers, bools and strings -/

inductive Leaf where
  | int (k : IntKind)
  | bool
  | str
  deriving DecidableEq

def fitB : Leaf → AVal → Bool
  | .int k, .int k' _ => k == k'
  | .bool, .bool _ => true
  | .str, .str _ => true
  | _, _ => false
def fitsB : List Leaf → List AVal → Bool
  | [], [] => true
  | l :: ls, a :: as => fitB l a && fitsB ls as
  | _, _ => false
def sameB : AVal → AVal → Bool
  | .int _ a, .int _ b => a == b
  | .bool a, .bool b => a == b
  | .str a, .str b => a == b
  | _, _ => false
def samesB : List AVal → List AVal → Bool
  | a :: as, b :: bs => sameB a b && samesB as bs
  | _, _ => true

/-- The leaves of a type that is compared leaf by leaf. -/
def cmpT (P : Program) : Nat → TypeId → Option (List Leaf)
  | 0, _ => none
  | f + 1, t => match P.underlying t with
    | some (.int k) => some [.int k]
    | some .bool => some [.bool]
    | some .string => some [.str]
    | some (.array n e) => match cmpT P f e with
      | some ls => if P.cellsOf e = ls.length ∧ (P.info? e).isSome then some (List.replicate n ls).flatten else none
      | none => none
    | some (.struct fs) => if P.stoodInHeld t then none else go f fs.toList 0
    | _ => none
where
  go (f : Nat) : List Field → Nat → Option (List Leaf)
    | [], _ => some []
    | fd :: fs, off => if fd.name ≠ "_" ∧ fd.offset = off then
        match cmpT P f fd.type with
        | some ls => if P.cellsOf fd.type = ls.length ∧ (P.info? fd.type).isSome then
            match go f fs (off + ls.length) with
            | some r => some (ls ++ r)
            | none => none
          else none
        | none => none
      else none

theorem fitsB_length : ∀ {ls : List Leaf} {as : List AVal}, fitsB ls as = true → as.length = ls.length
  | [], [], _ => rfl
  | [], _ :: _, h => by simp [fitsB] at h
  | _ :: _, [], h => by simp [fitsB] at h
  | l :: ls, a :: as, h => by
    simp only [fitsB, Bool.and_eq_true] at h
    simp [fitsB_length h.2]
theorem fitsB_split : ∀ {ls ms : List Leaf} {as : List AVal}, fitsB (ls ++ ms) as = true → fitsB ls (as.take ls.length) = true ∧ fitsB ms (as.drop ls.length) = true
  | [], ms, as, h => by simpa [fitsB] using h
  | l :: ls, ms, [], h => by simp [fitsB] at h
  | l :: ls, ms, a :: as, h => by
    simp only [List.cons_append, fitsB, Bool.and_eq_true] at h
    obtain ⟨h1, h2⟩ := fitsB_split h.2
    simp [fitsB, h.1, h1, h2]
theorem samesB_split (n : Nat) : ∀ {as bs : List AVal}, as.length = bs.length → samesB as bs = (samesB (as.take n) (bs.take n) && samesB (as.drop n) (bs.drop n)) := by
  induction n with
  | zero => intro as bs h; simp [samesB]
  | succ n ih =>
    intro as bs h
    cases as with
    | nil => cases bs with
      | nil => simp [samesB]
      | cons b bs => simp at h
    | cons a as =>
      cases bs with
      | nil => simp at h
      | cons b bs =>
        simp only [List.take_succ_cons, List.drop_succ_cons, samesB]
        rw [ih (by simpa using h), Bool.and_assoc]

/-- A value of a type, by its cells. -/
def mkV (P : Program) (t : TypeId) (cs : List Value) : Value :=
  match P.underlying t with
  | some (.struct _) => .agg cs.toArray
  | some (.array _ _) => .agg cs.toArray
  | _ => cs.headD undef

theorem cmpT_ne {f : Nat} {t : TypeId} {ls : List Leaf} (h : cmpT P f t = some ls) : ∃ d, P.underlying t = some d := by
  cases f with
  | zero => simp [cmpT] at h
  | succ f =>
    rw [cmpT] at h
    cases hu : P.underlying t with
    | none => rw [hu] at h; cases h
    | some d => exact ⟨d, rfl⟩

theorem run_part_at {w : World} {f : Nat} {e : TypeId} {ls : List Leaf} (h : cmpT P f e = some ls) (hc : P.cellsOf e = ls.length) (hi : (P.info? e).isSome = true) (xs : Array Value) (off : Nat)
    (hlen : off + ls.length ≤ xs.size) : (part e xs off).run P w = .ok (mkV P e ((xs.toList.drop off).take ls.length)) w := by
  obtain ⟨i, hi⟩ := Option.isSome_iff_exists.1 hi
  have hsz : (sizeOf e).run P w = .ok ls.length w := by rw [run_sizeOf w hi, hc]
  obtain ⟨d, hu⟩ := cmpT_ne h
  have scal : ls.length = 1 → (isAgg e).run P w = .ok false w → mkV P e ((xs.toList.drop off).take ls.length) = ((xs.toList.drop off).take ls.length).headD undef →
      (part e xs off).run P w = .ok (mkV P e ((xs.toList.drop off).take ls.length)) w := by
    intro h1 h2 h3
    have hlt : off < xs.size := by omega
    simp only [part, Sem.run_bind, h2, Result.andThen_ok, Bool.false_eq_true, if_false]
    rw [Array.getElem?_eq_getElem hlt, h3, h1]
    have : xs.toList.drop off = xs[off] :: xs.toList.drop (off + 1) := by
      rw [List.drop_eq_getElem_cons (by simpa using hlt)]
      simp
    simp [this]
  cases f with
  | zero => simp [cmpT] at h
  | succ f =>
    rw [cmpT, hu] at h
    cases d <;> simp only [reduceCtorEq] at h
    case bool => simp only [Option.some.injEq] at h; subst h; exact scal rfl (by simp [isAgg, run_underlying hu]) (by simp [mkV, hu])
    case int k => simp only [Option.some.injEq] at h; subst h; exact scal rfl (by simp [isAgg, run_underlying hu]) (by simp [mkV, hu])
    case string => simp only [Option.some.injEq] at h; subst h; exact scal rfl (by simp [isAgg, run_underlying hu]) (by simp [mkV, hu])
    case array n e' =>
      simp only [part, isAgg, Sem.run_bind, run_underlying hu, Result.andThen_ok, Sem.run_pure, if_true, hsz, mkV, hu]
      congr 2
      apply Array.ext'
      simp [Array.toList_extract, List.extract_eq_take_drop]
    case struct fs =>
      simp only [part, isAgg, Sem.run_bind, run_underlying hu, Result.andThen_ok, Sem.run_pure, if_true, hsz, mkV, hu]
      congr 2
      apply Array.ext'
      simp [Array.toList_extract, List.extract_eq_take_drop]

def conc : AVal → Value
  | .int k n => .int k n
  | .bool b => .bool b
  | .str s => .string ⟨s.toArray⟩
  | _ => undef

theorem str_eq (s s' : List UInt8) : ((⟨s.toArray⟩ : ByteArray).toList == (⟨s'.toArray⟩ : ByteArray).toList) = (s == s') := by
  simp [ByteArray.toList_eq]

theorem run_eqItems {w : World} {d f : Nat} {e : TypeId} {ls : List Leaf} (h : cmpT P f e = some ls) (hc : P.cellsOf e = ls.length) (hi : (P.info? e).isSome = true) (as bs : List AVal)
    (ih : ∀ as bs, fitsB ls as = true → fitsB ls bs = true → (Op.equalIn d e (mkV P e (as.map conc)) (mkV P e (bs.map conc))).run P w = .ok (samesB as bs) w) (n : Nat) :
    ∀ k, n * ls.length ≤ as.length → n * ls.length ≤ bs.length → fitsB (List.replicate k ls).flatten (as.drop (n * ls.length)) = true → fitsB (List.replicate k ls).flatten (bs.drop (n * ls.length)) = true →
      (Op.eqItems d e (P.cellsOf e) (as.map conc).toArray (bs.map conc).toArray (List.range' n k)).run P w = .ok (samesB (as.drop (n * ls.length)) (bs.drop (n * ls.length))) w := by
  intro k
  induction k generalizing n with
  | zero =>
    intro hA hB h1 h2
    have h1 := fitsB_length h1
    have h2 := fitsB_length h2
    simp only [List.replicate_zero, List.flatten_nil, List.length_nil] at h1 h2
    rw [List.eq_nil_of_length_eq_zero h1, List.eq_nil_of_length_eq_zero h2]
    simp [Op.eqItems, samesB]
  | succ k ihk =>
    intro hA hB h1 h2
    have l1 := fitsB_length h1
    have l2 := fitsB_length h2
    rw [List.replicate_succ, List.flatten_cons] at h1 h2
    simp only [List.replicate_succ, List.flatten_cons, List.length_append, List.length_drop] at l1 l2
    obtain ⟨h3, h4⟩ := fitsB_split h1
    obtain ⟨h5, h6⟩ := fitsB_split h2
    have e1 : ∀ cs : List AVal, (cs.drop (n * ls.length)).drop ls.length = cs.drop ((n + 1) * ls.length) := fun cs => by
      rw [List.drop_drop, Nat.add_mul, Nat.one_mul]
    rw [e1] at h4 h6
    have p1 := run_part_at (w := w) h hc hi (as.map conc).toArray (n * ls.length) (by simp; omega)
    have p2 := run_part_at (w := w) h hc hi (bs.map conc).toArray (n * ls.length) (by simp; omega)
    simp only [← List.map_drop, ← List.map_take] at p1 p2
    simp only [List.range'_succ, Op.eqItems, Sem.run_bind, hc, p1, p2, Result.andThen_ok, ih _ _ h3 h5]
    rw [samesB_split ls.length (as := as.drop (n * ls.length)) (by simp; omega), e1, e1]
    have ihk' := ihk (n + 1) (by rw [Nat.add_mul]; omega) (by rw [Nat.add_mul]; omega) h4 h6
    rw [hc] at ihk'
    cases hs : samesB ((as.drop (n * ls.length)).take ls.length) ((bs.drop (n * ls.length)).take ls.length) with
    | false => simp
    | true => simpa using ihk'

theorem run_eqFs {w : World} {d f : Nat} (as bs : List AVal)
    (ih : ∀ t ls, cmpT P f t = some ls → ∀ as bs, fitsB ls as = true → fitsB ls bs = true → (Op.equalIn d t (mkV P t (as.map conc)) (mkV P t (bs.map conc))).run P w = .ok (samesB as bs) w) :
    ∀ (fs : List Field) (off : Nat) (ls : List Leaf), cmpT.go P f fs off = some ls → off ≤ as.length → off ≤ bs.length → fitsB ls (as.drop off) = true → fitsB ls (bs.drop off) = true →
      (Op.eqFields d (as.map conc).toArray (bs.map conc).toArray fs).run P w = .ok (samesB (as.drop off) (bs.drop off)) w
  | [], off, ls, h, hA, hB, h1, h2 => by
    simp only [cmpT.go, Option.some.injEq] at h
    subst h
    have h1 := fitsB_length h1
    have h2 := fitsB_length h2
    simp only [List.length_nil] at h1 h2
    rw [List.eq_nil_of_length_eq_zero h1, List.eq_nil_of_length_eq_zero h2]
    simp [Op.eqFields, samesB]
  | fd :: fs, off, ls, h, hA, hB, h1, h2 => by
    simp only [cmpT.go] at h
    split at h
    · rename_i hcond
      split at h
      · rename_i ls1 hls1
        split at h
        · rename_i hc
          split at h
          · rename_i r hr
            simp only [Option.some.injEq] at h
            subst h
            have l1 := fitsB_length h1
            have l2 := fitsB_length h2
            simp only [List.length_append, List.length_drop] at l1 l2
            obtain ⟨h3, h4⟩ := fitsB_split h1
            obtain ⟨h5, h6⟩ := fitsB_split h2
            rw [List.drop_drop] at h4 h6
            have p1 := run_part_at (w := w) hls1 hc.1 hc.2 (as.map conc).toArray off (by simp; omega)
            have p2 := run_part_at (w := w) hls1 hc.1 hc.2 (bs.map conc).toArray off (by simp; omega)
            simp only [← List.map_drop, ← List.map_take] at p1 p2
            have hrest := run_eqFs as bs ih fs (off + ls1.length) r hr (by omega) (by omega) h4 h6
            simp only [Op.eqFields, hcond.1, ne_eq, not_false_eq_true, if_true, Sem.run_bind, hcond.2, p1, p2, Result.andThen_ok, ih _ _ hls1 _ _ h3 h5]
            rw [samesB_split ls1.length (as := as.drop off) (by simp; omega), List.drop_drop, List.drop_drop]
            cases hs : samesB ((as.drop off).take ls1.length) ((bs.drop off).take ls1.length) with
            | false => simp
            | true => simpa using hrest
          · cases h
        · cases h
      · cases h
    · cases h

theorem fits_one {l : Leaf} {as : List AVal} (h : fitsB [l] as = true) : ∃ a, as = [a] ∧ fitB l a = true := by
  cases as with
  | nil => simp [fitsB] at h
  | cons a as =>
    cases as with
    | nil => exact ⟨a, rfl, by simpa [fitsB] using h⟩
    | cons b bs => simp [fitsB] at h

theorem run_equal {w : World} : ∀ (f : Nat) (t : TypeId) (ls : List Leaf) (d : Nat), cmpT P f t = some ls → f ≤ d → ∀ as bs, fitsB ls as = true → fitsB ls bs = true →
    (Op.equalIn d t (mkV P t (as.map conc)) (mkV P t (bs.map conc))).run P w = .ok (samesB as bs) w := by
  intro f
  induction f with
  | zero => intro t ls d h; simp [cmpT] at h
  | succ f ih =>
    intro t ls d h hd as bs ha hb
    obtain ⟨d, rfl⟩ : ∃ d', d = d' + 1 := ⟨d - 1, by omega⟩
    obtain ⟨ds, hu⟩ := cmpT_ne h
    have h0 := h
    rw [cmpT, hu] at h
    cases ds <;> simp only [reduceCtorEq] at h
    case bool =>
      simp only [Option.some.injEq] at h; subst h
      obtain ⟨x, rfl, hx⟩ := fits_one ha
      obtain ⟨y, rfl, hy⟩ := fits_one hb
      cases x <;> simp [fitB] at hx
      cases y <;> simp [fitB] at hy
      simp [mkV, hu, conc, run_equalIn_bool w d t _ _ hu, samesB, sameB]
    case int k =>
      simp only [Option.some.injEq] at h; subst h
      obtain ⟨x, rfl, hx⟩ := fits_one ha
      obtain ⟨y, rfl, hy⟩ := fits_one hb
      cases x <;> simp [fitB] at hx
      cases y <;> simp [fitB] at hy
      subst hx; subst hy
      simp [mkV, hu, conc, run_equalIn_int w d t _ _ _ _ hu, samesB, sameB]
    case string =>
      simp only [Option.some.injEq] at h; subst h
      obtain ⟨x, rfl, hx⟩ := fits_one ha
      obtain ⟨y, rfl, hy⟩ := fits_one hb
      cases x <;> simp [fitB] at hx
      cases y <;> simp [fitB] at hy
      simp only [mkV, hu, conc, List.map_cons, List.map_nil, List.headD_cons, run_equalIn_string w d t _ _ hu, samesB, sameB, Bool.and_true, str_eq]
    case array n e =>
      cases he : cmpT P f e with
      | none => rw [he] at h; cases h
      | some l1 =>
        rw [he] at h
        simp only at h
        split at h
        · rename_i hc
          simp only [Option.some.injEq] at h
          subst h
          obtain ⟨i, hi⟩ := Option.isSome_iff_exists.1 hc.2
          simp only [mkV, hu]
          rw [run_equalIn_array w d _ _ hu hi, List.range_eq_range']
          have := run_eqItems (w := w) (d := d) he hc.1 hc.2 as bs (fun as bs h1 h2 => ih e l1 d he (by omega) as bs h1 h2) 0 n (by simp) (by simp) (by simpa using ha) (by simpa using hb)
          simpa using this
        · cases h
    case struct fs =>
      split at h
      · cases h
      · rename_i hstood
        simp only [mkV, hu]
        have hf : P.fieldsOf t = fs := by unfold Program.fieldsOf; rw [hu]
        rw [run_equalIn_struct w d t _ _ (by rw [hf]; exact hu) (by simpa using hstood), hf]
        have := run_eqFs (w := w) (d := d) as bs (fun t ls hls as bs h1 h2 => ih t ls d hls (by omega) as bs h1 h2) fs.toList 0 ls h (by omega) (by omega) (by simpa using ha) (by simpa using hb)
        simpa using this

theorem conc_rel {ρ Im w} : ∀ {ls : List Leaf} {as : List AVal} {vs : List Value}, fitsB ls as = true → VRels P ρ Im w as vs → vs = as.map conc
  | [], [], vs, _, h => by simpa [VRels] using h
  | [], _ :: _, _, h, _ => by simp [fitsB] at h
  | _ :: _, [], _, h, _ => by simp [fitsB] at h
  | l :: ls, a :: as, vs, h, hv => by
    simp only [fitsB, Bool.and_eq_true] at h
    simp only [VRels] at hv
    obtain ⟨v, vs', rfl, h1, h2⟩ := hv
    rw [conc_rel h.2 h2]
    cases l <;> cases a <;> simp [fitB] at h <;> simp only [VRel] at h1 <;> subst h1 <;> rfl

section
variable {o : Oper} {x y : Operand} {t t' : TypeId} {as bs : List AVal} {ls : List Leaf}

def guardT (P : Program) (t : TypeId) : Bool := !P.eqGuardType P.depth t

theorem aggOf {t : TypeId} {f : Nat} (hl : cmpT P f t = some ls) (hg : (aggT P t).isSome = true) (cs : List Value) : mkV P t cs = .agg cs.toArray := by
  unfold aggT at hg
  unfold mkV
  cases hu : P.underlying t with
  | none => rw [hu] at hg; cases hg
  | some d => cases d <;> simp [hu] at hg ⊢

theorem run_eqA {w : World} (hl : cmpT P 20 t = some ls) (hg : (aggT P t).isSome = true) (ha : fitsB ls as = true) (hb : fitsB ls bs = true) :
    (Op.equal t (.agg (as.map conc).toArray) (.agg (bs.map conc).toArray)).run P w = .ok (samesB as bs) w := by
  have := run_equal (P := P) (w := w) 20 t ls 10000 hl (by omega) as bs ha hb
  rw [aggOf hl hg, aggOf hl hg] at this
  exact this

theorem op_eqA (ho : o.op = .binOp .eql t x y t') (hl : cmpT P 20 t = some ls) (hg : (aggT P t).isSome = true) (hgd : guardT P t = true) (ha : fitsB ls as = true) (hb : fitsB ls bs = true) :
    OpV P o [.agg as, .agg bs] [] [] (.bool (samesB as bs)) [] :=
  op2 (x := x) (y := y) (by rw [ho]; rfl) fun ρ Im w ac hv hu => by
    simp only [VRel] at hv hu ⊢
    obtain ⟨xs, h1, h2⟩ := hv
    obtain ⟨ys, h3, h4⟩ := hu
    have e1 := conc_rel ha h2
    have e2 := conc_rel hb h4
    have h5 := run_eqA (P := P) (w := w) hl hg ha hb
    rw [← e1, ← e2] at h5
    have hgd' : P.eqGuardType P.depth t = false := by simpa [guardT] using hgd
    refine ⟨_, ?_, rfl⟩
    simp [execOp, ho, h1, h3, eqGuard, hgd', binOp]
    simp only [Array.toArray_toList] at h5
    rw [h5]; rfl
theorem op_neqA (ho : o.op = .binOp .neq t x y t') (hl : cmpT P 20 t = some ls) (hg : (aggT P t).isSome = true) (hgd : guardT P t = true) (ha : fitsB ls as = true) (hb : fitsB ls bs = true) :
    OpV P o [.agg as, .agg bs] [] [] (.bool (!samesB as bs)) [] :=
  op2 (x := x) (y := y) (by rw [ho]; rfl) fun ρ Im w ac hv hu => by
    simp only [VRel] at hv hu ⊢
    obtain ⟨xs, h1, h2⟩ := hv
    obtain ⟨ys, h3, h4⟩ := hu
    have e1 := conc_rel ha h2
    have e2 := conc_rel hb h4
    have h5 := run_eqA (P := P) (w := w) hl hg ha hb
    rw [← e1, ← e2] at h5
    have hgd' : P.eqGuardType P.depth t = false := by simpa [guardT] using hgd
    refine ⟨_, ?_, rfl⟩
    simp [execOp, ho, h1, h3, eqGuard, hgd', binOp]
    simp only [Array.toArray_toList] at h5
    rw [h5]; rfl

theorem op_eqS {s s' : List UInt8} (ho : o.op = .binOp .eql t x y t') : OpV P o [.str s, .str s'] [] [] (.bool (s == s')) [] :=
  op2 (x := x) (y := y) (by rw [ho]; rfl) fun ρ Im w ac hv hu => by
    simp only [VRel] at hv hu ⊢
    exact ⟨_, by simp [execOp, ho, hv, hu, eqGuard_str, binOp, Op.stringOp, str_eq], rfl⟩
theorem op_neqS {s s' : List UInt8} (ho : o.op = .binOp .neq t x y t') : OpV P o [.str s, .str s'] [] [] (.bool (!(s == s'))) [] :=
  op2 (x := x) (y := y) (by rw [ho]; rfl) fun ρ Im w ac hv hu => by
    simp only [VRel] at hv hu ⊢
    exact ⟨_, by simp [execOp, ho, hv, hu, eqGuard_str, binOp, Op.stringOp, str_eq], rfl⟩
theorem op_eqB {p q : Bool} (ho : o.op = .binOp .eql t x y t') (ht : P.underlying t = some .bool) : OpV P o [.bool p, .bool q] [] [] (.bool (p == q)) [] :=
  op2 (x := x) (y := y) (by rw [ho]; rfl) fun ρ Im w ac hv hu => by
    simp only [VRel] at hv hu ⊢
    exact ⟨_, by simp [execOp, ho, hv, hu, eqGuard_bool, binOp, Op.equal, Op.maxDepth, run_equalIn_bool w _ t _ _ ht], rfl⟩
theorem op_neqB {p q : Bool} (ho : o.op = .binOp .neq t x y t') (ht : P.underlying t = some .bool) : OpV P o [.bool p, .bool q] [] [] (.bool (!(p == q))) [] :=
  op2 (x := x) (y := y) (by rw [ho]; rfl) fun ρ Im w ac hv hu => by
    simp only [VRel] at hv hu ⊢
    exact ⟨_, by simp [execOp, ho, hv, hu, eqGuard_bool, binOp, Op.equal, Op.maxDepth, run_equalIn_bool w _ t _ _ ht], rfl⟩
theorem run_eqPN {w : World} {e : TypeId} (ht : P.underlying t = some (.pointer e)) (ad : Option Addr) : (Op.equal t (.pointer ad) (.pointer none)).run P w = .ok ad.isNone w := by
  have : ∀ d, (Op.equalIn (d + 1) t (.pointer ad) (.pointer none)).run P w = .ok ad.isNone w := by
    intro d
    cases ad <;> simp [Op.equalIn, run_underlying ht]
  exact this 9999
/-- A pointer against nil. -/
theorem op_eqNil {b off : Nat} (ho : o.op = .binOp .eql t x y t') {e : TypeId} (ht : P.underlying t = some (.pointer e)) : OpV P o [.ptr b off, .nilp] [] [] (.bool false) [] :=
  op2 (x := x) (y := y) (by rw [ho]; rfl) fun ρ Im w ac hv hu => by
    simp only [VRel] at hv hu ⊢
    obtain ⟨c, _, h2⟩ := hv
    exact ⟨.bool false, by simp [execOp, ho, h2, hu, eqGuard, binOp, run_eqPN ht], rfl⟩
theorem op_eqNilNil (ho : o.op = .binOp .eql t x y t') {e : TypeId} (ht : P.underlying t = some (.pointer e)) : OpV P o [.nilp, .nilp] [] [] (.bool true) [] :=
  op2 (x := x) (y := y) (by rw [ho]; rfl) fun ρ Im w ac hv hu => by
    simp only [VRel] at hv hu ⊢
    exact ⟨.bool true, by simp [execOp, ho, hv, hu, eqGuard, binOp, run_eqPN ht], rfl⟩
end
end Go.Kw
