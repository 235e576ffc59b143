import Derived.Test.YtdnccchcflaphaaF16
namespace Go.Kw
set_option linter.unusedVariables false
set_option linter.unusedSimpArgs false
variable {P : Program}

/-! ### Literals -/

def fillV (place : Nat → Option (Nat × Nat)) (cells : List AVal) : List Nat → List AVal → Option (List AVal)
  | [], _ => some cells
  | i :: is, [] => none
  | i :: is, v :: vs => match place i with
    | none => none
    | some (off, size) => if v.cellsA.length = size ∧ off + size ≤ cells.length then fillV place (cells.take off ++ v.cellsA ++ cells.drop (off + size)) is vs else none

theorem fold_set (off : Nat) : ∀ (vs : List Value) (j : Nat) (cs : Array Value), off + j + vs.length ≤ cs.size →
    ((vs.zipIdx j).foldl (fun cs (c, j) => cs.setIfInBounds (off + j) c) cs).toList = cs.toList.take (off + j) ++ vs ++ cs.toList.drop (off + j + vs.length)
  | [], j, cs, h => by simp
  | v :: vs, j, cs, h => by
    simp only [List.length_cons] at h
    rw [List.zipIdx_cons, List.foldl_cons, fold_set off vs (j + 1) _ (by simp; omega)]
    have e := list_seg_step cs.toList (off + j) v vs (by simp; omega)
    simpa [Array.toList_setIfInBounds, Nat.add_assoc] using e

theorem fill_rel {ρ Im w} {place : Nat → Option (Nat × Nat)} : ∀ {is : List Nat} {vals : List AVal} {rs : List Value} {cells out : List AVal} {cs : Array Value}, VRels P ρ Im w cells cs.toList → VRels P ρ Im w vals rs →
    (∀ v ∈ vals, ∀ l, v ≠ .tup l) → fillV place cells is vals = some out → ∃ out', Instr.fill place cs (is.zip rs) = some out' ∧ VRels P ρ Im w out out'.toList
  | [], vals, rs, cells, out, cs, hc, hv, ht, hf => by
    simp only [fillV, Option.some.injEq] at hf
    subst hf
    exact ⟨cs, by simp [Instr.fill], hc⟩
  | i :: is, [], rs, cells, out, cs, hc, hv, ht, hf => by simp [fillV] at hf
  | i :: is, v :: vals, rs, cells, out, cs, hc, hv, ht, hf => by
    simp only [VRels] at hv
    obtain ⟨r, rs', rfl, h1, h2⟩ := hv
    simp only [fillV] at hf
    cases hp : place i with
    | none => simp [hp] at hf
    | some q =>
      obtain ⟨off, size⟩ := q
      simp only [hp] at hf
      split at hf
      · rename_i hg
        have hcell := h1.cells (ht v (by simp))
        have hl1 := hcell.length
        have hl2 := hc.length
        simp only [Array.length_toList] at hl1 hl2
        have hfs := fold_set off r.cells.toList 0 cs (by simp; omega)
        simp only [Nat.add_zero, Array.length_toList, hl1, hg.1] at hfs
        have hrel : VRels P ρ Im w (cells.take off ++ v.cellsA ++ cells.drop (off + size)) (r.cells.zipIdx.foldl (fun cs (c, j) => cs.setIfInBounds (off + j) c) cs).toList := by
          have e : r.cells.zipIdx.foldl (fun cs (c, j) => cs.setIfInBounds (off + j) c) cs = (r.cells.toList.zipIdx 0).foldl (fun cs (c, j) => cs.setIfInBounds (off + j) c) cs := by
            rw [← Array.foldl_toList, Array.toList_zipIdx]
          rw [e, hfs]
          exact ((hc.take off).append hcell).append (hc.drop _)
        obtain ⟨out', h3, h4⟩ := fill_rel hrel h2 (fun x hx => ht x (by simp [hx])) hf
        refine ⟨out', ?_, h4⟩
        simp only [List.zip_cons_cons, Instr.fill, hp]
        rw [if_neg (by simp; omega)]
        exact h3
      · cases hf

def placesT (P : Program) (t : TypeId) : Option (Nat → Option (Nat × Nat)) :=
  match P.underlying t with
  | some (.array _ e) => (P.info? e).map fun ie => fun i => some (i * ie.size, ie.size)
  | some (.struct fields) => (fields.toList.mapM (fun f => (P.info? f.type).map fun i => (f.offset, i.size))).map fun places => fun i => places.toArray[i]?
  | _ => none

section
variable {o : Oper} {x y z : Operand} {t t' T : TypeId} {v u : AVal} {b off k len sz n m : Nat} {full f' : Bool} {cells vs out : List AVal} {i : Int} {q : IntKind} {ts : Array TypeId}

theorem zip_unzip (ps : List (Nat × Operand)) (a : Act) : (ps.map fun x => (x.1, a.eval x.2)) = (ps.map (·.1)).zip ((ps.map (·.2)).map a.eval) := by
  induction ps with
  | nil => rfl
  | cons p ps ih => simp [ih]

theorem op_build {parts : Array (Nat × Operand)} {pl : Nat → Option (Nat × Nat)} {z : List AVal} (ho : o.op = .build t parts) (hp : placesT P t = some pl) (hz : zeroT P t = some z) 
    (hf : fillV pl z (parts.toList.map (·.1)) vs = some out) (ht : ∀ v ∈ vs, ∀ l, v ≠ .tup l) : OpV P o vs [] [] (.agg out) [] := by
  refine OpV.pure fun ρ Im w a hv => ?_
  rw [Array.toList_map, ho] at hv
  simp only [Op.operands] at hv
  unfold zeroT at hz
  cases hi : P.info? t with
  | none => rw [hi] at hz; cases hz
  | some it =>
    rw [hi] at hz
    simp only [Option.bind_some] at hz
    cases hzz : it.zero with
    | none => rw [hzz] at hz; cases hz
    | some zv =>
      rw [hzz] at hz
      simp only [Option.bind_some] at hz
      obtain ⟨out', h1, h2⟩ := fill_rel (absCs_rel (P := P) (ρ := ρ) (Im := Im) (w := w) hz) hv ht hf
      have hb : P.built t (parts.map fun x => (x.1, a.eval x.2)).toList = some out' := by
        rw [Array.toList_map, zip_unzip]
        unfold placesT at hp
        unfold Program.built
        cases hu : P.underlying t with
        | none => rw [hu] at hp; cases hp
        | some d =>
          cases d <;> simp only [hu, reduceCtorEq] at hp
          case array n e =>
            cases hie : P.info? e with
            | none => rw [hie] at hp; cases hp
            | some ie =>
              simp only [hie, Option.map_some, Option.some.injEq] at hp
              subst hp
              simp only [hi, hzz, hie]
              exact h1
          case struct fields =>
            cases hpl : fields.toList.mapM (fun f => (P.info? f.type).map fun i => (f.offset, i.size)) with
            | none => rw [hpl] at hp; cases hp
            | some places =>
              simp only [hpl, Option.map_some, Option.some.injEq] at hp
              subst hp
              simp only [hi, hzz, hpl]
              exact h1
      refine ⟨.agg out', ?_, ?_⟩
      · simp only [execOp, ho, Sem.run_bind]
        rw [run_build w t _ out' hb]
        rfl
      · simp only [VRel]; exact ⟨out', rfl, h2⟩

theorem VRels.flat {ρ Im w} {a : List AVal} {v : List Value} (h : VRels P ρ Im w a v) : ∀ n, VRels P ρ Im w (List.replicate n a).flatten (List.replicate n v).flatten
  | 0 => by simp [VRels]
  | n + 1 => by simp only [List.replicate_succ, List.flatten_cons]; exact h.append (VRels.flat h n)

theorem madeFlat (z : Array Value) (hz : z.size = k) (hk : 0 < k) : ∀ n, (madeCells z (n * k)).toList = (List.replicate n z.toList).flatten := by
  intro n
  apply List.ext_getElem?
  intro j
  have hlen : (List.replicate n z.toList).flatten.length = n * k := by simp [hz]
  by_cases hj : j < n * k
  · have h1 : (madeCells z (n * k)).toList[j]? = some z[j % k]! := by
      simp [madeCells, hj, hz]
    rw [h1]
    clear h1 hlen
    induction n generalizing j with
    | zero => simp at hj
    | succ n ih =>
      rw [List.replicate_succ, List.flatten_cons]
      by_cases hjk : j < k
      · rw [List.getElem?_append_left (by simp [hz]; omega), Nat.mod_eq_of_lt hjk]
        simp [hz, hjk]
      · rw [List.getElem?_append_right (by simp [hz]; omega)]
        simp only [Array.length_toList, hz]
        rw [Nat.succ_mul] at hj
        rw [← ih (j - k) (by omega)]
        congr 2
        rw [Nat.mod_eq_sub_mod (by omega)]
  · rw [List.getElem?_eq_none (by simp [size_madeCells]; omega), List.getElem?_eq_none (by rw [hlen]; omega)]

/-- []T{..} -/
theorem op_buildSlice {e : TypeId} {by' : Nat} {parts : Array (Nat × Operand)} {z : List AVal} (ho : o.op = .buildSlice t len parts) (ht : slT P t = some (e, sz, by')) (hz : zeroT P e = some z) (hzl : z.length = sz) (hsz : 0 < sz)
    (hf : fillV (fun i => some (i * sz, sz)) (List.replicate len z).flatten (parts.toList.map (·.1)) vs = some out) (htp : ∀ v ∈ vs, ∀ l, v ≠ .tup l) (hfit : len * sz ≤ 16777216) (hout : out.length = len * sz) :
    OpV P o vs [] [b] (.os b 0 len sz true) [(b, .vec e out)] := by
  refine OpV.value fun ρ Im w a sup s fr hv => ?_
  rw [Array.toList_map, ho] at hv
  simp only [Op.operands] at hv
  obtain ⟨hu1, hu2, i, hi, hi1, hi2⟩ := slT_und ht
  unfold zeroT at hz
  rw [hi] at hz
  simp only [Option.bind_some] at hz
  cases hzz : i.zero with
  | none => rw [hzz] at hz; cases hz
  | some zv =>
    rw [hzz] at hz
    simp only [Option.bind_some] at hz
    have hzr := absCs_rel (P := P) (ρ := ρ) (Im := Im) (w := w) hz
    have hzs : zv.cells.size = sz := by have := hzr.length; simpa [hzl] using this
    have hbase : VRels P ρ Im w (List.replicate len z).flatten (madeCells zv.cells (len * sz)).toList := by
      rw [madeFlat zv.cells hzs hsz]
      exact hzr.flat len
    obtain ⟨out', h1, h2⟩ := fill_rel hbase hv htp hf
    have hol := h2.length
    simp only [Array.length_toList, hout] at hol
    rw [← zip_unzip] at h1
    refine ⟨.slice (some ⟨w.heap.size, 0, none⟩) len len, { w with heap := w.heap.push (.cells out' e (0, 0)) }, _, Im, ?_, ?_,
      Ev.pushRow s fr (0, 0) (fun i _ => by simp) (vals := out'.toList) (fun j hj => by simp) h2⟩
    · have hmade : ∀ (hne : ¬ len * sz = 0), ((Array.range (len * sz)).map (zv.cells[· % zv.cells.size]!)) = madeCells zv.cells (len * sz) := fun _ => rfl
      by_cases h0 : len * sz = 0
      · have hm0 : madeCells zv.cells (len * sz) = #[] := by rw [h0]; simp [madeCells]
        rw [hm0] at h1
        simp only [execOp, ho]
        have h1' : Instr.fill (fun i => some (i * sz, sz)) (Array.map (fun x => (default : Value)) (Array.range 0)) (List.map (fun x => (x.fst, a.eval x.snd)) parts.toList) = some out' := by
          have e0 : Array.map (fun x => (default : Value)) (Array.range 0) = #[] := by simp
          rw [e0]; exact h1
        simp [Instr.buildSlice, run_underlying hu1, hu2, h0, hzz, newRow, h1']
      · simp only [madeCells] at h1
        have h16 : ¬ 16777216 < len * sz := by omega
        simp only [execOp, ho]
        simp [Instr.buildSlice, run_underlying hu1, hu2, h0, h16, zeroValue, typeInfo, hi, hzz, newRow, h1]
    · simp only [VRel]
      refine .inr ⟨w.heap.size, len, e, len * sz, by simp, rfl, Nat.le_refl _, by simp, ?_, by simp⟩
      simp [World.shape?, hol]

/-! ### Parts of values -/

theorem op_indexA {e : TypeId} (ho : o.op = .index t x y) (ht : arrT P t = some (n, e, 1)) (he : scalT P e = true) (hi : i = (m : Nat)) (hlt : m < n) (hc : cells[m]? = some v) :
    OpV P o [.agg cells, .int q i] [] [] v [] :=
  op2 (x := x) (y := y) (by rw [ho]; rfl) fun ρ Im w a hv hu => by
    obtain ⟨hu1, hu2⟩ := arrT_und ht
    simp only [VRel] at hv hu
    obtain ⟨cs, hcs, hrel⟩ := hv
    obtain ⟨r, hr, hv⟩ := hrel.get hc
    subst hi
    refine ⟨r, ?_, hv⟩
    have hr' : cs[m]? = some r := by simpa using hr
    simp [execOp, ho, hcs, hu, Instr.index, asIntOf, run_underlying hu1, hlt, hu2, part, (run_isAgg_scal (w := w) he).1, hr']
theorem op_indexS {s : List UInt8} {c : UInt8} (ho : o.op = .index t x y) (ht : P.underlying t = some .string) (hi : i = (m : Nat)) (hc : s[m]? = some c) :
    OpV P o [.str s, .int q i] [] [] (.u8 c) [] :=
  op2 (x := x) (y := y) (by rw [ho]; rfl) fun ρ Im w a hv hu => by
    simp only [VRel] at hv hu ⊢
    subst hi
    refine ⟨_, ?_, rfl⟩
    have hlt : m < s.length := (List.getElem?_eq_some_iff.1 hc).1
    have e : (⟨s.toArray⟩ : ByteArray)[m]? = some c := by
      rw [getElem?_pos _ m (by show m < s.toArray.size; simpa using hlt)]
      have := (List.getElem?_eq_some_iff.1 hc).2
      simp only [Option.some.injEq]
      rw [← this]
      rfl
    simp [execOp, ho, hv, hu, Instr.index, asIntOf, run_underlying ht, e]

/-! ### Octets and texts -/

theorem rel_bytes {ρ Im w} : ∀ {l : List UInt8} {vs : List Value}, VRels P ρ Im w (l.map AVal.u8) vs → vs = (l.map fun b => (b.toNat : Int)).map (Value.int .u8)
  | [], vs, h => by simp only [List.map_nil, VRels] at h; simp [h]
  | c :: l, vs, h => by
    simp only [List.map_cons, VRels, VRel] at h
    obtain ⟨v, vs', rfl, h1, h2⟩ := h
    rw [rel_bytes h2, h1]
    simp

theorem run_toStr {w : World} {src dst e : TypeId} {ad : Option Addr} {cap : Nat} {l : List UInt8} (hs : P.underlying src = some (.slice e)) (he : P.underlying e = some (.int .u8)) (hd : P.underlying dst = some .string)
    (h : ad = none → l = []) (hl : (Builtin.firstCells 1 l.length (.slice ad l.length cap)).run P w = .ok ((l.map fun b => (b.toNat : Int)).map (Value.int .u8)).toArray w) :
    (convert src dst (.slice ad l.length cap)).run P w = .ok (.string ⟨l.toArray⟩) w := by
  rw [run_convert_bytes_string w src dst e ad l.length cap hs he hd]
  cases ad with
  | none => rw [h rfl]; simp [Conv.bytesToString]; rfl
  | some a =>
    simp only [Builtin.firstCells, Nat.mul_one] at hl
    rw [run_bytesToString w a l.length cap _ hl, foldl_push_byteCells]
    have he0 : ByteArray.empty.data = #[] := rfl
    rw [he0]
    simp

/-- string(b) of data -/
theorem op_toStrV {src dst e : TypeId} {l : List UInt8} (ho : o.op = .convert src dst x) (hs : P.underlying src = some (.slice e)) (he : P.underlying e = some (.int .u8)) (hd : P.underlying dst = some .string) (hl : len = l.length) :
    OpV P o [.vs len full (l.map AVal.u8)] [] [] (.str l) [] := by
  refine OpV.value fun ρ Im w a sup s fr hv => ?_
  rw [Array.toList_map, ho] at hv
  obtain ⟨r, hr, hv⟩ := VRels.one.1 hv
  simp only [Op.operands, List.map_cons, List.map_nil, List.cons.injEq, and_true] at hr
  subst hr hl
  obtain ⟨_, _, vals, g1, g2⟩ := srcOf_vs (n := l.length) (sz := 1) s hv (by simp)
  have hw := g1 w (fun _ _ => rfl)
  rw [rel_bytes g2] at hw
  simp only [VRel] at hv
  obtain ⟨ad, cap, h1, h2, h3, h4⟩ := hv
  rw [h1] at hw
  refine ⟨.string ⟨l.toArray⟩, w, ρ, Im, ?_, by simp [VRel], Ev.refl s⟩
  have := run_toStr hs he hd (fun h => by rcases h4 with h4 | ⟨c, base, vals, h5, _⟩; · simpa using h4
                                          · rw [h] at h5; cases h5) hw
  simp [execOp, ho, h1, this]
/-- string(b) of a slice in a block -/
theorem op_toStrO {src dst e : TypeId} {l : List UInt8} (ho : o.op = .convert src dst x) (hs : P.underlying src = some (.slice e)) (he : P.underlying e = some (.int .u8)) (hd : P.underlying dst = some .string)
    (hl : (cells.drop off).take len = l.map AVal.u8) (hc : off + len ≤ cells.length) :
    OpV P o [.os b off len 1 full] [(b, .vec T cells)] [] (.str l) [(b, .vec T cells)] := by
  refine OpV.value fun ρ Im w a sup s fr hv => ?_
  rw [Array.toList_map, ho] at hv
  obtain ⟨r, hr, hv⟩ := VRels.one.1 hv
  simp only [Op.operands, List.map_cons, List.map_nil, List.cons.injEq, and_true] at hr
  subst hr
  obtain ⟨_, _, vals, g1, g2⟩ := srcOf_os (n := len) (sz := 1) s (List.mem_singleton_self _) hv (by omega)
  have hw := g1 w (fun _ _ => rfl)
  rw [Nat.mul_one, hl] at g2
  rw [rel_bytes g2] at hw
  have hlen : len = l.length := by
    have := congrArg List.length hl
    simp at this; omega
  subst hlen
  simp only [VRel] at hv
  refine ⟨.string ⟨l.toArray⟩, w, ρ, Im, ?_, by simp [VRel], Ev.refl s⟩
  rcases hv with ⟨_, h0, ad, h1⟩ | ⟨c, cap, T', n', h1, h2, h3⟩
  · have hnil : l = [] := List.length_eq_zero_iff.1 h0
    subst hnil
    have hw' : (Builtin.firstCells 1 ([] : List UInt8).length (.slice ad ([] : List UInt8).length 0)).run P w = .ok ((([] : List UInt8).map fun b => (b.toNat : Int)).map (Value.int .u8)).toArray w := by
      cases ad <;> simp [Builtin.firstCells, loadCells, loadCellsFrom]
    have := run_toStr (P := P) (w := w) (cap := 0) (ad := ad) hs he hd (fun _ => rfl) hw'
    simp only [List.length_nil] at this
    simp [execOp, ho, h1, this]
  · rw [h2] at hw
    have := run_toStr hs he hd (fun h => by cases h) hw
    simp [execOp, ho, h2, this]
end
end Go.Kw
