import Derived.Test.YtdnccchcflaphaaFC
import Derived.ChangeSame
import Derived.ChangeSlices
import Derived.WideKeyArgs
import Derived.OpenShut
import Derived.SizedLaws
set_option linter.unusedVariables false
set_option linter.unusedSimpArgs false
namespace Go.Kw
set_option linter.unusedVariables false
variable {P : Program}

theorem St.start (w : World) : St P (fun _ => none) (fun c => c < w.heap.size) [] w where
  obj := by intro b o h; cases h
  nd := by simp
  inj := by intro b b' o o' c h; cases h
  im := fun c h => h

/-- What a contract without memory says of a call in any world. -/
theorem ACalls.row {f : FuncId} {args : List AVal} {v : AVal} (hc : ACalls P f args [] [] v []) (w : World) (args' : Array Value)
    (hv : VRels P (fun _ => none) (fun c => c < w.heap.size) w args args'.toList) :
    Calls P f args' w fun e w' => (∃ v' ρ Im, e = .returned v' ∧ VRel P ρ Im w' v v') ∧ w'.os = w.os ∧ w'.output = w.output ∧ w.heap.size ≤ w'.heap.size ∧ ∀ c, c < w.heap.size → w'.heap[c]? = w.heap[c]? := by
  have fr : Fresh (fun _ => none) [] (fun i => i) := { named := by simp, free := fun _ => rfl, inj := fun _ _ h => h, apart := by simp, nd := by simp }
  refine (hc _ _ w args' _ (St.start w) fr hv).mono fun e w' he => ?_
  obtain ⟨v', ρ', Im', h1, h2, h3⟩ := he
  exact ⟨⟨v', ρ', Im', h1, h2⟩, h3.os, h3.out, h3.size, fun c hlt => h3.keep c hlt fun b o hb => by cases hb⟩

theorem kept_of {w w' : World} (h1 : w'.os = w.os) (h2 : w'.output = w.output) (h3 : ∀ c, c < w.heap.size → w'.heap[c]? = w.heap[c]?) (may : MemPlace → Prop) : w.keptBut w' may := by
  refine ⟨h1, h2, fun i hi => ?_⟩
  rw [h3 i hi]
  have hs : w.heap[i]? = some w.heap[i] := Array.getElem?_eq_getElem hi
  rw [hs]
  cases w.heap[i] <;> simp
end Go.Kw

namespace Go.Kw
open Go Go.ChangeShapes Go.WideShapes
set_option linter.unusedVariables false
variable {H : Type} {enc : TypeId × Value → H} {P : Program}
/-- A call that leaves the old heap as it is, and gives a value that reads as told: then the row's post-condition holds. -/
theorem post_kept {f : Func} {s : ChangeSpec} {apart fresh handsOn again : Bool} {W W' : World} {args : Array Value} {v : Value} {ds gs : List (DataW H)} {before pa pv : List MemPlace}
    (hW : DataW.Whole enc P f.params.toList s.vars apart W args.toList ds gs before)
    (hres : ∀ (b : Nat) (sp : Nat → Bool) (hd : Bool), DataW.TrodAll enc P W' b sp hd f.resultTypes.toList (v.resultList f.resultTypes.size) (s.fn H (ds ++ gs)).results [])
    (hargs : ∀ sp : Nat → Bool, (∀ p ∈ before, sp p.block = true) → DataW.TrodAll enc P W' 0 sp true f.params.toList args.toList (s.fn H (ds ++ gs)).args pa)
    (hvars : ∀ sp : Nat → Bool, (∀ p ∈ before, sp p.block = true) → DataW.TrodVars enc P W' sp s.vars (s.fn H (ds ++ gs)).vars pv)
    (hps : before = pa ++ pv) (hk : ∀ may, W.keptBut W' may) (hsame : ∀ c, c < W.heap.size → W'.heap[c]? = W.heap[c]?)
    (hok : ∀ (j : Nat) (t : TypeId) (r : Value), f.resultTypes[j]? = some t → (v.resultList f.resultTypes.size)[j]? = some r → Value.okWide P W' .any 0 t r) :
    s.post enc P f apart fresh handsOn again W args v W' := by
  have hlt := hW.lt
  refine ⟨ds, gs, before, [], pa, pv, hW, hres _ _ _, hargs _ (fun p hp => by simpa using hlt p hp), hvars _ (fun p hp => by simpa using hlt p hp), hk _, fun _ => ?_⟩
  obtain ⟨_, _, _, _, _, hz, hn⟩ := hW
  refine ⟨hok, _, _, ([] ++ pa) ++ pv, ⟨[] ++ pa, pv, trodAll_append (hargs _ (fun _ _ => rfl)) (hres _ _ _), hvars _ (fun _ _ => rfl), rfl, ?_, ?_⟩, ?_⟩
  · intro b off hp
    have hm : MemPlace.cell b off ∈ before := by rw [hps]; simpa using hp
    have hb : b < W.heap.size := hlt _ hm
    have := hz b off hm
    simp only [World.frozen?, hsame b hb] at this ⊢
    exact this
  · intro ha
    simpa [hps] using hn ha
  · intro p hp _
    simpa [hps] using hp
end Go.Kw

namespace Go.Kw
open Go Go.ChangeShapes Go.WideShapes
set_option linter.unusedVariables false
variable {P : Program}
theorem int_u8 {n : Int} (h : 0 ≤ n ∧ n ≤ 255) : ∃ b : UInt8, n = (b.toNat : Int) :=
  ⟨UInt8.ofNat n.toNat, by simp; omega⟩
theorem ints_u8 : ∀ {zs : List Int}, (∀ n ∈ zs, 0 ≤ n ∧ n ≤ 255) → ∃ l : List UInt8, zs = l.map fun b => (b.toNat : Int)
  | [], h => ⟨[], rfl⟩
  | z :: zs, h => by
    obtain ⟨b, hb⟩ := int_u8 (h z (by simp))
    obtain ⟨l, hl⟩ := ints_u8 (zs := zs) fun n hn => h n (by simp [hn])
    exact ⟨b :: l, by simp [hb, ← hl]⟩
theorem wf_u8 {n : Int} (h : (Lit.int .u8 n).wf = true) : 0 ≤ n ∧ n ≤ 255 := by
  simpa [Lit.wf, IntKind.min, IntKind.max, IntKind.signed, IntKind.bits] using h
theorem rels_u8 {ρ Im w} : ∀ (l : List UInt8), VRels P ρ Im w (l.map AVal.u8) (l.map fun b => Value.int .u8 (b.toNat : Int))
  | [] => by simp [VRels]
  | b :: l => by simp only [List.map_cons, VRels]; exact ⟨_, _, rfl, by simp [VRel], rels_u8 l⟩
/-- An array argument of octets. -/
theorem arg_arr8 {W : World} {t e : TypeId} {n b0 : Nat} {r : Reach} {v : Value} (hu : P.underlying t = some (.array n e)) (he : P.underlying e = some (.int .u8)) (hn : P.cellsOf t = n) (hc : P.cellTypes P.depth t = some (List.replicate n e)) (h0 : 0 < n)
    (h : Value.okWide P W r b0 t v) : ∃ l : List UInt8, l.length = n ∧ v = .agg (l.map fun b => Value.int .u8 (b.toNat : Int)).toArray := by
  simp only [Value.okWide, hu] at h
  obtain ⟨cs, rfl, hs, ts, h1, _, h3⟩ := h
  rw [hc] at h1
  simp only [Option.some.injEq] at h1
  subst h1
  have hz : ∃ zs : List Int, cs.toList = zs.map (Value.int .u8) ∧ ∀ n ∈ zs, 0 ≤ n ∧ n ≤ 255 := by
    have each : ∀ v ∈ cs.toList, ∃ z : Int, v = .int .u8 z ∧ 0 ≤ z ∧ z ≤ 255 := by
      intro v hv
      obtain ⟨i, hi⟩ := List.mem_iff_getElem?.1 hv
      have hi' : cs[i]? = some v := by simpa using hi
      obtain ⟨u, hu1, hu2⟩ := h3 i v hi'
      have hue : u = e := by
        rw [List.getElem?_replicate] at hu1
        split at hu1
        · simpa using hu1.symm
        · cases hu1
      subst hue
      simp only [Cell.okWide, he] at hu2
      cases v <;> simp [Cell.ok, he, IntKind.has, IntKind.min, IntKind.max, IntKind.signed, IntKind.bits] at hu2
      exact ⟨_, by rw [← hu2.1], hu2.2⟩
    revert each
    generalize cs.toList = L
    intro each
    induction L with
    | nil => exact ⟨[], rfl, by simp⟩
    | cons v L ih =>
      obtain ⟨z, rfl, hz⟩ := each v (by simp)
      obtain ⟨zs, e1, e2⟩ := ih fun x hx => each x (by simp [hx])
      exact ⟨z :: zs, by simp [e1], by simpa using ⟨hz, e2⟩⟩
  obtain ⟨zs, e1, e2⟩ := hz
  obtain ⟨l, rfl⟩ := ints_u8 e2
  refine ⟨l, ?_, ?_⟩
  · have := congrArg List.length e1
    simp at this; omega
  · congr 1
    apply Array.ext'
    rw [e1]; simp
end Go.Kw

namespace Go.Kw
open Go Go.ChangeShapes Go.WideShapes
set_option linter.unusedVariables false
variable {H : Type} {enc : TypeId × Value → H} {P : Program}
/-- A []byte argument. -/
theorem arg_sl8 {W : World} {t e : TypeId} {b0 : Nat} {r : Reach} {v : Value} {d : DataW H} {ps : List MemPlace} {base : Nat} {sp : Nat → Bool} {held : Bool} (ht : P.underlying t = some (.slice e)) (he : P.underlying e = some (.int .u8)) (hc : P.cellsOf e = 1)
    (hval : Value.okWide P W r b0 t v) (hd : DataW.Trod enc P W base sp held t v d ps) :
    ∃ l : List UInt8, VRel P (fun _ => none) (fun c => c < W.heap.size) W (VS AVal.u8 false l) v := by
  obtain ⟨fuel, hf⟩ := hd
  have hcell : v.cells.toList = [v] := by
    simp only [Value.okWide, ht] at hval
    cases v <;> first | rfl | (simp [Cell.okWide, Cell.ok, ht] at hval)
  rw [hcell] at hf
  rcases open_ints ht he hc hf with ⟨h1, _⟩ | ⟨a, len, cap, zs, h1, _, hlc, _, hzl, _, hcells, hwf⟩
  · simp only [List.cons.injEq, and_true] at h1
    refine ⟨[], ?_⟩
    simp only [VRel]
    exact ⟨none, 0, by simpa using h1, Nat.le_refl _, by simp, .inl rfl⟩
  · simp only [List.cons.injEq, and_true] at h1
    have hlen : len ≤ zs.length := by rw [hzl]; split <;> omega
    obtain ⟨l, hl⟩ := ints_u8 (zs := zs.take len) fun n hn => wf_u8 (hwf n (List.mem_of_mem_take hn))
    have hll : l.length = len := by
      have := congrArg List.length hl
      simp at this; omega
    refine ⟨l, ?_⟩
    simp only [VRel]
    refine ⟨some a, cap, by rw [h1, hll], by omega, by simp, ?_⟩
    by_cases h0 : l = []
    · left; simp [h0]
    · right
      have hpos : 0 < len := by rw [← hll]; exact List.length_pos_iff.2 h0
      have hc0 := hcells 0 (by omega)
      obtain ⟨bk, off, spot⟩ := a
      have ha0 : (⟨bk, off, spot⟩ : Addr).add 0 = ⟨bk, off, spot⟩ := by simp [Addr.add]
      rw [ha0] at hc0
      have hspot : spot = none := by
        cases spot with
        | none => rfl
        | some x =>
          simp only [World.cell?] at hc0
          split at hc0 <;> simp at hc0
      subst hspot
      have hlt : bk < W.heap.size := by
        simp only [World.cell?] at hc0
        split at hc0
        · rename_i h; exact (Array.getElem?_eq_some_iff.1 h).1
        · cases hc0
      refine ⟨bk, off, l.map fun b => Value.int .u8 (b.toNat : Int), rfl, hlt, ?_, rels_u8 l⟩
      intro i hi
      have hi' : i < l.length := by simpa using hi
      have hci := hcells i (by omega)
      rw [addr_add] at hci
      rw [hci]
      have hz : zs.getD i 0 = ((l.map fun b => (b.toNat : Int))).getD i 0 := by
        rw [← hl]
        simp [List.getElem?_take, show i < len by omega]
      rw [hz]
      simp [hi']
end Go.Kw

namespace Go.Kw
open Go Go.ChangeShapes Go.WideShapes
set_option linter.unusedVariables false
section
variable {H : Type} {enc : TypeId × Value → H} {P : Program}
theorem weightsAll_mem {e : TypeId} {d : DataW H} {y : Nat} (hy : y ∈ DataW.weights P e d) : ∀ {l : List (DataW H)}, d ∈ l → y ∈ DataW.weightsAll P e l
  | [], h => by cases h
  | c :: l, h => by
    simp only [DataW.weightsAll, List.mem_append]
    rcases List.mem_cons.1 h with rfl | h
    · exact .inl hy
    · exact .inr (weightsAll_mem hy h)
/-- Whatever reads as data of this type in this world is told by 'f' of something with 'Q'. -/
def Rd {α : Type} (enc : TypeId × Value → H) (P : Program) (W : World) (e : TypeId) (f : α → List AVal) (Q : α → Prop) : Prop :=
  ∀ base sp held fuel cs x, DataW.trod enc P W base sp held fuel e cs = some x → (∀ y ∈ DataW.weights P e x.1, y ≤ reachBytes) → cs.length = P.cellsOf e ∧ ∃ a, Q a ∧ VRels P (fun _ => none) (fun c => c < W.heap.size) W (f a) cs
variable {W : World} {t e : TypeId}
theorem Rd.u8 (he : P.underlying e = some (.int .u8)) (hc : P.cellsOf e = 1) : Rd enc P W e (fun b : UInt8 => [AVal.u8 b]) (fun _ => True) := by
  intro base sp held fuel cs x h _
  obtain ⟨n, rfl, _, hw⟩ := DataW.trod_int he h
  obtain ⟨b, rfl⟩ := int_u8 (wf_u8 hw)
  exact ⟨by simp [hc], b, trivial, by simp [VRels, VRel]⟩
theorem wf_i64 {n : Int} (h : (Lit.int .i64 n).wf = true) : -9223372036854775808 ≤ n ∧ n ≤ 9223372036854775807 := by
  simpa [Lit.wf, IntKind.min, IntKind.max, IntKind.signed, IntKind.bits] using h
theorem Rd.i64 (he : P.underlying e = some (.int .i64)) (hc : P.cellsOf e = 1) : Rd enc P W e (fun n : Int => [AVal.i n]) (fun n => -9223372036854775808 ≤ n ∧ n ≤ 9223372036854775807) := by
  intro base sp held fuel cs x h _
  obtain ⟨n, rfl, _, hw⟩ := DataW.trod_int he h
  exact ⟨by simp [hc], n, wf_i64 hw, by simp [VRels, VRel]⟩
theorem Rd.bool (he : P.underlying e = some .bool) (hc : P.cellsOf e = 1) : Rd enc P W e (fun b : Bool => [AVal.bool b]) (fun _ => True) := by
  intro base sp held fuel cs x h _
  obtain ⟨b, rfl, _⟩ := DataW.trod_bool he h
  exact ⟨by simp [hc], b, trivial, by simp [VRels, VRel]⟩
theorem Rd.str (he : P.underlying e = some .string) (hc : P.cellsOf e = 1) : Rd enc P W e (fun l : List UInt8 => [AVal.str l]) (fun l => l.length ≤ maxLen) := by
  intro base sp held fuel cs x h _
  obtain ⟨s, rfl, _, hs⟩ := DataW.trod_string he h
  refine ⟨by simp [hc], s.data.toList, by simpa using hs, by simp [VRels, VRel]⟩
/-- one after the other -/
theorem parts_rel {α : Type} {f : α → List AVal} {Q : α → Prop} {k : Nat} {ρ Im w} : ∀ (n : Nat) (vs : List Value), vs.length = n * k →
    (∀ i, i < n → ∃ a, Q a ∧ VRels P ρ Im w (f a) ((vs.drop (i * k)).take k)) → ∃ l : List α, l.length = n ∧ (∀ a ∈ l, Q a) ∧ VRels P ρ Im w (l.flatMap f) vs := by
  intro n
  induction n with
  | zero => intro vs hl h; exact ⟨[], rfl, by simp, by simp at hl; subst hl; simp [VRels]⟩
  | succ n ih =>
    intro vs hl h
    obtain ⟨a, ha, hr⟩ := h 0 (by omega)
    have hl' : (vs.drop k).length = n * k := by rw [List.length_drop, hl, Nat.succ_mul]; omega
    obtain ⟨l, h1, h2, h3⟩ := ih (vs.drop k) hl' fun i hi => by
      have := h (i + 1) (by omega)
      rwa [show (i + 1) * k = k + i * k by rw [Nat.succ_mul]; omega, ← List.drop_drop] at this
    refine ⟨a :: l, by simp [h1], by simpa using ⟨ha, h2⟩, ?_⟩
    simp only [Nat.zero_mul, List.drop_zero] at hr
    have := VRels.append hr h3
    rwa [List.take_append_drop] at this
theorem Rd.arr {α : Type} {f : α → List AVal} {Q : α → Prop} {n k : Nat} (hd : Rd enc P W e f Q) (ht : P.underlying t = some (.array n e)) (hk : P.cellsOf e = k) (hc : P.cellsOf t = n * k) :
    Rd enc P W t (fun l : List α => l.flatMap f) (fun l => l.length = n ∧ ∀ a ∈ l, Q a) := by
  intro base sp held fuel cs x h hw
  obtain ⟨xs, m, rfl, rfl, hl, hxl, hx⟩ := DataW.trod_array ht h
  refine ⟨hl, ?_⟩
  obtain ⟨l, h1, h2, h3⟩ := parts_rel (P := P) (f := f) (Q := Q) (k := k) (ρ := fun _ => none) (Im := fun c => c < W.heap.size) (w := W) n cs (by rw [hl, hc]) fun i hi => by
    have := hx i hi
    rw [hk, List.getElem?_eq_getElem (by omega)] at this
    refine (hd _ _ _ _ _ _ this fun y hy => hw y ?_).2
    simp only [DataW.weights, ht]
    exact weightsAll_mem hy (List.mem_map.2 ⟨_, List.getElem_mem _, rfl⟩)
  exact ⟨l, ⟨h1, h2⟩, h3⟩
theorem cell_lt {a : Addr} {v : Value} (h : W.cell? a = some v) : a.block < W.heap.size ∧ a.spot = none := by
  obtain ⟨bk, off, spot⟩ := a
  constructor
  · simp only [World.cell?] at h
    split at h
    · rename_i h'; exact (Array.getElem?_eq_some_iff.1 h').1
    · cases h
  · cases spot with
    | none => rfl
    | some x =>
      simp only [World.cell?] at h
      split at h <;> simp at h
theorem Rd.sl {α : Type} {f : α → List AVal} {Q : α → Prop} {k : Nat} (hd : Rd enc P W e f Q) (ht : P.underlying t = some (.slice e)) (hk : P.cellsOf e = k) (h0 : 0 < k) (hc : P.cellsOf t = 1) :
    Rd enc P W t (fun l : List α => [.vs l.length false (l.flatMap f)]) (fun l => l.length * P.bytesOf e ≤ reachBytes ∧ ∀ a ∈ l, Q a) := by
  intro base sp held fuel cs x h hw
  rcases DataW.trod_slice ht h with ⟨rfl, rfl⟩ | ⟨a, len, cap, elems, rest, m, rfl, rfl, rfl, hb, hlc, hcm, hel, he, _⟩
  · refine ⟨by simp [hc], [], ⟨by simp, by simp⟩, ?_⟩
    simp only [VRels, VRel]
    exact ⟨_, [], rfl, ⟨none, 0, rfl, Nat.le_refl _, by simp, .inl rfl⟩, rfl⟩
  · refine ⟨by simp [hc], ?_⟩
    have each : ∀ i, i < len → ∃ cs', W.cells? base (a.add (i * k)) k = some cs' ∧ cs'.length = k ∧ ∃ y, Q y ∧ VRels P (fun _ => none) (fun c => c < W.heap.size) W (f y) cs' := by
      intro i hi
      have := he i hi
      rw [hk, List.getElem?_eq_getElem (by omega), Option.bind_eq_some_iff] at this
      obtain ⟨cs', h1, h2⟩ := this
      obtain ⟨h3, h4⟩ := hd _ _ _ _ _ _ h2 fun y hy => hw y (by
        simp only [DataW.weights, ht, List.mem_cons, List.mem_append]
        exact .inr (.inl (weightsAll_mem hy (List.mem_map.2 ⟨_, List.getElem_mem _, rfl⟩))))
      exact ⟨cs', h1, by rw [h3, hk], h4⟩
    rcases Nat.eq_zero_or_pos len with hz | hpos
    · subst hz
      refine ⟨[], ⟨by simp, by simp⟩, ?_⟩
      simp only [VRels, VRel]
      exact ⟨_, [], rfl, ⟨some a, cap, rfl, by simp, by simp, .inl rfl⟩, rfl⟩
    · obtain ⟨bk, off, spot⟩ := a
      have hs : bk < W.heap.size ∧ spot = none := by
        obtain ⟨cs', h1, h2, _⟩ := each 0 hpos
        obtain ⟨_, h3, h4⟩ := World.cells?_some h1
        have := h4 0 h0
        rw [Nat.zero_mul, show ((⟨bk, off, spot⟩ : Addr).add 0).add 0 = ⟨bk, off, spot⟩ by simp [Addr.add], List.getElem?_eq_getElem (by omega)] at this
        exact cell_lt this
      obtain ⟨hlt, hspot⟩ := hs
      subst hspot
      have hcell : ∀ i j, i < len → j < k → ∃ v, W.cell? ⟨bk, off + (i * k + j), none⟩ = some v := by
        intro i j hi hj
        obtain ⟨cs', h1, h2, _⟩ := each i hi
        obtain ⟨_, h3, h4⟩ := World.cells?_some h1
        have := h4 j hj
        rw [addr_add, addr_add, List.getElem?_eq_getElem (by omega)] at this
        exact ⟨_, by rw [← Nat.add_assoc]; exact this⟩
      let vals : List Value := (List.range (len * k)).map fun i => (W.cell? ⟨bk, off + i, none⟩).getD undef
      have hvl : vals.length = len * k := by simp [vals]
      have hreads : Reads W bk off vals := by
        intro i hi
        rw [hvl] at hi
        obtain ⟨v, hv⟩ := hcell (i / k) (i % k) (Nat.div_lt_of_lt_mul (by rwa [Nat.mul_comm])) (Nat.mod_lt _ h0)
        rw [show i / k * k + i % k = i by rw [Nat.mul_comm]; exact Nat.div_add_mod i k] at hv
        simp [vals, hv]
      obtain ⟨l, h1, h2, h3⟩ := parts_rel (P := P) (f := f) (Q := Q) (k := k) (ρ := fun _ => none) (Im := fun c => c < W.heap.size) (w := W) len vals hvl fun i hi => by
        obtain ⟨cs', g1, g2, y, g3, g4⟩ := each i hi
        refine ⟨y, g3, ?_⟩
        have : (vals.drop (i * k)).take k = cs' := by
          obtain ⟨_, g5, g6⟩ := World.cells?_some g1
          apply List.ext_getElem
          · have h9 : (i + 1) * k ≤ len * k := Nat.mul_le_mul_right k hi
            rw [Nat.succ_mul] at h9
            rw [List.length_take, List.length_drop, hvl, g2]; omega
          · intro j hj1 hj2
            have g7 := g6 j (by omega)
            rw [addr_add, addr_add] at g7
            simp [vals, ← Nat.add_assoc, g7, List.getElem?_eq_getElem hj2]
        rwa [this]
      have hown : len * P.bytesOf e ≤ reachBytes := by
        refine Nat.le_trans (Nat.mul_le_mul_right _ ?_) (hw ((elems.length + rest.length) * P.bytesOf e) ?_)
        · omega
        · simp [DataW.weights, ht]
      refine ⟨l, ⟨by rw [h1]; exact hown, h2⟩, ?_⟩
      simp only [VRels, VRel]
      refine ⟨_, [], rfl, ⟨some ⟨bk, off, none⟩, cap, by rw [h1], by omega, by simp, .inr ⟨bk, off, vals, rfl, hlt, hreads, h3⟩⟩, rfl⟩
/-- An argument. -/
theorem Rd.arg1 {f : AVal} {v : Value} (hv : v.cells.toList = [v]) (h : VRels P (fun _ => none) (fun c => c < W.heap.size) W [f] v.cells.toList) : VRel P (fun _ => none) (fun c => c < W.heap.size) W f v := by
  rw [hv] at h
  simp only [VRels] at h
  obtain ⟨v', vs', h1, h2, rfl⟩ := h
  simp only [List.cons.injEq, and_true] at h1
  rwa [h1]
theorem rels_one {ρ Im w} {f : AVal} {cs : List Value} (h : VRels P ρ Im w [f] cs) : ∃ v, cs = [v] ∧ VRel P ρ Im w f v := by
  simp only [VRels] at h
  obtain ⟨v, vs', rfl, h2, rfl⟩ := h
  exact ⟨v, rfl, h2⟩
theorem sl_cell {b0 : Nat} {r : Reach} {v : Value} (ht : P.underlying t = some (.slice e)) (hval : Value.okWide P W r b0 t v) : v.cells.toList = [v] := by
  simp only [Value.okWide, ht] at hval
  cases v <;> first | rfl | (simp [Cell.okWide, Cell.ok, ht] at hval)
theorem Rd.argS {α : Type} {f : α → AVal} {Q : α → Prop} (hd : Rd enc P W t (fun a => [f a]) Q) {b0 : Nat} {r : Reach} {v : Value} {d : DataW H} {ps : List MemPlace} {base : Nat} {sp : Nat → Bool} {held : Bool}
    (ht : P.underlying t = some (.slice e)) (hval : Value.okWide P W r b0 t v) (h : DataW.Trod enc P W base sp held t v d ps) (hw : ∀ y ∈ DataW.weights P t d, y ≤ reachBytes) : ∃ a, Q a ∧ VRel P (fun _ => none) (fun c => c < W.heap.size) W (f a) v := by
  obtain ⟨fuel, hf⟩ := h
  obtain ⟨_, a, h1, h2⟩ := hd _ _ _ _ _ _ hf hw
  exact ⟨a, h1, Rd.arg1 (sl_cell ht hval) h2⟩
theorem Rd.argA {α : Type} {f : α → List AVal} {Q : α → Prop} {n : Nat} (hd : Rd enc P W t f Q) {b0 : Nat} {r : Reach} {v : Value} {d : DataW H} {ps : List MemPlace} {base : Nat} {sp : Nat → Bool} {held : Bool}
    (ht : P.underlying t = some (.array n e)) (hval : Value.okWide P W r b0 t v) (h : DataW.Trod enc P W base sp held t v d ps) (hw : ∀ y ∈ DataW.weights P t d, y ≤ reachBytes) : ∃ a, Q a ∧ VRel P (fun _ => none) (fun c => c < W.heap.size) W (.agg (f a)) v := by
  obtain ⟨fuel, hf⟩ := h
  simp only [Value.okWide, ht] at hval
  obtain ⟨cs, rfl, _⟩ := hval
  obtain ⟨_, a, h1, h2⟩ := hd _ _ _ _ _ _ hf hw
  refine ⟨a, h1, ?_⟩
  simp only [VRel]
  exact ⟨cs, rfl, by simpa [Value.cells] using h2⟩
end
end Go.Kw

namespace Go.Kw
set_option linter.unusedVariables false
set_option linter.unusedSimpArgs false
variable {P : Program}

/-! ### Cells in segments -/
section
variable {α : Type} {f : α → AVal} {A A' B B' X vs cells : List AVal} {v : AVal} {l l2 : List α}
theorem sgN (n i : Nat) {m : Nat} (hm : m = n + i) (hn : A.length = n) (h : B[i]? = some v) : (A ++ B)[m]? = some v := by
  subst hm hn; rw [List.getElem?_append_right (Nat.le_add_right _ _)]; simpa using h
theorem sgH {i : Nat} (h : A[i]? = some v) : (A ++ B)[i]? = some v := by
  obtain ⟨h1, h2⟩ := List.getElem?_eq_some_iff.1 h
  rw [List.getElem?_append_left h1, h]
theorem suN (n i : Nat) {m : Nat} (hm : m = n + i) (hn : A.length = n) (h : B.set i v = B') : (A ++ B).set m v = A ++ B' := by
  subst hm hn; rw [List.set_append_right _ _ (Nat.le_add_right _ _)]; simp [h]
theorem suH {i : Nat} (hi : i < A.length) (h : A.set i v = A') : (A ++ B).set i v = A' ++ B := by
  rw [List.set_append_left _ _ hi, h]
theorem suM {i : Nat} (x : α) : (l.map f).set i (f x) = (l.set i x).map f := List.map_set.symm
theorem prN (n i : Nat) {m k : Nat} (hm : m = n + i) (hn : A.length = n) (h : (B.drop i).take k = X) : ((A ++ B).drop m).take k = X := by
  subst hm hn; rw [List.drop_append, List.drop_eq_nil_of_le (show A.length ≤ A.length + i by omega)]; simpa using h
theorem prH {i k : Nat} (hi : i + k ≤ A.length) (h : (A.drop i).take k = X) : ((A ++ B).drop i).take k = X := by
  rw [List.drop_append_of_le_length (by omega), List.take_append_of_le_length (by simp; omega), h]
theorem prW {k : Nat} (hk : A.length = k) : (A.drop 0).take k = A := by
  rw [List.drop_zero, List.take_of_length_le (by omega)]
theorem prM {i k : Nat} : ((l.map f).drop i).take k = ((l.drop i).take k).map f := by simp [List.map_take, List.map_drop]
theorem puN (n i : Nat) {m k : Nat} (hm : m = n + i) (hn : A.length = n) (h : B.take i ++ vs ++ B.drop (i + k) = B') : (A ++ B).take m ++ vs ++ (A ++ B).drop (m + k) = A ++ B' := by
  subst hm hn
  rw [List.take_append, List.drop_append, List.take_of_length_le (by omega), List.drop_eq_nil_of_le (show A.length ≤ A.length + i + k by omega), ← h]
  simp [show A.length + i + k - A.length = i + k by omega]
theorem puH {i k : Nat} (hi : i + k ≤ A.length) (h : A.take i ++ vs ++ A.drop (i + k) = A') : (A ++ B).take i ++ vs ++ (A ++ B).drop (i + k) = A' ++ B := by
  rw [List.take_append_of_le_length (by omega), List.drop_append_of_le_length (by omega), ← h]
  simp
theorem puW {k : Nat} (hk : A.length = k) : A.take 0 ++ vs ++ A.drop (0 + k) = vs := by
  rw [List.drop_eq_nil_of_le (by omega)]; simp
theorem puM {i k : Nat} : (l.map f).take i ++ l2.map f ++ (l.map f).drop (i + k) = (l.take i ++ l2 ++ l.drop (i + k)).map f := by simp [List.map_take, List.map_drop]
theorem puMt {i k : Nat} : (l.map f).take i ++ (l2.map f).take k ++ (l.map f).drop (i + k) = (l.take i ++ l2.take k ++ l.drop (i + k)).map f := by simp [List.map_take, List.map_drop]
end

section
variable {α : Type} {f : α → AVal} {o : Oper} {x y z : Operand} {t t' T : TypeId} {v u : AVal} {b off k len sz n m r : Nat} {full f' : Bool} {cells vs X : List AVal} {i j : Int} {q : IntKind} {ts : Array TypeId} {l l2 : List α} {e : TypeId} {by' : Nat}
theorem op_fieldE {s fd d : Nat} (ho : o.op = .fieldAddr s x fd) (hf : fieldT P s fd = some d) (hm : off + d = m) : OpV P o [.ptr b off] [] [] (.ptr b m) [] := by
  subst hm; exact op_field ho hf
theorem op_fieldVE {s fd d : Nat} (ho : o.op = .fieldAddr s x fd) (hf : fieldT P s fd = some d) (hm : off + d = m) : OpV P o [.vptr cells off] [] [] (.vptr cells m) [] := by
  subst hm; exact op_fieldV ho hf
theorem op_iAo (m : Nat) (ho : o.op = .indexAddr t x y) (ht : arrT P t = some (n, e, sz)) (hi : i = m) (hm : m < n) (hr : off + m * sz = r) : OpV P o [.ptr b off, .int q i] [] [] (.ptr b r) [] := by
  have := op_idxA (P := P) (b := b) (off := off) (i := i) (q := q) ho ht (by omega) (by omega)
  subst hi hr
  simpa using this
theorem op_iVAo (m : Nat) (ho : o.op = .indexAddr t x y) (ht : arrT P t = some (n, e, sz)) (hi : i = m) (hm : m < n) (hr : off + m * sz = r) : OpV P o [.vptr cells off, .int q i] [] [] (.vptr cells r) [] := by
  have := op_idxVA (P := P) (cells := cells) (off := off) (i := i) (q := q) ho ht (by omega) (by omega)
  subst hi hr
  simpa using this
theorem op_iOo (m : Nat) (ho : o.op = .indexAddr t x y) (ht : slT P t = some (e, sz, by')) (hi : i = m) (hm : m < len) (hr : off + m * sz = r) : OpV P o [.os b off len sz full, .int q i] [] [] (.ptr b r) [] := by
  have := op_idxO (P := P) (b := b) (off := off) (len := len) (k := sz) (full := full) (i := i) (q := q) ho ht (by omega) (by omega)
  subst hi hr
  simpa using this
theorem op_iVo (m : Nat) (ho : o.op = .indexAddr t x y) (ht : slT P t = some (e, sz, by')) (hi : i = m) (hm : m < len) (hc : cells ≠ []) (hr : m * sz = r) : OpV P o [.vs len full cells, .int q i] [] [] (.vptr cells r) [] := by
  have := op_idxV (P := P) (len := len) (full := full) (cells := cells) (i := i) (q := q) ho ht (by omega) (by omega) hc
  subst hi hr
  simpa using this
theorem op_loadG (ho : o.op = .load t x) (ht : aggT P t = some k) (hk : off + k ≤ cells.length) (hX : (cells.drop off).take k = X) : OpV P o [.ptr b off] [(b, .vec T cells)] [] (.agg X) [(b, .vec T cells)] := by
  subst hX; exact op_loadA ho ht hk
theorem op_loadVG (ho : o.op = .load t x) (ht : aggT P t = some k) (hk : off + k ≤ cells.length) (hX : (cells.drop off).take k = X) : OpV P o [.vptr cells off] [] [] (.agg X) [] := by
  subst hX; exact op_loadVA ho ht hk
theorem op_storeX (ho : o.op = .store t x y) (ht : scalT P t = true) (hs : v.scalar = true) (hc : off < cells.length) (hX : cells.set off v = X) : OpV P o [.ptr b off, v] [(b, .vec T cells)] [] (.tup []) [(b, .vec T X)] := by
  subst hX; exact op_store ho ht hs hc
theorem op_storeG (ho : o.op = .store t x y) (ht : aggT P t = some k) (hk : vs.length = k) (hs : vs.all AVal.scalar = true) (hc : off + k ≤ cells.length) (hX : cells.take off ++ vs ++ cells.drop (off + k) = X) :
    OpV P o [.ptr b off, .agg vs] [(b, .vec T cells)] [] (.tup []) [(b, .vec T X)] := by
  subst hX; exact op_storeA ho ht hk hs hc
theorem op_sAo00 (ho : o.op = .slice t x none none none) (ht : arrT P t = some (n, e, 1)) (hc : off + n ≤ cells.length) : OpV P o [.ptr b off] [(b, .vec T cells)] [] (.os b off n 1 true) [(b, .vec T cells)] := by
  have := op_slA (P := P) (q := .i64) (b := b) (off := off) (T := T) (cells := cells) (li := none) (hI := none) (mi := none) (full := true) ho ht rfl rfl rfl (by simp) trivial trivial trivial (fun _ => rfl) (by omega)
  simpa [optV, bnd] using this
theorem op_sAo10 (lo : Nat) {y : Operand} (ho : o.op = .slice t x (some y) none none) (ht : arrT P t = some (n, e, 1)) (hi : i = lo) (hlo : lo ≤ n) (hc : off + n ≤ cells.length) (hr : off + lo = r) :
    OpV P o [.ptr b off, .int q i] [(b, .vec T cells)] [] (.os b r (n - lo) 1 true) [(b, .vec T cells)] := by
  subst hi hr
  have := op_slA (P := P) (q := q) (b := b) (off := off) (T := T) (cells := cells) (li := some (lo : Int)) (hI := none) (mi := none) (full := true) ho ht rfl rfl rfl (by simp) trivial trivial ⟨by omega, by simpa [bnd] using hlo⟩ (fun _ => rfl) (by omega)
  simpa [optV, bnd] using this
theorem op_sAo01 (hi : Nat) {z : Operand} (ho : o.op = .slice t x none (some z) none) (ht : arrT P t = some (n, e, 1)) (h2 : j = hi) (hhi : hi ≤ n) (hc : off + n ≤ cells.length) :
    OpV P o [.ptr b off, .int q j] [(b, .vec T cells)] [] (.os b off hi 1 false) [(b, .vec T cells)] := by
  subst h2
  have := op_slA (P := P) (q := q) (b := b) (off := off) (T := T) (cells := cells) (li := none) (hI := some (hi : Int)) (mi := none) (full := false) ho ht rfl rfl rfl (by simp) trivial ⟨by omega, by simpa [bnd] using hhi⟩ (by simp [inB, bnd]) (by simp) (by omega)
  simpa [optV, bnd] using this
theorem op_copyG {t0 : TypeId} (hs : ∀ a, (f a).scalar = true) (ho : o.op = .call { callee := .builtin .copy, args := #[x, y], argTypes := ts }) (ht0 : ts[0]? = some t0) (ht : slT P t0 = some (e, 1, by'))
    (hc : off + len ≤ cells.length) (hm : min l2.length len = m) (hX : cells.take off ++ (l2.map f).take m ++ cells.drop (off + m) = X) :
    OpV P o [.os b off len 1 full, VS f f' l2] [(b, .vec T cells)] [] (.i (m : Nat)) [(b, .vec T X)] := by
  subst hm hX
  have := op_copyV (P := P) (b := b) (T := T) (off := off) (len := len) (m := l2.length) (full := full) (f' := f') (cells := cells) (src := l2.map f) ho ht0 ht (by simpa using hc) (by simp) (by simp [hs])
  simpa using this
theorem op_copyGO {t0 : TypeId} {c lo2 ml : Nat} {Tc : TypeId} (hs : ∀ a, (f a).scalar = true) (ho : o.op = .call { callee := .builtin .copy, args := #[x, y], argTypes := ts }) (ht0 : ts[0]? = some t0) (ht : slT P t0 = some (e, 1, by'))
    (hc : off + len ≤ cells.length) (hl : lo2 + ml ≤ l2.length) (hm : min ml len = m) (hX : cells.take off ++ (((l2.drop lo2).take m).map f) ++ cells.drop (off + m) = X) :
    OpV P o [.os b off len 1 full, .os c lo2 ml 1 f'] [(b, .vec T cells), (c, .vec Tc (l2.map f))] [] (.i (m : Nat)) [(b, .vec T X), (c, .vec Tc (l2.map f))] := by
  subst hm hX
  have := op_copyO (P := P) (b := b) (T := T) (c := c) (Tc := Tc) (off := off) (len := len) (m := ml) (offc := lo2) (full := full) (f' := f') (cells := cells) (cs2 := l2.map f) ho ht0 ht (by simpa using hc) (by simpa using hl)
    (by simp only [List.all_eq_true]; intro a ha; obtain ⟨w, _, rfl⟩ := List.mem_map.1 (List.mem_of_mem_drop (List.mem_of_mem_take ha)); exact hs w)
  simpa [List.map_take, List.map_drop, List.take_take] using this
/-! arrays of octets against each other -/
theorem samesB_map8 : ∀ {l l2 : List UInt8}, l.length = l2.length → samesB (l.map AVal.u8) (l2.map AVal.u8) = (l == l2)
  | [], [], _ => rfl
  | a :: l, b :: l2, h => by
    simp only [List.map_cons, samesB, sameB]
    rw [samesB_map8 (by simpa using h), show (a :: l == b :: l2) = (a == b && l == l2) from rfl]
    congr 1
    rw [Bool.eq_iff_iff]
    simp only [beq_iff_eq]
    exact ⟨fun h => UInt8.toNat_inj.1 (by omega), fun h => by rw [h]⟩
  | [], _ :: _, h => by simp at h
  | _ :: _, [], h => by simp at h
theorem fitsB_map8 {k : Nat} : ∀ {n : Nat} {l : List UInt8}, l.length = n → fitsB (List.replicate n (.int .u8)) (l.map AVal.u8) = true
  | 0, [], _ => rfl
  | n + 1, a :: l, h => by
    simp only [List.replicate_succ, List.map_cons, fitsB, fitB, beq_self_eq_true, Bool.true_and]
    exact fitsB_map8 (k := k) (by simpa using h)
  | 0, _ :: _, h => by simp at h
  | n + 1, [], h => by simp at h
def arr8T (P : Program) (t : TypeId) (n : Nat) : Bool := match P.underlying t with
  | some (.array m e) => (match P.underlying e with | some (.int .u8) => Nat.beq m n && Nat.beq (P.cellsOf e) 1 && (P.info? e).isSome | _ => false) && (aggT P t).isSome && guardT P t
  | _ => false
theorem flat_single {α : Type} (a : α) : ∀ n, (List.replicate n [a]).flatten = List.replicate n a
  | 0 => rfl
  | n + 1 => by rw [List.replicate_succ, List.flatten_cons, flat_single a n]; rfl
theorem arr8_cmp {t : TypeId} {n : Nat} (h : arr8T P t n = true) : cmpT P 20 t = some (List.replicate n (.int .u8)) ∧ (aggT P t).isSome = true ∧ guardT P t = true := by
  unfold arr8T at h
  split at h
  · rename_i m e hu
    simp only [Bool.and_eq_true] at h
    obtain ⟨⟨h1, h2⟩, h3⟩ := h
    split at h1
    · rename_i he
      simp only [Bool.and_eq_true] at h1
      obtain ⟨⟨hm, hc⟩, hi⟩ := h1
      have hm := Nat.eq_of_beq_eq_true hm
      have hc := Nat.eq_of_beq_eq_true hc
      subst hm
      refine ⟨?_, h2, h3⟩
      have e1 : cmpT P 19 e = some [.int .u8] := by rw [cmpT]; simp [he]
      rw [cmpT]
      simp [hu, e1, hc, hi, flat_single]
    · cases h1
  · cases h
theorem op_eqA8 {l l2 : List UInt8} (ho : o.op = .binOp .eql t x y t') (ht : arr8T P t n = true) (h1 : l.length = n) (h2 : l2.length = n) : OpV P o [.agg (l.map AVal.u8), .agg (l2.map AVal.u8)] [] [] (.bool (l == l2)) [] := by
  have ht := arr8_cmp ht
  have := op_eqA (P := P) ho ht.1 ht.2.1 ht.2.2 (fitsB_map8 (k := 0) h1) (fitsB_map8 (k := 0) h2)
  rwa [samesB_map8 (by omega)] at this
theorem op_neqA8 {l l2 : List UInt8} (ho : o.op = .binOp .neq t x y t') (ht : arr8T P t n = true) (h1 : l.length = n) (h2 : l2.length = n) : OpV P o [.agg (l.map AVal.u8), .agg (l2.map AVal.u8)] [] [] (.bool (!(l == l2))) [] := by
  have ht := arr8_cmp ht
  have := op_neqA (P := P) ho ht.1 ht.2.1 ht.2.2 (fitsB_map8 (k := 0) h1) (fitsB_map8 (k := 0) h2)
  rwa [samesB_map8 (by omega)] at this
theorem op_neqNil {b off : Nat} (ho : o.op = .binOp .neq t x y t') {e : TypeId} (ht : P.underlying t = some (.pointer e)) : OpV P o [.ptr b off, .nilp] [] [] (.bool true) [] :=
  op2 (x := x) (y := y) (by rw [ho]; rfl) fun ρ Im w ac hv hu => by
    simp only [VRel] at hv hu ⊢
    obtain ⟨c, _, h2⟩ := hv
    exact ⟨.bool true, by simp [execOp, ho, h2, hu, eqGuard, binOp, run_eqPN ht], rfl⟩
theorem op_neqNilNil (ho : o.op = .binOp .neq t x y t') {e : TypeId} (ht : P.underlying t = some (.pointer e)) : OpV P o [.nilp, .nilp] [] [] (.bool false) [] :=
  op2 (x := x) (y := y) (by rw [ho]; rfl) fun ρ Im w ac hv hu => by
    simp only [VRel] at hv hu ⊢
    exact ⟨.bool false, by simp [execOp, ho, hv, hu, eqGuard, binOp, run_eqPN ht], rfl⟩
end
end Go.Kw

namespace Go.Kw
set_option linter.unusedVariables false
set_option linter.unusedSimpArgs false
variable {P : Program}
section
variable {fn : Func} {n : Nat} {new : List Nat} {R : AVal → AHeap → Prop} {env : Env} {h : AHeap} {todo : List Item}
/-- An empty slice: nil or not. -/
theorem WP.caseNil (t : Nat) (full : Bool) (ht : env.get t = some (.vs 0 full [])) (hw : ∀ nil, WP P fn n new R todo ((t, .ns nil) :: env) h) : WP P fn n new R todo env h := by
  intro ρ Im w a b cs sup s fr he hn hd
  have hv := he t _ ht
  simp only [VRel] at hv
  obtain ⟨ad, cap, h1, _⟩ := hv
  refine hw ad.isNone ρ Im w a b cs sup s fr ?_ hn hd
  intro x v hx
  simp only [Env.get] at hx
  cases hb : Nat.beq t x with
  | true =>
    have := Nat.eq_of_beq_eq_true hb
    subst this
    simp only [hb, cond_true, Option.some.injEq] at hx
    subst hx
    simp only [VRel]
    exact ⟨ad, cap, h1, rfl⟩
  | false =>
    simp only [hb, cond_false] at hx
    exact he _ _ hx
theorem WP.backNil (t : Nat) (nil : Bool) (ht : env.get t = some (.ns nil)) (hw : WP P fn n new R todo ((t, .vs 0 false []) :: env) h) : WP P fn n new R todo env h := by
  intro ρ Im w a b cs sup s fr he hn hd
  have hv := he t _ ht
  simp only [VRel] at hv
  obtain ⟨ad, cap, h1, _⟩ := hv
  refine hw ρ Im w a b cs sup s fr ?_ hn hd
  intro x v hx
  simp only [Env.get] at hx
  cases hb : Nat.beq t x with
  | true =>
    have := Nat.eq_of_beq_eq_true hb
    subst this
    simp only [hb, cond_true, Option.some.injEq] at hx
    subst hx
    simp only [VRel]
    exact ⟨ad, cap, h1, by omega, by simp, .inl trivial⟩
  | false =>
    simp only [hb, cond_false] at hx
    exact he _ _ hx
end
section
variable {o : Oper} {x y : Operand} {t t' : TypeId}
theorem run_eqSN {w : World} {e : TypeId} (ht : P.underlying t = some (.slice e)) (ad : Option Addr) (n c : Nat) : (Op.equal t (.slice ad n c) (.slice none 0 0)).run P w = .ok ad.isNone w := by
  have : ∀ d, (Op.equalIn (d + 1) t (.slice ad n c) (.slice none 0 0)).run P w = .ok ad.isNone w := by
    intro d
    cases ad <;> simp [Op.equalIn, run_underlying ht]
  exact this 9999
theorem op_eqNs {nil : Bool} {u : AVal} {e : TypeId} (ho : o.op = .binOp .eql t x (.const (.slice none 0 0)) t') (ht : P.underlying t = some (.slice e)) : OpV P o [.ns nil, u] [] [] (.bool nil) [] :=
  op2 (x := x) (y := .const (.slice none 0 0)) (by rw [ho]; rfl) fun ρ Im w ac hv hu => by
    simp only [VRel] at hv ⊢
    obtain ⟨ad, cap, h1, h2⟩ := hv
    have he : ac.eval (.const (.slice none 0 0)) = .slice none 0 0 := rfl
    exact ⟨.bool nil, by simp [execOp, ho, h1, he, eqGuard, binOp, run_eqSN ht, h2], rfl⟩
theorem op_eqVNil {u : AVal} {len : Nat} {full : Bool} {cells : List AVal} {e : TypeId} (ho : o.op = .binOp .eql t x (.const (.slice none 0 0)) t') (ht : P.underlying t = some (.slice e)) (hc : cells ≠ []) : OpV P o [.vs len full cells, u] [] [] (.bool false) [] :=
  op2 (x := x) (y := .const (.slice none 0 0)) (by rw [ho]; rfl) fun ρ Im w ac hv hu => by
    simp only [VRel] at hv ⊢
    obtain ⟨ad, cap, h1, _, _, h4⟩ := hv
    rcases h4 with h4 | ⟨c, base, vals, rfl, _⟩
    · exact absurd h4 hc
    · have he : ac.eval (.const (.slice none 0 0)) = .slice none 0 0 := rfl
      exact ⟨.bool false, by simp [execOp, ho, h1, he, eqGuard, binOp, run_eqSN ht], rfl⟩
end
section
variable {fn : Func} {n : Nat} {new : List Nat} {R : AVal → AHeap → Prop} {env : Env} {h : AHeap} {k : List Item} {c : Code}
/-- A loop with two phases: behind a round of the first one, one of the second may follow. -/
theorem WP.loopPh {α β : Type} (E : α → Env) (H : α → AHeap) (I : α → Prop) (m : α → Nat) (x0 : α) (he : subE (E x0) env) (hh : List.Sublist (H x0) h) (h0 : I x0)
    (E2 : β → Env) (H2 : β → AHeap) (I2 : β → Prop) (m2 : β → Nat)
    (step2 : ∀ x, I2 x → (∀ y, I2 y → m2 y < m2 x → WP P fn n new R (.inLoop c :: k) (E2 y) (H2 y)) → WP P fn n new R (.code c :: .inLoop c :: k) (E2 x) (H2 x))
    (step : ∀ x, I x → (∀ y, I2 y → WP P fn n new R (.inLoop c :: k) (E2 y) (H2 y)) → (∀ y, I y → m y < m x → WP P fn n new R (.inLoop c :: k) (E y) (H y)) → WP P fn n new R (.code c :: .inLoop c :: k) (E x) (H x)) :
    WP P fn n new R (.code (.loop c) :: k) env h := by
  have key2 : ∀ M x, m2 x ≤ M → I2 x → WP P fn n new R (.code c :: .inLoop c :: k) (E2 x) (H2 x) := by
    intro M
    induction M with
    | zero => intro x hm hI; exact step2 x hI fun y _ hlt => absurd hlt (by omega)
    | succ M ih => intro x hm hI; exact step2 x hI fun y hy hlt => WP.inLoop (ih y (by omega) hy)
  have all2 : ∀ y, I2 y → WP P fn n new R (.inLoop c :: k) (E2 y) (H2 y) := fun y hy => WP.inLoop (key2 _ y (Nat.le_refl _) hy)
  exact WP.loopX E H I m x0 he hh h0 fun x hI hn => step x hI all2 hn
end
/-! append of zeros -/
section
variable {o : Oper} {x y : Operand} {T : TypeId} {b b' len n m : Nat} {full : Bool} {cells : List AVal} {ts : Array TypeId} {l : List UInt8}
theorem zeroCells_8 (m : Nat) : Builtin.zeroCells #[Value.int .u8 0] m = ((List.replicate m (0 : UInt8)).map fun b => Value.int .u8 (b.toNat : Int)).toArray := by
  have : ((List.replicate m (0 : UInt8)).map fun b => Value.int .u8 (b.toNat : Int)) = List.replicate m (Value.int .u8 0) := by simp
  rw [this]
  apply Array.ext'
  simp only [Builtin.zeroCells, List.size_toArray, List.length_singleton, Nat.mul_one, Nat.mod_one, Array.toList_map, Array.toList_range]
  show (List.range m).map (fun _ => Value.int .u8 0) = _
  rw [List.map_const']; simp
theorem run_append_zeros {w : World} {cap n : Nat} {ad : Option Addr} {ty t0 tS tI : TypeId} {i : TypeInfo} {z : Value} (hT : AppT P #[t0, tS] T 1 1 t0 tS i z) (hS : P.underlying tS = some .string)
    (hI : P.underlying tI = some (.int .i64)) (hz : z.cells = #[Value.int .u8 0]) (hn : 0 < n) (hfit : (len + n) * 1 ≤ 140737488355328) :
    (Builtin.append_ #[t0, tI] ty #[.slice ad len cap, .int .i64 (n : Int)]).run P w = (Builtin.append_ #[t0, tS] ty #[.slice ad len cap, .string ⟨(List.replicate n (0 : UInt8)).toArray⟩]).run P w := by
  have hb := hT.hbytes
  have hs := hT.hsize
  have hw : IntKind.i64.wrap (n : Int) = n := wrap_i64 (by omega) (by omega)
  have hsz : (⟨(List.replicate n (0 : UInt8)).toArray⟩ : ByteArray).size = n := by simp [ByteArray.size]
  have hnew : ∀ w', (Builtin.firstCells 1 n (.string ⟨(List.replicate n (0 : UInt8)).toArray⟩)).run P w' = .ok (Builtin.zeroCells #[Value.int .u8 0] n) w' := by
    intro w'
    have := extract_all (List.replicate n (0 : UInt8))
    rw [List.length_replicate] at this
    simp only [Builtin.firstCells, this, zeroCells_8]
    simp
  generalize (⟨(List.replicate n (0 : UInt8)).toArray⟩ : ByteArray) = st at hsz hnew ⊢
  have hneg : ¬ ((n : Int) < 0) := by omega
  have h48 : ¬ (281474976710656 < (n : Int)) := by omega
  have h0 : ¬ n = 0 := by omega
  by_cases hroom : len + n ≤ cap
  · cases ad <;>
      simp [Builtin.append_, Builtin.lenOf, asInt, asIntOf, run_underlying hT.und, run_underlying hS, run_underlying hI, sizeOf, typeInfo, hT.info, hs, hb, hw, hsz, hneg, h48, hroom, hnew, h0, zeroValue, hT.zero, hz]
  · have hz0 : cap < len + n := by omega
    have g48 : ¬ (281474976710656 < Builtin.nextslicecap (len + n) cap) := by
      have := growslice_fits (old := cap) hz0 hfit
      omega
    have hmax : ¬ (9223372036854775807 < (len : Int) + (n : Int)) := by omega
    simp [Builtin.append_, Builtin.lenOf, asInt, asIntOf, run_underlying hT.und, run_underlying hS, run_underlying hI, sizeOf, typeInfo, hT.info, hs, hb, hw, hsz, hneg, h48, hroom, hnew, h0, zeroValue, hT.zero, hz, g48, hmax]
theorem op_appZ {t0 tS tI : TypeId} (n : Nat) (ho : o.op = .call { callee := .builtin .append, args := #[x, y], argTypes := #[t0, tI] }) (ht : appT P #[t0, tS] = some (T, 1, 1)) (hS : P.underlying tS = some .string)
    (hI : P.underlying tI = some (.int .i64)) (hz : (P.info? T).bind (·.zero) = some (Value.int .u8 0)) (hn : 0 < n) (hl : l.length = len) (hfit : (len + n) * 1 ≤ 140737488355328) :
    OpV P o [.os b 0 len 1 full, .i (n : Int)] [(b, .vec T (l.map AVal.u8))] [b'] (.os b' 0 (len + n) 1 false) [(b', .vec T ((l ++ List.replicate n 0).map AVal.u8))] := by
  obtain ⟨u0, u1, i, z, hT⟩ := appT_spec ht
  have e0 : u0 = t0 := by have := hT.h0; simpa using this.symm
  have e1 : u1 = tS := by have := hT.h1; simpa using this.symm
  subst e0 e1
  have hzz : z.cells = #[Value.int .u8 0] := by
    rw [hT.info] at hz
    simp only [Option.bind_some, hT.zero, Option.some.injEq] at hz
    rw [hz]; rfl
  refine opApp ho fun ρ Im w a sup s fr hv hu => ?_
  have hu2 : VRel P ρ Im w (.str (List.replicate n (0 : UInt8))) (.string ⟨(List.replicate n (0 : UInt8)).toArray⟩) := by simp only [VRel]
  simp only [VRel] at hu
  have hsrc := srcOf_str (P := P) hu2
  rw [List.length_replicate] at hsrc
  obtain ⟨v', w', ρ', h1, h2, h3⟩ := append_core (ty := o.type) hT s fr hv (by simpa using hl) hsrc (by simp [AVal.scalar]) hfit
  refine ⟨v', w', ρ', ?_, h2, by simpa using h3⟩
  obtain ⟨ad, cap, hvv⟩ : ∃ ad cap, a.eval x = .slice ad len cap := by
    simp only [VRel] at hv
    rcases hv with ⟨_, rfl, ad, h⟩ | ⟨c, cap, _, _, _, h, _⟩
    · exact ⟨ad, 0, h⟩
    · exact ⟨_, cap, h⟩
  rw [hu, hvv, run_append_zeros hT hS hI hzz hn hfit, ← hvv]
  exact h1
end
end Go.Kw

namespace Go.Kw
set_option linter.unusedVariables false
set_option linter.unusedSimpArgs false
variable {P : Program}
theorem noRefs_append : ∀ {as bs : List AVal}, noRefs (as ++ bs) = (noRefs as && noRefs bs)
  | [], bs => by simp [noRefs]
  | a :: as, bs => by simp [noRefs, noRefs_append, Bool.and_assoc]
theorem noRefs_map {α : Type} {f : α → AVal} (hf : ∀ a, noRef (f a) = true) : ∀ {l : List α}, noRefs (l.map f) = true
  | [] => rfl
  | a :: l => by simp [noRefs, hf, noRefs_map hf]
theorem noRefs_8 {l : List UInt8} : noRefs (l.map AVal.u8) = true := noRefs_map fun _ => rfl
theorem noRefO_vec {T : TypeId} {cells : List AVal} (h : noRefs cells = true) {b : Nat} : noRefO ((b, AObj.vec T cells) : Nat × AObj).2 = true := h
theorem allS {α : Type} {f : α → AVal} (hf : ∀ a, (f a).scalar = true) {l : List α} : (l.map f).all AVal.scalar = true := by
  simp only [List.all_eq_true]; intro a ha; obtain ⟨w, _, rfl⟩ := List.mem_map.1 ha; exact hf w
theorem suO {u v : AVal} : [u].set 0 v = [v] := rfl
theorem toH1 {α : Type} {f : α → AVal} {l l' : List α} {b : Nat} {T : TypeId} (h : l = l') : [(b, AObj.vec T (l.map f))] = [(b, AObj.vec T (l'.map f))] := by rw [h]
theorem toH2 {α : Type} {f : α → AVal} {l l' : List α} {b : Nat} {T : TypeId} {x : Nat × AObj} (h : l = l') : [(b, AObj.vec T (l.map f)), x] = [(b, AObj.vec T (l'.map f)), x] := by rw [h]
theorem osN {b lo n n' sz : Nat} {full : Bool} (h : n = n') : AVal.os b lo n sz full = .os b lo n' sz full := by rw [h]
theorem noRef_8 {l : List UInt8} : noRef (.agg (l.map AVal.u8)) = true := noRefs_8
theorem ACalls.nsCase {f : FuncId} {full : Bool} {new : List Nat} {v : AVal} {h h' : AHeap} (hc : ∀ nil, ACalls P f [.ns nil] h new v h') : ACalls P f [.vs 0 full []] h new v h' := by
  intro ρ Im w as sup s fr hv
  simp only [VRels, VRel] at hv
  obtain ⟨u, us, h1, ⟨ad, cap, h2, _⟩, h3⟩ := hv
  refine hc ad.isNone ρ Im w as sup s fr ?_
  simp only [VRels, VRel]
  exact ⟨u, us, h1, ⟨ad, cap, h2, rfl⟩, h3⟩
theorem lend1n {f : FuncId} {a a' : AVal} {b : Nat} {T : TypeId} {cells : List AVal} {new : List Nat} {v : AVal} {x : Nat × AObj} (hx : noRefO x.2 = true) (hc : ACalls P f [a'] [] new v [x]) (hf : Frz b cells a a') (hv : noRef v = true) :
    ACalls P f [a] [(b, .vec T cells)] new v [(b, .vec T cells), x] := ACalls.lend hc (.cons hf .nil) hv (by simp [hx])
theorem ACalls.swap {f : FuncId} {args : List AVal} {x y x' y' : Nat × AObj} {new : List Nat} {v : AVal} (hc : ACalls P f args [x, y] new v [x', y']) : ACalls P f args [y, x] new v [y', x'] := by
  intro ρ Im w as sup s fr hv
  refine (hc ρ Im w as sup (s.perm (List.Perm.swap x y [])) fr hv).mono fun e w' he => ?_
  obtain ⟨v', ρ', Im', rfl, h1, h2⟩ := he
  exact ⟨v', ρ', Im', rfl, h1, (h2.permL (List.Perm.swap y x [])).permR (List.Perm.swap y' x' [])⟩
section
variable {α : Type} {g : α → AVal} {f : FuncId} {args args' : List AVal} {new : List Nat} {v : AVal} {b len lo sz : Nat} {T : TypeId} {l : List α} {cells : List AVal} {full : Bool}
/-- a part of a block, as data -/
theorem frz_part (h : lo + len ≤ l.length) : Frz b (l.map g) (.os b lo len 1 full) (VS g full ((l.drop lo).take len)) := by
  have := Frz.os (b := b) (cells := l.map g) lo len 1 full (by simpa using h)
  have e : ((l.drop lo).take len).length = len := by simp; omega
  simpa [VS, List.map_take, List.map_drop, e, Nat.min_eq_left (show len ≤ l.length - lo by omega)] using this
/-- the second argument's block is lent; the first one's is changed -/
theorem lend21 {a a2 a2' : AVal} {x x' : Nat × AObj} (hc : ACalls P f [a, a2'] [x] [] v [x']) (hf : Frz b cells a2 a2') (hv : noRef v = true) (hx : noRefO x'.2 = true) : ACalls P f [a, a2] [x, (b, .vec T cells)] [] v [x', (b, .vec T cells)] :=
  ACalls.swap (ACalls.lend hc (.cons (.refl _) (.cons hf .nil)) hv (by simp [hx]))
theorem lend11 {a2 a2' : AVal} (hc : ACalls P f [a2'] [] [] v []) (hf : Frz b cells a2 a2') (hv : noRef v = true) : ACalls P f [a2] [(b, .vec T cells)] [] v [(b, .vec T cells)] :=
  ACalls.lend hc (.cons hf .nil) hv rfl
theorem lend12 {a a2 a2' : AVal} (hc : ACalls P f [a, a2'] [] [] v []) (hf : Frz b cells a2 a2') (hv : noRef v = true) : ACalls P f [a, a2] [(b, .vec T cells)] [] v [(b, .vec T cells)] :=
  ACalls.lend hc (.cons (.refl _) (.cons hf .nil)) hv rfl
end
section
variable {o : Oper} {x y : Operand} {t e : TypeId} {b lo len by' : Nat} {full : Bool} {i : Int} {q : IntKind}
/-- part[lo:] of a slice in a block -/
theorem op_sO10 (k : Nat) {z : Operand} (ho : o.op = .slice t x (some z) none none) (ht : slT P t = some (e, 1, by')) (h2 : i = k) (hk : k ≤ len) (hp : 0 < len) {r m : Nat} (hr : lo + k = r) (hm : len - k = m) :
    OpV P o [.os b lo len 1 full, .int q i] [] [] (.os b r m 1 full) [] := by
  subst h2 hr hm
  refine op2 (x := x) (y := z) (by rw [ho]; simp [Op.operands]) fun ρ Im w a hv hu => ?_
  obtain ⟨hu1, hu2, _⟩ := slT_und ht
  simp only [VRel] at hv hu
  rcases hv with ⟨_, h0, _⟩ | ⟨c, cap, T', n', g1, g2, g3, g4, g5, g6⟩
  · omega
  have hr := run_bounds (P := P) (q := q) (w := w) (isS := true) (len := len) (cap := cap) (lo := some (k : Int)) (hi := none) (mx := none) trivial trivial (by simp [inB, bnd]; omega) (by simp)
  by_cases hck : cap = k
  · subst hck
    refine ⟨.slice (some ⟨c, lo, none⟩) (len - cap) (cap - cap), ?_, ?_⟩
    · simp only [Option.map_none, Option.map_some] at hr
      simp [execOp, ho, g2, hu, Instr.sliceAt, Instr.slice, run_underlying hu1, hr, hu2, bnd, addr_add]
    · simp only [VRel]
      exact .inl ⟨⟨_, g1⟩, by omega, some ⟨c, lo, none⟩, by rw [show len - cap = 0 by omega, show cap - cap = 0 by omega]⟩
  · refine ⟨.slice (some ⟨c, lo + k, none⟩) (len - k) (cap - k), ?_, ?_⟩
    · simp only [Option.map_none, Option.map_some] at hr
      simp [execOp, ho, g2, hu, Instr.sliceAt, Instr.slice, run_underlying hu1, hr, hu2, bnd, addr_add, hck]
    · simp only [VRel]
      exact .inr ⟨c, cap - k, T', n', g1, rfl, by omega, fun h => by rw [g4 h], g5, by omega⟩
end
end Go.Kw

namespace Go.Kw
set_option linter.unusedVariables false
set_option linter.unusedSimpArgs false
variable {P : Program}
section
variable {fn : Func} {n : Nat} {new : List Nat} {R : AVal → AHeap → Prop} {env : Env} {h : AHeap} {k : List Item} {c : Code}
theorem WP.loopPh5_10 {A0 A1 A2 A3 A4 B0 B1 B2 B3 B4 B5 B6 B7 B8 B9 : Type} (E : A0 → A1 → A2 → A3 → A4 → Env) (H : A0 → A1 → A2 → A3 → A4 → AHeap) (I : A0 → A1 → A2 → A3 → A4 → Prop) (m : A0 → A1 → A2 → A3 → A4 → Nat) (a0 : A0) (a1 : A1) (a2 : A2) (a3 : A3) (a4 : A4) (he : subE (E a0 a1 a2 a3 a4) env) (hh : List.Sublist (H a0 a1 a2 a3 a4) h) (h0 : I a0 a1 a2 a3 a4)
    (E2 : B0 → B1 → B2 → B3 → B4 → B5 → B6 → B7 → B8 → B9 → Env) (H2 : B0 → B1 → B2 → B3 → B4 → B5 → B6 → B7 → B8 → B9 → AHeap) (I2 : B0 → B1 → B2 → B3 → B4 → B5 → B6 → B7 → B8 → B9 → Prop) (m2 : B0 → B1 → B2 → B3 → B4 → B5 → B6 → B7 → B8 → B9 → Nat)
    (step2 : ∀ b0 b1 b2 b3 b4 b5 b6 b7 b8 b9, I2 b0 b1 b2 b3 b4 b5 b6 b7 b8 b9 → (∀ y0 y1 y2 y3 y4 y5 y6 y7 y8 y9, I2 y0 y1 y2 y3 y4 y5 y6 y7 y8 y9 → m2 y0 y1 y2 y3 y4 y5 y6 y7 y8 y9 < m2 b0 b1 b2 b3 b4 b5 b6 b7 b8 b9 → WP P fn n new R (.inLoop c :: k) (E2 y0 y1 y2 y3 y4 y5 y6 y7 y8 y9) (H2 y0 y1 y2 y3 y4 y5 y6 y7 y8 y9)) → WP P fn n new R (.code c :: .inLoop c :: k) (E2 b0 b1 b2 b3 b4 b5 b6 b7 b8 b9) (H2 b0 b1 b2 b3 b4 b5 b6 b7 b8 b9))
    (step : ∀ a0 a1 a2 a3 a4, I a0 a1 a2 a3 a4 → (∀ y0 y1 y2 y3 y4 y5 y6 y7 y8 y9, I2 y0 y1 y2 y3 y4 y5 y6 y7 y8 y9 → WP P fn n new R (.inLoop c :: k) (E2 y0 y1 y2 y3 y4 y5 y6 y7 y8 y9) (H2 y0 y1 y2 y3 y4 y5 y6 y7 y8 y9)) → (∀ x0 x1 x2 x3 x4, I x0 x1 x2 x3 x4 → m x0 x1 x2 x3 x4 < m a0 a1 a2 a3 a4 → WP P fn n new R (.inLoop c :: k) (E x0 x1 x2 x3 x4) (H x0 x1 x2 x3 x4)) → WP P fn n new R (.code c :: .inLoop c :: k) (E a0 a1 a2 a3 a4) (H a0 a1 a2 a3 a4)) :
    WP P fn n new R (.code (.loop c) :: k) env h :=
  WP.loopPh (fun x : A0 × A1 × A2 × A3 × A4 => E x.1 x.2.1 x.2.2.1 x.2.2.2.1 x.2.2.2.2) (fun x => H x.1 x.2.1 x.2.2.1 x.2.2.2.1 x.2.2.2.2) (fun x => I x.1 x.2.1 x.2.2.1 x.2.2.2.1 x.2.2.2.2) (fun x => m x.1 x.2.1 x.2.2.1 x.2.2.2.1 x.2.2.2.2) (a0, a1, a2, a3, a4) he hh h0 (fun x : B0 × B1 × B2 × B3 × B4 × B5 × B6 × B7 × B8 × B9 => E2 x.1 x.2.1 x.2.2.1 x.2.2.2.1 x.2.2.2.2.1 x.2.2.2.2.2.1 x.2.2.2.2.2.2.1 x.2.2.2.2.2.2.2.1 x.2.2.2.2.2.2.2.2.1 x.2.2.2.2.2.2.2.2.2) (fun x => H2 x.1 x.2.1 x.2.2.1 x.2.2.2.1 x.2.2.2.2.1 x.2.2.2.2.2.1 x.2.2.2.2.2.2.1 x.2.2.2.2.2.2.2.1 x.2.2.2.2.2.2.2.2.1 x.2.2.2.2.2.2.2.2.2) (fun x => I2 x.1 x.2.1 x.2.2.1 x.2.2.2.1 x.2.2.2.2.1 x.2.2.2.2.2.1 x.2.2.2.2.2.2.1 x.2.2.2.2.2.2.2.1 x.2.2.2.2.2.2.2.2.1 x.2.2.2.2.2.2.2.2.2) (fun x => m2 x.1 x.2.1 x.2.2.1 x.2.2.2.1 x.2.2.2.2.1 x.2.2.2.2.2.1 x.2.2.2.2.2.2.1 x.2.2.2.2.2.2.2.1 x.2.2.2.2.2.2.2.2.1 x.2.2.2.2.2.2.2.2.2)
    (fun x hI hn => step2 x.1 x.2.1 x.2.2.1 x.2.2.2.1 x.2.2.2.2.1 x.2.2.2.2.2.1 x.2.2.2.2.2.2.1 x.2.2.2.2.2.2.2.1 x.2.2.2.2.2.2.2.2.1 x.2.2.2.2.2.2.2.2.2 hI fun y0 y1 y2 y3 y4 y5 y6 y7 y8 y9 h1 h2 => hn (y0, y1, y2, y3, y4, y5, y6, y7, y8, y9) h1 h2) (fun x hI hB hn => step x.1 x.2.1 x.2.2.1 x.2.2.2.1 x.2.2.2.2 hI (fun y0 y1 y2 y3 y4 y5 y6 y7 y8 y9 h1 => hB (y0, y1, y2, y3, y4, y5, y6, y7, y8, y9) h1) fun x0 x1 x2 x3 x4 h1 h2 => hn (x0, x1, x2, x3, x4) h1 h2)
theorem WP.loop5 {A0 A1 A2 A3 A4 : Type} (E : A0 → A1 → A2 → A3 → A4 → Env) (H : A0 → A1 → A2 → A3 → A4 → AHeap) (I : A0 → A1 → A2 → A3 → A4 → Prop) (m : A0 → A1 → A2 → A3 → A4 → Nat) (a0 : A0) (a1 : A1) (a2 : A2) (a3 : A3) (a4 : A4) (he : subE (E a0 a1 a2 a3 a4) env) (hh : List.Sublist (H a0 a1 a2 a3 a4) h) (h0 : I a0 a1 a2 a3 a4)
    (step : ∀ a0 a1 a2 a3 a4, I a0 a1 a2 a3 a4 → (∀ x0 x1 x2 x3 x4, I x0 x1 x2 x3 x4 → m x0 x1 x2 x3 x4 < m a0 a1 a2 a3 a4 → WP P fn n new R (.inLoop c :: k) (E x0 x1 x2 x3 x4) (H x0 x1 x2 x3 x4)) → WP P fn n new R (.code c :: .inLoop c :: k) (E a0 a1 a2 a3 a4) (H a0 a1 a2 a3 a4)) :
    WP P fn n new R (.code (.loop c) :: k) env h :=
  WP.loopX (fun x : A0 × A1 × A2 × A3 × A4 => E x.1 x.2.1 x.2.2.1 x.2.2.2.1 x.2.2.2.2) (fun x => H x.1 x.2.1 x.2.2.1 x.2.2.2.1 x.2.2.2.2) (fun x => I x.1 x.2.1 x.2.2.1 x.2.2.2.1 x.2.2.2.2) (fun x => m x.1 x.2.1 x.2.2.1 x.2.2.2.1 x.2.2.2.2) (a0, a1, a2, a3, a4) he hh h0 (fun x hI hn => step x.1 x.2.1 x.2.2.1 x.2.2.2.1 x.2.2.2.2 hI fun x0 x1 x2 x3 x4 h1 h2 => hn (x0, x1, x2, x3, x4) h1 h2)
theorem WP.loop6 {A0 A1 A2 A3 A4 A5 : Type} (E : A0 → A1 → A2 → A3 → A4 → A5 → Env) (H : A0 → A1 → A2 → A3 → A4 → A5 → AHeap) (I : A0 → A1 → A2 → A3 → A4 → A5 → Prop) (m : A0 → A1 → A2 → A3 → A4 → A5 → Nat) (a0 : A0) (a1 : A1) (a2 : A2) (a3 : A3) (a4 : A4) (a5 : A5) (he : subE (E a0 a1 a2 a3 a4 a5) env) (hh : List.Sublist (H a0 a1 a2 a3 a4 a5) h) (h0 : I a0 a1 a2 a3 a4 a5)
    (step : ∀ a0 a1 a2 a3 a4 a5, I a0 a1 a2 a3 a4 a5 → (∀ x0 x1 x2 x3 x4 x5, I x0 x1 x2 x3 x4 x5 → m x0 x1 x2 x3 x4 x5 < m a0 a1 a2 a3 a4 a5 → WP P fn n new R (.inLoop c :: k) (E x0 x1 x2 x3 x4 x5) (H x0 x1 x2 x3 x4 x5)) → WP P fn n new R (.code c :: .inLoop c :: k) (E a0 a1 a2 a3 a4 a5) (H a0 a1 a2 a3 a4 a5)) :
    WP P fn n new R (.code (.loop c) :: k) env h :=
  WP.loopX (fun x : A0 × A1 × A2 × A3 × A4 × A5 => E x.1 x.2.1 x.2.2.1 x.2.2.2.1 x.2.2.2.2.1 x.2.2.2.2.2) (fun x => H x.1 x.2.1 x.2.2.1 x.2.2.2.1 x.2.2.2.2.1 x.2.2.2.2.2) (fun x => I x.1 x.2.1 x.2.2.1 x.2.2.2.1 x.2.2.2.2.1 x.2.2.2.2.2) (fun x => m x.1 x.2.1 x.2.2.1 x.2.2.2.1 x.2.2.2.2.1 x.2.2.2.2.2) (a0, a1, a2, a3, a4, a5) he hh h0 (fun x hI hn => step x.1 x.2.1 x.2.2.1 x.2.2.2.1 x.2.2.2.2.1 x.2.2.2.2.2 hI fun x0 x1 x2 x3 x4 x5 h1 h2 => hn (x0, x1, x2, x3, x4, x5) h1 h2)
theorem WP.loop7 {A0 A1 A2 A3 A4 A5 A6 : Type} (E : A0 → A1 → A2 → A3 → A4 → A5 → A6 → Env) (H : A0 → A1 → A2 → A3 → A4 → A5 → A6 → AHeap) (I : A0 → A1 → A2 → A3 → A4 → A5 → A6 → Prop) (m : A0 → A1 → A2 → A3 → A4 → A5 → A6 → Nat) (a0 : A0) (a1 : A1) (a2 : A2) (a3 : A3) (a4 : A4) (a5 : A5) (a6 : A6) (he : subE (E a0 a1 a2 a3 a4 a5 a6) env) (hh : List.Sublist (H a0 a1 a2 a3 a4 a5 a6) h) (h0 : I a0 a1 a2 a3 a4 a5 a6)
    (step : ∀ a0 a1 a2 a3 a4 a5 a6, I a0 a1 a2 a3 a4 a5 a6 → (∀ x0 x1 x2 x3 x4 x5 x6, I x0 x1 x2 x3 x4 x5 x6 → m x0 x1 x2 x3 x4 x5 x6 < m a0 a1 a2 a3 a4 a5 a6 → WP P fn n new R (.inLoop c :: k) (E x0 x1 x2 x3 x4 x5 x6) (H x0 x1 x2 x3 x4 x5 x6)) → WP P fn n new R (.code c :: .inLoop c :: k) (E a0 a1 a2 a3 a4 a5 a6) (H a0 a1 a2 a3 a4 a5 a6)) :
    WP P fn n new R (.code (.loop c) :: k) env h :=
  WP.loopX (fun x : A0 × A1 × A2 × A3 × A4 × A5 × A6 => E x.1 x.2.1 x.2.2.1 x.2.2.2.1 x.2.2.2.2.1 x.2.2.2.2.2.1 x.2.2.2.2.2.2) (fun x => H x.1 x.2.1 x.2.2.1 x.2.2.2.1 x.2.2.2.2.1 x.2.2.2.2.2.1 x.2.2.2.2.2.2) (fun x => I x.1 x.2.1 x.2.2.1 x.2.2.2.1 x.2.2.2.2.1 x.2.2.2.2.2.1 x.2.2.2.2.2.2) (fun x => m x.1 x.2.1 x.2.2.1 x.2.2.2.1 x.2.2.2.2.1 x.2.2.2.2.2.1 x.2.2.2.2.2.2) (a0, a1, a2, a3, a4, a5, a6) he hh h0 (fun x hI hn => step x.1 x.2.1 x.2.2.1 x.2.2.2.1 x.2.2.2.2.1 x.2.2.2.2.2.1 x.2.2.2.2.2.2 hI fun x0 x1 x2 x3 x4 x5 x6 h1 h2 => hn (x0, x1, x2, x3, x4, x5, x6) h1 h2)
theorem WP.loop8 {A0 A1 A2 A3 A4 A5 A6 A7 : Type} (E : A0 → A1 → A2 → A3 → A4 → A5 → A6 → A7 → Env) (H : A0 → A1 → A2 → A3 → A4 → A5 → A6 → A7 → AHeap) (I : A0 → A1 → A2 → A3 → A4 → A5 → A6 → A7 → Prop) (m : A0 → A1 → A2 → A3 → A4 → A5 → A6 → A7 → Nat) (a0 : A0) (a1 : A1) (a2 : A2) (a3 : A3) (a4 : A4) (a5 : A5) (a6 : A6) (a7 : A7) (he : subE (E a0 a1 a2 a3 a4 a5 a6 a7) env) (hh : List.Sublist (H a0 a1 a2 a3 a4 a5 a6 a7) h) (h0 : I a0 a1 a2 a3 a4 a5 a6 a7)
    (step : ∀ a0 a1 a2 a3 a4 a5 a6 a7, I a0 a1 a2 a3 a4 a5 a6 a7 → (∀ x0 x1 x2 x3 x4 x5 x6 x7, I x0 x1 x2 x3 x4 x5 x6 x7 → m x0 x1 x2 x3 x4 x5 x6 x7 < m a0 a1 a2 a3 a4 a5 a6 a7 → WP P fn n new R (.inLoop c :: k) (E x0 x1 x2 x3 x4 x5 x6 x7) (H x0 x1 x2 x3 x4 x5 x6 x7)) → WP P fn n new R (.code c :: .inLoop c :: k) (E a0 a1 a2 a3 a4 a5 a6 a7) (H a0 a1 a2 a3 a4 a5 a6 a7)) :
    WP P fn n new R (.code (.loop c) :: k) env h :=
  WP.loopX (fun x : A0 × A1 × A2 × A3 × A4 × A5 × A6 × A7 => E x.1 x.2.1 x.2.2.1 x.2.2.2.1 x.2.2.2.2.1 x.2.2.2.2.2.1 x.2.2.2.2.2.2.1 x.2.2.2.2.2.2.2) (fun x => H x.1 x.2.1 x.2.2.1 x.2.2.2.1 x.2.2.2.2.1 x.2.2.2.2.2.1 x.2.2.2.2.2.2.1 x.2.2.2.2.2.2.2) (fun x => I x.1 x.2.1 x.2.2.1 x.2.2.2.1 x.2.2.2.2.1 x.2.2.2.2.2.1 x.2.2.2.2.2.2.1 x.2.2.2.2.2.2.2) (fun x => m x.1 x.2.1 x.2.2.1 x.2.2.2.1 x.2.2.2.2.1 x.2.2.2.2.2.1 x.2.2.2.2.2.2.1 x.2.2.2.2.2.2.2) (a0, a1, a2, a3, a4, a5, a6, a7) he hh h0 (fun x hI hn => step x.1 x.2.1 x.2.2.1 x.2.2.2.1 x.2.2.2.2.1 x.2.2.2.2.2.1 x.2.2.2.2.2.2.1 x.2.2.2.2.2.2.2 hI fun x0 x1 x2 x3 x4 x5 x6 x7 h1 h2 => hn (x0, x1, x2, x3, x4, x5, x6, x7) h1 h2)
end
/-- octets of octets -/
abbrev PB (l : List UInt8) : AVal := VS AVal.u8 false l
end Go.Kw
