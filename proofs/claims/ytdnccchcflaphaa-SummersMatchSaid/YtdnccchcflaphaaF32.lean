import Derived.Test.YtdnccchcflaphaaF31
import Derived.OpenShut
import Derived.SizedLaws
namespace Go.Kw
open Go Go.ChangeShapes Go.WideShapes
set_option linter.unusedVariables false
section
variable {H : Type} {enc : TypeId × Value → H} {P : Program}
theorem weightsAll_mem {e : TypeId} {d : DataW H} {y : Nat} (hy : y ∈ DataW.weights P e d) : ∀ {l : List (DataW H)}, d ∈ l → y ∈ DataW.weightsAll P e l
  | [], h => by cases h
  | c :: l, h => by
    simp only [DataW.weightsAll, List.mem_append]
    rcases List.mem_cons.1 h with rfl | h
    · exact .inl hy
    · exact .inr (weightsAll_mem hy h)
/-- Whatever reads as data of this type in this world is told by 'f' of something with 'Q'. -/
def Rd {α : Type} (enc : TypeId × Value → H) (P : Program) (W : World) (e : TypeId) (f : α → List AVal) (Q : α → Prop) : Prop :=
  ∀ base sp held fuel cs x, DataW.trod enc P W base sp held fuel e cs = some x → (∀ y ∈ DataW.weights P e x.1, y ≤ reachBytes) → cs.length = P.cellsOf e ∧ ∃ a, Q a ∧ VRels P (fun _ => none) (fun c => c < W.heap.size) W (f a) cs
variable {W : World} {t e : TypeId}
theorem Rd.u8 (he : P.underlying e = some (.int .u8)) (hc : P.cellsOf e = 1) : Rd enc P W e (fun b : UInt8 => [AVal.u8 b]) (fun _ => True) := by
  intro base sp held fuel cs x h _
  obtain ⟨n, rfl, _, hw⟩ := DataW.trod_int he h
  obtain ⟨b, rfl⟩ := int_u8 (wf_u8 hw)
  exact ⟨by simp [hc], b, trivial, by simp [VRels, VRel]⟩
theorem wf_i64 {n : Int} (h : (Lit.int .i64 n).wf = true) : -9223372036854775808 ≤ n ∧ n ≤ 9223372036854775807 := by
  simpa [Lit.wf, IntKind.min, IntKind.max, IntKind.signed, IntKind.bits] using h
theorem Rd.i64 (he : P.underlying e = some (.int .i64)) (hc : P.cellsOf e = 1) : Rd enc P W e (fun n : Int => [AVal.i n]) (fun n => -9223372036854775808 ≤ n ∧ n ≤ 9223372036854775807) := by
  intro base sp held fuel cs x h _
  obtain ⟨n, rfl, _, hw⟩ := DataW.trod_int he h
  exact ⟨by simp [hc], n, wf_i64 hw, by simp [VRels, VRel]⟩
theorem Rd.bool (he : P.underlying e = some .bool) (hc : P.cellsOf e = 1) : Rd enc P W e (fun b : Bool => [AVal.bool b]) (fun _ => True) := by
  intro base sp held fuel cs x h _
  obtain ⟨b, rfl, _⟩ := DataW.trod_bool he h
  exact ⟨by simp [hc], b, trivial, by simp [VRels, VRel]⟩
theorem Rd.str (he : P.underlying e = some .string) (hc : P.cellsOf e = 1) : Rd enc P W e (fun l : List UInt8 => [AVal.str l]) (fun l => l.length ≤ maxLen) := by
  intro base sp held fuel cs x h _
  obtain ⟨s, rfl, _, hs⟩ := DataW.trod_string he h
  refine ⟨by simp [hc], s.data.toList, by simpa using hs, by simp [VRels, VRel]⟩
/-- one after the other -/
theorem parts_rel {α : Type} {f : α → List AVal} {Q : α → Prop} {k : Nat} {ρ Im w} : ∀ (n : Nat) (vs : List Value), vs.length = n * k →
    (∀ i, i < n → ∃ a, Q a ∧ VRels P ρ Im w (f a) ((vs.drop (i * k)).take k)) → ∃ l : List α, l.length = n ∧ (∀ a ∈ l, Q a) ∧ VRels P ρ Im w (l.flatMap f) vs := by
  intro n
  induction n with
  | zero => intro vs hl h; exact ⟨[], rfl, by simp, by simp at hl; subst hl; simp [VRels]⟩
  | succ n ih =>
    intro vs hl h
    obtain ⟨a, ha, hr⟩ := h 0 (by omega)
    have hl' : (vs.drop k).length = n * k := by rw [List.length_drop, hl, Nat.succ_mul]; omega
    obtain ⟨l, h1, h2, h3⟩ := ih (vs.drop k) hl' fun i hi => by
      have := h (i + 1) (by omega)
      rwa [show (i + 1) * k = k + i * k by rw [Nat.succ_mul]; omega, ← List.drop_drop] at this
    refine ⟨a :: l, by simp [h1], by simpa using ⟨ha, h2⟩, ?_⟩
    simp only [Nat.zero_mul, List.drop_zero] at hr
    have := VRels.append hr h3
    rwa [List.take_append_drop] at this
theorem Rd.arr {α : Type} {f : α → List AVal} {Q : α → Prop} {n k : Nat} (hd : Rd enc P W e f Q) (ht : P.underlying t = some (.array n e)) (hk : P.cellsOf e = k) (hc : P.cellsOf t = n * k) :
    Rd enc P W t (fun l : List α => l.flatMap f) (fun l => l.length = n ∧ ∀ a ∈ l, Q a) := by
  intro base sp held fuel cs x h hw
  obtain ⟨xs, m, rfl, rfl, hl, hxl, hx⟩ := DataW.trod_array ht h
  refine ⟨hl, ?_⟩
  obtain ⟨l, h1, h2, h3⟩ := parts_rel (P := P) (f := f) (Q := Q) (k := k) (ρ := fun _ => none) (Im := fun c => c < W.heap.size) (w := W) n cs (by rw [hl, hc]) fun i hi => by
    have := hx i hi
    rw [hk, List.getElem?_eq_getElem (by omega)] at this
    refine (hd _ _ _ _ _ _ this fun y hy => hw y ?_).2
    simp only [DataW.weights, ht]
    exact weightsAll_mem hy (List.mem_map.2 ⟨_, List.getElem_mem _, rfl⟩)
  exact ⟨l, ⟨h1, h2⟩, h3⟩
theorem cell_lt {a : Addr} {v : Value} (h : W.cell? a = some v) : a.block < W.heap.size ∧ a.spot = none := by
  obtain ⟨bk, off, spot⟩ := a
  constructor
  · simp only [World.cell?] at h
    split at h
    · rename_i h'; exact (Array.getElem?_eq_some_iff.1 h').1
    · cases h
  · cases spot with
    | none => rfl
    | some x =>
      simp only [World.cell?] at h
      split at h <;> simp at h
theorem Rd.sl {α : Type} {f : α → List AVal} {Q : α → Prop} {k : Nat} (hd : Rd enc P W e f Q) (ht : P.underlying t = some (.slice e)) (hk : P.cellsOf e = k) (h0 : 0 < k) (hc : P.cellsOf t = 1) :
    Rd enc P W t (fun l : List α => [.vs l.length false (l.flatMap f)]) (fun l => l.length * P.bytesOf e ≤ reachBytes ∧ ∀ a ∈ l, Q a) := by
  intro base sp held fuel cs x h hw
  rcases DataW.trod_slice ht h with ⟨rfl, rfl⟩ | ⟨a, len, cap, elems, rest, m, rfl, rfl, rfl, hb, hlc, hcm, hel, he, _⟩
  · refine ⟨by simp [hc], [], ⟨by simp, by simp⟩, ?_⟩
    simp only [VRels, VRel]
    exact ⟨_, [], rfl, ⟨none, 0, rfl, Nat.le_refl _, by simp, .inl rfl⟩, rfl⟩
  · refine ⟨by simp [hc], ?_⟩
    have each : ∀ i, i < len → ∃ cs', W.cells? base (a.add (i * k)) k = some cs' ∧ cs'.length = k ∧ ∃ y, Q y ∧ VRels P (fun _ => none) (fun c => c < W.heap.size) W (f y) cs' := by
      intro i hi
      have := he i hi
      rw [hk, List.getElem?_eq_getElem (by omega), Option.bind_eq_some_iff] at this
      obtain ⟨cs', h1, h2⟩ := this
      obtain ⟨h3, h4⟩ := hd _ _ _ _ _ _ h2 fun y hy => hw y (by
        simp only [DataW.weights, ht, List.mem_cons, List.mem_append]
        exact .inr (.inl (weightsAll_mem hy (List.mem_map.2 ⟨_, List.getElem_mem _, rfl⟩))))
      exact ⟨cs', h1, by rw [h3, hk], h4⟩
    rcases Nat.eq_zero_or_pos len with hz | hpos
    · subst hz
      refine ⟨[], ⟨by simp, by simp⟩, ?_⟩
      simp only [VRels, VRel]
      exact ⟨_, [], rfl, ⟨some a, cap, rfl, by simp, by simp, .inl rfl⟩, rfl⟩
    · obtain ⟨bk, off, spot⟩ := a
      have hs : bk < W.heap.size ∧ spot = none := by
        obtain ⟨cs', h1, h2, _⟩ := each 0 hpos
        obtain ⟨_, h3, h4⟩ := World.cells?_some h1
        have := h4 0 h0
        rw [Nat.zero_mul, show ((⟨bk, off, spot⟩ : Addr).add 0).add 0 = ⟨bk, off, spot⟩ by simp [Addr.add], List.getElem?_eq_getElem (by omega)] at this
        exact cell_lt this
      obtain ⟨hlt, hspot⟩ := hs
      subst hspot
      have hcell : ∀ i j, i < len → j < k → ∃ v, W.cell? ⟨bk, off + (i * k + j), none⟩ = some v := by
        intro i j hi hj
        obtain ⟨cs', h1, h2, _⟩ := each i hi
        obtain ⟨_, h3, h4⟩ := World.cells?_some h1
        have := h4 j hj
        rw [addr_add, addr_add, List.getElem?_eq_getElem (by omega)] at this
        exact ⟨_, by rw [← Nat.add_assoc]; exact this⟩
      let vals : List Value := (List.range (len * k)).map fun i => (W.cell? ⟨bk, off + i, none⟩).getD undef
      have hvl : vals.length = len * k := by simp [vals]
      have hreads : Reads W bk off vals := by
        intro i hi
        rw [hvl] at hi
        obtain ⟨v, hv⟩ := hcell (i / k) (i % k) (Nat.div_lt_of_lt_mul (by rwa [Nat.mul_comm])) (Nat.mod_lt _ h0)
        rw [show i / k * k + i % k = i by rw [Nat.mul_comm]; exact Nat.div_add_mod i k] at hv
        simp [vals, hv]
      obtain ⟨l, h1, h2, h3⟩ := parts_rel (P := P) (f := f) (Q := Q) (k := k) (ρ := fun _ => none) (Im := fun c => c < W.heap.size) (w := W) len vals hvl fun i hi => by
        obtain ⟨cs', g1, g2, y, g3, g4⟩ := each i hi
        refine ⟨y, g3, ?_⟩
        have : (vals.drop (i * k)).take k = cs' := by
          obtain ⟨_, g5, g6⟩ := World.cells?_some g1
          apply List.ext_getElem
          · have h9 : (i + 1) * k ≤ len * k := Nat.mul_le_mul_right k hi
            rw [Nat.succ_mul] at h9
            rw [List.length_take, List.length_drop, hvl, g2]; omega
          · intro j hj1 hj2
            have g7 := g6 j (by omega)
            rw [addr_add, addr_add] at g7
            simp [vals, ← Nat.add_assoc, g7, List.getElem?_eq_getElem hj2]
        rwa [this]
      have hown : len * P.bytesOf e ≤ reachBytes := by
        refine Nat.le_trans (Nat.mul_le_mul_right _ ?_) (hw ((elems.length + rest.length) * P.bytesOf e) ?_)
        · omega
        · simp [DataW.weights, ht]
      refine ⟨l, ⟨by rw [h1]; exact hown, h2⟩, ?_⟩
      simp only [VRels, VRel]
      refine ⟨_, [], rfl, ⟨some ⟨bk, off, none⟩, cap, by rw [h1], by omega, by simp, .inr ⟨bk, off, vals, rfl, hlt, hreads, h3⟩⟩, rfl⟩
/-- An argument. -/
theorem Rd.arg1 {f : AVal} {v : Value} (hv : v.cells.toList = [v]) (h : VRels P (fun _ => none) (fun c => c < W.heap.size) W [f] v.cells.toList) : VRel P (fun _ => none) (fun c => c < W.heap.size) W f v := by
  rw [hv] at h
  simp only [VRels] at h
  obtain ⟨v', vs', h1, h2, rfl⟩ := h
  simp only [List.cons.injEq, and_true] at h1
  rwa [h1]
theorem rels_one {ρ Im w} {f : AVal} {cs : List Value} (h : VRels P ρ Im w [f] cs) : ∃ v, cs = [v] ∧ VRel P ρ Im w f v := by
  simp only [VRels] at h
  obtain ⟨v, vs', rfl, h2, rfl⟩ := h
  exact ⟨v, rfl, h2⟩
theorem sl_cell {b0 : Nat} {r : Reach} {v : Value} (ht : P.underlying t = some (.slice e)) (hval : Value.okWide P W r b0 t v) : v.cells.toList = [v] := by
  simp only [Value.okWide, ht] at hval
  cases v <;> first | rfl | (simp [Cell.okWide, Cell.ok, ht] at hval)
theorem Rd.argS {α : Type} {f : α → AVal} {Q : α → Prop} (hd : Rd enc P W t (fun a => [f a]) Q) {b0 : Nat} {r : Reach} {v : Value} {d : DataW H} {ps : List MemPlace} {base : Nat} {sp : Nat → Bool} {held : Bool}
    (ht : P.underlying t = some (.slice e)) (hval : Value.okWide P W r b0 t v) (h : DataW.Trod enc P W base sp held t v d ps) (hw : ∀ y ∈ DataW.weights P t d, y ≤ reachBytes) : ∃ a, Q a ∧ VRel P (fun _ => none) (fun c => c < W.heap.size) W (f a) v := by
  obtain ⟨fuel, hf⟩ := h
  obtain ⟨_, a, h1, h2⟩ := hd _ _ _ _ _ _ hf hw
  exact ⟨a, h1, Rd.arg1 (sl_cell ht hval) h2⟩
theorem Rd.argA {α : Type} {f : α → List AVal} {Q : α → Prop} {n : Nat} (hd : Rd enc P W t f Q) {b0 : Nat} {r : Reach} {v : Value} {d : DataW H} {ps : List MemPlace} {base : Nat} {sp : Nat → Bool} {held : Bool}
    (ht : P.underlying t = some (.array n e)) (hval : Value.okWide P W r b0 t v) (h : DataW.Trod enc P W base sp held t v d ps) (hw : ∀ y ∈ DataW.weights P t d, y ≤ reachBytes) : ∃ a, Q a ∧ VRel P (fun _ => none) (fun c => c < W.heap.size) W (.agg (f a)) v := by
  obtain ⟨fuel, hf⟩ := h
  simp only [Value.okWide, ht] at hval
  obtain ⟨cs, rfl, _⟩ := hval
  obtain ⟨_, a, h1, h2⟩ := hd _ _ _ _ _ _ hf hw
  refine ⟨a, h1, ?_⟩
  simp only [VRel]
  exact ⟨cs, rfl, by simpa [Value.cells] using h2⟩
end
end Go.Kw
