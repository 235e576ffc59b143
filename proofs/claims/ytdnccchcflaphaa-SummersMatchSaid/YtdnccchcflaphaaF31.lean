import Derived.Test.YtdnccchcflaphaaF30
namespace Go.Kw
open Go Go.ChangeShapes Go.WideShapes
set_option linter.unusedVariables false
variable {H : Type} {enc : TypeId × Value → H} {P : Program}
/-- A []byte argument. -/
theorem arg_sl8 {W : World} {t e : TypeId} {b0 : Nat} {r : Reach} {v : Value} {d : DataW H} {ps : List MemPlace} {base : Nat} {sp : Nat → Bool} {held : Bool} (ht : P.underlying t = some (.slice e)) (he : P.underlying e = some (.int .u8)) (hc : P.cellsOf e = 1)
    (hval : Value.okWide P W r b0 t v) (hd : DataW.Trod enc P W base sp held t v d ps) :
    ∃ l : List UInt8, VRel P (fun _ => none) (fun c => c < W.heap.size) W (VS AVal.u8 false l) v := by
  obtain ⟨fuel, hf⟩ := hd
  have hcell : v.cells.toList = [v] := by
    simp only [Value.okWide, ht] at hval
    cases v <;> first | rfl | (simp [Cell.okWide, Cell.ok, ht] at hval)
  rw [hcell] at hf
  rcases open_ints ht he hc hf with ⟨h1, _⟩ | ⟨a, len, cap, zs, h1, _, hlc, _, hzl, _, hcells, hwf⟩
  · simp only [List.cons.injEq, and_true] at h1
    refine ⟨[], ?_⟩
    simp only [VRel]
    exact ⟨none, 0, by simpa using h1, Nat.le_refl _, by simp, .inl rfl⟩
  · simp only [List.cons.injEq, and_true] at h1
    have hlen : len ≤ zs.length := by rw [hzl]; split <;> omega
    obtain ⟨l, hl⟩ := ints_u8 (zs := zs.take len) fun n hn => wf_u8 (hwf n (List.mem_of_mem_take hn))
    have hll : l.length = len := by
      have := congrArg List.length hl
      simp at this; omega
    refine ⟨l, ?_⟩
    simp only [VRel]
    refine ⟨some a, cap, by rw [h1, hll], by omega, by simp, ?_⟩
    by_cases h0 : l = []
    · left; simp [h0]
    · right
      have hpos : 0 < len := by rw [← hll]; exact List.length_pos_iff.2 h0
      have hc0 := hcells 0 (by omega)
      obtain ⟨bk, off, spot⟩ := a
      have ha0 : (⟨bk, off, spot⟩ : Addr).add 0 = ⟨bk, off, spot⟩ := by simp [Addr.add]
      rw [ha0] at hc0
      have hspot : spot = none := by
        cases spot with
        | none => rfl
        | some x =>
          simp only [World.cell?] at hc0
          split at hc0 <;> simp at hc0
      subst hspot
      have hlt : bk < W.heap.size := by
        simp only [World.cell?] at hc0
        split at hc0
        · rename_i h; exact (Array.getElem?_eq_some_iff.1 h).1
        · cases hc0
      refine ⟨bk, off, l.map fun b => Value.int .u8 (b.toNat : Int), rfl, hlt, ?_, rels_u8 l⟩
      intro i hi
      have hi' : i < l.length := by simpa using hi
      have hci := hcells i (by omega)
      rw [addr_add] at hci
      rw [hci]
      have hz : zs.getD i 0 = ((l.map fun b => (b.toNat : Int))).getD i 0 := by
        rw [← hl]
        simp [List.getElem?_take, show i < len by omega]
      rw [hz]
      simp [hi']
end Go.Kw
