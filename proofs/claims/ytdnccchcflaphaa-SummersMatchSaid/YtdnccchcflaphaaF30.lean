import Derived.Test.YtdnccchcflaphaaF29
import Derived.ChangeSlices
import Derived.WideKeyArgs
namespace Go.Kw
open Go Go.ChangeShapes Go.WideShapes
set_option linter.unusedVariables false
variable {P : Program}
theorem int_u8 {n : Int} (h : 0 ≤ n ∧ n ≤ 255) : ∃ b : UInt8, n = (b.toNat : Int) :=
  ⟨UInt8.ofNat n.toNat, by simp; omega⟩
theorem ints_u8 : ∀ {zs : List Int}, (∀ n ∈ zs, 0 ≤ n ∧ n ≤ 255) → ∃ l : List UInt8, zs = l.map fun b => (b.toNat : Int)
  | [], h => ⟨[], rfl⟩
  | z :: zs, h => by
    obtain ⟨b, hb⟩ := int_u8 (h z (by simp))
    obtain ⟨l, hl⟩ := ints_u8 (zs := zs) fun n hn => h n (by simp [hn])
    exact ⟨b :: l, by simp [hb, ← hl]⟩
theorem wf_u8 {n : Int} (h : (Lit.int .u8 n).wf = true) : 0 ≤ n ∧ n ≤ 255 := by
  simpa [Lit.wf, IntKind.min, IntKind.max, IntKind.signed, IntKind.bits] using h
theorem rels_u8 {ρ Im w} : ∀ (l : List UInt8), VRels P ρ Im w (l.map AVal.u8) (l.map fun b => Value.int .u8 (b.toNat : Int))
  | [] => by simp [VRels]
  | b :: l => by simp only [List.map_cons, VRels]; exact ⟨_, _, rfl, by simp [VRel], rels_u8 l⟩
/-- An array argument of octets. -/
theorem arg_arr8 {W : World} {t e : TypeId} {n b0 : Nat} {r : Reach} {v : Value} (hu : P.underlying t = some (.array n e)) (he : P.underlying e = some (.int .u8)) (hn : P.cellsOf t = n) (hc : P.cellTypes P.depth t = some (List.replicate n e)) (h0 : 0 < n)
    (h : Value.okWide P W r b0 t v) : ∃ l : List UInt8, l.length = n ∧ v = .agg (l.map fun b => Value.int .u8 (b.toNat : Int)).toArray := by
  simp only [Value.okWide, hu] at h
  obtain ⟨cs, rfl, hs, ts, h1, _, h3⟩ := h
  rw [hc] at h1
  simp only [Option.some.injEq] at h1
  subst h1
  have hz : ∃ zs : List Int, cs.toList = zs.map (Value.int .u8) ∧ ∀ n ∈ zs, 0 ≤ n ∧ n ≤ 255 := by
    have each : ∀ v ∈ cs.toList, ∃ z : Int, v = .int .u8 z ∧ 0 ≤ z ∧ z ≤ 255 := by
      intro v hv
      obtain ⟨i, hi⟩ := List.mem_iff_getElem?.1 hv
      have hi' : cs[i]? = some v := by simpa using hi
      obtain ⟨u, hu1, hu2⟩ := h3 i v hi'
      have hue : u = e := by
        rw [List.getElem?_replicate] at hu1
        split at hu1
        · simpa using hu1.symm
        · cases hu1
      subst hue
      simp only [Cell.okWide, he] at hu2
      cases v <;> simp [Cell.ok, he, IntKind.has, IntKind.min, IntKind.max, IntKind.signed, IntKind.bits] at hu2
      exact ⟨_, by rw [← hu2.1], hu2.2⟩
    revert each
    generalize cs.toList = L
    intro each
    induction L with
    | nil => exact ⟨[], rfl, by simp⟩
    | cons v L ih =>
      obtain ⟨z, rfl, hz⟩ := each v (by simp)
      obtain ⟨zs, e1, e2⟩ := ih fun x hx => each x (by simp [hx])
      exact ⟨z :: zs, by simp [e1], by simpa using ⟨hz, e2⟩⟩
  obtain ⟨zs, e1, e2⟩ := hz
  obtain ⟨l, rfl⟩ := ints_u8 e2
  refine ⟨l, ?_, ?_⟩
  · have := congrArg List.length e1
    simp at this; omega
  · congr 1
    apply Array.ext'
    rw [e1]; simp
end Go.Kw
