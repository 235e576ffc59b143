import Derived.Test.YtdnccchcflaphaaF24
namespace Go.Kw
set_option linter.unusedVariables false
set_option linter.unusedSimpArgs false
variable {P : Program}
section
variable {fn : Func} {n : Nat} {new : List Nat} {R : AVal → AHeap → Prop} {env : Env} {h : AHeap} {todo : List Item}
/-- A slice that is nil may be taken for an owned one, over a block that is not there. -/
theorem WP.own (t : Nat) (T : TypeId) (sz : Nat) (ht : env.get t = some (.vs 0 true [])) (hw : ∀ b, WP P fn n new R todo ((t, .os b 0 0 sz false) :: env) (h ++ [(b, .vec T [])])) : WP P fn n new R todo env h := by
  intro ρ Im w a b cs sup s fr he hn hd
  let b0 := sup 0
  let ρ' : Nat → Option Nat := fun x => if x = b0 then some 0 else ρ x
  have hb0 : ρ b0 = none := fr.free 0
  have hext : ∀ x c, ρ x = some c → ρ' x = some c := fun x c hx => by
    by_cases hxb : x = b0
    · rw [hxb, hb0] at hx; cases hx
    · simp [ρ', hxb, hx]
  have m : Mono ρ Im w ρ' Im w := { rho := hext, im := fun _ h => h, same := fun _ _ => rfl, shape := fun _ _ _ h => h }
  have hne : ∀ x y, (x, y) ∈ h → x ≠ b0 := fun x y hxy hx => by
    obtain ⟨c, hc⟩ := s.code hxy
    rw [hx, hb0] at hc; cases hc
  have s' : St P ρ' Im (h ++ [(b0, .vec T [])]) w := by
    refine { obj := ?_, nd := ?_, inj := ?_, im := s.im }
    · intro x y hxy
      rcases List.mem_append.1 hxy with hxy | hxy
      · rcases s.obj x y hxy with ⟨g1, g2⟩ | ⟨d, g1, g2, g3⟩
        · exact .inl ⟨hext x _ g1, g2⟩
        · exact .inr ⟨d, hext x _ g1, g2.mono m rfl, g3⟩
      · simp only [List.mem_singleton, Prod.mk.injEq] at hxy
        rw [hxy.1, hxy.2]
        exact .inl ⟨by simp [ρ'], by simp [AObj.void]⟩
    · rw [List.map_append, List.nodup_append]
      refine ⟨s.nd, by simp, ?_⟩
      intro x hx y hy hxy
      simp only [List.map_cons, List.map_nil, List.mem_singleton] at hy
      obtain ⟨⟨u, v⟩, h1, rfl⟩ := List.mem_map.1 hx
      exact hne u v h1 (by rw [← hy]; exact hxy)
    · intro x x' y y' d hx hx' h1 h1'
      rcases List.mem_append.1 hx with hx | hx <;> rcases List.mem_append.1 hx' with hx' | hx'
      · exact s.inj x x' y y' d hx hx' (by simpa [ρ', hne x y hx] using h1) (by simpa [ρ', hne x' y' hx'] using h1')
      · simp only [List.mem_singleton, Prod.mk.injEq] at hx'
        rw [hx'.1] at h1'; simp [ρ'] at h1'
      · simp only [List.mem_singleton, Prod.mk.injEq] at hx
        rw [hx.1] at h1; simp [ρ'] at h1
      · simp only [List.mem_singleton, Prod.mk.injEq] at hx hx'
        rw [hx.1, hx'.1]
  have fr' : Fresh ρ' new (fun i => sup (i + 1)) := by
    refine { named := ?_, free := ?_, inj := fun i j hij => by have := fr.inj _ _ hij; omega, apart := fun i => fr.apart _, nd := fr.nd }
    · intro x hx
      have : x ≠ b0 := fun hh => fr.apart 0 (by rw [← show b0 = sup 0 from rfl, ← hh]; exact hx)
      simp [ρ', this, fr.named x hx]
    · intro i
      have : sup (i + 1) ≠ b0 := fun hh => by have := fr.inj _ _ hh; omega
      simp [ρ', this, fr.free]
  have he' : EnvRel P ρ' Im w ((t, .os b0 0 0 sz false) :: env) a.tmps := by
    intro x v hx
    simp only [Env.get] at hx
    cases hb : Nat.beq t x with
    | true =>
      have := Nat.eq_of_beq_eq_true hb
      subst this
      simp only [hb, cond_true, Option.some.injEq] at hx
      subst hx
      have hv := he _ _ ht
      simp only [VRel] at hv ⊢
      obtain ⟨ad, cap, h1, h2, h3, _⟩ := hv
      have := h3 trivial
      subst this
      exact .inl ⟨⟨0, by simp [ρ']⟩, trivial, ad, h1⟩
    | false =>
      simp only [hb, cond_false] at hx
      exact (he _ _ hx).mono m
  obtain ⟨a', w', todo', g1, g2, v', v, h', ρ1, Im1, g3, g4, g5, g6⟩ := hw b0 ρ' Im w a b cs _ s' fr' he' hn hd
  refine ⟨a', w', todo', g1, g2, v', v, h', ρ1, Im1, g3, g4, g5, ?_⟩
  refine { size := g6.size, os := g6.os, out := g6.out, keep := ?_, rho := fun x c hx => g6.rho x c (hext x c hx), im := g6.im, imNew := ?_, shape := g6.shape, own := ?_, names := ?_, ok := ?_, st := g6.st }
  · intro c hlt hno
    refine g6.keep c hlt fun x y hxy => ?_
    rcases List.mem_append.1 hxy with hxy | hxy
    · intro hx
      exact hno x y hxy (by simpa [ρ', hne x y hxy] using hx)
    · simp only [List.mem_singleton, Prod.mk.injEq] at hxy
      rw [hxy.1]; simp [ρ']
  · intro c hc
    rcases g6.imNew c hc with h1 | ⟨x, y, hxy, hx⟩ | h1
    · exact .inl h1
    · rcases List.mem_append.1 hxy with hxy | hxy
      · exact .inr (.inl ⟨x, y, hxy, by simpa [ρ', hne x y hxy] using hx⟩)
      · simp only [List.mem_singleton, Prod.mk.injEq] at hxy
        rw [hxy.1] at hx; simp [ρ'] at hx
    · exact .inr (.inr h1)
  · intro x y c hxy hx
    rcases g6.own x y c hxy hx with ⟨x0, y0, h1, h2⟩ | h1
    · rcases List.mem_append.1 h1 with h1 | h1
      · exact .inl ⟨x0, y0, h1, by simpa [ρ', hne x0 y0 h1] using h2⟩
      · simp only [List.mem_singleton, Prod.mk.injEq] at h1
        rw [h1.1] at h2; simp [ρ'] at h2
    · exact .inr h1
  · intro x y hxy
    rcases g6.names x y hxy with ⟨y0, h1⟩ | h1
    · rcases List.mem_append.1 h1 with h1 | h1
      · exact .inl ⟨y0, h1⟩
      · simp only [List.mem_singleton, Prod.mk.injEq] at h1
        exact .inr (by rw [h1.1]; exact hb0)
    · refine .inr ?_
      cases hx : ρ x with
      | none => rfl
      | some c => rw [hext x c hx] at h1; cases h1
  · intro x hx
    rcases g6.ok x hx with h1 | h1
    · by_cases hxb : x = b0
      · exact .inr (.inr ⟨0, hxb⟩)
      · exact .inl (by simpa [ρ', hxb] using h1)
    · rcases h1 with h1 | ⟨i, h1⟩
      · exact .inr (.inl h1)
      · exact .inr (.inr ⟨i + 1, h1⟩)
end
end Go.Kw
