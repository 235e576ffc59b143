import Derived.Test.YtdnccchcflaphaaF17
namespace Go.Kw
set_option linter.unusedVariables false
set_option linter.unusedSimpArgs false
variable {P : Program}

section
variable {fn : Func} {n : Nat} {new : List Nat} {R : AVal → AHeap → Prop} {env env' : Env} {h h' : AHeap} {k todo : List Item}

theorem WP.condD {c : Operand} {x y : Code} {p : Prop} {dp : Decidable p} (hc : ev env c = some (.bool (decide p))) (h1 : p → WP P fn n new R (.code x :: k) env h) (h2 : ¬ p → WP P fn n new R (.code y :: k) env h) :
    WP P fn n new R (.code (.cond c x y) :: k) env h := by
  refine WP.cond hc ?_
  by_cases hp : p
  · simpa [hp] using h1 hp
  · simpa [hp] using h2 hp
theorem WP.condB {c : Operand} {x y : Code} {t : Bool} (hc : ev env c = some (.bool t)) (h1 : t = true → WP P fn n new R (.code x :: k) env h) (h2 : t = false → WP P fn n new R (.code y :: k) env h) :
    WP P fn n new R (.code (.cond c x y) :: k) env h := by
  refine WP.cond hc ?_
  cases t
  · simpa using h2 rfl
  · simpa using h1 rfl

def subE : Env → Env → Prop
  | [], _ => True
  | (s, v) :: r, e => Env.get e s = some v ∧ subE r e

theorem subE.get : ∀ {env' env : Env}, subE env' env → ∀ s v, env'.get s = some v → env.get s = some v
  | [], env, _, s, v, h => by simp [Env.get] at h
  | (t, u) :: r, env, hs, s, v, h => by
    obtain ⟨h1, h2⟩ := hs
    simp only [Env.get] at h
    cases hb : Nat.beq t s with
    | true =>
      have := Nat.eq_of_beq_eq_true hb
      subst this
      simp only [hb, cond_true, Option.some.injEq] at h
      subst h
      exact h1
    | false =>
      simp only [hb, cond_false] at h
      exact h2.get s v h

/-- On to a place of which more general things are known. -/
theorem WP.jump (he : subE env' env) (hs : List.Sublist h' h) (hw : WP P fn n new R todo env' h') : WP P fn n new R todo env h := hw.weaken he.get hs
end

section
variable {ρ ρ' : Nat → Option Nat} {Im Im' : Nat → Prop} {w w' : World} {h R : AHeap} {ok : Nat → Prop} {b : Nat} {T : TypeId} {cells : List AVal}

theorem Ev.freeze (s : St P ρ Im h w) (e : Ev P ρ Im h w ok ρ' Im' ((b, .vec T cells) :: R) w') : ∃ Im'', Mono ρ' Im' w' ρ' Im'' w' ∧ Cold P ρ' Im'' w' b cells ∧ Ev P ρ Im h w ok ρ' Im'' R w' := by
  obtain ⟨Im2, m, cold, s2, hI⟩ := e.st.freeze
  refine ⟨Im2, m, cold, ?_⟩
  refine { size := e.size, os := e.os, out := e.out, keep := e.keep, rho := e.rho, im := fun c hc => m.im c (e.im c hc), imNew := ?_, shape := e.shape, own := fun x y c hxy hx => e.own x y c (List.mem_cons_of_mem _ hxy) hx, names := fun x y hxy => e.names x y (List.mem_cons_of_mem _ hxy), ok := e.ok, st := s2 }
  intro c hc
  rcases hI c hc with h1 | h1
  · exact e.imNew c h1
  · rcases e.own b _ c (List.mem_cons_self) h1 with ⟨b0, o0, h2, h3⟩ | h2
    · exact .inr (.inl ⟨b0, o0, h2, h3⟩)
    · exact .inr (.inr h2)
end

/-- A function's new block may be taken for data. -/
theorem ACalls.cool {f : FuncId} {args : List AVal} {h R : AHeap} {v : Nat → AVal} {v' : AVal} {T : TypeId} {cells : List AVal}
    (hc : ∀ b, ACalls P f args h [b] (v b) (R ++ [(b, .vec T cells)])) (hf : ∀ b, Frz b cells (v b) v') : ACalls P f args h [] v' R := by
  intro ρ Im w as sup s fr hv
  have fr1 : Fresh ρ [sup 0] (fun i => sup (i + 1)) := { named := fun x hx => by simp only [List.mem_singleton] at hx; rw [hx]; exact fr.free 0, free := fun i => fr.free _, inj := fun i j hij => by have := fr.inj _ _ hij; omega, apart := fun i => by simp only [List.mem_singleton]; intro hh; have := fr.inj _ _ hh; omega, nd := by simp }
  refine (hc (sup 0) ρ Im w as _ s fr1 hv).mono fun e w' he => ?_
  obtain ⟨v1, ρ', Im', rfl, h1, h2⟩ := he
  have h2' := h2.permR (List.perm_append_comm (l₁ := R) (l₂ := [(sup 0, AObj.vec T cells)]))
  obtain ⟨Im2, m, cold, h3⟩ := Ev.freeze s h2'
  refine ⟨v1, ρ', Im2, rfl, (hf (sup 0)).rel m cold h1, h3.okMono ?_⟩
  rintro x (hx | ⟨i, hx⟩)
  · simp only [List.mem_singleton] at hx
    exact .inr ⟨0, hx⟩
  · exact .inr ⟨i + 1, hx⟩
end Go.Kw
