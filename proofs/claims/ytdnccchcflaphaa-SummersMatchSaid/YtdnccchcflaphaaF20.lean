import Derived.Test.YtdnccchcflaphaaF19
namespace Go.Kw
set_option linter.unusedVariables false
set_option linter.unusedSimpArgs false
variable {P : Program}
section
variable {fn : Func} {n : Nat} {new : List Nat} {R : AVal → AHeap → Prop} {env : Env} {h h0 : AHeap} {k : List Item}

/-- The end of a function; what is left in the heap may be forgotten. -/
theorem WP.endsS {todo : List Item} (hs : ∀ (b : Frame) (a : Act) cs w, Go.step P (lone (b.at a todo) cs w) = .next (lone { b.at a todo with mode := .returning } cs w))
    {v : AVal} (hr : ResV P fn env h v) (hh : List.Sublist h0 h) (hR : R v h0) : WP P fn n new R todo env h := by
  intro ρ Im w a b cs sup s fr he hn hd
  obtain ⟨v', h1, h2⟩ := hr ρ Im w a.tmps s he
  exact ⟨a, w, todo, .one (hs b a cs w), hd, v', v, h0, ρ, Im, h1, hR, h2, (Ev.refl s).subR hh⟩
theorem WP.retS {v : AVal} (hr : ResV P fn env h v) (hh : List.Sublist h0 h) (hR : R v h0) : WP P fn n new R (.code .ret :: k) env h :=
  WP.endsS (fun b a cs w => step_ret) hr hh hR
theorem WP.finS {v : AVal} (hr : ResV P fn env h v) (hh : List.Sublist h0 h) (hR : R v h0) : WP P fn n new R [] env h :=
  WP.endsS (fun b a cs w => step_end) hr hh hR

/-- As 'endsS'; the result's block gets the caller's name. -/
theorem WP.ends1S {todo : List Item} (hs : ∀ (b : Frame) (a : Act) cs w, Go.step P (lone (b.at a todo) cs w) = .next (lone { b.at a todo with mode := .returning } cs w))
    {b b' : Nat} {o : AObj} {vf : Nat → AVal} (i : Nat) (hr : ResV P fn env h (vf b)) (hi : h[i]? = some (b, o)) (hb : b' ∈ new)
    (hvf : ∀ ρ Im w v' c, ρ b = some c → ρ b' = some c → VRel P ρ Im w (vf b) v' → VRel P ρ Im w (vf b') v')
    (hh : List.Sublist h0 (h.set i (b', o))) (hR : R (vf b') h0) : WP P fn n new R todo env h := by
  intro ρ Im w a fr0 cs sup s fr he hn hd
  obtain ⟨v', h1, h2⟩ := hr ρ Im w a.tmps s he
  have e : Ev P ρ Im h w (okOf new sup) ρ Im h w := Ev.refl s
  obtain ⟨ρ'', e', hext, hb''⟩ := e.rename hi (fr.named b' hb) (.inl hb)
  obtain ⟨c, hc⟩ := s.code (List.mem_of_getElem? hi)
  have m : Mono ρ Im w ρ'' Im w := { rho := hext, im := fun _ h => h, same := fun _ _ => rfl, shape := fun _ _ _ h => h }
  refine ⟨a, w, todo, .one (hs fr0 a cs w), hd, v', vf b', _, ρ'', Im, h1, hR, ?_, e'.subR hh⟩
  exact hvf ρ'' Im w v' c (hext _ _ hc) (by rw [hb'', hc]) (h2.mono m)
theorem WP.ret1S {b b' : Nat} {o : AObj} {vf : Nat → AVal} (i : Nat) (hr : ResV P fn env h (vf b)) (hi : h[i]? = some (b, o)) (hb : b' ∈ new)
    (hvf : ∀ ρ Im w v' c, ρ b = some c → ρ b' = some c → VRel P ρ Im w (vf b) v' → VRel P ρ Im w (vf b') v')
    (hh : List.Sublist h0 (h.set i (b', o))) (hR : R (vf b') h0) : WP P fn n new R (.code .ret :: k) env h :=
  WP.ends1S (fun b a cs w => step_ret) i hr hi hb hvf hh hR
theorem WP.fin1S {b b' : Nat} {o : AObj} {vf : Nat → AVal} (i : Nat) (hr : ResV P fn env h (vf b)) (hi : h[i]? = some (b, o)) (hb : b' ∈ new)
    (hvf : ∀ ρ Im w v' c, ρ b = some c → ρ b' = some c → VRel P ρ Im w (vf b) v' → VRel P ρ Im w (vf b') v')
    (hh : List.Sublist h0 (h.set i (b', o))) (hR : R (vf b') h0) : WP P fn n new R [] env h :=
  WP.ends1S (fun b a cs w => step_end) i hr hi hb hvf hh hR
end

/-- As 'of_wp', with the number of temporaries told. -/
theorem ACalls.of_wp' {f : FuncId} {fn : Func} {c : Code} {args : List AVal} {h : AHeap} {new : List Nat} {v : AVal} {h' : AHeap} {n : Nat}
    (hf : P.funcs[f]? = some fn) (hb : fn.body = some c) (hn : args.length + (fn.ntmps - args.length) = n)
    (hw : WP P fn n new (fun v' h'' => v' = v ∧ h'' = h') [.code c] (argsE 0 args) h) : ACalls P f args h new v h' := by
  subst hn
  exact ACalls.of_wp hf hb hw
end Go.Kw
