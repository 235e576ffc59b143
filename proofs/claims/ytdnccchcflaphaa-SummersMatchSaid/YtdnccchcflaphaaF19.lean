import Derived.Test.YtdnccchcflaphaaF18
namespace Go.Kw
set_option linter.unusedVariables false
set_option linter.unusedSimpArgs false
variable {P : Program}

/-! ### Results -/

inductive ResOf (P : Program) (env : Env) (h : AHeap) : ResultVar → AVal → Prop
  | tmp {a : Nat} {v : AVal} (he : env.get a = some v) : ResOf P env h (.tmp a) v
  | cell {a : Nat} {t : TypeId} {b off k : Nat} {T : TypeId} {cells : List AVal} (i : Nat) (he : env.get a = some (.ptr b off)) (hi : h[i]? = some (b, .vec T cells)) (ht : aggT P t = some k)
      (hk : off + k ≤ cells.length) : ResOf P env h (.cell a t) (.agg ((cells.drop off).take k))

inductive RessOf (P : Program) (env : Env) (h : AHeap) : List ResultVar → List AVal → Prop
  | nil : RessOf P env h [] []
  | cons {r rs v vs} (h1 : ResOf P env h r v) (h2 : RessOf P env h rs vs) : RessOf P env h (r :: rs) (v :: vs)

def resRun : ResultVar → Array Value → Sem Value
  | .tmp t, tmps => pure (tmps.getD t undef)
  | .cell a t, tmps => do loadVar t (← asAddr (tmps.getD a undef))

theorem ResOf.run {env h r v ρ Im w} {tmps : Array Value} (hr : ResOf P env h r v) (s : St P ρ Im h w) (he : EnvRel P ρ Im w env tmps) : ∃ v', (resRun r tmps).run P w = .ok v' w ∧ VRel P ρ Im w v v' := by
  cases hr with
  | tmp ha => exact ⟨_, by simp [resRun], he _ _ ha⟩
  | @cell a t b off k T cells i ha hi ht hk =>
    have s' : St P ρ Im [(b, .vec T cells)] w := s.sub (List.singleton_sublist.2 (List.mem_of_getElem? hi))
    obtain ⟨c, cs, fz, vals, h1, h2, h3, h4, h5, h6⟩ := s'.at (he _ _ ha)
    have hl := h6.length
    refine ⟨.agg ((vals.drop off).take k).toArray, ?_, ?_⟩
    · have := run_loadVec (P := P) (k := k) (off := off) h3 h5 (by omega)
      simp [resRun, h2, asAddr, loadVar, (run_isAgg_agg (w := w) ht).1, (run_isAgg_agg (w := w) ht).2, this]
    · simp only [VRel]
      exact ⟨_, rfl, by simpa using (h6.drop off).take k⟩

theorem RessOf.run {env h ρ Im w} {tmps : Array Value} : ∀ {rs : List ResultVar} {vs : List AVal}, RessOf P env h rs vs → St P ρ Im h w → EnvRel P ρ Im w env tmps →
    ∃ vs', (rs.mapM fun r => resRun r tmps).run P w = .ok vs' w ∧ VRels P ρ Im w vs vs'
  | _, _, .nil, s, he => ⟨[], by simp, by simp [VRels]⟩
  | _, _, .cons h1 h2, s, he => by
    obtain ⟨v', g1, g2⟩ := h1.run s he
    obtain ⟨vs', g3, g4⟩ := RessOf.run h2 s he
    refine ⟨v' :: vs', ?_, ?_⟩
    · simp [List.mapM_cons, g1, g3]
    · simp only [VRels]; exact ⟨_, _, rfl, g2, g4⟩

theorem results_eq (fn : Func) (tmps : Array Value) : results fn tmps = (fn.results.mapM (fun r => resRun r tmps) >>= fun vs => pure (if h : vs.size = 1 then vs[0] else .tuple vs)) := by
  unfold results
  congr 1
  congr 1
  funext r
  cases r <;> rfl

section
variable {fn : Func} {env : Env} {h : AHeap} {rs : List ResultVar} {vs : List AVal} {v : AVal}
theorem ResV.many (hr : fn.results = rs.toArray) (hl : Nat.beq rs.length 1 = false) (hv : RessOf P env h rs vs) : ResV P fn env h (.tup vs) := by
  intro ρ Im w tmps s he
  obtain ⟨vs', h1, h2⟩ := hv.run s he
  refine ⟨.tuple vs'.toArray, ?_, by simp only [VRel]; exact ⟨_, rfl, h2⟩⟩
  have hlen : vs'.length ≠ 1 := by
    have e := h2.length
    have : rs.length = vs.length := by
      clear h1 h2 e hl hr
      induction hv with
      | nil => rfl
      | cons _ _ ih => simp [ih]
    intro hh
    rw [e, ← this] at hh
    rw [hh] at hl
    cases hl
  rw [results_eq, hr, Array.mapM_eq_mapM_toList]
  simp [h1, hlen]
theorem ResV.one {r : ResultVar} (hr : fn.results = #[r]) (hv : ResOf P env h r v) : ResV P fn env h v := by
  intro ρ Im w tmps s he
  obtain ⟨v', h1, h2⟩ := hv.run s he
  refine ⟨v', ?_, h2⟩
  rw [results_eq, hr, Array.mapM_eq_mapM_toList]
  simp [h1]
end
end Go.Kw
