import Derived.Test.YtdnccchcflaphaaF5
namespace Go.Kw
set_option linter.unusedVariables false
variable {P : Program}

theorem HL_list' (h : AHeap) (M : Nat) (hM : h.length ≤ M) : HL M (fun p => h[p]?) = h := by
  have h1 : List.range M = List.range h.length ++ (List.range (M - h.length)).map (h.length + ·) := by
    rw [← List.range_add, Nat.add_sub_cancel' hM]
  have h2 := HL_list h
  unfold HL at h2 ⊢
  rw [h1, List.filterMap_append, h2, List.filterMap_map]
  have : (List.range (M - h.length)).filterMap ((fun p => h[p]?) ∘ (h.length + ·)) = [] := by
    rw [List.filterMap_eq_nil_iff]
    intro p hp
    simp
  rw [this, List.append_nil]

/-- The values of the slots that an operation looks at. -/
theorem evs_rel' {ρ Im w e} {a : Act} : ∀ {xs : List Operand} {vs : List AVal}, (∀ t, Operand.tmp t ∈ xs → ∀ v, e.get t = some v → VRel P ρ Im w v (a.tmps.getD t undef)) →
    evs e xs = some vs → VRels P ρ Im w vs (xs.map a.eval)
  | [], vs, h, hx => by simp only [evs, Option.some.injEq] at hx; subst hx; simp [VRels]
  | x :: xs, vs, h, hx => by
    simp only [evs] at hx
    split at hx
    · cases hx
    · rename_i v hv
      split at hx
      · cases hx
      · rename_i vs' hvs
        simp only [Option.some.injEq] at hx
        subst hx
        simp only [VRels, List.map_cons]
        refine ⟨_, _, rfl, ?_, evs_rel' (fun t ht => h t (by simp [ht])) hvs⟩
        cases x with
        | tmp t => exact h t (by simp) v hv
        | const c => exact absC_rel hv
        | global g => simp [ev] at hv
        | func f =>
          simp only [ev, Option.some.injEq] at hv
          subst hv
          simp only [VRel, Act.eval]
          exact ⟨#[], #[], rfl, by simp [VRels], by simp [VRels]⟩

theorem guardE_wanted' {ρ Im w ops e} {o : Oper} {a : Act} {t : Bool}
    (h : ∀ g want d, o.guard = some (g, want) → ((ops[g]?).bind (·.dst)) = some d → ∀ v, e.get d = some v → VRel P ρ Im w v (a.tmps.getD d undef))
    (hg : guardE ops e o = some t) : Region.wanted o (yielded ops a.tmps) = t := by
  cases ho : o.guard with
  | none =>
    unfold guardE at hg
    unfold Region.wanted
    rw [ho] at hg ⊢
    simpa using hg
  | some gw =>
    obtain ⟨g, want⟩ := gw
    cases hd : (ops[g]?).bind (·.dst) with
    | none => unfold guardE at hg; rw [ho] at hg; simp only [hd] at hg; cases hg
    | some d =>
      have h' := h g want d ho hd
      cases he : Env.get e d with
      | none => unfold guardE at hg; rw [ho] at hg; simp only [hd, he] at hg; cases hg
      | some v =>
        refine guardE_wanted (e := [(d, v)]) ?_ ?_ (P := P) (ρ := ρ) (Im := Im) (w := w)
        · intro s x hs
          simp only [Env.get] at hs
          by_cases hds : d = s
          · subst hds
            simp only [Nat.beq_refl, cond_true, Option.some.injEq] at hs
            subst hs
            exact h' v he
          · have hb : Nat.beq d s = false := by
              cases hbb : Nat.beq d s with
              | false => rfl
              | true => exact absurd (Nat.eq_of_beq_eq_true hbb) hds
            simp [hb] at hs
        · unfold guardE at hg ⊢
          rw [ho] at hg ⊢
          simp only [hd, he] at hg ⊢
          simp only [Env.get, Nat.beq_refl, cond_true]
          exact hg

theorem Env.get_putE_ne {e : Env} {dst : Option Tmp} {v : AVal} {s : Nat} (h : dst ≠ some s) : (putE e dst v).get s = e.get s := by
  cases dst with
  | none => rfl
  | some d =>
    have hds : d ≠ s := fun hh => h (by rw [hh])
    have hb : Nat.beq d s = false := by
      cases hbb : Nat.beq d s with
      | false => rfl
      | true => exact absurd (Nat.eq_of_beq_eq_true hbb) hds
    simp [putE, Env.get, hb]
theorem Env.get_putE_eq {e : Env} {s : Nat} {v : AVal} : (putE e (some s) v).get s = some v := by
  simp [putE, Env.get]

theorem put_ne {a : Act} {dst : Option Tmp} {v : Value} {s : Nat} (h : dst ≠ some s) : (a.put dst v).tmps.getD s undef = a.tmps.getD s undef := by
  cases dst with
  | none => rfl
  | some d =>
    have hds : d ≠ s := fun hh => h (by rw [hh])
    simp [Act.put, Array.getD_eq_getD_getElem?, hds]
theorem put_eq {a : Act} {s n : Nat} {v : Value} (hn : a.tmps.size = n) (h : Nat.blt s n = true) : (a.put (some s) v).tmps.getD s undef = v := by
  have hlt : s < a.tmps.size := by
    rw [hn]
    have : s + 1 ≤ n := by simpa [Nat.blt, Nat.ble_eq] using h
    exact this
  simp [Act.put, Array.getD_eq_getD_getElem?, hlt]

section
variable (ops : Array Oper) (recs : List Rec) (es : Nat → Env) (hs : Nat → AHeap)
def valE (i s : Nat) : Option AVal := (es (min i ops.size)).get s
def updE (i s : Nat) : Bool := match (ops[i]?).bind (·.dst) with | some d => Nat.beq d s | none => false
def valH (i p : Nat) : Option Entry := (hs (min i ops.size))[p]?
def lenH (i : Nat) : Nat := (hs (min i ops.size)).length
def updH (i p : Nat) : Bool := match recs[i]? with
  | some r => (r.wr && r.ps.elem p) || (Nat.ble (lenH ops hs i) p && Nat.blt p (lenH ops hs i + r.cre))
  | none => false
end

section
variable {n : Nat} {ops : Array Oper} {nm : Nat → Nat} {recs : List Rec} {es : Nat → Env} {hs : Nat → AHeap} {pn : Nat → Nat}

theorem updE_iff {i s : Nat} : updE ops i s = true ↔ ∃ o, ops[i]? = some o ∧ o.dst = some s := by
  unfold updE
  cases ho : ops[i]? with
  | none => simp
  | some o =>
    simp only [Option.bind_some, Option.some.injEq, exists_eq_left']
    cases hd : o.dst with
    | none => simp
    | some d => simp

theorem Step1.elim {o : Oper} {r : Rec} {p p' : Nat} {e e' : Env} {h h' : AHeap} (hst : Step1 P n ops nm o p e h r p' e' h') :
    (guardE ops e o = some false ∧ dstOk n o = true ∧ r.ps = [] ∧ r.wr = false ∧ r.cre = 0 ∧ p' = p ∧ e' = putE e o.dst (.tup []) ∧ h' = h) ∨
    (∃ vs v F G N k, guardE ops e o = some true ∧ dstOk n o = true ∧ evs e o.op.operands.toList = some vs ∧ sel h r.ps = some F ∧ nodupB r.ps = true ∧
      G.length = r.ps.length ∧ (r.wr = true ∨ G = F) ∧ OpV P o vs F ((List.range' p k).map nm) v (G ++ N) ∧ r.cre = N.length ∧ p' = p + k ∧
      e' = putE e o.dst v ∧ h' = setAll h r.ps G ++ N) := by
  cases hst with
  | skip hg hd => exact .inl ⟨hg, hd, rfl, rfl, rfl, rfl, rfl, rfl⟩
  | op hg hd hv hs hn hG hw ho => exact .inr ⟨_, _, _, _, _, _, hg, hd, hv, hs, hn, hG, hw, ho, rfl, rfl, rfl, rfl⟩

theorem step_len {o : Oper} {r : Rec} {p p' : Nat} {e e' : Env} {h h' : AHeap} (hst : Step1 P n ops nm o p e h r p' e' h') : h'.length = h.length + r.cre := by
  rcases hst.elim with ⟨_, _, _, _, h1, _, _, rfl⟩ | ⟨vs, v, F, G, N, k, _, _, _, _, _, _, _, _, h1, _, _, rfl⟩
  · omega
  · simp [setAll_length, h1]

theorem step_env {o : Oper} {r : Rec} {p p' : Nat} {e e' : Env} {h h' : AHeap} (hst : Step1 P n ops nm o p e h r p' e' h') {s : Nat} (hne : o.dst ≠ some s) :
    e'.get s = e.get s := by
  rcases hst.elim with ⟨_, _, _, _, _, _, rfl, _⟩ | ⟨vs, v, F, G, N, k, _, _, _, _, _, _, _, _, _, _, rfl, _⟩ <;> exact Env.get_putE_ne hne

theorem step_heap {o : Oper} {r : Rec} {p p' : Nat} {e e' : Env} {h h' : AHeap} (hst : Step1 P n ops nm o p e h r p' e' h') {x : Nat}
    (hx : (r.wr && r.ps.elem x) = false) (hx' : ¬ (h.length ≤ x ∧ x < h.length + r.cre)) : h'[x]? = h[x]? := by
  rcases hst.elim with ⟨_, _, _, _, _, _, _, rfl⟩ | ⟨vs, v, F, G, N, k, _, _, _, hs, hn, hG, hw, _, h1, _, _, rfl⟩
  · rfl
  · by_cases hlt : x < h.length
    · rw [List.getElem?_append_left (by rw [setAll_length]; exact hlt)]
      by_cases hp : x ∈ r.ps
      · have hwr : r.wr = false := by simpa [hp] using hx
        have hGF : G = F := by
          rcases hw with hw | hw
          · rw [hwr] at hw; cases hw
          · exact hw
        have h1 := setAll_map h r.ps G (nodupB_iff.1 hn) (sel_lt hs) hG
        rw [hGF, ← sel_map hs] at h1
        rw [hGF]
        exact List.map_inj_left.1 h1 x hp
      · exact setAll_out _ _ _ _ hp
    · rw [List.getElem?_eq_none (by simp only [List.length_append, setAll_length]; omega), List.getElem?_eq_none (by omega)]

theorem step_pn {o : Oper} {r : Rec} {p p' : Nat} {e e' : Env} {h h' : AHeap} (hst : Step1 P n ops nm o p e h r p' e' h') : p ≤ p' := by
  rcases hst.elim with ⟨_, _, _, _, _, rfl, _, _⟩ | ⟨vs, v, F, G, N, k, _, _, _, _, _, _, _, _, _, rfl, _, _⟩ <;> omega

/-- The whole trace of a region. -/
structure Tr (P : Program) (n : Nat) (ops : Array Oper) (nm : Nat → Nat) (recs : List Rec) (es : Nat → Env) (hs : Nat → AHeap) (pn : Nat → Nat) : Prop where
  st : ∀ i o r, ops[i]? = some o → recs[i]? = some r → Step1 P n ops nm o (pn i) (es i) (hs i) r (pn (i + 1)) (es (i + 1)) (hs (i + 1))
  len : recs.length = ops.size

variable (t : Tr P n ops nm recs es hs pn)
include t

theorem Tr.step {i : Nat} (hi : i < ops.size) : ∃ o r, ops[i]? = some o ∧ recs[i]? = some r ∧ Step1 P n ops nm o (pn i) (es i) (hs i) r (pn (i + 1)) (es (i + 1)) (hs (i + 1)) := by
  have h1 : ops[i]? = some ops[i] := Array.getElem?_eq_getElem hi
  have h2 : recs[i]? = some (recs[i]'(by have := t.len; omega)) := List.getElem?_eq_getElem (by have := t.len; omega)
  exact ⟨_, _, h1, h2, t.st i _ _ h1 h2⟩

theorem Tr.frE (i s : Nat) (hu : updE ops i s = false) : valE ops es (i + 1) s = valE ops es i s := by
  unfold valE
  by_cases hi : i < ops.size
  · rw [Nat.min_eq_left (by omega), Nat.min_eq_left (by omega)]
    obtain ⟨o, r, ho, hr, h⟩ := t.step hi
    refine step_env h fun hd => ?_
    have := updE_iff.2 ⟨o, ho, hd⟩
    rw [hu] at this; cases this
  · rw [Nat.min_eq_right (by omega), Nat.min_eq_right (by omega)]

theorem Tr.lenS (i : Nat) (r : Rec) (hr : recs[i]? = some r) : lenH ops hs (i + 1) = lenH ops hs i + r.cre := by
  have hi : i < ops.size := by have := (List.getElem?_eq_some_iff.1 hr).1; have := t.len; omega
  obtain ⟨o, r', ho, hr', h⟩ := t.step hi
  rw [hr] at hr'
  cases hr'
  unfold lenH
  rw [Nat.min_eq_left (by omega), Nat.min_eq_left (by omega)]
  exact step_len h

theorem Tr.lenM {i j : Nat} (hij : i ≤ j) : lenH ops hs i ≤ lenH ops hs j := by
  induction j with
  | zero => have : i = 0 := by omega
            subst this; exact Nat.le_refl _
  | succ j ih =>
    by_cases e : i = j + 1
    · subst e; exact Nat.le_refl _
    · have h1 := ih (by omega)
      by_cases hj : j < ops.size
      · obtain ⟨o, r, ho, hr, _⟩ := t.step hj
        have := t.lenS j r hr
        omega
      · have : lenH ops hs (j + 1) = lenH ops hs j := by
          unfold lenH
          rw [Nat.min_eq_right (by omega), Nat.min_eq_right (by omega)]
        omega

theorem Tr.pnM {i j : Nat} (hij : i ≤ j) (hj : j ≤ ops.size) : pn i ≤ pn j := by
  induction j with
  | zero => have : i = 0 := by omega
            subst this; exact Nat.le_refl _
  | succ j ih =>
    by_cases e : i = j + 1
    · subst e; exact Nat.le_refl _
    · have h1 := ih (by omega) (by omega)
      obtain ⟨o, r, ho, hr, h⟩ := t.step (show j < ops.size by omega)
      have := step_pn h
      omega

theorem Tr.frH (i x : Nat) (hu : updH ops recs hs i x = false) : valH ops hs (i + 1) x = valH ops hs i x := by
  unfold valH
  by_cases hi : i < ops.size
  · rw [Nat.min_eq_left (by omega), Nat.min_eq_left (by omega)]
    obtain ⟨o, r, ho, hr, h⟩ := t.step hi
    unfold updH at hu
    rw [hr] at hu
    simp only [Bool.or_eq_false_iff] at hu
    refine step_heap h hu.1 ?_
    intro ⟨h1, h2⟩
    have h3 := hu.2
    unfold lenH at h3
    rw [Nat.min_eq_left (by omega)] at h3
    have e1 : Nat.ble (hs i).length x = true := by rw [Nat.ble_eq]; exact h1
    have e2 : Nat.blt x ((hs i).length + r.cre) = true := by rw [Nat.blt, Nat.ble_eq]; exact h2
    rw [e1, e2] at h3
    cases h3
  · rw [Nat.min_eq_right (by omega), Nat.min_eq_right (by omega)]

end

section
variable {n : Nat} {ops : Array Oper} {nm : Nat → Nat} {recs : List Rec} {es : Nat → Env} {hs : Nat → AHeap} {pn : Nat → Nat}

/-- What holds when the operations of a set T have been done. -/
structure Inv (P : Program) (n : Nat) (ops : Array Oper) (nm : Nat → Nat) (recs : List Rec) (es : Nat → Env) (hs : Nat → AHeap) (pn : Nat → Nat)
    (sp : Nat → Nat → Nat) (ok : Nat → Prop) (ρ0 : Nat → Option Nat) (Im0 : Nat → Prop) (w0 : World) (a0 : Act) (S : Nat → Bool)
    (ρ : Nat → Option Nat) (Im : Nat → Prop) (w : World) (a : Act) : Prop where
  size : a.tmps.size = n
  defers : a.defers = a0.defers
  env : ∀ s v, ver (valE ops es) (updE ops) S ops.size s = some v → VRel P ρ Im w v (a.tmps.getD s undef)
  ev : Ev P ρ0 Im0 (hs 0) w0 ok ρ Im (HL (lenH ops hs ops.size) (ver (valH ops hs) (updH ops recs hs) S ops.size)) w
  sup : Sup ρ nm (fun q => ∃ j, j < ops.size ∧ S j = false ∧ pn j ≤ q ∧ q < pn (j + 1)) sp (fun j => S j = false)
  closed : ∀ j o, ops.toList[j]? = some o → S j = true → ∀ d ∈ direct o, S d = true
  out : ∀ j, ops.size ≤ j → S j = false

theorem Tr.next (t : Tr P n ops nm recs es hs pn) (hok : orderOk ops recs (hs 0).length = true) {sp : Nat → Nat → Nat} {ok : Nat → Prop} {ρ0 Im0 w0 a0}
    (okn : ∀ q, ok (nm q)) (oks : ∀ j x, ok (sp j x)) {S : Nat → Bool} {ρ Im w a} (I : Inv P n ops nm recs es hs pn sp ok ρ0 Im0 w0 a0 S ρ Im w a)
    {j : Nat} (hj : j < ops.size) (hS : S j = false) (hd : ∀ o, ops[j]? = some o → ∀ d ∈ direct o, S d = true) {Q : Exit → Act → World → Prop} {K : Act → World → Prop}
    (hK : ∀ S' ρ' Im' w' a', (∀ i, i ≠ j → S' i = S i) → S' j = true → Inv P n ops nm recs es hs pn sp ok ρ0 Im0 w0 a0 S' ρ' Im' w' a' → K a' w') :
    wpOp P ops Q j K a w := by
  obtain ⟨o, r, ho, hr, hst⟩ := t.step hj
  simp only [orderOk, Bool.and_eq_true] at hok
  obtain ⟨⟨hedge, hdst⟩, hpairs⟩ := hok
  have hol : ops.toList[j]? = some o := by simpa using ho
  -- what must have been done
  have hml : (masks ops.toList []).length = ops.size := by simp [masks_length]
  have hbefore : ∀ i, Nat.testBit ((masks ops.toList [])[j]'(by omega)) i = true → S i = true := fun i hi =>
    masks_closed hedge I.closed j o hol (hd o ho) _ (List.getElem?_eq_getElem (by omega)) i hi
  have hpair : ∀ (i k : Nat) (x y : Oper) (r s : Rec), i < k → ops[i]? = some x → ops[k]? = some y → recs[i]? = some r → recs[k]? = some s →
      (∀ hk : k < (masks ops.toList []).length, Nat.testBit ((masks ops.toList [])[k]'hk) i = false) → apartB ops x y r s (lenH ops hs i) = true := by
    intro i k x y r s hik hx hy hr hs' hno
    have hk : k < ops.size := by
      rcases Nat.lt_or_ge k ops.size with h | h
      · exact h
      · rw [Array.getElem?_eq_none h] at hy; cases hy
    have := allPairsB_spec (ops := ops) (lenH ops hs) ops.toList recs (masks ops.toList []) (hs 0).length 0 hpairs (by simp [lenH])
      (fun k r hk => by have := t.lenS k r hk; simpa using this) i k x y r s _ hik (by simpa using hx) (by simpa using hy) hr hs' (List.getElem?_eq_getElem (by omega))
    simp only [Nat.zero_add] at this
    rcases this with h | h
    · rw [hno (by omega)] at h; cases h
    · exact h
  -- a later operation that has been done does not lean on j
  have hlater : ∀ i, S i = true → ∀ hi : i < (masks ops.toList []).length, Nat.testBit ((masks ops.toList [])[i]'hi) j = false := by
    intro i hi hlt
    cases hb : Nat.testBit ((masks ops.toList [])[i]'hlt) j with
    | false => rfl
    | true =>
      exfalso
      have hi' : i < ops.size := by omega
      have := masks_closed hedge I.closed i ops[i] (by simp [hi']) (I.closed i _ (by simp [hi']) hi) _ (List.getElem?_eq_getElem hlt) j hb
      rw [hS] at this; cases this
  have hnotyet : ∀ i, i < j → S i = false → ∀ hk : j < (masks ops.toList []).length, Nat.testBit ((masks ops.toList [])[j]'hk) i = false := by
    intro i hi hSi hk
    cases hb : Nat.testBit ((masks ops.toList [])[j]'hk) i with
    | false => rfl
    | true => have := hbefore i hb; rw [hSi] at this; cases this
  -- slots that j looks at
  have hslot : ∀ s, s ∈ o.looksAt ops → ver (valE ops es) (updE ops) S ops.size s = (es j).get s := by
    intro s hs'
    have : valE ops es j s = (es j).get s := by unfold valE; rw [Nat.min_eq_left (by omega)]
    rw [← this]
    refine ver_read t.frE (by omega) ?_ ?_
    · intro i hi hu
      obtain ⟨x, hx, hxd⟩ := updE_iff.1 hu
      cases hSi : S i with
      | true => rfl
      | false =>
        exfalso
        obtain ⟨_, r', _, hr', _⟩ := t.step (show i < ops.size by omega)
        have := hpair i j x o r' r hi hx ho hr' hr (hnotyet i hi hSi)
        simp only [apartB, Bool.and_eq_true] at this
        exact (Oper.apart_spec this.1.1).1 s hxd hs'
    · intro i hji hin hu
      obtain ⟨x, hx, hxd⟩ := updE_iff.1 hu
      cases hSi : S i with
      | false => rfl
      | true =>
        exfalso
        have hne : i ≠ j := fun h => by rw [h, hS] at hSi; cases hSi
        obtain ⟨_, r', _, hr', _⟩ := t.step hin
        have := hpair j i o x r r' (by omega) ho hx hr hr' (hlater i hSi)
        simp only [apartB, Bool.and_eq_true] at this
        exact (Oper.apart_spec this.1.1).2.2 s hxd hs'
  have hguard : ∀ g want d, o.guard = some (g, want) → ((ops[g]?).bind (·.dst)) = some d → ∀ v, (es j).get d = some v → VRel P ρ Im w v (a.tmps.getD d undef) := by
    intro g want d h1 h2 v hv
    refine I.env d v ?_
    rw [hslot d ?_]
    · exact hv
    · unfold Oper.looksAt
      rw [h1]
      simp [h2]
  have hopnd : ∀ s, Operand.tmp s ∈ o.op.operands.toList → ∀ v, (es j).get s = some v → VRel P ρ Im w v (a.tmps.getD s undef) := by
    intro s h1 v hv
    refine I.env s v ?_
    rw [hslot s ?_]
    · exact hv
    · unfold Oper.looksAt
      refine List.mem_append_left _ (List.mem_filterMap.2 ⟨_, h1, rfl⟩)
  have hsame : ∀ (S' : Nat → Bool), (∀ i, i ≠ j → S' i = S i) → S' j = true → ∀ s, o.dst ≠ some s → ver (valE ops es) (updE ops) S' ops.size s = ver (valE ops es) (updE ops) S ops.size s := by
    intro S' h1 h2 s hne
    refine ver_same ?_ h1 _
    cases hu : updE ops j s with
    | false => rfl
    | true =>
      obtain ⟨x, hx, hxd⟩ := updE_iff.1 hu
      rw [ho] at hx; cases hx
      exact absurd hxd hne
  have hput : ∀ (S' : Nat → Bool), (∀ i, i ≠ j → S' i = S i) → S' j = true → ∀ s, o.dst = some s → ver (valE ops es) (updE ops) S' ops.size s = (es (j + 1)).get s := by
    intro S' h1 h2 s hds
    have hv : valE ops es (j + 1) s = (es (j + 1)).get s := by unfold valE; rw [Nat.min_eq_left (by omega)]
    rw [← hv]
    refine ver_write hj (updE_iff.2 ⟨o, ho, hds⟩) h2 h1 ?_
    intro i hji hin hu
    obtain ⟨x, hx, hxd⟩ := updE_iff.1 hu
    have := dstsB_spec ops.toList hdst j i o x s hol (by simpa using hx) hds hxd
    omega
  have hclosed : ∀ (S' : Nat → Bool), (∀ i, i ≠ j → S' i = S i) → S' j = true → ∀ i x, ops.toList[i]? = some x → S' i = true → ∀ d ∈ direct x, S' d = true := by
    intro S' h1 h2 i x hx hi d hdd
    by_cases hdj : d = j
    · rw [hdj]; exact h2
    · rw [h1 d hdj]
      by_cases hij : i = j
      · subst hij
        rw [hol] at hx; cases hx
        exact hd o ho d hdd
      · rw [h1 i hij] at hi
        exact I.closed i x hx hi d hdd
  have hout : ∀ (S' : Nat → Bool), (∀ i, i ≠ j → S' i = S i) → ∀ i, ops.size ≤ i → S' i = false := fun S' h1 i hi => by
    rw [h1 i (by omega)]; exact I.out i hi
  let S' : Nat → Bool := fun i => if i = j then true else S i
  have hS'1 : ∀ i, i ≠ j → S' i = S i := fun i hi => by simp [S', hi]
  have hS'2 : S' j = true := by simp [S']
  unfold wpOp
  rw [ho]
  simp only
  rcases hst.elim with ⟨hg, hdo, hps, hwr, hcre, hpn, hes, hhs⟩ | ⟨vs, v, F, G, N, k, hg, hdo, hv, hse, hnd, hG, hw, hop, hcre, hpn, hes, hhs⟩
  · rw [guardE_wanted' hguard hg]
    simp only [Bool.false_eq_true, if_false]
    refine hK S' ρ Im w _ hS'1 hS'2 ?_
    refine { size := by rw [put_size, I.size], defers := by rw [put_defers, I.defers], env := ?_, ev := ?_, sup := ?_, closed := hclosed S' hS'1 hS'2, out := hout S' hS'1 }
    · intro s x hx
      by_cases hds : o.dst = some s
      · rw [hput S' hS'1 hS'2 s hds, hes, hds, Env.get_putE_eq] at hx
        cases hx
        rw [hds]
        rw [dstOk, hds] at hdo
        rw [put_eq I.size hdo]
        simp only [VRel]
        exact ⟨#[], rfl, by simp [VRels]⟩
      · rw [hsame S' hS'1 hS'2 s hds] at hx
        rw [put_ne hds]
        exact I.env s x hx
    · have : ∀ x, ver (valH ops hs) (updH ops recs hs) S' ops.size x = ver (valH ops hs) (updH ops recs hs) S ops.size x := fun x => by
        refine ver_same ?_ hS'1 _
        unfold updH
        rw [hr]
        simp only [hwr, hcre, Bool.false_and, Bool.false_or, Nat.add_zero]
        cases h1 : Nat.ble (lenH ops hs j) x with
        | false => rfl
        | true =>
          rw [Nat.ble_eq] at h1
          simp only [Bool.true_and]
          cases h2 : Nat.blt x (lenH ops hs j) with
          | false => rfl
          | true => rw [Nat.blt, Nat.ble_eq] at h2; omega
      rw [show ver (valH ops hs) (updH ops recs hs) S' ops.size = ver (valH ops hs) (updH ops recs hs) S ops.size from funext this]
      exact I.ev
    · refine { names := ?_, inj := I.sup.inj, sups := ?_, spInj := I.sup.spInj, ne := I.sup.ne }
      · rintro q ⟨i, h1, h2, h3⟩
        by_cases hij : i = j
        · subst hij; rw [hS'2] at h2; cases h2
        · rw [hS'1 i hij] at h2
          exact I.sup.names q ⟨i, h1, h2, h3⟩
      · intro i x h2
        by_cases hij : i = j
        · subst hij; rw [hS'2] at h2; cases h2
        · rw [hS'1 i hij] at h2
          exact I.sup.sups i x h2
  · rw [guardE_wanted' hguard hg]
    simp only [if_true]
    have hlenj : lenH ops hs j = (hs j).length := by unfold lenH; rw [Nat.min_eq_left (by omega)]
    have hlenj1 : lenH ops hs (j + 1) = (hs j).length + N.length := by rw [t.lenS j r hr, hlenj, hcre]
    have hlenM : lenH ops hs (j + 1) ≤ lenH ops hs ops.size := t.lenM (by omega)
    have hnd' := nodupB_iff.1 hnd
    have hpslt := sel_lt hse
    have hvalj : ∀ p, valH ops hs j p = (hs j)[p]? := fun p => by unfold valH; rw [Nat.min_eq_left (by omega)]
    have hvalj1 : ∀ p, valH ops hs (j + 1) p = (hs (j + 1))[p]? := fun p => by unfold valH; rw [Nat.min_eq_left (by omega)]
    -- who changes a place
    have hupd : ∀ i p, updH ops recs hs i p = true → ∃ x s, ops[i]? = some x ∧ recs[i]? = some s ∧ ((s.wr = true ∧ p ∈ s.ps) ∨ (lenH ops hs i ≤ p ∧ p < lenH ops hs i + s.cre)) := by
      intro i p hu
      unfold updH at hu
      cases hs' : recs[i]? with
      | none => rw [hs'] at hu; cases hu
      | some s =>
        rw [hs'] at hu
        have hi : i < ops.size := by have := (List.getElem?_eq_some_iff.1 hs').1; have := t.len; omega
        refine ⟨ops[i], s, Array.getElem?_eq_getElem hi, rfl, ?_⟩
        simp only [Bool.or_eq_true, Bool.and_eq_true, List.elem_eq_mem, decide_eq_true_eq] at hu
        rcases hu with ⟨h1, h2⟩ | ⟨h1, h2⟩
        · exact .inl ⟨h1, h2⟩
        · rw [Nat.ble_eq] at h1
          rw [Nat.blt, Nat.ble_eq] at h2
          exact .inr ⟨h1, h2⟩
    have hpsrec : ∀ i s, recs[i]? = some s → ∀ p ∈ s.ps, p < lenH ops hs i := by
      intro i s hs' p hp
      have hi : i < ops.size := by have := (List.getElem?_eq_some_iff.1 hs').1; have := t.len; omega
      obtain ⟨x, s', hx, hs'', hst'⟩ := t.step hi
      rw [hs'] at hs''; cases hs''
      unfold lenH
      rw [Nat.min_eq_left (by omega)]
      rcases hst'.elim with ⟨_, _, h1, _⟩ | ⟨_, _, _, _, _, _, _, _, _, h1, _⟩
      · rw [h1] at hp; cases hp
      · exact sel_lt h1 p hp
    -- places of j, as they are now
    have hread : ∀ p ∈ r.ps, ver (valH ops hs) (updH ops recs hs) S ops.size p = (hs j)[p]? := by
      intro p hp
      rw [← hvalj p]
      refine ver_read t.frH (by omega) ?_ ?_
      · intro i hi hu
        obtain ⟨x, s, hx, hs', hcase⟩ := hupd i p hu
        cases hSi : S i with
        | true => rfl
        | false =>
          exfalso
          have := hpair i j x o s r hi hx ho hs' hr (hnotyet i hi hSi)
          simp only [apartB, Bool.and_eq_true, Bool.not_eq_true', Bool.and_eq_false_iff, Bool.or_eq_false_iff] at this
          rcases hcase with ⟨h1, h2⟩ | ⟨h1, h2⟩
          · rcases this.1.2 with h3 | h3
            · rw [h1] at h3; cases h3.1
            · simp only [disj, Bool.not_eq_false', List.all_eq_true] at h3
              have := h3 p h2
              simp [hp] at this
          · have h3 := this.2
            simp only [madeB, List.any_eq_false] at h3
            have := h3 p hp
            rw [Bool.and_eq_true, Nat.ble_eq, Nat.blt, Nat.ble_eq] at this
            exact this ⟨h1, h2⟩
      · intro i hji hin hu
        obtain ⟨x, s, hx, hs', hcase⟩ := hupd i p hu
        cases hSi : S i with
        | false => rfl
        | true =>
          exfalso
          have hne : i ≠ j := fun h => by rw [h, hS] at hSi; cases hSi
          have := hpair j i o x r s (by omega) ho hx hr hs' (hlater i hSi)
          simp only [apartB, Bool.and_eq_true, Bool.not_eq_true', Bool.and_eq_false_iff, Bool.or_eq_false_iff] at this
          rcases hcase with ⟨h1, h2⟩ | ⟨h1, h2⟩
          · rcases this.1.2 with h3 | h3
            · rw [h1] at h3; cases h3.2
            · simp only [disj, Bool.not_eq_false', List.all_eq_true] at h3
              have := h3 p hp
              simp [h2] at this
          · have h4 := hpslt p hp
            have h5 : lenH ops hs j ≤ lenH ops hs i := t.lenM hji
            omega
    have hmade : ∀ p, lenH ops hs j ≤ p → p < lenH ops hs j + N.length → ver (valH ops hs) (updH ops recs hs) S ops.size p = none := by
      intro p h1 h2
      have hn : valH ops hs j p = none := by rw [hvalj]; exact List.getElem?_eq_none (by omega)
      rw [← hn]
      refine ver_read t.frH (by omega) ?_ ?_
      · intro i hi hu
        exfalso
        obtain ⟨x, s, hx, hs', hcase⟩ := hupd i p hu
        have h5 : lenH ops hs (i + 1) ≤ lenH ops hs j := t.lenM (by omega)
        have h6 := t.lenS i s hs'
        rcases hcase with ⟨h3, h4⟩ | ⟨h3, h4⟩
        · have := hpsrec i s hs' p h4; omega
        · omega
      · intro i hji hin hu
        obtain ⟨x, s, hx, hs', hcase⟩ := hupd i p hu
        cases hSi : S i with
        | false => rfl
        | true =>
          exfalso
          have hne : i ≠ j := fun h => by rw [h, hS] at hSi; cases hSi
          have h5 : lenH ops hs (j + 1) ≤ lenH ops hs i := t.lenM (by omega)
          have := hpair j i o x r s (by omega) ho hx hr hs' (hlater i hSi)
          simp only [apartB, Bool.and_eq_true, Bool.not_eq_true'] at this
          rcases hcase with ⟨h3, h4⟩ | ⟨h3, h4⟩
          · have h6 := this.2
            simp only [madeB, List.any_eq_false] at h6
            have := h6 p h4
            rw [Bool.and_eq_true, Nat.ble_eq, Nat.blt, Nat.ble_eq] at this
            exact this ⟨h1, by rw [hcre]; exact h2⟩
          · omega
    have hwrite : ∀ p, updH ops recs hs j p = true → ver (valH ops hs) (updH ops recs hs) S' ops.size p = (hs (j + 1))[p]? := by
      intro p hu
      rw [← hvalj1]
      refine ver_write hj hu hS'2 hS'1 ?_
      intro i hji hin hu'
      obtain ⟨x, s, hx, hs', hcase⟩ := hupd i p hu'
      obtain ⟨x0, s0, hx0, hs0, hcase0⟩ := hupd j p hu
      rw [ho] at hx0; cases hx0
      rw [hr] at hs0; cases hs0
      cases hSi : S i with
      | false => rfl
      | true =>
        exfalso
        have h5 : lenH ops hs (j + 1) ≤ lenH ops hs i := t.lenM (by omega)
        have := hpair j i o x r s (by omega) ho hx hr hs' (hlater i hSi)
        simp only [apartB, Bool.and_eq_true, Bool.not_eq_true', Bool.and_eq_false_iff, Bool.or_eq_false_iff] at this
        rcases hcase0 with ⟨h1, h2⟩ | ⟨h1, h2⟩
        · rcases hcase with ⟨h3, h4⟩ | ⟨h3, h4⟩
          · rcases this.1.2 with h6 | h6
            · rw [h1] at h6; cases h6.1
            · simp only [disj, Bool.not_eq_false', List.all_eq_true] at h6
              have := h6 p h2
              simp [h4] at this
          · have h7 := hpslt p h2
            omega
        · rcases hcase with ⟨h3, h4⟩ | ⟨h3, h4⟩
          · have h6 := this.2
            simp only [madeB, List.any_eq_false] at h6
            have := h6 p h4
            rw [Bool.and_eq_true, Nat.ble_eq, Nat.blt, Nat.ble_eq] at this
            exact this ⟨h1, h2⟩
          · rw [hcre] at h2; omega
    have hkeep : ∀ p, updH ops recs hs j p = false → ver (valH ops hs) (updH ops recs hs) S' ops.size p = ver (valH ops hs) (updH ops recs hs) S ops.size p :=
      fun p hu => ver_same hu hS'1 _
    have hnew : ∀ p, lenH ops hs j ≤ p → p < lenH ops hs j + N.length → updH ops recs hs j p = true := by
      intro p h1 h2
      unfold updH
      rw [hr]
      simp only [Bool.or_eq_true, Bool.and_eq_true]
      refine .inr ⟨by rw [Nat.ble_eq]; exact h1, by rw [Nat.blt, Nat.ble_eq, hcre]; exact h2⟩
    have hFmap : r.ps.map (ver (valH ops hs) (updH ops recs hs) S ops.size) = F.map some := by
      rw [← sel_map hse]
      exact List.map_congr_left fun p hp => hread p hp
    have hpM : ∀ p ∈ r.ps, p < lenH ops hs ops.size := fun p hp => by have := hpslt p hp; omega
    have hperm1 := HL_split (N := lenH ops hs ops.size) hnd' hpM hFmap
    have hperm2 : List.Perm (HL (lenH ops hs ops.size) (ver (valH ops hs) (updH ops recs hs) S' ops.size))
        ((G ++ N) ++ Rest (lenH ops hs ops.size) (ver (valH ops hs) (updH ops recs hs) S ops.size) r.ps) := by
      refine HL_next (ns := List.range' (lenH ops hs j) N.length) ?_ ?_ ?_ ?_ ?_
      · rw [List.nodup_append]
        refine ⟨hnd', List.nodup_range', ?_⟩
        intro x hx y hy hxy
        subst hxy
        have h1 := hpslt x hx
        have h2 := (List.mem_range'_1.1 hy).1
        omega
      · intro p hp
        rcases List.mem_append.1 hp with hp | hp
        · exact hpM p hp
        · have := (List.mem_range'_1.1 hp).2; omega
      · rw [List.map_append, List.map_append]
        congr 1
        · rw [← setAll_map (hs j) r.ps G hnd' hpslt hG]
          refine List.map_congr_left fun p hp => ?_
          have hp' : (hs (j + 1))[p]? = (setAll (hs j) r.ps G)[p]? := by
            rw [hhs, List.getElem?_append_left (by rw [setAll_length]; exact hpslt p hp)]
          rw [← hp']
          cases hu : updH ops recs hs j p with
          | true => exact hwrite p hu
          | false =>
            rw [hkeep p hu, hread p hp]
            have := t.frH j p hu
            rw [hvalj, hvalj1] at this
            exact this.symm
        · have : (List.range' (lenH ops hs j) N.length).map (fun p => (hs (j + 1))[p]?) = N.map some := by
            rw [hhs, hlenj]
            apply List.ext_getElem
            · simp
            · intro i h1 h2
              simp only [List.length_map, List.length_range'] at h1
              simp [setAll_length, List.getElem?_append_right]
          rw [← this]
          refine List.map_congr_left fun p hp => ?_
          have := List.mem_range'_1.1 hp
          exact hwrite p (hnew p this.1 this.2)
      · intro p hp
        refine hkeep p ?_
        cases hu : updH ops recs hs j p with
        | false => rfl
        | true =>
          exfalso
          obtain ⟨x, s, hx, hs', hcase⟩ := hupd j p hu
          rw [hr] at hs'; cases hs'
          apply hp
          rcases hcase with ⟨h1, h2⟩ | ⟨h1, h2⟩
          · exact List.mem_append_left _ h2
          · refine List.mem_append_right _ (List.mem_range'_1.2 ⟨h1, by rw [hcre] at h2; exact h2⟩)
      · intro p hp
        have := List.mem_range'_1.1 hp
        exact hmade p this.1 this.2
    have hcur : ∀ q, pn j ≤ q → q < pn j + k → ∃ i, i < ops.size ∧ S i = false ∧ pn i ≤ q ∧ q < pn (i + 1) := fun q h1 h2 =>
      ⟨j, hj, hS, h1, by rw [hpn]; exact h2⟩
    refine .inl (((OpV.frame _ hop).perm hperm1.symm hperm2.symm) ρ Im w a (sp j) I.ev.st (I.sup.fresh hS (pn j) k hcur) ?_ _ _ ?_)
    · have := evs_rel' hopnd hv
      simpa using this
    intro v' w' ρ' Im' hv' e
    have m := e.mono I.ev.st
    refine hK S' ρ' Im' w' _ hS'1 hS'2 ?_
    refine { size := by rw [put_size, I.size], defers := by rw [put_defers, I.defers], env := ?_, ev := ?_, sup := ?_, closed := hclosed S' hS'1 hS'2, out := hout S' hS'1 }
    · intro s x hx
      by_cases hds : o.dst = some s
      · rw [hput S' hS'1 hS'2 s hds, hes, hds, Env.get_putE_eq] at hx
        cases hx
        rw [hds]
        rw [dstOk, hds] at hdo
        rw [put_eq I.size hdo]
        exact hv'
      · rw [hsame S' hS'1 hS'2 s hds] at hx
        rw [put_ne hds]
        exact (I.env s x hx).mono m
    · exact I.ev.trans (e.okMono (okOf_ok (p := pn j) (k := k) okn oks))
    · refine I.sup.next (i := j) (p := pn j) (k := k) ?_ ?_ e.ok
      · intro i hi
        by_cases hij : i = j
        · subst hij; rw [hS'2] at hi; cases hi
        · rw [hS'1 i hij] at hi
          exact ⟨hi, hij⟩
      · rintro q ⟨i, h1, h2, h3, h4⟩
        by_cases hij : i = j
        · subst hij; rw [hS'2] at h2; cases h2
        · rw [hS'1 i hij] at h2
          refine ⟨⟨i, h1, h2, h3, h4⟩, fun ⟨h5, h6⟩ => ?_⟩
          rcases Nat.lt_or_gt_of_ne hij with h7 | h7
          · have := t.pnM (i := i + 1) (j := j) (by omega) (by omega); omega
          · have := t.pnM (i := j + 1) (j := i) (by omega) (by omega); rw [hpn] at this; omega
end
end Go.Kw
