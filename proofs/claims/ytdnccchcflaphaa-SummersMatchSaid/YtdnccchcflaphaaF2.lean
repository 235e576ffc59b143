import Derived.Test.YtdnccchcflaphaaF1
namespace Go.Kw
set_option linter.unusedVariables false
variable {P : Program}

theorem VRels.length {ρ Im w} : ∀ {as : List AVal} {vs : List Value}, VRels P ρ Im w as vs → vs.length = as.length
  | [], vs, h => by simp only [VRels] at h; simp [h]
  | a :: as, vs, h => by
    simp only [VRels] at h
    obtain ⟨v, vs', rfl, _, h2⟩ := h
    simp [VRels.length h2]

theorem Reads.mono {w w' : World} {c base : Nat} {vals : List Value} (h : Reads w c base vals) (hc : w'.heap[c]? = w.heap[c]?) : Reads w' c base vals := by
  intro i hi
  have := h i hi
  simp only [World.cell?] at this ⊢
  rw [hc]; exact this

structure Mono (ρ : Nat → Option Nat) (Im : Nat → Prop) (w : World) (ρ' : Nat → Option Nat) (Im' : Nat → Prop) (w' : World) : Prop where
  rho : ∀ b c, ρ b = some c → ρ' b = some c
  im : ∀ c, Im c → Im' c
  same : ∀ c, Im c → w'.heap[c]? = w.heap[c]?
  shape : ∀ c T n, w.shape? c = some (T, n) → w'.shape? c = some (T, n)

mutual
theorem VRel.mono {ρ Im w ρ' Im' w'} (m : Mono ρ Im w ρ' Im' w') : ∀ {a : AVal} {v : Value}, VRel P ρ Im w a v → VRel P ρ' Im' w' a v
  | .int k n, v, h => by simpa only [VRel] using h
  | .bool b, v, h => by simpa only [VRel] using h
  | .str s, v, h => by simpa only [VRel] using h
  | .nilp, v, h => by simpa only [VRel] using h
  | .ptr b off, v, h => by
    simp only [VRel] at h ⊢
    obtain ⟨c, h1, h2⟩ := h
    exact ⟨c, m.rho _ _ h1, h2⟩
  | .vptr cells off, v, h => by
    simp only [VRel] at h ⊢
    obtain ⟨c, base, vals, h1, h2, h3, h4⟩ := h
    exact ⟨c, base, vals, h1, m.im _ h2, h3.mono (m.same _ h2), VRels.mono m h4⟩
  | .vs len full cells, v, h => by
    simp only [VRel] at h ⊢
    obtain ⟨a, cap, h1, h2, h3, h4⟩ := h
    refine ⟨a, cap, h1, h2, h3, ?_⟩
    rcases h4 with h4 | ⟨c, base, vals, g1, g2, g3, g4⟩
    · exact .inl h4
    · exact .inr ⟨c, base, vals, g1, m.im _ g2, g3.mono (m.same _ g2), VRels.mono m g4⟩
  | .os b off len sz full, v, h => by
    simp only [VRel] at h ⊢
    rcases h with ⟨⟨c, h1⟩, h2⟩ | ⟨c, cap, T, n, h1, h2, h3, h4, h5, h6⟩
    · exact .inl ⟨⟨c, m.rho _ _ h1⟩, h2⟩
    · exact .inr ⟨c, cap, T, n, m.rho _ _ h1, h2, h3, h4, m.shape _ _ _ h5, h6⟩
  | .nilm, v, h => by simpa only [VRel] using h
  | .ns nil, v, h => by simpa only [VRel] using h
  | .mp b, v, h => by
    simp only [VRel] at h ⊢
    obtain ⟨c, h1, h2⟩ := h
    exact ⟨c, m.rho _ _ h1, h2⟩
  | .nilf, v, h => by simpa only [VRel] using h
  | .fn f first captured, v, h => by
    simp only [VRel] at h ⊢
    obtain ⟨as, bs, h1, h2, h3⟩ := h
    exact ⟨as, bs, h1, VRels.mono m h2, VRels.mono m h3⟩
  | .agg cells, v, h => by
    simp only [VRel] at h ⊢
    obtain ⟨cs, h1, h2⟩ := h
    exact ⟨cs, h1, VRels.mono m h2⟩
  | .tup vs, v, h => by
    simp only [VRel] at h ⊢
    obtain ⟨cs, h1, h2⟩ := h
    exact ⟨cs, h1, VRels.mono m h2⟩
theorem VRels.mono {ρ Im w ρ' Im' w'} (m : Mono ρ Im w ρ' Im' w') : ∀ {as : List AVal} {vs : List Value}, VRels P ρ Im w as vs → VRels P ρ' Im' w' as vs
  | [], vs, h => by simpa only [VRels] using h
  | a :: as, vs, h => by
    simp only [VRels] at h ⊢
    obtain ⟨v, vs', h1, h2, h3⟩ := h
    exact ⟨v, vs', h1, VRel.mono m h2, VRels.mono m h3⟩
end

/-- The block c of the world is this object. -/
def ORel (P : Program) (ρ : Nat → Option Nat) (Im : Nat → Prop) (w : World) (o : AObj) (c : Nat) : Prop :=
  match o with
  | .vec T cells => ∃ cs fz vals, w.heap[c]? = some (.cells cs T fz) ∧ (∀ i, i < cs.size → ¬ (fz.1 ≤ i ∧ i < fz.2)) ∧
      (∀ i (h : i < vals.length), cs[i]? = some vals[i]) ∧ VRels P ρ Im w cells vals
  | .map entries => ∃ es clock, w.heap[c]? = some (.map es clock) ∧ VRels P ρ Im w (entries.map (·.1)) (es.toList.map (·.key)) ∧
      VRels P ρ Im w (entries.map (·.2)) (es.toList.map (·.val)) ∧ (es.toList.map (·.born)).Nodup ∧ ∀ e ∈ es.toList, e.born < clock

theorem ORel.mono {ρ Im w ρ' Im' w' o c} (m : Mono ρ Im w ρ' Im' w') (hc : w'.heap[c]? = w.heap[c]?) (h : ORel P ρ Im w o c) : ORel P ρ' Im' w' o c := by
  cases o with
  | vec T cells =>
    obtain ⟨cs, fz, vals, h1, h2, h3, h4⟩ := h
    exact ⟨cs, fz, vals, by rw [hc, h1], h2, h3, h4.mono m⟩
  | map entries =>
    obtain ⟨es, clock, h1, h2, h3, h4, h5⟩ := h
    exact ⟨es, clock, by rw [hc, h1], h2.mono m, h3.mono m, h4, h5⟩

theorem ORel.lt {ρ Im w o c} (h : ORel P ρ Im w o c) : c < w.heap.size := by
  cases o with
  | vec T cells =>
    obtain ⟨cs, fz, vals, h1, h2, h3, h4⟩ := h
    exact (Array.getElem?_eq_some_iff.1 h1).1
  | map entries =>
    obtain ⟨es, clock, h1, h2, h3, h4, h5⟩ := h
    exact (Array.getElem?_eq_some_iff.1 h1).1

/-- A block without cells need not be there. -/
def AObj.void : AObj → Prop
  | .vec _ cells => cells = []
  | .map _ => False

/-- The abstract heap describes the world. (ρ b = 0: there is no block; ρ b = c + 1: the block c.) -/
structure St (P : Program) (ρ : Nat → Option Nat) (Im : Nat → Prop) (h : AHeap) (w : World) : Prop where
  obj : ∀ b o, (b, o) ∈ h → (ρ b = some 0 ∧ o.void) ∨ ∃ c, ρ b = some (c + 1) ∧ ORel P ρ Im w o c ∧ ¬ Im c
  nd : (h.map Prod.fst).Nodup
  inj : ∀ b b' o o' c, (b, o) ∈ h → (b', o') ∈ h → ρ b = some (c + 1) → ρ b' = some (c + 1) → b = b'
  im : ∀ c, Im c → c < w.heap.size

theorem St.code {ρ Im h w b o} (s : St P ρ Im h w) (hb : (b, o) ∈ h) : ∃ c, ρ b = some c := by
  rcases s.obj b o hb with ⟨h, _⟩ | ⟨c, h, _⟩
  · exact ⟨_, h⟩
  · exact ⟨_, h⟩

/-- What a step does: from (ρ, Im, h, w) to (ρ', Im', h', w'), names that are new are 'ok'. -/
structure Ev (P : Program) (ρ : Nat → Option Nat) (Im : Nat → Prop) (h : AHeap) (w : World) (ok : Nat → Prop)
    (ρ' : Nat → Option Nat) (Im' : Nat → Prop) (h' : AHeap) (w' : World) : Prop where
  size : w.heap.size ≤ w'.heap.size
  os : w'.os = w.os
  out : w'.output = w.output
  keep : ∀ c, c < w.heap.size → (∀ b o, (b, o) ∈ h → ρ b ≠ some (c + 1)) → w'.heap[c]? = w.heap[c]?
  rho : ∀ b c, ρ b = some c → ρ' b = some c
  im : ∀ c, Im c → Im' c
  imNew : ∀ c, Im' c → Im c ∨ (∃ b o, (b, o) ∈ h ∧ ρ b = some (c + 1)) ∨ w.heap.size ≤ c
  shape : ∀ c T n, w.shape? c = some (T, n) → w'.shape? c = some (T, n)
  own : ∀ b o c, (b, o) ∈ h' → ρ' b = some (c + 1) → (∃ b0 o0, (b0, o0) ∈ h ∧ ρ b0 = some (c + 1)) ∨ w.heap.size ≤ c
  names : ∀ b o, (b, o) ∈ h' → (∃ o0, (b, o0) ∈ h) ∨ ρ b = none
  ok : ∀ b, ρ' b ≠ none → ρ b ≠ none ∨ ok b
  st : St P ρ' Im' h' w'

theorem Ev.mono {ρ Im h w ok ρ' Im' h' w'} (e : Ev P ρ Im h w ok ρ' Im' h' w') (s : St P ρ Im h w) : Mono ρ Im w ρ' Im' w' where
  rho := e.rho
  im := e.im
  shape := e.shape
  same := fun c hc => e.keep c (s.im c hc) fun b o hb hr => by
    rcases s.obj b o hb with ⟨h1, _⟩ | ⟨c', h1, _, h3⟩
    · rw [hr] at h1; cases h1
    · rw [hr] at h1
      cases h1
      exact h3 hc

theorem Ev.refl {ρ Im h w ok} (s : St P ρ Im h w) : Ev P ρ Im h w ok ρ Im h w where
  size := Nat.le_refl _
  os := rfl
  out := rfl
  keep := fun _ _ _ => rfl
  rho := fun _ _ h => h
  im := fun _ h => h
  imNew := fun _ h => .inl h
  shape := fun _ _ _ h => h
  own := fun b o c hb hr => .inl ⟨b, o, hb, hr⟩
  names := fun b o hb => .inl ⟨o, hb⟩
  ok := fun _ h => .inl h
  st := s

theorem Ev.okMono {ρ Im h w ok ok' ρ' Im' h' w'} (e : Ev P ρ Im h w ok ρ' Im' h' w') (ho : ∀ b, ok b → ok' b) : Ev P ρ Im h w ok' ρ' Im' h' w' :=
  { e with ok := fun b hb => (e.ok b hb).imp id (ho b) }

theorem Ev.trans {ρ Im h w ok ρ1 Im1 h1 w1 ρ2 Im2 h2 w2} (e1 : Ev P ρ Im h w ok ρ1 Im1 h1 w1) (e2 : Ev P ρ1 Im1 h1 w1 ok ρ2 Im2 h2 w2) :
    Ev P ρ Im h w ok ρ2 Im2 h2 w2 where
  size := Nat.le_trans e1.size e2.size
  os := e2.os.trans e1.os
  out := e2.out.trans e1.out
  keep := fun c hc hn => by
    rw [e2.keep c (Nat.lt_of_lt_of_le hc e1.size), e1.keep c hc hn]
    intro b o hb hr
    rcases e1.own b o c hb hr with ⟨b0, o0, hb0, hr0⟩ | hge
    · exact hn b0 o0 hb0 hr0
    · omega
  rho := fun b c h => e2.rho b c (e1.rho b c h)
  im := fun c h => e2.im c (e1.im c h)
  imNew := fun c h => by
    rcases e2.imNew c h with h | ⟨b, o, hb, hr⟩ | h
    · exact e1.imNew c h
    · rcases e1.own b o c hb hr with h | h
      · exact .inr (.inl h)
      · exact .inr (.inr h)
    · exact .inr (.inr (Nat.le_trans e1.size h))
  shape := fun c T n h => e2.shape c T n (e1.shape c T n h)
  own := fun b o c hb hr => by
    rcases e2.own b o c hb hr with ⟨b0, o0, hb0, hr0⟩ | h
    · exact e1.own b0 o0 c hb0 hr0
    · exact .inr (Nat.le_trans e1.size h)
  names := fun b o hb => by
    rcases e2.names b o hb with ⟨o0, h0⟩ | h
    · exact e1.names b o0 h0
    · refine .inr ?_
      cases hr : ρ b with
      | none => rfl
      | some c => rw [e1.rho b c hr] at h; cases h
  ok := fun b hb => by
    rcases e2.ok b hb with h | h
    · exact e1.ok b h
    · exact .inr h
  st := e2.st

/-- Frames: what is not touched stays. -/
theorem St.sub {ρ Im h h0 w} (s : St P ρ Im h w) (hs : List.Sublist h0 h) : St P ρ Im h0 w where
  obj := fun b o hb => s.obj b o (hs.subset hb)
  nd := List.Nodup.sublist (hs.map _) s.nd
  inj := fun b b' o o' c hb hb' => s.inj b b' o o' c (hs.subset hb) (hs.subset hb')
  im := s.im

theorem St.perm {ρ Im h h0 w} (s : St P ρ Im h w) (hp : List.Perm h h0) : St P ρ Im h0 w where
  obj := fun b o hb => s.obj b o (hp.mem_iff.2 hb)
  nd := (hp.map _).nodup_iff.1 s.nd
  inj := fun b b' o o' c hb hb' => s.inj b b' o o' c (hp.mem_iff.2 hb) (hp.mem_iff.2 hb')
  im := s.im

theorem Ev.permL {ρ Im h h0 w ok ρ' Im' h' w'} (e : Ev P ρ Im h w ok ρ' Im' h' w') (hp : List.Perm h h0) : Ev P ρ Im h0 w ok ρ' Im' h' w' where
  size := e.size
  os := e.os
  out := e.out
  keep := fun c hc hn => e.keep c hc fun b o hb => hn b o (hp.mem_iff.1 hb)
  rho := e.rho
  im := e.im
  imNew := fun c h => by
    rcases e.imNew c h with h | ⟨b, o, hb, hr⟩ | h
    · exact .inl h
    · exact .inr (.inl ⟨b, o, hp.mem_iff.1 hb, hr⟩)
    · exact .inr (.inr h)
  shape := e.shape
  own := fun b o c hb hr => by
    rcases e.own b o c hb hr with ⟨b0, o0, hb0, hr0⟩ | h
    · exact .inl ⟨b0, o0, hp.mem_iff.1 hb0, hr0⟩
    · exact .inr h
  names := fun b o hb => by
    rcases e.names b o hb with ⟨o0, h0⟩ | h
    · exact .inl ⟨o0, hp.mem_iff.1 h0⟩
    · exact .inr h
  ok := e.ok
  st := e.st

theorem Ev.permR {ρ Im h w ok ρ' Im' h' h0 w'} (e : Ev P ρ Im h w ok ρ' Im' h' w') (hp : List.Perm h' h0) : Ev P ρ Im h w ok ρ' Im' h0 w' where
  size := e.size
  os := e.os
  out := e.out
  keep := e.keep
  rho := e.rho
  im := e.im
  imNew := e.imNew
  shape := e.shape
  own := fun b o c hb hr => e.own b o c (hp.mem_iff.2 hb) hr
  names := fun b o hb => e.names b o (hp.mem_iff.2 hb)
  ok := e.ok
  st := e.st.perm hp

theorem Ev.subR {ρ Im h w ok ρ' Im' h' h0 w'} (e : Ev P ρ Im h w ok ρ' Im' h' w') (hp : List.Sublist h0 h') : Ev P ρ Im h w ok ρ' Im' h0 w' where
  size := e.size
  os := e.os
  out := e.out
  keep := e.keep
  rho := e.rho
  im := e.im
  imNew := e.imNew
  shape := e.shape
  own := fun b o c hb hr => e.own b o c (hp.subset hb) hr
  names := fun b o hb => e.names b o (hp.subset hb)
  ok := e.ok
  st := e.st.sub hp

theorem Ev.subL {ρ Im h h0 w ok ρ' Im' h' w'} (e : Ev P ρ Im h0 w ok ρ' Im' h' w') (hp : List.Sublist h0 h) : Ev P ρ Im h w ok ρ' Im' h' w' where
  size := e.size
  os := e.os
  out := e.out
  keep := fun c hc hn => e.keep c hc fun b o hb => hn b o (hp.subset hb)
  rho := e.rho
  im := e.im
  imNew := fun c h => by
    rcases e.imNew c h with h | ⟨b, o, hb, hr⟩ | h
    · exact .inl h
    · exact .inr (.inl ⟨b, o, hp.subset hb, hr⟩)
    · exact .inr (.inr h)
  shape := e.shape
  own := fun b o c hb hr => by
    rcases e.own b o c hb hr with ⟨b0, o0, hb0, hr0⟩ | h
    · exact .inl ⟨b0, o0, hp.subset hb0, hr0⟩
    · exact .inr h
  names := fun b o hb => by
    rcases e.names b o hb with ⟨o0, h0⟩ | h
    · exact .inl ⟨o0, hp.subset h0⟩
    · exact .inr h
  ok := e.ok
  st := e.st

theorem Ev.frame {ρ Im F R w ok ρ' Im' F' w'} (s : St P ρ Im (F ++ R) w) (e : Ev P ρ Im F w ok ρ' Im' F' w') : Ev P ρ Im (F ++ R) w ok ρ' Im' (F' ++ R) w' := by
  have sF : St P ρ Im F w := s.sub (List.sublist_append_left _ _)
  have m := e.mono sF
  have apart0 : ∀ b o o', (b, o) ∈ R → (b, o') ∉ F := by
    intro b o o' hb hb'
    have hnd := s.nd
    rw [List.map_append, List.nodup_append] at hnd
    exact hnd.2.2 b (List.mem_map_of_mem (f := Prod.fst) hb') b (List.mem_map_of_mem (f := Prod.fst) hb) rfl
  have apart : ∀ b o c b' o', (b, o) ∈ R → ρ b = some (c + 1) → (b', o') ∈ F → ρ b' ≠ some (c + 1) := by
    intro b o c b' o' hb hr hb' hr'
    have heq := s.inj b b' o o' c (List.mem_append_right _ hb) (List.mem_append_left _ hb') hr hr'
    subst heq
    exact apart0 b o o' hb hb'
  have rold : ∀ b o, (b, o) ∈ R → (ρ b = some 0 ∧ o.void) ∨ ∃ c, ρ b = some (c + 1) ∧ ORel P ρ Im w o c ∧ ¬ Im c := fun b o hb => s.obj b o (List.mem_append_right _ hb)
  refine { size := e.size, os := e.os, out := e.out, keep := fun c hc hn => e.keep c hc fun b o hb => hn b o (List.mem_append_left _ hb), rho := e.rho, im := e.im, imNew := ?_, shape := e.shape, own := ?_, names := ?_, ok := e.ok, st := ?_ }
  · intro c h
    rcases e.imNew c h with h | ⟨b, o, hb, hr⟩ | h
    · exact .inl h
    · exact .inr (.inl ⟨b, o, List.mem_append_left _ hb, hr⟩)
    · exact .inr (.inr h)
  · intro b o c hb hr
    rcases List.mem_append.1 hb with hb | hb
    · rcases e.own b o c hb hr with ⟨b0, o0, hb0, hr0⟩ | h
      · exact .inl ⟨b0, o0, List.mem_append_left _ hb0, hr0⟩
      · exact .inr h
    · obtain ⟨c', h1⟩ := s.code (List.mem_append_right _ hb)
      have := e.rho b c' h1
      rw [hr] at this
      cases this
      exact .inl ⟨b, o, List.mem_append_right _ hb, h1⟩
  · intro b o hb
    rcases List.mem_append.1 hb with hb | hb
    · rcases e.names b o hb with ⟨o0, h0⟩ | h
      · exact .inl ⟨o0, List.mem_append_left _ h0⟩
      · exact .inr h
    · exact .inl ⟨o, List.mem_append_right _ hb⟩
  · refine { obj := ?_, nd := ?_, inj := ?_, im := e.st.im }
    · intro b o hb
      rcases List.mem_append.1 hb with hb | hb
      · exact e.st.obj b o hb
      · rcases rold b o hb with ⟨h1, h2⟩ | ⟨c, h1, h2, h3⟩
        · exact .inl ⟨e.rho b _ h1, h2⟩
        · refine .inr ⟨c, e.rho b _ h1, h2.mono m ?_, ?_⟩
          · exact e.keep c h2.lt fun b' o' hb' => apart b o c b' o' hb h1 hb'
          · intro hIm
            rcases e.imNew c hIm with h | ⟨b', o', hb', hr'⟩ | h
            · exact h3 h
            · exact apart b o c b' o' hb h1 hb' hr'
            · have := h2.lt; omega
    · rw [List.map_append, List.nodup_append]
      refine ⟨e.st.nd, (s.sub (List.sublist_append_right _ _)).nd, ?_⟩
      intro x hx y hy hxy
      subst hxy
      obtain ⟨⟨b, o⟩, hb, rfl⟩ := List.mem_map.1 hx
      obtain ⟨⟨b', o'⟩, hb', hbb⟩ := List.mem_map.1 hy
      simp only at hbb
      subst hbb
      obtain ⟨c, h1⟩ := s.code (List.mem_append_right _ hb')
      rcases e.names b' o hb with ⟨o0, h0⟩ | h
      · exact apart0 b' o' o0 hb' h0
      · rw [h] at h1; cases h1
    · intro b b' o o' c hb hb' hr hr'
      rcases List.mem_append.1 hb with hb | hb <;> rcases List.mem_append.1 hb' with hb' | hb'
      · exact e.st.inj b b' o o' c hb hb' hr hr'
      · exfalso
        obtain ⟨c', h1⟩ := s.code (List.mem_append_right _ hb')
        have := e.rho b' c' h1
        rw [hr'] at this
        cases this
        rcases rold b' o' hb' with ⟨h2, _⟩ | ⟨c2, h2, h3, _⟩
        · rw [h1] at h2; cases h2
        · rw [h1] at h2; cases h2
          rcases e.own b o c hb hr with ⟨b0, o0, hb0, hr0⟩ | h
          · exact apart b' o' c b0 o0 hb' h1 hb0 hr0
          · have := h3.lt; omega
      · exfalso
        obtain ⟨c', h1⟩ := s.code (List.mem_append_right _ hb)
        have := e.rho b c' h1
        rw [hr] at this
        cases this
        rcases rold b o hb with ⟨h2, _⟩ | ⟨c2, h2, h3, _⟩
        · rw [h1] at h2; cases h2
        · rw [h1] at h2; cases h2
          rcases e.own b' o' c hb' hr' with ⟨b0, o0, hb0, hr0⟩ | h
          · exact apart b o c b0 o0 hb h1 hb0 hr0
          · have := h3.lt; omega
      · obtain ⟨c1, h1⟩ := s.code (List.mem_append_right _ hb)
        obtain ⟨c2, h2⟩ := s.code (List.mem_append_right _ hb')
        have e1 := e.rho b c1 h1
        have e2 := e.rho b' c2 h2
        rw [hr] at e1; rw [hr'] at e2
        cases e1; cases e2
        exact s.inj b b' o o' c (List.mem_append_right _ hb) (List.mem_append_right _ hb') h1 h2

end Go.Kw
