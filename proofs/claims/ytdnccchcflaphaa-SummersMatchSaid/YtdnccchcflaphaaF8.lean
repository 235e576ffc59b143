import Derived.Test.YtdnccchcflaphaaF7
namespace Go.Kw
set_option linter.unusedVariables false
variable {P : Program}

/-! ### Regions, with what follows -/

def RegC (P : Program) (n : Nat) (ops : Array Oper) (nm : Nat → Nat) (os : List Oper) (p : Nat) (env : Env) (h : AHeap) (K : List Rec → Env → AHeap → Prop) : Prop :=
  ∃ recs env' h' p', RegD P n ops nm os p env h recs env' h' p' ∧ K recs env' h'

section
variable {n : Nat} {ops : Array Oper} {nm : Nat → Nat} {o : Oper} {os : List Oper} {p : Nat} {env : Env} {h : AHeap} {K : List Rec → Env → AHeap → Prop} {vs : List AVal} {v : AVal}

theorem RegC.done (hk : K [] env h) : RegC P n ops nm [] p env h K := ⟨_, _, _, _, .done, hk⟩

theorem RegC.skip (hg : guardE ops env o = some false) (hd : dstOk n o = true)
    (rest : RegC P n ops nm os p (putE env o.dst (.tup [])) h fun r e h => K (⟨[], false, 0⟩ :: r) e h) : RegC P n ops nm (o :: os) p env h K := by
  obtain ⟨r, e, h', p', hr, hk⟩ := rest
  exact ⟨_, _, _, _, .skip hg hd hr, hk⟩

theorem RegC.op {ps : List Nat} {F G N : AHeap} {k : Nat} {wr : Bool} (hg : guardE ops env o = some true) (hd : dstOk n o = true)
    (hv : evs env o.op.operands.toList = some vs) (hs : sel h ps = some F) (hn : nodupB ps = true) (hG : G.length = ps.length) (hw : wr = true ∨ G = F)
    (ho : OpV P o vs F ((List.range' p k).map nm) v (G ++ N))
    (rest : RegC P n ops nm os (p + k) (putE env o.dst v) (setAll h ps G ++ N) fun r e h => K (⟨ps, wr, N.length⟩ :: r) e h) : RegC P n ops nm (o :: os) p env h K := by
  obtain ⟨r, e, h', p', hr, hk⟩ := rest
  exact ⟨_, _, _, _, .op hg hd hv hs hn hG hw ho hr, hk⟩

/-- An operation without memory. -/
theorem RegC.m (ho : OpV P o vs [] [] v []) (hv : evs env o.op.operands.toList = some vs) (hg : guardE ops env o = some true) (hd : dstOk n o = true)
    (rest : RegC P n ops nm os p (putE env o.dst v) h fun r e h => K (⟨[], false, 0⟩ :: r) e h) : RegC P n ops nm (o :: os) p env h K :=
  RegC.op (ps := []) (F := []) (G := []) (N := []) (k := 0) (wr := false) hg hd hv rfl rfl rfl (.inr rfl) ho (by simpa [setAll] using rest)

/-- An operation that reads one block. -/
theorem RegC.q {i : Nat} {e : Nat × AObj} (ho : OpV P o vs [e] [] v [e]) (hv : evs env o.op.operands.toList = some vs) (hi : h[i]? = some e)
    (hg : guardE ops env o = some true) (hd : dstOk n o = true)
    (rest : RegC P n ops nm os p (putE env o.dst v) h fun r e h => K (⟨[i], false, 0⟩ :: r) e h) : RegC P n ops nm (o :: os) p env h K := by
  refine RegC.op (ps := [i]) (F := [e]) (G := [e]) (N := []) (k := 0) (wr := false) hg hd hv (by simp [sel, hi]) rfl rfl (.inr rfl) ho ?_
  have : h.set i e = h := by
    obtain ⟨h1, h2⟩ := List.getElem?_eq_some_iff.1 hi
    rw [← h2, List.set_getElem_self]
  simpa [setAll, this] using rest

/-- An operation that changes one block. -/
theorem RegC.w {i : Nat} {e e' : Nat × AObj} (ho : OpV P o vs [e] [] v [e']) (hv : evs env o.op.operands.toList = some vs) (hi : h[i]? = some e)
    (hg : guardE ops env o = some true) (hd : dstOk n o = true)
    (rest : RegC P n ops nm os p (putE env o.dst v) (h.set i e') fun r e h => K (⟨[i], true, 0⟩ :: r) e h) : RegC P n ops nm (o :: os) p env h K := by
  refine RegC.op (ps := [i]) (F := [e]) (G := [e']) (N := []) (k := 0) (wr := true) hg hd hv (by simp [sel, hi]) rfl rfl (.inl rfl) ho ?_
  simpa [setAll] using rest

/-- An operation that makes one block. -/
theorem RegC.a {x : Nat × AObj} (ho : OpV P o vs [] [nm p] v [x]) (hv : evs env o.op.operands.toList = some vs)
    (hg : guardE ops env o = some true) (hd : dstOk n o = true)
    (rest : RegC P n ops nm os (p + 1) (putE env o.dst v) (h ++ [x]) fun r e h => K (⟨[], false, 1⟩ :: r) e h) : RegC P n ops nm (o :: os) p env h K := by
  refine RegC.op (ps := []) (F := []) (G := []) (N := [x]) (k := 1) (wr := false) hg hd hv rfl rfl rfl (.inr rfl) (by simpa using ho) ?_
  simpa [setAll] using rest

/-- An operation that reads one block and makes one. -/
theorem RegC.qa {i : Nat} {e x : Nat × AObj} (ho : OpV P o vs [e] [nm p] v [e, x]) (hv : evs env o.op.operands.toList = some vs) (hi : h[i]? = some e)
    (hg : guardE ops env o = some true) (hd : dstOk n o = true)
    (rest : RegC P n ops nm os (p + 1) (putE env o.dst v) (h ++ [x]) fun r e h => K (⟨[i], false, 1⟩ :: r) e h) : RegC P n ops nm (o :: os) p env h K := by
  refine RegC.op (ps := [i]) (F := [e]) (G := [e]) (N := [x]) (k := 1) (wr := false) hg hd hv (by simp [sel, hi]) rfl rfl (.inr rfl) (by simpa using ho) ?_
  have : h.set i e = h := by
    obtain ⟨h1, h2⟩ := List.getElem?_eq_some_iff.1 hi
    rw [← h2, List.set_getElem_self]
  simpa [setAll, this] using rest

/-- An operation that turns one block into another one. -/
theorem RegC.wa {i : Nat} {e e' : Nat × AObj} (ho : OpV P o vs [e] [nm p] v [e']) (hv : evs env o.op.operands.toList = some vs) (hi : h[i]? = some e)
    (hg : guardE ops env o = some true) (hd : dstOk n o = true)
    (rest : RegC P n ops nm os (p + 1) (putE env o.dst v) (h.set i e') fun r e h => K (⟨[i], true, 0⟩ :: r) e h) : RegC P n ops nm (o :: os) p env h K := by
  refine RegC.op (ps := [i]) (F := [e]) (G := [e']) (N := []) (k := 1) (wr := true) hg hd hv (by simp [sel, hi]) rfl rfl (.inl rfl) (by simpa using ho) ?_
  simpa [setAll] using rest

/-- An operation that reads one block (j) and turns another one (i) into a new one. -/
theorem RegC.wqa {i j : Nat} {e e' f : Nat × AObj} (ho : OpV P o vs [e, f] [nm p] v [e', f]) (hv : evs env o.op.operands.toList = some vs) (hi : h[i]? = some e) (hj : h[j]? = some f)
    (hij : Nat.beq i j = false) (hg : guardE ops env o = some true) (hd : dstOk n o = true)
    (rest : RegC P n ops nm os (p + 1) (putE env o.dst v) (h.set i e') fun r e h => K (⟨[i, j], true, 0⟩ :: r) e h) : RegC P n ops nm (o :: os) p env h K := by
  have hne : i ≠ j := fun hh => by rw [hh, Nat.beq_refl] at hij; cases hij
  refine RegC.op (ps := [i, j]) (F := [e, f]) (G := [e', f]) (N := []) (k := 1) (wr := true) hg hd hv (by simp [sel, hi, hj]) (by simp [nodupB, notIn, hne]) rfl (.inl rfl) (by simpa using ho) ?_
  have : (h.set i e').set j f = h.set i e' := by
    obtain ⟨h1, h2⟩ := List.getElem?_eq_some_iff.1 hj
    rw [List.set_comm _ _ hne, ← h2, List.set_getElem_self]
  simpa [setAll, this] using rest

/-- An operation that reads one block (j) and changes another one (i). -/
theorem RegC.wq {i j : Nat} {e e' f : Nat × AObj} (ho : OpV P o vs [e, f] [] v [e', f]) (hv : evs env o.op.operands.toList = some vs) (hi : h[i]? = some e) (hj : h[j]? = some f)
    (hij : Nat.beq i j = false) (hg : guardE ops env o = some true) (hd : dstOk n o = true)
    (rest : RegC P n ops nm os p (putE env o.dst v) (h.set i e') fun r e h => K (⟨[i, j], true, 0⟩ :: r) e h) : RegC P n ops nm (o :: os) p env h K := by
  have hne : i ≠ j := fun hh => by rw [hh, Nat.beq_refl] at hij; cases hij
  refine RegC.op (ps := [i, j]) (F := [e, f]) (G := [e', f]) (N := []) (k := 0) (wr := true) hg hd hv (by simp [sel, hi, hj]) (by simp [nodupB, notIn, hne]) rfl (.inl rfl) (by simpa using ho) ?_
  have : (h.set i e').set j f = h.set i e' := by
    obtain ⟨h1, h2⟩ := List.getElem?_eq_some_iff.1 hj
    rw [List.set_comm _ _ hne, ← h2, List.set_getElem_self]
  simpa [setAll, this] using rest
end

def pair (j x : Nat) : Nat := (j + x) * (j + x) + j
theorem pair_inj {j x j' x' : Nat} (h : pair j x = pair j' x') : j = j' ∧ x = x' := by
  unfold pair at h
  have key : ∀ a b c d : Nat, a + b < c + d → (a + b) * (a + b) + a < (c + d) * (c + d) + c := by
    intro a b c d hlt
    have h1 : (a + b + 1) * (a + b + 1) ≤ (c + d) * (c + d) := Nat.mul_le_mul hlt hlt
    have h2 : (a + b + 1) * (a + b + 1) = (a + b) * (a + b) + (a + b) + (a + b) + 1 := by
      rw [Nat.add_mul, Nat.mul_add]; omega
    omega
  have hs : j + x = j' + x' := by
    rcases Nat.lt_trichotomy (j + x) (j' + x') with h1 | h1 | h1
    · have := key _ _ _ _ h1; omega
    · exact h1
    · have := key _ _ _ _ h1; omega
  rw [hs] at h
  omega

theorem St.drawn {ρ Im h w} (m : Nat) (s : St P ρ Im h w) : St P ρ Im h { w with drawn := m } where
  obj := fun b o hb => by
    rcases s.obj b o hb with h1 | ⟨c, h1, h2, h3⟩
    · exact .inl h1
    refine .inr ⟨c, h1, ORel.mono (ρ := ρ) (Im := Im) (w := w) (ρ' := ρ) (Im' := Im) (w' := { w with drawn := m }) { rho := fun _ _ h => h, im := fun _ h => h, same := fun _ _ => rfl, shape := fun _ _ _ h => h } rfl h2, h3⟩
  nd := s.nd
  inj := s.inj
  im := s.im
theorem Ev.drawn {ρ Im h w ok} (m : Nat) (s : St P ρ Im h w) : Ev P ρ Im h w ok ρ Im h { w with drawn := m } where
  size := Nat.le_refl _
  os := rfl
  out := rfl
  keep := fun _ _ _ => rfl
  rho := fun _ _ h => h
  im := fun _ h => h
  imNew := fun _ h => .inl h
  shape := fun _ _ _ h => h
  own := fun b o c hb hr => .inl ⟨b, o, hb, hr⟩
  names := fun b o hb => .inl ⟨o, hb⟩
  ok := fun _ h => .inl h
  st := s.drawn m

section
variable {fn : Func} {n : Nat} {new : List Nat} {R : AVal → AHeap → Prop} {env : Env} {h : AHeap} {k : List Item}

theorem WP.reg (hm : P.follows .mixedOrders = true) {id : Nat} {ops : Array Oper} {draw : Bool}
    (hh : ∀ nm : Nat → Nat, (∀ i j, nm i = nm j → i = j) → RegC P n ops nm ops.toList 0 env h fun recs env' h' =>
      (draw = false ∨ orderOk ops recs h.length = true) ∧ WP P fn n new R k env' h') : WP P fn n new R (.code (.region id ops draw) :: k) env h := by
  intro ρ Im w a b cs sup s fr he hn hd
  obtain ⟨recs, env', h', p', hr, hdr, hk⟩ := hh (fun i => sup (3 * i)) fun i j hij => by have := fr.inj _ _ hij; omega
  let ok : Nat → Prop := fun b => (∃ q, b = sup (3 * q)) ∨ ∃ j x, b = sup (3 * pair j x + 1)
  have su : ∀ J J' : Nat → Prop, Sup ρ (fun i => sup (3 * i)) J (fun j x => sup (3 * pair j x + 1)) J' := fun J J' =>
    { names := fun q _ => fr.free _, inj := fun i j hij => by have := fr.inj _ _ hij; omega, sups := fun j x _ => fr.free _,
      spInj := fun j x j' x' hh => pair_inj (by have := fr.inj _ _ hh; omega), ne := fun j x q hh => by have := fr.inj _ _ hh; omega }
  let Q : Exit → Act → World → Prop := fun e a' w' => e = .normal ∧ ∃ ρ' Im', EnvRel P ρ' Im' w' env' a'.tmps ∧ a'.tmps.size = n ∧ a'.defers = a.defers ∧ Ev P ρ Im h w ok ρ' Im' h' w'
  have hwp : (Code.region id ops draw).wp P Q a w := by
    cases draw with
    | false =>
      refine wp_region ?_
      rw [List.range_eq_range', show ops.size = ops.toList.length from by simp]
      refine hr.exec 0 rfl ρ Im w a _ ok s he hn (su _ _) (fun q => .inl ⟨q, rfl⟩) (fun j x => .inr ⟨j, x, rfl⟩) Q ?_
      intro a' w' ρ' Im' h1 h2 h3 h4
      exact ⟨rfl, ρ', Im', h1, h2, h3, h4⟩
    | true =>
      have hok : orderOk ops recs h.length = true := by
        rcases hdr with hdr | hdr
        · cases hdr
        · exact hdr
      refine wp_region_any hm ?_
      refine any_order hr hok (s.drawn _) (he.mono (Ev.drawn (w.drawn + 1) s (ok := fun _ => True) |>.mono s)) hn (su _ _) (fun q => .inl ⟨q, rfl⟩) (fun j x => .inr ⟨j, x, rfl⟩) (ok := ok) ?_
      intro a' w' ρ' Im' h1 h2 h3 h4
      exact ⟨rfl, ρ', Im', h1, h2, h3, (Ev.drawn _ s).trans h4⟩
  obtain ⟨e, a1, w1, ⟨rfl, ρ1, Im1, h1, h2, h3, h4⟩, harr⟩ := hwp b k cs
  have fr' : Fresh ρ1 new (fun i => sup (3 * i + 2)) := by
    have hno : ∀ b', ρ b' = none → ¬ ok b' → ρ1 b' = none := fun b' hb' hnok => by
      cases hc : ρ1 b' with
      | none => rfl
      | some c =>
        rcases h4.ok b' (by rw [hc]; simp) with h | h
        · exact absurd hb' h
        · exact absurd h hnok
    refine { named := fun b' hb' => hno b' (fr.named b' hb') ?_, free := fun i => hno _ (fr.free _) ?_, inj := fun i j hij => by have := fr.inj _ _ hij; omega, apart := fun i => fr.apart _, nd := fr.nd }
    · rintro (⟨q, hq⟩ | ⟨j, x, hq⟩) <;> (rw [hq] at hb'; exact fr.apart _ hb')
    · rintro (⟨q, hq⟩ | ⟨j, x, hq⟩) <;> (have := fr.inj _ _ hq; omega)
  obtain ⟨a2, w2, t2, g1, g2, v', v, h'', ρ2, Im2, g3, g4, g5, g6⟩ := hk ρ1 Im1 w1 a1 b cs _ h4.st fr' h1 h2 (by rw [h3, hd])
  refine ⟨a2, w2, t2, Steps.trans harr g1, g2, v', v, h'', ρ2, Im2, g3, g4, g5, ?_⟩
  refine (h4.okMono ?_).trans (g6.okMono ?_)
  · rintro b' (⟨q, hq⟩ | ⟨j, x, hq⟩) <;> exact .inr ⟨_, hq⟩
  · rintro b' (hb' | ⟨i, hi⟩)
    · exact .inl hb'
    · exact .inr ⟨_, hi⟩

/-! ### The end -/

def ResV (P : Program) (fn : Func) (env : Env) (h : AHeap) (v : AVal) : Prop :=
  ∀ ρ Im w (tmps : Array Value), St P ρ Im h w → EnvRel P ρ Im w env tmps → ∃ v', (results fn tmps).run P w = .ok v' w ∧ VRel P ρ Im w v v'

theorem WP.ends {todo : List Item} (hs : ∀ (b : Frame) (a : Act) cs w, Go.step P (lone (b.at a todo) cs w) = .next (lone { b.at a todo with mode := .returning } cs w))
    {v : AVal} (hr : ResV P fn env h v) (hR : R v h) : WP P fn n new R todo env h := by
  intro ρ Im w a b cs sup s fr he hn hd
  obtain ⟨v', h1, h2⟩ := hr ρ Im w a.tmps s he
  exact ⟨a, w, todo, .one (hs b a cs w), hd, v', v, h, ρ, Im, h1, hR, h2, Ev.refl s⟩
theorem WP.ret {v : AVal} (hr : ResV P fn env h v) (hR : R v h) : WP P fn n new R (.code .ret :: k) env h :=
  WP.ends (fun b a cs w => step_ret) hr hR
theorem WP.fin {v : AVal} (hr : ResV P fn env h v) (hR : R v h) : WP P fn n new R [] env h :=
  WP.ends (fun b a cs w => step_end) hr hR

/-- The result's block gets the name that the caller wants. -/
theorem Ev.rename {ρ Im w ok ρ' Im' h' w'} {i b b' : Nat} {o : AObj} (e : Ev P ρ Im h w ok ρ' Im' h' w') (hi : h'[i]? = some (b, o)) (hb : ρ' b' = none) (hok : ok b') :
    ∃ ρ'', Ev P ρ Im h w ok ρ'' Im' (h'.set i (b', o)) w' ∧ (∀ x c, ρ' x = some c → ρ'' x = some c) ∧ ρ'' b' = ρ' b := by
  obtain ⟨hlt, hget⟩ := List.getElem?_eq_some_iff.1 hi
  have hmem : (b, o) ∈ h' := List.mem_of_getElem? hi
  obtain ⟨c, hc⟩ := e.st.code hmem
  let ρ'' : Nat → Option Nat := fun x => if x = b' then some c else ρ' x
  have hext : ∀ x d, ρ' x = some d → ρ'' x = some d := fun x d hx => by
    by_cases hxb : x = b'
    · subst hxb; rw [hb] at hx; cases hx
    · simp [ρ'', hxb, hx]
  have hrb : ρ b' = none := by
    cases hx : ρ b' with
    | none => rfl
    | some d => rw [e.rho _ _ hx] at hb; cases hb
  have mem' : ∀ x y, (x, y) ∈ h'.set i (b', o) → (x = b' ∧ y = o) ∨ ((x, y) ∈ h' ∧ x ≠ b' ∧ x ≠ b) := by
    intro x y hxy
    rw [List.mem_iff_getElem?] at hxy
    obtain ⟨j, hj⟩ := hxy
    by_cases hij : i = j
    · subst hij
      rw [List.getElem?_set_self hlt] at hj
      simp only [Option.some.injEq, Prod.mk.injEq] at hj
      exact .inl ⟨hj.1.symm, hj.2.symm⟩
    · rw [List.getElem?_set_ne hij] at hj
      refine .inr ⟨List.mem_of_getElem? hj, ?_, ?_⟩
      · intro hx; subst hx
        obtain ⟨d, hd⟩ := e.st.code (List.mem_of_getElem? hj)
        rw [hb] at hd; cases hd
      · intro hx; subst hx
        have hnd := e.st.nd
        have h1 : (h'.map Prod.fst)[i]? = some x := by simp [hi]
        have h2 : (h'.map Prod.fst)[j]? = some x := by simp [hj]
        exact hij ((List.getElem?_inj (i := i) (j := j) (by simpa using hlt) hnd).1 (by rw [h1, h2]))
  have m : Mono ρ' Im' w' ρ'' Im' w' := { rho := hext, im := fun _ h => h, same := fun _ _ => rfl, shape := fun _ _ _ h => h }
  refine ⟨ρ'', ?_, hext, by simp [ρ'', hc]⟩
  refine { size := e.size, os := e.os, out := e.out, keep := e.keep, rho := fun x d hx => hext x d (e.rho x d hx), im := e.im, imNew := e.imNew, shape := e.shape, own := ?_, names := ?_, ok := ?_, st := ?_ }
  · intro x y d hxy hd
    rcases mem' x y hxy with ⟨rfl, rfl⟩ | ⟨h1, h2, h3⟩
    · have : c = d + 1 := by simpa [ρ''] using hd
      subst this
      exact e.own b y d hmem hc
    · refine e.own x y d h1 ?_
      simpa [ρ'', h2] using hd
  · intro x y hxy
    rcases mem' x y hxy with ⟨rfl, rfl⟩ | ⟨h1, h2, h3⟩
    · exact .inr hrb
    · exact e.names x y h1
  · intro x hx
    by_cases hxb : x = b'
    · subst hxb; exact .inr hok
    · exact e.ok x (by simpa [ρ'', hxb] using hx)
  · refine { obj := ?_, nd := ?_, inj := ?_, im := e.st.im }
    · intro x y hxy
      rcases mem' x y hxy with ⟨rfl, rfl⟩ | ⟨h1, h2, h3⟩
      · rcases e.st.obj b y hmem with ⟨h1, h2⟩ | ⟨d, h1, h2, h3⟩
        · rw [h1] at hc; cases hc
          exact .inl ⟨by simp [ρ''], h2⟩
        · rw [h1] at hc; cases hc
          exact .inr ⟨d, by simp [ρ''], h2.mono m rfl, h3⟩
      · rcases e.st.obj x y h1 with ⟨g1, g2⟩ | ⟨d, hd, hdo, hdI⟩
        · exact .inl ⟨hext x _ g1, g2⟩
        · exact .inr ⟨d, hext x _ hd, hdo.mono m rfl, hdI⟩
    · rw [List.map_set]
      have hnd := e.st.nd
      have hb'n : b' ∉ h'.map Prod.fst := by
        intro hh
        obtain ⟨⟨x, y⟩, hx, rfl⟩ := List.mem_map.1 hh
        obtain ⟨d, hd⟩ := e.st.code hx
        rw [hb] at hd; cases hd
      rw [List.nodup_iff_pairwise_ne, List.pairwise_iff_getElem]
      intro p q hp hq hpq
      simp only [List.length_set] at hp hq
      rw [List.getElem_set, List.getElem_set]
      split
      · split
        · omega
        · intro hh
          refine hb'n ?_
          rw [show b' = (h'.map Prod.fst)[q] from hh]
          exact List.getElem_mem _
      · split
        · intro hh
          refine hb'n ?_
          rw [show b' = (h'.map Prod.fst)[p] from hh.symm]
          exact List.getElem_mem _
        · rw [List.nodup_iff_pairwise_ne, List.pairwise_iff_getElem] at hnd
          exact hnd p q hp hq hpq
    · intro x x' y y' d hx hx' hd hd'
      rcases mem' x y hx with ⟨rfl, rfl⟩ | ⟨h1, h2, h3⟩ <;> rcases mem' x' y' hx' with ⟨rfl, rfl⟩ | ⟨g1, g2, g3⟩
      · rfl
      · exfalso
        have : c = d + 1 := by simpa [ρ''] using hd
        subst this
        have hd'' : ρ' x' = some (d + 1) := by simpa [ρ'', g2] using hd'
        exact g3 (e.st.inj x' b y' y d g1 hmem hd'' hc)
      · exfalso
        have : c = d + 1 := by simpa [ρ''] using hd'
        subst this
        have hd'' : ρ' x = some (d + 1) := by simpa [ρ'', h2] using hd
        exact h3 (e.st.inj x b y y' d h1 hmem hd'' hc)
      · exact e.st.inj x x' y y' d h1 g1 (by simpa [ρ'', h2] using hd) (by simpa [ρ'', g2] using hd')

/-- As 'ends', where the result is told of a block that gets the caller's name. -/
theorem WP.ends1 {todo : List Item} (hs : ∀ (b : Frame) (a : Act) cs w, Go.step P (lone (b.at a todo) cs w) = .next (lone { b.at a todo with mode := .returning } cs w))
    {i b b' : Nat} {o : AObj} {vf : Nat → AVal} (hi : h[i]? = some (b, o)) (hb : b' ∈ new)
    (hvf : ∀ ρ Im w v' c, ρ b = some c → ρ b' = some c → VRel P ρ Im w (vf b) v' → VRel P ρ Im w (vf b') v')
    (hr : ResV P fn env h (vf b)) (hR : R (vf b') (h.set i (b', o))) : WP P fn n new R todo env h := by
  intro ρ Im w a fr0 cs sup s fr he hn hd
  obtain ⟨v', h1, h2⟩ := hr ρ Im w a.tmps s he
  have e : Ev P ρ Im h w (okOf new sup) ρ Im h w := Ev.refl s
  obtain ⟨ρ'', e', hext, hb''⟩ := e.rename hi (fr.named b' hb) (.inl hb)
  obtain ⟨c, hc⟩ := s.code (List.mem_of_getElem? hi)
  have m : Mono ρ Im w ρ'' Im w := { rho := hext, im := fun _ h => h, same := fun _ _ => rfl, shape := fun _ _ _ h => h }
  refine ⟨a, w, todo, .one (hs fr0 a cs w), hd, v', vf b', _, ρ'', Im, h1, hR, ?_, e'⟩
  exact hvf ρ'' Im w v' c (hext _ _ hc) (by rw [hb'', hc]) (h2.mono m)
theorem WP.ret1 {i b b' : Nat} {o : AObj} {vf : Nat → AVal} (hi : h[i]? = some (b, o)) (hb : b' ∈ new)
    (hvf : ∀ ρ Im w v' c, ρ b = some c → ρ b' = some c → VRel P ρ Im w (vf b) v' → VRel P ρ Im w (vf b') v')
    (hr : ResV P fn env h (vf b)) (hR : R (vf b') (h.set i (b', o))) : WP P fn n new R (.code .ret :: k) env h :=
  WP.ends1 (fun b a cs w => step_ret) hi hb hvf hr hR

theorem os_named {b b' off len sz : Nat} {full : Bool} : ∀ ρ Im w v' c, ρ b = some c → ρ b' = some c → VRel P ρ Im w (.os b off len sz full) v' → VRel P ρ Im w (.os b' off len sz full) v' := by
  intro ρ Im w v' c h1 h2 h3
  simp only [VRel] at h3 ⊢
  rw [h1] at h3; rw [h2]
  exact h3
theorem ptr_named {b b' off : Nat} : ∀ ρ Im w v' c, ρ b = some c → ρ b' = some c → VRel P ρ Im w (.ptr b off) v' → VRel P ρ Im w (.ptr b' off) v' := by
  intro ρ Im w v' c h1 h2 h3
  simp only [VRel] at h3 ⊢
  rw [h1] at h3; rw [h2]
  exact h3
theorem tup_named {x : Nat → AVal} {b b' : Nat} {vs : List AVal} (hx : ∀ ρ Im w v' c, ρ b = some c → ρ b' = some c → VRel P ρ Im w (x b) v' → VRel P ρ Im w (x b') v') :
    ∀ ρ Im w v' c, ρ b = some c → ρ b' = some c → VRel P ρ Im w (.tup (x b :: vs)) v' → VRel P ρ Im w (.tup (x b' :: vs)) v' := by
  intro ρ Im w v' c h1 h2 h3
  simp only [VRel, VRels] at h3 ⊢
  obtain ⟨cs, rfl, v1, vs', g1, g2, g3⟩ := h3
  exact ⟨cs, rfl, v1, vs', g1, hx ρ Im w v1 c h1 h2 g2, g3⟩
end

/-! ### A function's contract out of its body -/

def argsE : Nat → List AVal → Env
  | _, [] => []
  | i, a :: as => (i, a) :: argsE (i + 1) as

theorem argsE_rel {ρ Im w} : ∀ {as : List AVal} {vs : List Value} (i : Nat) (pre post : List Value), VRels P ρ Im w as vs → pre.length = i →
    EnvRel P ρ Im w (argsE i as) (pre ++ vs ++ post).toArray
  | [], vs, i, pre, post, h, hi => by intro s v hs; simp [argsE, Env.get] at hs
  | a :: as, vs, i, pre, post, h, hi => by
    simp only [VRels] at h
    obtain ⟨v, vs', rfl, h1, h2⟩ := h
    intro s x hs
    simp only [argsE, Env.get] at hs
    by_cases his : i = s
    · subst his
      simp only [Nat.beq_refl, cond_true, Option.some.injEq] at hs
      subst hs
      have : (pre ++ v :: vs' ++ post).toArray.getD i undef = v := by
        subst hi
        simp [Array.getD_eq_getD_getElem?]
      rw [this]
      exact h1
    · have hb : Nat.beq i s = false := by
        cases hbb : Nat.beq i s with
        | false => rfl
        | true => exact absurd (Nat.eq_of_beq_eq_true hbb) his
      simp only [hb, cond_false] at hs
      have := argsE_rel (i + 1) (pre ++ [v]) post h2 (by simp [hi]) s x hs
      simpa using this

theorem ACalls.of_wp {f : FuncId} {fn : Func} {c : Code} {args : List AVal} {h : AHeap} {new : List Nat} {v : AVal} {h' : AHeap}
    (hf : P.funcs[f]? = some fn) (hb : fn.body = some c)
    (hw : WP P fn (args.length + (fn.ntmps - args.length)) new (fun v' h'' => v' = v ∧ h'' = h') [.code c] (argsE 0 args) h) : ACalls P f args h new v h' := by
  intro ρ Im w args' sup s fr hv cs
  let b : Frame := { (default : Frame) with fn := f, kind := .normal }
  let a : Act := { tmps := args' ++ Array.replicate (fn.ntmps - args'.size) undef, defers := [] }
  have henter : Frame.enter P f args' .normal = b.at a [.code c] := by
    simp [Frame.enter, Frame.at, hf, hb, a, b]
  have hlen : args'.size = args.length := by
    have := hv.length
    simpa using this
  have hen : EnvRel P ρ Im w (argsE 0 args) a.tmps := by
    have := argsE_rel 0 [] (List.replicate (fn.ntmps - args'.size) undef) hv rfl
    have e : ([] ++ args'.toList ++ List.replicate (fn.ntmps - args'.size) undef).toArray = a.tmps := by
      simp [a]
    rw [e] at this
    exact this
  obtain ⟨a', w', todo', h1, h2, v', v0, h'', ρ', Im', h3, ⟨rfl, rfl⟩, h5, h6⟩ := hw ρ Im w a b cs sup s fr hen (by simp [a, hlen]) rfl
  refine ⟨.returned v', w', { b.at a' todo' with mode := .returning }, ⟨v', ρ', Im', rfl, h5, h6⟩, ?_, rfl, rfl, h2, rfl, fn, hf, h3⟩
  rw [henter]
  exact h1

end Go.Kw
