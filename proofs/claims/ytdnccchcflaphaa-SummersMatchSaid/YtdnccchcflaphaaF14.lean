import Derived.Test.YtdnccchcflaphaaF13
namespace Go.Kw
set_option linter.unusedVariables false
set_option linter.unusedSimpArgs false
variable {P : Program}

/-! ### Calls -/
section
variable {o : Oper} {x y : Operand} {t : TypeId} {f : FuncId} {args first caps : List AVal} {h h' : AHeap} {new : List Nat} {v : AVal} {xs : Array Operand} {ts : Array TypeId}

theorem run_callFunc {w : World} (hc : callable P f = true) (as : Array Value) : (callFunc f as).run P w = .ok (.enter f as) w := by
  unfold callable at hc
  cases hf : P.funcs[f]? with
  | none => rw [hf] at hc; cases hc
  | some fn =>
    rw [hf] at hc
    simp only [Option.any_some, Bool.and_eq_true, bne_iff_ne, ne_eq] at hc
    obtain ⟨hc1, hc2⟩ := hc
    obtain ⟨body, hb⟩ := Option.isSome_iff_exists.1 hc2
    simp [callFunc, hf, hc1, hb]

theorem op_callV (ho : o.op = .call { callee := .value x, args := xs, argTypes := ts }) (hc : callable P f = true) (ha : ACalls P f (first ++ args ++ caps) h new v h') :
    OpV P o (.fn f first caps :: args) h new v h' := by
  refine OpV.enter ?_ ha
  intro ρ Im w a hv
  rw [Array.toList_map, ho] at hv
  simp only [Op.operands, Call.operands, Array.toList_append, List.map_append, List.map_cons, List.map_nil, List.cons_append, List.nil_append, VRels] at hv
  obtain ⟨r, rs, h1, h2, h3⟩ := hv
  simp only [List.cons.injEq] at h1
  obtain ⟨rfl, rfl⟩ := h1
  simp only [VRel] at h2
  obtain ⟨as, bs, h4, h5, h6⟩ := h2
  refine ⟨as ++ xs.map a.eval ++ bs, ?_, ?_⟩
  · simp [execOp, ho, resolve, Deferred.ofValue, h4, invoke, run_callFunc hc]
  · rw [Array.toList_append, Array.toList_append, Array.toList_map]
    exact (h5.append h3).append h6
theorem op_call (ho : o.op = .call { callee := .value (.func f), args := xs, argTypes := ts }) (hc : callable P f = true) (ha : ACalls P f args h new v h') :
    OpV P o (.fn f [] [] :: args) h new v h' := op_callV ho hc (by simpa using ha)

theorem op_makeFunc {cs : Array Operand} (ho : o.op = .makeFunc (.func f) #[] cs) : OpV P o caps [] [] (.fn f [] caps) [] := by
  refine OpV.pure fun ρ Im w a hv => ?_
  rw [Array.toList_map, ho] at hv
  simp only [Op.operands, Array.empty_append] at hv
  refine ⟨_, by simp [execOp, ho, Instr.makeFunc]; rfl, ?_⟩
  simp only [VRel]
  exact ⟨#[], cs.map a.eval, rfl, by simp [VRels], by simpa using hv⟩
end

/-! ### Blocks that are given up to be data -/

mutual
inductive Frz (b : Nat) (cells : List AVal) : AVal → AVal → Prop
  | refl (v) : Frz b cells v v
  | ptr (off) : Frz b cells (.ptr b off) (.vptr cells off)
  | os (off len sz full) (h : off + len * sz ≤ cells.length) : Frz b cells (.os b off len sz full) (.vs len full ((cells.drop off).take (len * sz)))
  | agg {as bs} (h : Frzs b cells as bs) : Frz b cells (.agg as) (.agg bs)
  | tup {as bs} (h : Frzs b cells as bs) : Frz b cells (.tup as) (.tup bs)
inductive Frzs (b : Nat) (cells : List AVal) : List AVal → List AVal → Prop
  | nil : Frzs b cells [] []
  | cons {a a' as as'} (h : Frz b cells a a') (hs : Frzs b cells as as') : Frzs b cells (a :: as) (a' :: as')
end

theorem Frzs.refl {b : Nat} {cells : List AVal} : ∀ (as : List AVal), Frzs b cells as as
  | [] => .nil
  | a :: as => .cons (.refl a) (Frzs.refl as)

section
variable {b c : Nat} {cells : List AVal} {ρ : Nat → Option Nat} {Im Im' : Nat → Prop} {w : World}

/-- How the block reads, once it is data. -/
structure Cold (P : Program) (ρ : Nat → Option Nat) (Im' : Nat → Prop) (w : World) (b : Nat) (cells : List AVal) : Prop where
  rd : (∃ c vals, ρ b = some (c + 1) ∧ Im' c ∧ Reads w c 0 vals ∧ VRels P ρ Im' w cells vals) ∨ (ρ b = some 0 ∧ cells = [])

mutual
theorem Frz.rel (m : Mono ρ Im w ρ Im' w) (hc : Cold P ρ Im' w b cells) : ∀ {v v' : AVal} {r : Value}, Frz b cells v v' → VRel P ρ Im w v r → VRel P ρ Im' w v' r
  | _, _, r, .refl v, h => h.mono m
  | _, _, r, .ptr off, h => by
    simp only [VRel] at h ⊢
    obtain ⟨d, h1, h2⟩ := h
    rcases hc.rd with ⟨c, vals, g1, g2, g3, g4⟩ | ⟨g1, _⟩
    · rw [h1] at g1; cases g1
      exact ⟨d, 0, vals, by rw [h2, Nat.zero_add], g2, g3, g4⟩
    · rw [h1] at g1; cases g1
  | _, _, r, .os off len sz full hle, h => by
    simp only [VRel] at h ⊢
    rcases h with ⟨_, rfl, ad, rfl⟩ | ⟨d, cap, T, n, h1, rfl, h3, h4, h5, h6⟩
    · exact ⟨ad, 0, rfl, Nat.le_refl _, fun _ => rfl, .inl (by simp)⟩
    · refine ⟨_, cap, rfl, h3, h4, ?_⟩
      rcases hc.rd with ⟨c, vals, g1, g2, g3, g4⟩ | ⟨g1, _⟩
      · rw [h1] at g1; cases g1
        have hl := g4.length
        refine .inr ⟨d, off, (vals.drop off).take (len * sz), rfl, g2, ?_, (g4.drop _).take _⟩
        intro j hj
        simp only [List.length_take, List.length_drop] at hj
        have := g3 (off + j) (by omega)
        rw [Nat.zero_add] at this
        rw [this]
        simp
      · rw [h1] at g1; cases g1
  | _, _, r, .agg hs, h => by
    simp only [VRel] at h ⊢
    obtain ⟨cs, h1, h2⟩ := h
    exact ⟨cs, h1, Frzs.rel m hc hs h2⟩
  | _, _, r, .tup hs, h => by
    simp only [VRel] at h ⊢
    obtain ⟨cs, h1, h2⟩ := h
    exact ⟨cs, h1, Frzs.rel m hc hs h2⟩
theorem Frzs.rel (m : Mono ρ Im w ρ Im' w) (hc : Cold P ρ Im' w b cells) : ∀ {vs vs' : List AVal} {rs : List Value}, Frzs b cells vs vs' → VRels P ρ Im w vs rs → VRels P ρ Im' w vs' rs
  | _, _, rs, .nil, h => by simpa only [VRels] using h
  | _, _, rs, .cons h1 h2, h => by
    simp only [VRels] at h ⊢
    obtain ⟨r, rs', e, g1, g2⟩ := h
    exact ⟨r, rs', e, Frz.rel m hc h1 g1, Frzs.rel m hc h2 g2⟩
end

/-- The block is given up: what was a block is data from now on; a void takes its place. -/
theorem St.freeze {T : TypeId} {R : AHeap} (s : St P ρ Im ((b, .vec T cells) :: R) w) : ∃ Im', Mono ρ Im w ρ Im' w ∧ Cold P ρ Im' w b cells ∧ St P ρ Im' R w ∧
    (∀ c, Im' c → Im c ∨ ρ b = some (c + 1)) := by
  have hsub : St P ρ Im R w := s.sub (List.sublist_cons_self _ _)
  rcases s.obj b _ (List.mem_cons_self) with ⟨h1, h2⟩ | ⟨c, h1, h2, h3⟩
  · exact ⟨Im, { rho := fun _ _ h => h, im := fun _ h => h, same := fun _ _ => rfl, shape := fun _ _ _ h => h }, ⟨.inr ⟨h1, h2⟩⟩, hsub, fun _ h => .inl h⟩
  · have m : Mono ρ Im w ρ (fun x => Im x ∨ x = c) w := { rho := fun _ _ h => h, im := fun _ h => .inl h, same := fun _ _ => rfl, shape := fun _ _ _ h => h }
    refine ⟨fun x => Im x ∨ x = c, m, ?_, ?_, ?_⟩
    · obtain ⟨cs, fz, vals, g1, g2, g3, g4⟩ := h2
      refine ⟨.inl ⟨c, vals, h1, .inr rfl, ?_, g4.mono m⟩⟩
      intro i hi
      simp [World.cell?, g1, g3 i hi]
    · refine { obj := ?_, nd := hsub.nd, inj := hsub.inj, im := ?_ }
      · intro x y hxy
        rcases hsub.obj x y hxy with g | ⟨d, g1, g2, g3⟩
        · exact .inl g
        · refine .inr ⟨d, g1, g2.mono m rfl, ?_⟩
          rintro (h | rfl)
          · exact g3 h
          · have := s.inj x b y _ d (List.mem_cons_of_mem _ hxy) (List.mem_cons_self) g1 h1
            subst this
            have hnd := s.nd
            simp only [List.map_cons, List.nodup_cons] at hnd
            exact hnd.1 (List.mem_map_of_mem (f := Prod.fst) hxy)
      · rintro x (h | rfl)
        · exact s.im x h
        · exact h2.lt
    · rintro x (h | rfl)
      · exact .inl h
      · exact .inr h1
end

/-- A call whose argument is a block that is given up: it is data for the callee and from then on; a void (b') stays in its place. -/
theorem ACalls.frz {f : FuncId} {args args' : List AVal} {R R' : AHeap} {new : List Nat} {v : AVal} {b b' : Nat} {T : TypeId} {cells : List AVal}
    (hc : ACalls P f args' R new v R') (hf : Frzs b cells args args') : ACalls P f args ((b, .vec T cells) :: R) (b' :: new) v ((b', .vec T []) :: R') := by
  intro ρ Im w as sup s fr hv
  obtain ⟨Im1, m, cold, s1, hI⟩ := s.freeze
  have hnd := fr.nd
  simp only [List.nodup_cons] at hnd
  have fr1 : Fresh ρ new sup := { named := fun x hx => fr.named x (List.mem_cons_of_mem _ hx), free := fr.free, inj := fr.inj, apart := fun i hi => fr.apart i (List.mem_cons_of_mem _ hi), nd := hnd.2 }
  have hb' : ρ b' = none := fr.named b' (List.mem_cons_self)
  refine (hc ρ Im1 w as sup s1 fr1 (hf.rel m cold hv)).mono fun e w' he => ?_
  obtain ⟨v', ρ', Im', rfl, h1, h2⟩ := he
  have hb'' : ρ' b' = none := by
    cases hx : ρ' b' with
    | none => rfl
    | some c =>
      rcases h2.ok b' (by rw [hx]; simp) with h | h | ⟨i, h⟩
      · exact absurd hb' h
      · exact absurd h hnd.1
      · exact absurd (List.mem_cons_self) (h ▸ fr.apart i)
  let ρ'' : Nat → Option Nat := fun x => if x = b' then some 0 else ρ' x
  have hext : ∀ x c, ρ' x = some c → ρ'' x = some c := fun x c hx => by
    by_cases hxb : x = b'
    · subst hxb; rw [hb''] at hx; cases hx
    · simp [ρ'', hxb, hx]
  have m2 : Mono ρ' Im' w' ρ'' Im' w' := { rho := hext, im := fun _ h => h, same := fun _ _ => rfl, shape := fun _ _ _ h => h }
  have hne : ∀ x y, (x, y) ∈ R' → x ≠ b' := fun x y hxy hx => by
    subst hx
    obtain ⟨c, hc⟩ := h2.st.code hxy
    rw [hb''] at hc; cases hc
  refine ⟨v', ρ'', Im', rfl, h1.mono m2, ?_⟩
  refine { size := h2.size, os := h2.os, out := h2.out, keep := ?_, rho := fun x c hx => hext x c (h2.rho x c hx), im := fun c hc => h2.im c (m.im c hc), imNew := ?_, shape := h2.shape, own := ?_, names := ?_, ok := ?_, st := ?_ }
  · intro c hlt hn
    exact h2.keep c hlt fun x y hxy => hn x y (List.mem_cons_of_mem _ hxy)
  · intro c hcI
    rcases h2.imNew c hcI with h | ⟨x, y, hxy, hx⟩ | h
    · rcases hI c h with h | h
      · exact .inl h
      · exact .inr (.inl ⟨b, _, List.mem_cons_self, h⟩)
    · exact .inr (.inl ⟨x, y, List.mem_cons_of_mem _ hxy, hx⟩)
    · exact .inr (.inr h)
  · intro x y c hxy hx
    rcases List.mem_cons.1 hxy with h | hxy
    · simp only [Prod.mk.injEq] at h
      rw [h.1] at hx
      simp [ρ''] at hx
    · have hxb := hne x y hxy
      rcases h2.own x y c hxy (by simpa [ρ'', hxb] using hx) with ⟨x0, y0, h3, h4⟩ | h
      · exact .inl ⟨x0, y0, List.mem_cons_of_mem _ h3, h4⟩
      · exact .inr h
  · intro x y hxy
    rcases List.mem_cons.1 hxy with h | hxy
    · simp only [Prod.mk.injEq] at h
      rw [h.1]; exact .inr hb'
    · rcases h2.names x y hxy with ⟨y0, h⟩ | h
      · exact .inl ⟨y0, List.mem_cons_of_mem _ h⟩
      · exact .inr h
  · intro x hx
    by_cases hxb : x = b'
    · subst hxb; exact .inr (.inl (List.mem_cons_self))
    · rcases h2.ok x (by simpa [ρ'', hxb] using hx) with h | h | h
      · exact .inl h
      · exact .inr (.inl (List.mem_cons_of_mem _ h))
      · exact .inr (.inr h)
  · refine { obj := ?_, nd := ?_, inj := ?_, im := h2.st.im }
    · intro x y hxy
      rcases List.mem_cons.1 hxy with h | hxy
      · simp only [Prod.mk.injEq] at h
        rw [h.1, h.2]
        exact .inl ⟨by simp [ρ''], by simp [AObj.void]⟩
      · rcases h2.st.obj x y hxy with ⟨g1, g2⟩ | ⟨d, g1, g2, g3⟩
        · exact .inl ⟨hext x _ g1, g2⟩
        · exact .inr ⟨d, hext x _ g1, g2.mono m2 rfl, g3⟩
    · simp only [List.map_cons, List.nodup_cons]
      refine ⟨?_, h2.st.nd⟩
      intro hh
      obtain ⟨⟨x, y⟩, hx, rfl⟩ := List.mem_map.1 hh
      exact hne _ _ hx rfl
    · intro x x' y y' d hx hx' hd hd'
      rcases List.mem_cons.1 hx with h | hx
      · simp only [Prod.mk.injEq] at h
        rw [h.1] at hd; simp [ρ''] at hd
      · rcases List.mem_cons.1 hx' with h | hx'
        · simp only [Prod.mk.injEq] at h
          rw [h.1] at hd'; simp [ρ''] at hd'
        · exact h2.st.inj x x' y y' d hx hx' (by simpa [ρ'', hne x y hx] using hd) (by simpa [ρ'', hne x' y' hx'] using hd')

/-! ### Blocks that are lent -/

mutual
/-- A value that refers to no data in memory. -/
def noRef : AVal → Bool
  | .vptr _ _ => false
  | .vs _ _ cells => cells.isEmpty
  | .agg cs => noRefs cs
  | .tup vs => noRefs vs
  | .fn _ as bs => noRefs as && noRefs bs
  | _ => true
def noRefs : List AVal → Bool
  | [] => true
  | a :: as => noRef a && noRefs as
end
mutual
theorem noRef_rel {ρ Im Im' w} : ∀ {v : AVal} {r : Value}, noRef v = true → VRel P ρ Im w v r → VRel P ρ Im' w v r
  | .int _ _, r, h, hv => by simpa only [VRel] using hv
  | .bool _, r, h, hv => by simpa only [VRel] using hv
  | .str _, r, h, hv => by simpa only [VRel] using hv
  | .nilp, r, h, hv => by simpa only [VRel] using hv
  | .ptr _ _, r, h, hv => by simpa only [VRel] using hv
  | .vptr _ _, r, h, hv => by simp [noRef] at h
  | .vs _ _ cells, r, h, hv => by
    have : cells = [] := by simpa [noRef] using h
    subst this
    simp only [VRel] at hv ⊢
    obtain ⟨a, cap, h1, h2, h3, _⟩ := hv
    exact ⟨a, cap, h1, h2, h3, by simp⟩
  | .os _ _ _ _ _, r, h, hv => by simpa only [VRel] using hv
  | .nilm, r, h, hv => by simpa only [VRel] using hv
  | .ns _, r, h, hv => by simpa only [VRel] using hv
  | .mp _, r, h, hv => by simpa only [VRel] using hv
  | .nilf, r, h, hv => by simpa only [VRel] using hv
  | .fn _ as bs, r, h, hv => by
    simp only [noRef, Bool.and_eq_true] at h
    simp only [VRel] at hv ⊢
    obtain ⟨xs, ys, h1, h2, h3⟩ := hv
    exact ⟨xs, ys, h1, noRefs_rel h.1 h2, noRefs_rel h.2 h3⟩
  | .agg cs, r, h, hv => by
    simp only [noRef] at h
    simp only [VRel] at hv ⊢
    obtain ⟨xs, h1, h2⟩ := hv
    exact ⟨xs, h1, noRefs_rel h h2⟩
  | .tup cs, r, h, hv => by
    simp only [noRef] at h
    simp only [VRel] at hv ⊢
    obtain ⟨xs, h1, h2⟩ := hv
    exact ⟨xs, h1, noRefs_rel h h2⟩
theorem noRefs_rel {ρ Im Im' w} : ∀ {vs : List AVal} {rs : List Value}, noRefs vs = true → VRels P ρ Im w vs rs → VRels P ρ Im' w vs rs
  | [], rs, h, hv => by simpa only [VRels] using hv
  | a :: as, rs, h, hv => by
    simp only [noRefs, Bool.and_eq_true] at h
    simp only [VRels] at hv ⊢
    obtain ⟨r, rs', e, h1, h2⟩ := hv
    exact ⟨r, rs', e, noRef_rel h.1 h1, noRefs_rel h.2 h2⟩
end
def noRefO : AObj → Bool
  | .vec _ cells => noRefs cells
  | .map es => noRefs (es.map (·.1)) && noRefs (es.map (·.2))
theorem noRefO_rel {ρ Im Im' w o c} (h : noRefO o = true) (ho : ORel P ρ Im w o c) : ORel P ρ Im' w o c := by
  cases o with
  | vec T cells =>
    obtain ⟨cs, fz, vals, h1, h2, h3, h4⟩ := ho
    exact ⟨cs, fz, vals, h1, h2, h3, noRefs_rel h h4⟩
  | map es =>
    simp only [noRefO, Bool.and_eq_true] at h
    obtain ⟨xs, clock, h1, h2, h3, h4, h5⟩ := ho
    exact ⟨xs, clock, h1, noRefs_rel h.1 h2, noRefs_rel h.2 h3, h4, h5⟩

/-- A call whose argument is a block that is lent: it is data for the callee; the block stays the caller's. -/
theorem ACalls.lend {f : FuncId} {args args' : List AVal} {R R' : AHeap} {new : List Nat} {v : AVal} {b : Nat} {T : TypeId} {cells : List AVal}
    (hc : ACalls P f args' R new v R') (hf : Frzs b cells args args') (hv0 : noRef v = true) (hR : R'.all (fun e => noRefO e.2) = true) :
    ACalls P f args ((b, .vec T cells) :: R) new v ((b, .vec T cells) :: R') := by
  intro ρ Im w as sup s fr hv
  obtain ⟨Im1, m, cold, s1, hI⟩ := s.freeze
  refine (hc ρ Im1 w as sup s1 fr (hf.rel m cold hv)).mono fun e w' he => ?_
  obtain ⟨v', ρ', Im', rfl, h1, h2⟩ := he
  have hRall : ∀ x y, (x, y) ∈ R' → noRefO y = true := fun x y hxy => List.all_eq_true.1 hR (x, y) hxy
  -- the block b as before
  have hbcode := s.code (List.mem_cons_self (a := (b, AObj.vec T cells)))
  obtain ⟨code, hcode⟩ := hbcode
  have hnd0 := s.nd
  simp only [List.map_cons, List.nodup_cons] at hnd0
  have hbR' : ∀ y, (b, y) ∉ R' := by
    intro y hy
    rcases h2.names b y hy with ⟨y0, h⟩ | h
    · exact hnd0.1 (List.mem_map_of_mem (f := Prod.fst) h)
    · rw [hcode] at h; cases h
  have hkeepb : ∀ c, ρ b = some (c + 1) → w'.heap[c]? = w.heap[c]? := by
    intro c hcb
    have hlt : c < w.heap.size := by
      rcases s.obj b _ (List.mem_cons_self) with ⟨g, _⟩ | ⟨d, g, g2, _⟩
      · rw [hcb] at g; cases g
      · rw [hcb] at g; cases g; exact g2.lt
    refine h2.keep c hlt fun x y hxy hx => ?_
    have := s.inj x b y _ c (List.mem_cons_of_mem _ hxy) (List.mem_cons_self) hx hcb
    subst this
    exact hnd0.1 (List.mem_map_of_mem (f := Prod.fst) hxy)
  let Im2 : Nat → Prop := fun c => Im' c ∧ ρ b ≠ some (c + 1)
  have hImb : ∀ c, Im c → ρ b ≠ some (c + 1) := by
    intro c hcI hcb
    rcases s.obj b _ (List.mem_cons_self) with ⟨g, _⟩ | ⟨d, g, _, g3⟩
    · rw [hcb] at g; cases g
    · rw [hcb] at g; cases g; exact g3 hcI
  have m2 : Mono ρ Im w ρ' Im2 w' := { rho := h2.rho, im := fun c hcI => ⟨h2.im c (m.im c hcI), hImb c hcI⟩, same := fun c hcI => (h2.mono s1).same c (m.im c hcI), shape := h2.shape }
  refine ⟨v', ρ', Im2, rfl, noRef_rel hv0 h1, ?_⟩
  refine { size := h2.size, os := h2.os, out := h2.out, keep := ?_, rho := h2.rho, im := m2.im, imNew := ?_, shape := h2.shape, own := ?_, names := ?_, ok := h2.ok, st := ?_ }
  · intro c hlt hn
    exact h2.keep c hlt fun x y hxy => hn x y (List.mem_cons_of_mem _ hxy)
  · rintro c ⟨hcI, hnb⟩
    rcases h2.imNew c hcI with h | ⟨x, y, hxy, hx⟩ | h
    · rcases hI c h with h | h
      · exact .inl h
      · exact absurd h hnb
    · exact .inr (.inl ⟨x, y, List.mem_cons_of_mem _ hxy, hx⟩)
    · exact .inr (.inr h)
  · intro x y c hxy hx
    rcases List.mem_cons.1 hxy with h | hxy
    · simp only [Prod.mk.injEq] at h
      obtain ⟨rfl, rfl⟩ := h
      have := h2.rho x code hcode
      rw [hx] at this; cases this
      exact .inl ⟨x, _, List.mem_cons_self, hcode⟩
    · rcases h2.own x y c hxy hx with ⟨x0, y0, h3, h4⟩ | h
      · exact .inl ⟨x0, y0, List.mem_cons_of_mem _ h3, h4⟩
      · exact .inr h
  · intro x y hxy
    rcases List.mem_cons.1 hxy with h | hxy
    · simp only [Prod.mk.injEq] at h
      rw [h.1]; exact .inl ⟨_, List.mem_cons_self⟩
    · rcases h2.names x y hxy with ⟨y0, h⟩ | h
      · exact .inl ⟨y0, List.mem_cons_of_mem _ h⟩
      · exact .inr h
  · refine { obj := ?_, nd := ?_, inj := ?_, im := fun c hcI => h2.st.im c hcI.1 }
    · intro x y hxy
      rcases List.mem_cons.1 hxy with h | hxy
      · simp only [Prod.mk.injEq] at h
        obtain ⟨rfl, rfl⟩ := h
        rcases s.obj x _ (List.mem_cons_self) with ⟨g1, g2⟩ | ⟨d, g1, g2, g3⟩
        · exact .inl ⟨h2.rho x _ g1, g2⟩
        · exact .inr ⟨d, h2.rho x _ g1, g2.mono m2 (hkeepb d g1), fun hI2 => hI2.2 g1⟩
      · rcases h2.st.obj x y hxy with g | ⟨d, g1, g2, g3⟩
        · exact .inl g
        · exact .inr ⟨d, g1, noRefO_rel (hRall x y hxy) g2, fun hI2 => g3 hI2.1⟩
    · simp only [List.map_cons, List.nodup_cons]
      refine ⟨?_, h2.st.nd⟩
      intro hh
      obtain ⟨⟨x, y⟩, hx, rfl⟩ := List.mem_map.1 hh
      exact hbR' _ hx
    · have hcross : ∀ x y d, (x, y) ∈ R' → ρ' x = some (d + 1) → ρ' b ≠ some (d + 1) := by
        intro x y d hx hd hdb
        have hbd : ρ b = some (d + 1) := by
          have := h2.rho b code hcode
          rw [hdb] at this; cases this
          exact hcode
        have hlt : d < w.heap.size := by
          rcases s.obj b _ (List.mem_cons_self) with ⟨g, _⟩ | ⟨d', g, g2, _⟩
          · rw [hbd] at g; cases g
          · rw [hbd] at g; cases g; exact g2.lt
        rcases h2.own x y d hx hd with ⟨x0, y0, h3, h4⟩ | h
        · have := s.inj x0 b y0 _ d (List.mem_cons_of_mem _ h3) (List.mem_cons_self) h4 hbd
          subst this
          exact hnd0.1 (List.mem_map_of_mem (f := Prod.fst) h3)
        · omega
      intro x x' y y' d hx hx' hd hd'
      rcases List.mem_cons.1 hx with h | hx <;> rcases List.mem_cons.1 hx' with h' | hx'
      · simp only [Prod.mk.injEq] at h h'
        rw [h.1, h'.1]
      · simp only [Prod.mk.injEq] at h
        rw [h.1] at hd
        exact absurd hd (hcross x' y' d hx' hd')
      · simp only [Prod.mk.injEq] at h'
        rw [h'.1] at hd'
        exact absurd hd' (hcross x y d hx hd)
      · exact h2.st.inj x x' y y' d hx hx' hd hd'
end Go.Kw
