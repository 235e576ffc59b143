import Derived.Test.YtdnccchcflaphaaF6
namespace Go.Kw
set_option linter.unusedVariables false
variable {P : Program}

theorem exists_min {p : Nat → Prop} : ∀ (n : Nat), (∃ j, j < n ∧ p j) → ∃ j, j < n ∧ p j ∧ ∀ i, i < j → ¬ p i := by
  intro n
  induction n with
  | zero => rintro ⟨j, hj, _⟩; omega
  | succ n ih =>
    rintro ⟨j, hj, hp⟩
    by_cases h : ∃ j, j < n ∧ p j
    · obtain ⟨i, h1, h2, h3⟩ := ih h
      exact ⟨i, by omega, h2, h3⟩
    · refine ⟨j, hj, hp, fun i hi hpi => h ⟨i, by omega, hpi⟩⟩

theorem any_order {n : Nat} {ops : Array Oper} {nm : Nat → Nat} {recs : List Rec} {env env' : Env} {h h' : AHeap} {p' : Nat}
    (hd : RegD P n ops nm ops.toList 0 env h recs env' h' p') (hok : orderOk ops recs h.length = true)
    {ρ Im w a} {sp : Nat → Nat → Nat} {ok : Nat → Prop} (s : St P ρ Im h w) (he : EnvRel P ρ Im w env a.tmps) (hn : a.tmps.size = n)
    (su : Sup ρ nm (fun _ => True) sp (fun _ => True)) (okn : ∀ q, ok (nm q)) (oks : ∀ j x, ok (sp j x)) {Q : Exit → Act → World → Prop}
    (hQ : ∀ a' w' ρ' Im', EnvRel P ρ' Im' w' env' a'.tmps → a'.tmps.size = n → a'.defers = a.defers → Ev P ρ Im h w ok ρ' Im' h' w' → Q .normal a' w') :
    wpAny P .any ops Q ops.size (Array.replicate ops.size false) a w := by
  obtain ⟨es, hs, pn, h1, h2, h3, h4, h5, h6, h7⟩ := hd.trace
  have hsz : ops.toList.length = ops.size := by simp
  rw [hsz] at h4 h5 h6
  have t : Tr P n ops nm recs es hs pn := ⟨fun i o r ho hr => h7 i o r (by simpa using ho) hr, h6⟩
  have hedge : edgesB 0 ops.toList = true := by
    simp only [orderOk, Bool.and_eq_true] at hok
    exact hok.1.1
  rw [← h2] at hok
  have main : ∀ (fuel : Nat) (listed : Array Bool) (T : List Nat) ρ1 Im1 w1 a1, T.Nodup → (∀ j ∈ T, j < ops.size) → T.length + fuel = ops.size → listed.size = ops.size →
      (∀ j, j < ops.size → listed.getD j false = T.elem j) → Inv P n ops nm recs es hs pn sp ok ρ Im w a (fun j => T.elem j) ρ1 Im1 w1 a1 →
      wpAny P .any ops Q fuel listed a1 w1 := by
    have fin : ∀ (T : List Nat) ρ1 Im1 w1 a1, (∀ j, j < ops.size → T.elem j = true) → Inv P n ops nm recs es hs pn sp ok ρ Im w a (fun j => T.elem j) ρ1 Im1 w1 a1 → Q .normal a1 w1 := by
      intro T ρ1 Im1 w1 a1 hall I
      refine hQ a1 w1 ρ1 Im1 ?_ I.size I.defers ?_
      · intro s v hs'
        refine I.env s v ?_
        rw [ver_to t.frE ops.size (fun i hi _ => hall i hi)]
        unfold valE
        rw [Nat.min_self, h4]
        exact hs'
      · have hev := I.ev
        rw [show ver (valH ops hs) (updH ops recs hs) (fun j => T.elem j) ops.size = fun x => h'[x]? from funext fun x => by
          rw [ver_to t.frH ops.size (fun i hi _ => hall i hi)]
          unfold valH
          rw [Nat.min_self, h5]] at hev
        rw [show lenH ops hs ops.size = h'.length from by unfold lenH; rw [Nat.min_self, h5], HL_list, h2] at hev
        exact hev
    have ready_all : ∀ (listed : Array Bool) (T : List Nat), listed.size = ops.size → (∀ j, j < ops.size → listed.getD j false = T.elem j) → Region.ready .any ops listed = [] → ∀ j, j < ops.size → T.elem j = true := by
      intro listed T hls hl hr j hj
      apply Classical.byContradiction
      intro hno
      obtain ⟨i, hi, hni, hmin⟩ := exists_min ops.size (p := fun j => T.elem j ≠ true) ⟨j, hj, hno⟩
      have : i ∈ Region.ready .any ops listed := by
        unfold Region.ready
        refine List.mem_filter.2 ⟨List.mem_range.2 hi, ?_⟩
        have h1 : listed.getD i true = false := by
          have := hl i hi
          have hni' : T.elem i = false := by simpa using hni
          rw [hni'] at this
          have hlt : i < listed.size := by omega
          simp only [Array.getD_eq_getD_getElem?, Array.getElem?_eq_getElem hlt, Option.getD_some] at this ⊢
          exact this
        rw [h1]
        simp only [Bool.not_false, Bool.true_and]
        rw [Array.getElem?_eq_getElem hi]
        simp only [Option.map_some, Option.getD_some]
        rw [Array.all_eq_true]
        intro x hx
        cases hb : Region.binds .any (ops[i]).after[x] with
        | false => rfl
        | true =>
          simp only [Bool.not_true, Bool.false_or]
          have hdm : ((ops[i]).after[x]).on ∈ direct ops[i] := by
            unfold direct
            refine List.mem_map.2 ⟨_, List.mem_filter.2 ⟨?_, hb⟩, rfl⟩
            simp
          have hlt := edgesB_spec ops.toList 0 hedge i ops[i] (by simp [hi]) _ hdm
          rw [hl _ (by omega)]
          exact Classical.not_not.1 (hmin _ (by omega))
      rw [hr] at this
      cases this
    intro fuel
    induction fuel with
    | zero =>
      intro listed T ρ1 Im1 w1 a1 hnd hlt hlen hls hl I
      have hall : ∀ j, j < ops.size → T.elem j = true := by
        have hp := range_split ops.size T hnd hlt
        have hlen' := hp.length_eq
        rw [List.length_range, List.length_append] at hlen'
        have hnil : (List.range ops.size).filter (notIn T) = [] := List.eq_nil_of_length_eq_zero (by omega)
        rw [hnil, List.append_nil] at hp
        intro j hj
        simp only [List.elem_eq_mem, decide_eq_true_eq]
        exact hp.mem_iff.1 (List.mem_range.2 hj)
      refine ⟨?_, fin T ρ1 Im1 w1 a1 hall I⟩
      rw [Region.ready, List.filter_eq_nil_iff]
      intro i hi
      have hi := List.mem_range.1 hi
      have := hl i hi
      rw [hall i hi] at this
      have hlt : i < listed.size := by omega
      simp only [Array.getD_eq_getD_getElem?, Array.getElem?_eq_getElem hlt, Option.getD_some] at this ⊢
      simp [this]
    | succ fuel ih =>
      intro listed T ρ1 Im1 w1 a1 hnd hlt hlen hls hl I
      refine ⟨fun hr => fin T ρ1 Im1 w1 a1 (ready_all listed T hls hl hr) I, ?_⟩
      intro i hi
      unfold Region.ready at hi
      obtain ⟨hi, hc⟩ := List.mem_filter.1 hi
      have hi := List.mem_range.1 hi
      have hlti : i < listed.size := by omega
      rw [Array.getElem?_eq_getElem hi] at hc
      simp only [Option.map_some, Option.getD_some, Bool.and_eq_true, Array.getD_eq_getD_getElem?, Array.getElem?_eq_getElem hlti] at hc
      have hTi : T.elem i = false := by
        have := hl i hi
        simp only [Array.getD_eq_getD_getElem?, Array.getElem?_eq_getElem hlti, Option.getD_some] at this
        rw [← this]
        simpa using hc.1
      refine t.next (by rw [h2]; rw [h2] at hok; exact hok) okn oks I hi hTi ?_ ?_
      · intro o ho d hdd
        rw [Array.getElem?_eq_getElem hi] at ho
        cases ho
        have hlt' := edgesB_spec ops.toList 0 hedge i ops[i] (by simp [hi]) d hdd
        unfold direct at hdd
        obtain ⟨e, he, rfl⟩ := List.mem_map.1 hdd
        obtain ⟨he1, he2⟩ := List.mem_filter.1 he
        have h2 := hc.2
        rw [Array.all_eq_true'] at h2
        have := h2 e (by simpa using he1)
        rw [he2] at this
        simp only [Bool.not_true, Bool.false_or] at this
        rw [← hl _ (by omega)]
        simpa [Array.getD_eq_getD_getElem?] using this
      · intro S' ρ' Im' w' a' hS1 hS2 I'
        refine ih (listed.setIfInBounds i true) (i :: T) ρ' Im' w' a' ?_ ?_ ?_ ?_ ?_ ?_
        · refine List.nodup_cons.2 ⟨?_, hnd⟩
          simpa using hTi
        · intro j hj
          rcases List.mem_cons.1 hj with rfl | hj
          · exact hi
          · exact hlt j hj
        · simp only [List.length_cons]; omega
        · simp [hls]
        · intro j hj
          by_cases hij : i = j
          · subst hij
            simp [Array.getD_eq_getD_getElem?, Array.getElem?_setIfInBounds, hlti]
          · have := hl j hj
            simp only [Array.getD_eq_getD_getElem?] at this ⊢
            rw [Array.getElem?_setIfInBounds_ne hij, this]
            simp [Ne.symm hij]
        · have : S' = fun j => (i :: T).elem j := by
            funext j
            by_cases hij : j = i
            · subst hij; rw [hS2]; simp
            · rw [hS1 j hij]; simp [hij]
          rw [← this]
          exact I'
  refine main ops.size (Array.replicate ops.size false) [] ρ Im w a List.nodup_nil (by simp) (by simp) (by simp) ?_ ?_
  · intro j hj
    simp [Array.getD_eq_getD_getElem?, hj]
  · refine { size := hn, defers := rfl, env := ?_, ev := ?_, sup := ?_, closed := ?_, out := fun _ _ => rfl }
    · intro s v hv
      refine he s v ?_
      rw [ver_from (S := fun j => List.elem j []) 0 ops.size (Nat.zero_le _) (fun i _ _ _ => rfl)] at hv
      simpa [ver, valE, h1] using hv
    · rw [show ver (valH ops hs) (updH ops recs hs) (fun j => List.elem j []) ops.size = fun x => h[x]? from funext fun x => by
        rw [ver_from (S := fun j => List.elem j []) 0 ops.size (Nat.zero_le _) (fun i _ _ _ => rfl)]
        simp [ver, valH, h2]]
      rw [HL_list' h _ ?_, h2]
      · exact Ev.refl s
      · have := t.lenM (Nat.zero_le ops.size)
        unfold lenH at this ⊢
        simpa [h2] using this
    · exact { names := fun _ _ => su.names _ trivial, inj := su.inj, sups := fun j x _ => su.sups j x trivial, spInj := su.spInj, ne := su.ne }
    · intro j o ho hf
      simp at hf
end Go.Kw
