import Derived.Test.YtdnccchcflaphaaK4
import Derived.Test.YtdnccchcflaphaaS7
namespace Go.Proofs.Try
open Go Go.Kw
set_option linter.unusedVariables false
set_option linter.unusedSimpArgs false
set_option maxRecDepth 100000
set_option maxHeartbeats 400000
theorem law2_bad (full : Bool) (parts : List (List UInt8)) (d copied : Int) (hd : d < 0 ∨ 255 < d) : ACalls Try.prog 4 [.i (d), VS PB full (parts), .i (copied)] [] [] (.bool true) [] := by
  refine ACalls.of_wp' (fn := Try.f4) (n := 132) Try.func4 rfl rfl ?_
  unfold Try.f4
  refine WP.nrm 40 ?_
  refine WP.reg k_mixed fun nm1 hnm1 => ?_
  refine RegC.m (op_assign rfl) rfl rfl rfl ?_
  refine RegC.done ⟨.inl rfl, ?_⟩
  refine WP.nrm 40 ?_
  refine WP.reg k_mixed fun nm2 hnm2 => ?_
  refine RegC.m (op_call rfl k_call_7 (landed_calls )) rfl rfl rfl ?_
  refine RegC.m (op_not rfl) rfl rfl rfl ?_
  refine RegC.done ⟨.inl rfl, ?_⟩
  refine WP.nrm 40 ?_
  refine WP.cond (t := false) rfl ?_
  refine WP.nrm 40 ?_
  refine WP.reg k_mixed fun nm3 hnm3 => ?_
  refine RegC.m (op_move rfl) rfl rfl rfl ?_
  refine RegC.m (op_call rfl k_call_13 (newSummer_bad _ (by first | omega | (simp only [List.length_append, List.length_map, List.length_cons, List.length_nil, List.length_replicate, List.length_take, List.length_drop, List.length_set]; omega) | (simp <;> omega) | simp_all))) rfl rfl rfl ?_
  refine RegC.m (op_move rfl) rfl rfl rfl ?_
  refine RegC.m (op_extract rfl rfl) rfl rfl rfl ?_
  refine RegC.m (op_extract rfl rfl) rfl rfl rfl ?_
  refine RegC.m (op_assign rfl) rfl rfl rfl ?_
  refine RegC.m (op_assign rfl) rfl rfl rfl ?_
  refine RegC.done ⟨.inl rfl, ?_⟩
  refine WP.nrm 40 ?_
  refine WP.reg k_mixed fun nm4 hnm4 => ?_
  refine RegC.m (op_move rfl) rfl rfl rfl ?_
  rcases Decidable.em ((d : Int) < 0) with h1 | h1
  ·
    refine RegC.m (OpV.boolT (op_lss rfl) h1) rfl rfl rfl ?_
    refine RegC.m (op_move rfl) rfl rfl rfl ?_
    refine RegC.skip rfl rfl ?_
    refine RegC.skip rfl rfl ?_
    refine RegC.m (op_pick rfl) rfl rfl rfl ?_
    refine RegC.done ⟨.inl rfl, ?_⟩
    refine WP.nrm 40 ?_
    refine WP.cond (t := true) rfl ?_
    refine WP.nrm 40 ?_
    refine WP.reg k_mixed fun nm5 hnm5 => ?_
    refine RegC.m (op_move rfl) rfl rfl rfl ?_
    refine RegC.m (op_eql rfl) rfl rfl rfl ?_
    refine RegC.m (op_move rfl) rfl rfl rfl ?_
    refine RegC.m (op_move rfl) rfl rfl rfl ?_
    refine RegC.m (op_eqNilNil rfl k_undP_37) rfl rfl rfl ?_
    refine RegC.m (op_pick rfl) rfl rfl rfl ?_
    refine RegC.m (op_assign rfl) rfl rfl rfl ?_
    refine RegC.done ⟨.inl rfl, ?_⟩
    refine WP.nrm 40 ?_
    refine WP.retS (ResV.one rfl (.tmp rfl)) (List.nil_sublist _) ?_
    exact ⟨rfl, rfl⟩
  ·
    refine RegC.m (OpV.boolF (op_lss rfl) h1) rfl rfl rfl ?_
    refine RegC.m (op_move rfl) rfl rfl rfl ?_
    refine RegC.m (op_move rfl) rfl rfl rfl ?_
    refine RegC.m (op_gtr rfl) rfl rfl rfl ?_
    refine RegC.m (op_pick rfl) rfl rfl rfl ?_
    refine RegC.done ⟨.inl rfl, ?_⟩
    refine WP.nrm 40 ?_
    refine WP.condD rfl (fun h2 => ?_) (fun h2 => ?_)
    ·
      refine WP.nrm 40 ?_
      refine WP.reg k_mixed fun nm6 hnm6 => ?_
      refine RegC.m (op_move rfl) rfl rfl rfl ?_
      refine RegC.m (op_eql rfl) rfl rfl rfl ?_
      refine RegC.m (op_move rfl) rfl rfl rfl ?_
      refine RegC.m (op_move rfl) rfl rfl rfl ?_
      refine RegC.m (op_eqNilNil rfl k_undP_37) rfl rfl rfl ?_
      refine RegC.m (op_pick rfl) rfl rfl rfl ?_
      refine RegC.m (op_assign rfl) rfl rfl rfl ?_
      refine RegC.done ⟨.inl rfl, ?_⟩
      refine WP.nrm 40 ?_
      refine WP.retS (ResV.one rfl (.tmp rfl)) (List.nil_sublist _) ?_
      exact ⟨rfl, rfl⟩
    ·
      exfalso; omega

theorem law2_ok (full : Bool) (parts : List (List UInt8)) (d : Nat) (copied : Int) (hd : d ≤ 255) (hP : ∀ p ∈ parts, p.length ≤ 140737488351232) (hL : parts.length ≤ 140737488351232) : ACalls Try.prog 4 [.i ((d : Int)), VS PB full (parts), .i (copied)] [] [] (.bool true) [] := by
  refine ACalls.of_wp' (fn := Try.f4) (n := 132) Try.func4 rfl rfl ?_
  unfold Try.f4
  refine WP.nrm 40 ?_
  refine WP.reg k_mixed fun nm1 hnm1 => ?_
  refine RegC.m (op_assign rfl) rfl rfl rfl ?_
  refine RegC.done ⟨.inl rfl, ?_⟩
  refine WP.nrm 40 ?_
  refine WP.reg k_mixed fun nm2 hnm2 => ?_
  refine RegC.m (op_call rfl k_call_7 (landed_calls )) rfl rfl rfl ?_
  refine RegC.m (op_not rfl) rfl rfl rfl ?_
  refine RegC.done ⟨.inl rfl, ?_⟩
  refine WP.nrm 40 ?_
  refine WP.cond (t := false) rfl ?_
  refine WP.nrm 40 ?_
  refine WP.reg k_mixed fun nm3 hnm3 => ?_
  refine RegC.m (op_move rfl) rfl rfl rfl ?_
  refine RegC.a (op_call rfl k_call_13 (newSummer_calls (nm3 0) (d) (by first | omega | (simp only [List.length_append, List.length_map, List.length_cons, List.length_nil, List.length_replicate, List.length_take, List.length_drop, List.length_set]; omega) | (simp <;> omega) | simp_all))) rfl rfl rfl ?_
  refine RegC.m (op_move rfl) rfl rfl rfl ?_
  refine RegC.m (op_extract rfl rfl) rfl rfl rfl ?_
  refine RegC.m (op_extract rfl rfl) rfl rfl rfl ?_
  refine RegC.m (op_assign rfl) rfl rfl rfl ?_
  refine RegC.m (op_assign rfl) rfl rfl rfl ?_
  refine RegC.done ⟨.inl rfl, ?_⟩
  refine WP.nrm 40 ?_
  refine WP.reg k_mixed fun nm4 hnm4 => ?_
  refine RegC.m (op_move rfl) rfl rfl rfl ?_
  refine RegC.m (OpV.boolF (op_lss rfl) (by omega)) rfl rfl rfl ?_
  refine RegC.m (op_move rfl) rfl rfl rfl ?_
  refine RegC.m (op_move rfl) rfl rfl rfl ?_
  refine RegC.m (OpV.boolF (op_gtr rfl) (by omega)) rfl rfl rfl ?_
  refine RegC.m (op_pick rfl) rfl rfl rfl ?_
  refine RegC.done ⟨.inl rfl, ?_⟩
  refine WP.nrm 40 ?_
  refine WP.cond (t := false) rfl ?_
  refine WP.nrm 40 ?_
  refine WP.reg k_mixed fun nm5 hnm5 => ?_
  refine RegC.m (op_move rfl) rfl rfl rfl ?_
  refine RegC.m (op_neq rfl) rfl rfl rfl ?_
  refine RegC.m (op_move rfl) rfl rfl rfl ?_
  refine RegC.m (op_move rfl) rfl rfl rfl ?_
  refine RegC.m (op_eqNil rfl k_undP_37) rfl rfl rfl ?_
  refine RegC.m (op_pick rfl) rfl rfl rfl ?_
  refine RegC.done ⟨.inl rfl, ?_⟩
  refine WP.nrm 40 ?_
  refine WP.cond (t := false) rfl ?_
  refine WP.nrm 40 ?_
  refine WP.reg k_mixed fun nm6 hnm6 => ?_
  refine RegC.m (op_assign rfl) rfl rfl rfl ?_
  refine RegC.m (op_assign rfl) rfl rfl rfl ?_
  refine RegC.done ⟨.inl rfl, ?_⟩
  refine WP.nrm 40 ?_
  refine WP.reg k_mixed fun nm7 hnm7 => ?_
  refine RegC.m (op_assign rfl) rfl rfl rfl ?_
  refine RegC.done ⟨.inl rfl, ?_⟩
  refine WP.nrm 40 ?_
  refine WP.reg k_mixed fun nm8 hnm8 => ?_
  refine RegC.m (op_move rfl) rfl rfl rfl ?_
  refine RegC.m (op_lenV (f := PB) (l := parts) rfl k_sl_36) rfl rfl rfl ?_
  refine RegC.m (op_move rfl) rfl rfl rfl ?_
  refine RegC.done ⟨.inl rfl, ?_⟩
  refine WP.nrm 40 ?_
  refine WP.own 9 5 1 rfl (fun own1 => ?_)
  refine WP.loopPh5_10 (fun (i : Int) (T : List UInt8) (z : Sm) (n : Nat) (bt : Nat) => [(0, .i ((d : Int))), (2, .i (copied)), (7, .ptr (nm3 0) (0)), (9, .os (bt) (0) (n) 1 false), (10, VS AVal.u8 true (([] : List UInt8))), (11, .nilp), (40, VS PB full (parts)), (41, .i (((parts).length : Int))), (42, .i (i))]) (fun (i : Int) (T : List UInt8) (z : Sm) (n : Nat) (bt : Nat) => [(nm3 0, .vec 82 (((z.s).map AVal.u8) ++ (((z.r).map AVal.u8) ++ ([.i ((z.h : Int))] ++ [.i ((n : Int))])))), (bt, .vec 5 ((T).map AVal.u8))]) (fun (i : Int) (T : List UInt8) (z : Sm) (n : Nat) (bt : Nat) => ∃ j : Nat, i = j ∧ j ≤ parts.length ∧ n ≤ 1048576 ∧ n = T.length ∧ Canon d T z ∧ (copied < 0 ∨ (j : Int) ≤ copied)) (fun (i : Int) (T : List UInt8) (z : Sm) (n : Nat) (bt : Nat) => (parts.length - i).toNat) (0) ([]) (⟨initS d, List.replicate 32 0, 0⟩) (0) (own1) (subE.cons rfl (subE.cons rfl (subE.cons rfl (subE.cons rfl (subE.cons rfl (subE.cons rfl (subE.cons rfl (subE.cons rfl (subE.cons rfl (subE.nil)))))))))) (by (try simp only [List.set_cons_zero, List.set_cons_succ, List.cons_append, List.nil_append]); exact (.cons_cons _ (.cons_cons _ (List.nil_sublist _)))) ⟨0, rfl, by omega, by omega, rfl, canon_init d, by omega⟩ (fun (i : Int) (T : List UInt8) (z : Sm) (n : Nat) (bt : Nat) (zc : Sm) (O : List UInt8) (m : Nat) (bc : Nat) (bo : Nat) => [(0, .i ((d : Int))), (2, .i (copied)), (7, .ptr (nm3 0) (0)), (9, .os (bt) (0) (n) 1 false), (10, .os (bo) (0) (m) 1 false), (11, .ptr (bc) (0)), (40, VS PB full (parts)), (41, .i (((parts).length : Int))), (42, .i (i))]) (fun (i : Int) (T : List UInt8) (z : Sm) (n : Nat) (bt : Nat) (zc : Sm) (O : List UInt8) (m : Nat) (bc : Nat) (bo : Nat) => [(nm3 0, .vec 82 (((z.s).map AVal.u8) ++ (((z.r).map AVal.u8) ++ ([.i ((z.h : Int))] ++ [.i ((n : Int))])))), (bt, .vec 5 ((T).map AVal.u8)), (bc, .vec 82 (((zc.s).map AVal.u8) ++ (((zc.r).map AVal.u8) ++ ([.i ((zc.h : Int))] ++ [.i ((m : Int))])))), (bo, .vec 5 ((O).map AVal.u8))]) (fun (i : Int) (T : List UInt8) (z : Sm) (n : Nat) (bt : Nat) (zc : Sm) (O : List UInt8) (m : Nat) (bc : Nat) (bo : Nat) => ∃ j : Nat, i = j ∧ j ≤ parts.length ∧ n ≤ 1048576 ∧ n = T.length ∧ Canon d T z ∧ copied < j ∧ m = O.length ∧ m ≤ 1048576 ∧ Canon d O zc) (fun (i : Int) (T : List UInt8) (z : Sm) (n : Nat) (bt : Nat) (zc : Sm) (O : List UInt8) (m : Nat) (bc : Nat) (bo : Nat) => (parts.length - i).toNat) ?_ ?_
  ·
    intro i T z n bt zc O m bc bo hI ih0
    obtain ⟨j, rfl, hj, hT, hn, hC, hcp, hm, lO, hCO⟩ := hI
    obtain ⟨hs0, hr0, hh0⟩ := id hC.ok
    have hzok := hC.ok
    have hcok := hCO.ok
    obtain ⟨hs9, hr9, hh9⟩ := id hCO.ok
    refine WP.nrm 40 ?_
    refine WP.reg k_mixed fun nm9 hnm9 => ?_
    refine RegC.m (op_lss rfl) rfl rfl rfl ?_
    refine RegC.done ⟨.inl rfl, ?_⟩
    refine WP.nrm 40 ?_
    refine WP.condD rfl (fun h2 => ?_) (fun h2 => ?_)
    ·
      have hjl : j < parts.length := (by omega)
      have hpl : (parts[j]!).length ≤ 140737488351232 := hP _ (by rw [getElem!_pos parts j hjl]; exact List.getElem_mem hjl)
      refine WP.nrm 40 ?_
      refine WP.reg k_mixed fun nm10 hnm10 => ?_
      refine RegC.m (op_move rfl) rfl rfl rfl ?_
      refine RegC.m (op_iV (f := PB) (l := parts) (j) rfl k_sl_36 (by first | omega | (simp only [List.length_append, List.length_map, List.length_cons, List.length_nil, List.length_replicate, List.length_take, List.length_drop, List.length_set]; omega) | (simp <;> omega) | simp_all) (by first | omega | (simp only [List.length_append, List.length_map, List.length_cons, List.length_nil, List.length_replicate, List.length_take, List.length_drop, List.length_set]; omega) | (simp <;> omega) | simp_all)) rfl rfl rfl ?_
      refine RegC.m (op_loadVM (f := PB) (l := parts) (n := j) rfl k_scal_26 (by first | omega | (simp only [List.length_append, List.length_map, List.length_cons, List.length_nil, List.length_replicate, List.length_take, List.length_drop, List.length_set]; omega) | (simp <;> omega) | simp_all)) rfl rfl rfl ?_
      refine RegC.m (op_assign rfl) rfl rfl rfl ?_
      refine RegC.m (op_assign rfl) rfl rfl rfl ?_
      refine RegC.done ⟨.inl rfl, ?_⟩
      refine WP.nrm 40 ?_
      refine WP.reg k_mixed fun nm11 hnm11 => ?_
      refine RegC.m (op_move rfl) rfl rfl rfl ?_
      refine RegC.m (op_move rfl) rfl rfl rfl ?_
      refine RegC.m (OpV.boolE (t := (((j : Int) : Int) == copied)) (u := false) (op_eql rfl) (decide_eq_false (by omega))) rfl rfl rfl ?_
      refine RegC.done ⟨.inl rfl, ?_⟩
      refine WP.nrm 40 ?_
      refine WP.cond (t := false) rfl ?_
      rcases Nat.lt_or_ge 1048576 (n + (parts[j]!).length) with h3 | h3
      ·
        refine WP.nrm 40 ?_
        refine WP.reg k_mixed fun nm12 hnm12 => ?_
        refine RegC.m (op_move rfl) rfl rfl rfl ?_
        refine RegC.m (op_move rfl) rfl rfl rfl ?_
        refine RegC.w (i := 0) (op_call rfl k_call_16 (write_large (nm3 0) z (n) false ((parts)[j]!) (by first | (with_reducible assumption) | exact takeS_ok _ (by assumption)) (by first | omega | (simp <;> omega)) (by first | omega | (simp <;> omega)))) rfl rfl rfl rfl ?_
        refine RegC.m (op_assign rfl) rfl rfl rfl ?_
        refine RegC.done ⟨.inl rfl, ?_⟩
        refine WP.nrm 40 ?_
        refine WP.reg k_mixed fun nm13 hnm13 => ?_
        refine RegC.m (op_move rfl) rfl rfl rfl ?_
        refine RegC.m (op_lenO rfl k_sl_26) rfl rfl rfl ?_
        refine RegC.m (op_move rfl) rfl rfl rfl ?_
        refine RegC.m (op_lenV (f := AVal.u8) (l := (parts)[j]!) rfl k_sl_26) rfl rfl rfl ?_
        refine RegC.m (op_addI rfl (by first | omega | (simp only [List.length_append, List.length_map, List.length_cons, List.length_nil, List.length_replicate, List.length_take, List.length_drop, List.length_set]; omega) | (simp <;> omega) | simp_all)) rfl rfl rfl ?_
        refine RegC.m (OpV.boolT (op_gtr rfl) (by omega)) rfl rfl rfl ?_
        refine RegC.done ⟨.inl rfl, ?_⟩
        refine WP.nrm 40 ?_
        refine WP.cond (t := true) rfl ?_
        refine WP.nrm 40 ?_
        refine WP.reg k_mixed fun nm14 hnm14 => ?_
        refine RegC.m (op_move rfl) rfl rfl rfl ?_
        refine RegC.m (op_neq rfl) rfl rfl rfl ?_
        refine RegC.done ⟨.inl rfl, ?_⟩
        refine WP.nrm 40 ?_
        refine WP.cond (t := false) rfl ?_
        refine WP.nrm 40 ?_
        refine WP.reg k_mixed fun nm15 hnm15 => ?_
        refine RegC.m (op_addI rfl (by first | omega | (simp only [List.length_append, List.length_map, List.length_cons, List.length_nil, List.length_replicate, List.length_take, List.length_drop, List.length_set]; omega) | (simp <;> omega) | simp_all)) rfl rfl rfl ?_
        refine RegC.m (op_move rfl) rfl rfl rfl ?_
        refine RegC.done ⟨.inl rfl, ?_⟩
        refine WP.nrm 40 ?_
        refine WP.jump (subE.cons rfl (subE.cons rfl (subE.cons rfl (subE.cons rfl (subE.cons rfl (subE.cons rfl (subE.cons rfl (subE.cons rfl (subE.cons rfl (subE.nil)))))))))) (by (try simp only [List.set_cons_zero, List.set_cons_succ, List.cons_append, List.nil_append]); exact (.cons_cons _ (.cons_cons _ (.cons_cons _ (.cons_cons _ (List.nil_sublist _)))))) (ih0 (((j : Int) + 1)) (T) (z) (n) (bt) (zc) (O) (m) (bc) (bo) ?_ ?_)
        · exact ⟨j + 1, by push_cast; rfl, by omega, by omega, hn, hC, by omega, hm, lO, hCO⟩
        · omega
      ·
        have hC2 := canon_take hC (parts[j]!)
        have hs2 : sumS (takeS z (parts[j]!)) (n + (parts[j]!).length) = sum1 d (T ++ parts[j]!) := by rw [← sums_same hC2, hn, List.length_append]
        refine WP.nrm 40 ?_
        refine WP.reg k_mixed fun nm16 hnm16 => ?_
        refine RegC.m (op_move rfl) rfl rfl rfl ?_
        refine RegC.m (op_move rfl) rfl rfl rfl ?_
        refine RegC.w (i := 0) (op_call rfl k_call_16 (write_calls (nm3 0) z (n) false ((parts)[j]!) (by first | (with_reducible assumption) | exact takeS_ok _ (by assumption)) (by first | omega | (simp <;> omega)))) rfl rfl rfl rfl ?_
        refine RegC.m (op_assign rfl) rfl rfl rfl ?_
        refine RegC.done ⟨.inl rfl, ?_⟩
        refine WP.nrm 40 ?_
        refine WP.reg k_mixed fun nm17 hnm17 => ?_
        refine RegC.m (op_move rfl) rfl rfl rfl ?_
        refine RegC.m (op_lenO rfl k_sl_26) rfl rfl rfl ?_
        refine RegC.m (op_move rfl) rfl rfl rfl ?_
        refine RegC.m (op_lenV (f := AVal.u8) (l := (parts)[j]!) rfl k_sl_26) rfl rfl rfl ?_
        refine RegC.m (op_addI rfl (by first | omega | (simp only [List.length_append, List.length_map, List.length_cons, List.length_nil, List.length_replicate, List.length_take, List.length_drop, List.length_set]; omega) | (simp <;> omega) | simp_all)) rfl rfl rfl ?_
        refine RegC.m (OpV.boolF (op_gtr rfl) (by omega)) rfl rfl rfl ?_
        refine RegC.done ⟨.inl rfl, ?_⟩
        refine WP.nrm 40 ?_
        refine WP.cond (t := false) rfl ?_
        refine WP.nrm 40 ?_
        refine WP.reg k_mixed fun nm18 hnm18 => ?_
        refine RegC.m (op_move rfl) rfl rfl rfl ?_
        refine RegC.m (op_neq rfl) rfl rfl rfl ?_
        refine RegC.done ⟨.inl rfl, ?_⟩
        refine WP.nrm 40 ?_
        refine WP.cond (t := false) rfl ?_
        refine WP.nrm 40 ?_
        refine WP.reg k_mixed fun nm19 hnm19 => ?_
        refine RegC.m (op_move rfl) rfl rfl rfl ?_
        refine RegC.m (op_move rfl) rfl rfl rfl ?_
        refine RegC.wa (i := 1) (op_appL (f := AVal.u8) (l := T) (l2 := (parts)[j]!) (fun _ => rfl) rfl k_app_26_26 (by first | omega | (simp only [List.length_append, List.length_map, List.length_cons, List.length_nil, List.length_replicate, List.length_take, List.length_drop, List.length_set]; omega) | (simp <;> omega) | simp_all) (by first | omega | (simp only [List.length_append, List.length_map, List.length_cons, List.length_nil, List.length_replicate, List.length_take, List.length_drop, List.length_set]; omega) | (simp <;> omega) | simp_all)) rfl rfl rfl rfl ?_
        refine RegC.m (op_assign rfl) rfl rfl rfl ?_
        refine RegC.done ⟨.inl rfl, ?_⟩
        refine WP.nrm 40 ?_
        refine WP.reg k_mixed fun nm20 hnm20 => ?_
        refine RegC.m (op_move rfl) rfl rfl rfl ?_
        refine RegC.q (i := 0) (op_call rfl k_call_17 (sum_calls (nm3 0) (takeS z ((parts)[j]!)) ((n + ((parts)[j]!).length)) (by first | (with_reducible assumption) | exact takeS_ok _ (by assumption)))) rfl rfl rfl rfl ?_
        refine RegC.m (op_move rfl) rfl rfl rfl ?_
        refine RegC.m (op_move rfl) rfl rfl rfl ?_
        refine RegC.q (i := 1) (op_call rfl k_call_18 (lend12 (sum1_calls false (d) (T ++ (parts)[j]!) (by first | omega | (simp only [List.length_append, List.length_map, List.length_cons, List.length_nil, List.length_replicate, List.length_take, List.length_drop, List.length_set]; omega) | (simp <;> omega) | simp_all) (by first | omega | (simp only [List.length_append, List.length_map, List.length_cons, List.length_nil, List.length_replicate, List.length_take, List.length_drop, List.length_set]; omega) | (simp <;> omega) | simp_all)) (frz_os (by first | omega | (simp only [List.length_append, List.length_map, List.length_cons, List.length_nil, List.length_replicate, List.length_take, List.length_drop, List.length_set]; omega) | (simp <;> omega) | simp_all)) noRef_8)) rfl rfl rfl rfl ?_
        refine RegC.m (OpV.boolE (t := (!((sumS (takeS z ((parts)[j]!)) ((n + ((parts)[j]!).length)) : List UInt8) == sum1 (d) (T ++ (parts)[j]!)))) (u := false) (op_neqA8 (l := sumS (takeS z ((parts)[j]!)) ((n + ((parts)[j]!).length))) (l2 := sum1 (d) (T ++ (parts)[j]!)) rfl k_arr8_43 (by first | omega | (simp only [List.length_append, List.length_map, List.length_cons, List.length_nil, List.length_replicate, List.length_take, List.length_drop, List.length_set]; omega) | (simp <;> omega) | simp_all) (by first | omega | (simp only [List.length_append, List.length_map, List.length_cons, List.length_nil, List.length_replicate, List.length_take, List.length_drop, List.length_set]; omega) | (simp <;> omega) | simp_all)) (neF hs2)) rfl rfl rfl ?_
        refine RegC.done ⟨.inl rfl, ?_⟩
        refine WP.nrm 40 ?_
        refine WP.cond (t := false) rfl ?_
        refine WP.nrm 40 ?_
        refine WP.reg k_mixed fun nm21 hnm21 => ?_
        refine RegC.m (op_addI rfl (by first | omega | (simp only [List.length_append, List.length_map, List.length_cons, List.length_nil, List.length_replicate, List.length_take, List.length_drop, List.length_set]; omega) | (simp <;> omega) | simp_all)) rfl rfl rfl ?_
        refine RegC.m (op_move rfl) rfl rfl rfl ?_
        refine RegC.done ⟨.inl rfl, ?_⟩
        refine WP.nrm 40 ?_
        refine WP.jump (subE.cons rfl (subE.cons rfl (subE.cons rfl (subE.cons rfl (subE.cons rfl (subE.cons rfl (subE.cons rfl (subE.cons rfl (subE.cons rfl (subE.nil)))))))))) (by (try simp only [List.set_cons_zero, List.set_cons_succ, List.cons_append, List.nil_append]); exact (.cons_cons _ (.cons_cons _ (.cons_cons _ (.cons_cons _ (List.nil_sublist _)))))) (ih0 (((j : Int) + 1)) (T ++ (parts)[j]!) ((takeS z ((parts)[j]!))) ((n + ((parts)[j]!).length)) (nm19 0) (zc) (O) (m) (bc) (bo) ?_ ?_)
        · exact ⟨j + 1, by push_cast; rfl, by omega, by omega, by simp [hn], canon_take hC _, by omega, hm, lO, hCO⟩
        · omega
    ·
      refine WP.nrm 40 ?_
      refine WP.reg k_mixed fun nm22 hnm22 => ?_
      refine RegC.m (op_move rfl) rfl rfl rfl ?_
      refine RegC.m (op_eqNil rfl k_undP_37) rfl rfl rfl ?_
      refine RegC.done ⟨.inl rfl, ?_⟩
      refine WP.nrm 40 ?_
      refine WP.cond (t := false) rfl ?_
      have hsT : sumS z n = sum1 d T := by rw [← sums_same hC, hn]
      have hsO : sumS zc m = sum1 d O := by rw [← sums_same hCO, hm]
      have hC7 := canon_take hCO [7]
      have hsO7 : sumS (takeS zc [7]) (m + 1) = sum1 d (O ++ [7]) := by rw [← sums_same hC7, hm, List.length_append]; rfl
      have hok7 := hC7.ok
      obtain ⟨hs7, hr7, hh7⟩ := id hok7
      refine WP.nrm 40 ?_
      refine WP.reg k_mixed fun nm23 hnm23 => ?_
      refine RegC.m (op_move rfl) rfl rfl rfl ?_
      refine RegC.m (op_lenO rfl k_sl_26) rfl rfl rfl ?_
      refine RegC.m (op_eql rfl) rfl rfl rfl ?_
      refine RegC.done ⟨.inl rfl, ?_⟩
      refine WP.nrm 40 ?_
      refine WP.condB rfl (fun h4 => ?_) (fun h4 => ?_)
      ·
        have hm0 := of_decide_eq_true h4
        refine WP.nrm 40 ?_
        refine WP.reg k_mixed fun nm24 hnm24 => ?_
        refine RegC.m (op_move rfl) rfl rfl rfl ?_
        refine RegC.q (i := 2) (op_call rfl k_call_17 (sum_calls (bc) zc (m) (by first | (with_reducible assumption) | exact takeS_ok _ (by assumption)))) rfl rfl rfl rfl ?_
        refine RegC.m (op_move rfl) rfl rfl rfl ?_
        refine RegC.m (op_move rfl) rfl rfl rfl ?_
        refine RegC.q (i := 3) (op_call rfl k_call_18 (lend12 (sum1_calls false (d) (O) (by first | omega | (simp only [List.length_append, List.length_map, List.length_cons, List.length_nil, List.length_replicate, List.length_take, List.length_drop, List.length_set]; omega) | (simp <;> omega) | simp_all) (by first | omega | (simp only [List.length_append, List.length_map, List.length_cons, List.length_nil, List.length_replicate, List.length_take, List.length_drop, List.length_set]; omega) | (simp <;> omega) | simp_all)) (frz_os (by first | omega | (simp only [List.length_append, List.length_map, List.length_cons, List.length_nil, List.length_replicate, List.length_take, List.length_drop, List.length_set]; omega) | (simp <;> omega) | simp_all)) noRef_8)) rfl rfl rfl rfl ?_
        refine RegC.m (OpV.boolE (t := ((sumS zc (m) : List UInt8) == sum1 (d) (O))) (u := true) (op_eqA8 (l := sumS zc (m)) (l2 := sum1 (d) (O)) rfl k_arr8_43 (by first | omega | (simp only [List.length_append, List.length_map, List.length_cons, List.length_nil, List.length_replicate, List.length_take, List.length_drop, List.length_set]; omega) | (simp <;> omega) | simp_all) (by first | omega | (simp only [List.length_append, List.length_map, List.length_cons, List.length_nil, List.length_replicate, List.length_take, List.length_drop, List.length_set]; omega) | (simp <;> omega) | simp_all)) (eqT hsO)) rfl rfl rfl ?_
        refine RegC.m (op_move rfl) rfl rfl rfl ?_
        refine RegC.m (op_move rfl) rfl rfl rfl ?_
        refine RegC.a (op_buildSlM (vs := List.map AVal.u8 [(7 : UInt8)]) rfl k_sl_26 k_zeroE_5 rfl rfl rfl (by omega)) rfl rfl rfl ?_
        refine RegC.wq (i := 2) (j := 4) (op_call rfl k_call_16 (lend21 (write_large (bc) zc (m) true ([(7 : UInt8)]) (by first | (with_reducible assumption) | exact takeS_ok _ (by assumption)) (by first | omega | (simp <;> omega)) (by first | omega | (simp <;> omega))) (frz_os (by simp)) rfl (noRefO_vec (by simp [noRefs_append, noRefs_8, noRefs, noRef])))) rfl rfl rfl rfl rfl rfl ?_
        refine RegC.m (op_eql rfl) rfl rfl rfl ?_
        refine RegC.m (op_pick rfl) rfl rfl rfl ?_
        refine RegC.m (op_move rfl) rfl rfl rfl ?_
        refine RegC.m (op_move rfl) rfl rfl rfl ?_
        refine RegC.q (i := 0) (op_call rfl k_call_17 (sum_calls (nm3 0) z (n) (by first | (with_reducible assumption) | exact takeS_ok _ (by assumption)))) rfl rfl rfl rfl ?_
        refine RegC.m (op_move rfl) rfl rfl rfl ?_
        refine RegC.m (op_move rfl) rfl rfl rfl ?_
        refine RegC.q (i := 1) (op_call rfl k_call_18 (lend12 (sum1_calls false (d) (T) (by first | omega | (simp only [List.length_append, List.length_map, List.length_cons, List.length_nil, List.length_replicate, List.length_take, List.length_drop, List.length_set]; omega) | (simp <;> omega) | simp_all) (by first | omega | (simp only [List.length_append, List.length_map, List.length_cons, List.length_nil, List.length_replicate, List.length_take, List.length_drop, List.length_set]; omega) | (simp <;> omega) | simp_all)) (frz_os (by first | omega | (simp only [List.length_append, List.length_map, List.length_cons, List.length_nil, List.length_replicate, List.length_take, List.length_drop, List.length_set]; omega) | (simp <;> omega) | simp_all)) noRef_8)) rfl rfl rfl rfl ?_
        refine RegC.m (OpV.boolE (t := ((sumS z (n) : List UInt8) == sum1 (d) (T))) (u := true) (op_eqA8 (l := sumS z (n)) (l2 := sum1 (d) (T)) rfl k_arr8_43 (by first | omega | (simp only [List.length_append, List.length_map, List.length_cons, List.length_nil, List.length_replicate, List.length_take, List.length_drop, List.length_set]; omega) | (simp <;> omega) | simp_all) (by first | omega | (simp only [List.length_append, List.length_map, List.length_cons, List.length_nil, List.length_replicate, List.length_take, List.length_drop, List.length_set]; omega) | (simp <;> omega) | simp_all)) (eqT hsT)) rfl rfl rfl ?_
        refine RegC.m (op_pick rfl) rfl rfl rfl ?_
        refine RegC.m (op_assign rfl) rfl rfl rfl ?_
        refine RegC.done ⟨.inl rfl, ?_⟩
        refine WP.nrm 40 ?_
        refine WP.retS (ResV.one rfl (.tmp rfl)) (List.nil_sublist _) ?_
        exact ⟨rfl, rfl⟩
      ·
        have hm0 := of_decide_eq_false h4
        refine WP.nrm 40 ?_
        refine WP.reg k_mixed fun nm25 hnm25 => ?_
        refine RegC.m (op_move rfl) rfl rfl rfl ?_
        refine RegC.q (i := 2) (op_call rfl k_call_17 (sum_calls (bc) zc (m) (by first | (with_reducible assumption) | exact takeS_ok _ (by assumption)))) rfl rfl rfl rfl ?_
        refine RegC.m (op_move rfl) rfl rfl rfl ?_
        refine RegC.m (op_move rfl) rfl rfl rfl ?_
        refine RegC.q (i := 3) (op_call rfl k_call_18 (lend12 (sum1_calls false (d) (O) (by first | omega | (simp only [List.length_append, List.length_map, List.length_cons, List.length_nil, List.length_replicate, List.length_take, List.length_drop, List.length_set]; omega) | (simp <;> omega) | simp_all) (by first | omega | (simp only [List.length_append, List.length_map, List.length_cons, List.length_nil, List.length_replicate, List.length_take, List.length_drop, List.length_set]; omega) | (simp <;> omega) | simp_all)) (frz_os (by first | omega | (simp only [List.length_append, List.length_map, List.length_cons, List.length_nil, List.length_replicate, List.length_take, List.length_drop, List.length_set]; omega) | (simp <;> omega) | simp_all)) noRef_8)) rfl rfl rfl rfl ?_
        refine RegC.m (OpV.boolE (t := ((sumS zc (m) : List UInt8) == sum1 (d) (O))) (u := true) (op_eqA8 (l := sumS zc (m)) (l2 := sum1 (d) (O)) rfl k_arr8_43 (by first | omega | (simp only [List.length_append, List.length_map, List.length_cons, List.length_nil, List.length_replicate, List.length_take, List.length_drop, List.length_set]; omega) | (simp <;> omega) | simp_all) (by first | omega | (simp only [List.length_append, List.length_map, List.length_cons, List.length_nil, List.length_replicate, List.length_take, List.length_drop, List.length_set]; omega) | (simp <;> omega) | simp_all)) (eqT hsO)) rfl rfl rfl ?_
        refine RegC.m (op_move rfl) rfl rfl rfl ?_
        refine RegC.m (op_move rfl) rfl rfl rfl ?_
        refine RegC.a (op_buildSlM (vs := List.map AVal.u8 [(7 : UInt8)]) rfl k_sl_26 k_zeroE_5 rfl rfl rfl (by omega)) rfl rfl rfl ?_
        refine RegC.wq (i := 2) (j := 4) (op_call rfl k_call_16 (lend21 (write_calls (bc) zc (m) true ([(7 : UInt8)]) (by first | (with_reducible assumption) | exact takeS_ok _ (by assumption)) (by first | omega | (simp <;> omega))) (frz_os (by simp)) rfl (noRefO_vec (by simp [noRefs_append, noRefs_8, noRefs, noRef])))) rfl rfl rfl rfl rfl rfl ?_
        refine RegC.m (op_eql rfl) rfl rfl rfl ?_
        refine RegC.m (op_pick rfl) rfl rfl rfl ?_
        refine RegC.m (op_move rfl) rfl rfl rfl ?_
        refine RegC.m (op_move rfl) rfl rfl rfl ?_
        refine RegC.q (i := 2) (op_call rfl k_call_17 (sum_calls (bc) (takeS zc ([(7 : UInt8)])) ((m + ([(7 : UInt8)]).length)) (by first | (with_reducible assumption) | exact takeS_ok _ (by assumption)))) rfl rfl rfl rfl ?_
        refine RegC.m (op_move rfl) rfl rfl rfl ?_
        refine RegC.m (op_move rfl) rfl rfl rfl ?_
        refine RegC.a (op_buildSlM (vs := List.map AVal.u8 [(7 : UInt8)]) rfl k_sl_26 k_zeroE_5 rfl rfl rfl (by omega)) rfl rfl rfl ?_
        refine RegC.wqa (i := 3) (j := 5) (op_appLO (f := AVal.u8) (l := O) (l2 := [(7 : UInt8)]) (lo := 0) (n := ([(7 : UInt8)]).length) (fun _ => rfl) rfl k_app_26_26 (by first | omega | (simp only [List.length_append, List.length_map, List.length_cons, List.length_nil, List.length_replicate, List.length_take, List.length_drop, List.length_set]; omega) | (simp <;> omega) | simp_all) (by first | omega | (simp only [List.length_append, List.length_map, List.length_cons, List.length_nil, List.length_replicate, List.length_take, List.length_drop, List.length_set]; omega) | (simp <;> omega) | simp_all) (by first | omega | (simp only [List.length_append, List.length_map, List.length_cons, List.length_nil, List.length_replicate, List.length_take, List.length_drop, List.length_set]; omega) | (simp <;> omega) | simp_all)) rfl rfl rfl rfl rfl rfl ?_
        refine RegC.q (i := 3) (op_call rfl k_call_18 (lend12 (sum1_calls false (d) (O ++ (([(7 : UInt8)]).drop (0)).take (([(7 : UInt8)]).length)) (by first | omega | (simp only [List.length_append, List.length_map, List.length_cons, List.length_nil, List.length_replicate, List.length_take, List.length_drop, List.length_set]; omega) | (simp <;> omega) | simp_all) (by first | omega | (simp only [List.length_append, List.length_map, List.length_cons, List.length_nil, List.length_replicate, List.length_take, List.length_drop, List.length_set]; omega) | (simp <;> omega) | simp_all)) (frz_os (by first | omega | (simp only [List.length_append, List.length_map, List.length_cons, List.length_nil, List.length_replicate, List.length_take, List.length_drop, List.length_set]; omega) | (simp <;> omega) | simp_all)) noRef_8)) rfl rfl rfl rfl ?_
        refine RegC.m (OpV.boolE (t := ((sumS (takeS zc ([(7 : UInt8)])) ((m + ([(7 : UInt8)]).length)) : List UInt8) == sum1 (d) (O ++ (([(7 : UInt8)]).drop (0)).take (([(7 : UInt8)]).length)))) (u := true) (op_eqA8 (l := sumS (takeS zc ([(7 : UInt8)])) ((m + ([(7 : UInt8)]).length))) (l2 := sum1 (d) (O ++ (([(7 : UInt8)]).drop (0)).take (([(7 : UInt8)]).length))) rfl k_arr8_43 (by first | omega | (simp only [List.length_append, List.length_map, List.length_cons, List.length_nil, List.length_replicate, List.length_take, List.length_drop, List.length_set]; omega) | (simp <;> omega) | simp_all) (by first | omega | (simp only [List.length_append, List.length_map, List.length_cons, List.length_nil, List.length_replicate, List.length_take, List.length_drop, List.length_set]; omega) | (simp <;> omega) | simp_all)) (eqT hsO7)) rfl rfl rfl ?_
        refine RegC.m (op_pick rfl) rfl rfl rfl ?_
        refine RegC.m (op_move rfl) rfl rfl rfl ?_
        refine RegC.m (op_move rfl) rfl rfl rfl ?_
        refine RegC.q (i := 0) (op_call rfl k_call_17 (sum_calls (nm3 0) z (n) (by first | (with_reducible assumption) | exact takeS_ok _ (by assumption)))) rfl rfl rfl rfl ?_
        refine RegC.m (op_move rfl) rfl rfl rfl ?_
        refine RegC.m (op_move rfl) rfl rfl rfl ?_
        refine RegC.q (i := 1) (op_call rfl k_call_18 (lend12 (sum1_calls false (d) (T) (by first | omega | (simp only [List.length_append, List.length_map, List.length_cons, List.length_nil, List.length_replicate, List.length_take, List.length_drop, List.length_set]; omega) | (simp <;> omega) | simp_all) (by first | omega | (simp only [List.length_append, List.length_map, List.length_cons, List.length_nil, List.length_replicate, List.length_take, List.length_drop, List.length_set]; omega) | (simp <;> omega) | simp_all)) (frz_os (by first | omega | (simp only [List.length_append, List.length_map, List.length_cons, List.length_nil, List.length_replicate, List.length_take, List.length_drop, List.length_set]; omega) | (simp <;> omega) | simp_all)) noRef_8)) rfl rfl rfl rfl ?_
        refine RegC.m (OpV.boolE (t := ((sumS z (n) : List UInt8) == sum1 (d) (T))) (u := true) (op_eqA8 (l := sumS z (n)) (l2 := sum1 (d) (T)) rfl k_arr8_43 (by first | omega | (simp only [List.length_append, List.length_map, List.length_cons, List.length_nil, List.length_replicate, List.length_take, List.length_drop, List.length_set]; omega) | (simp <;> omega) | simp_all) (by first | omega | (simp only [List.length_append, List.length_map, List.length_cons, List.length_nil, List.length_replicate, List.length_take, List.length_drop, List.length_set]; omega) | (simp <;> omega) | simp_all)) (eqT hsT)) rfl rfl rfl ?_
        refine RegC.m (op_pick rfl) rfl rfl rfl ?_
        refine RegC.m (op_assign rfl) rfl rfl rfl ?_
        refine RegC.done ⟨.inl rfl, ?_⟩
        refine WP.nrm 40 ?_
        refine WP.retS (ResV.one rfl (.tmp rfl)) (List.nil_sublist _) ?_
        exact ⟨rfl, rfl⟩
  ·
    intro i T z n bt hI ihB ih0
    obtain ⟨j, rfl, hj, hT, hn, hC, hcp⟩ := hI
    obtain ⟨hs0, hr0, hh0⟩ := id hC.ok
    have hzok := hC.ok
    refine WP.nrm 40 ?_
    refine WP.reg k_mixed fun nm26 hnm26 => ?_
    refine RegC.m (op_lss rfl) rfl rfl rfl ?_
    refine RegC.done ⟨.inl rfl, ?_⟩
    refine WP.nrm 40 ?_
    refine WP.condD rfl (fun h5 => ?_) (fun h5 => ?_)
    ·
      have hjl : j < parts.length := (by omega)
      have hpl : (parts[j]!).length ≤ 140737488351232 := hP _ (by rw [getElem!_pos parts j hjl]; exact List.getElem_mem hjl)
      refine WP.nrm 40 ?_
      refine WP.reg k_mixed fun nm27 hnm27 => ?_
      refine RegC.m (op_move rfl) rfl rfl rfl ?_
      refine RegC.m (op_iV (f := PB) (l := parts) (j) rfl k_sl_36 (by first | omega | (simp only [List.length_append, List.length_map, List.length_cons, List.length_nil, List.length_replicate, List.length_take, List.length_drop, List.length_set]; omega) | (simp <;> omega) | simp_all) (by first | omega | (simp only [List.length_append, List.length_map, List.length_cons, List.length_nil, List.length_replicate, List.length_take, List.length_drop, List.length_set]; omega) | (simp <;> omega) | simp_all)) rfl rfl rfl ?_
      refine RegC.m (op_loadVM (f := PB) (l := parts) (n := j) rfl k_scal_26 (by first | omega | (simp only [List.length_append, List.length_map, List.length_cons, List.length_nil, List.length_replicate, List.length_take, List.length_drop, List.length_set]; omega) | (simp <;> omega) | simp_all)) rfl rfl rfl ?_
      refine RegC.m (op_assign rfl) rfl rfl rfl ?_
      refine RegC.m (op_assign rfl) rfl rfl rfl ?_
      refine RegC.done ⟨.inl rfl, ?_⟩
      refine WP.nrm 40 ?_
      refine WP.reg k_mixed fun nm28 hnm28 => ?_
      refine RegC.m (op_move rfl) rfl rfl rfl ?_
      refine RegC.m (op_move rfl) rfl rfl rfl ?_
      refine RegC.m (op_eql rfl) rfl rfl rfl ?_
      refine RegC.done ⟨.inl rfl, ?_⟩
      refine WP.nrm 40 ?_
      refine WP.condB rfl (fun h6 => ?_) (fun h6 => ?_)
      ·
        have hjc := of_decide_eq_true h6
        refine WP.nrm 40 ?_
        refine WP.reg k_mixed fun nm29 hnm29 => ?_
        refine RegC.m (op_move rfl) rfl rfl rfl ?_
        refine RegC.qa (i := 0) (op_call rfl k_call_14 (copy_calls (nm3 0) (nm29 0) z (n) (by first | (with_reducible assumption) | exact takeS_ok _ (by assumption)))) rfl rfl rfl rfl ?_
        refine RegC.m (op_move rfl) rfl rfl rfl ?_
        refine RegC.qa (i := 1) (OpV.to (op_call rfl k_call_15 (lend1n (noRefO_vec (noRefs_8 (l := T))) (clone_calls (nm29 1) false (T) (by first | omega | (simp only [List.length_append, List.length_map, List.length_cons, List.length_nil, List.length_replicate, List.length_take, List.length_drop, List.length_set]; omega) | (simp <;> omega) | simp_all)) (frz_os (by first | omega | (simp only [List.length_append, List.length_map, List.length_cons, List.length_nil, List.length_replicate, List.length_take, List.length_drop, List.length_set]; omega) | (simp <;> omega) | simp_all)) rfl)) (osN (n := (T).length) (n' := n) (by first | omega | (simp only [List.length_append, List.length_map, List.length_cons, List.length_nil, List.length_replicate, List.length_take, List.length_drop, List.length_set]; omega) | (simp <;> omega) | simp_all))) rfl rfl rfl rfl ?_
        refine RegC.m (op_assign rfl) rfl rfl rfl ?_
        refine RegC.m (op_assign rfl) rfl rfl rfl ?_
        refine RegC.done ⟨.inl rfl, ?_⟩
        rcases Nat.lt_or_ge 1048576 (n + (parts[j]!).length) with h7 | h7
        ·
          refine WP.nrm 40 ?_
          refine WP.reg k_mixed fun nm30 hnm30 => ?_
          refine RegC.m (op_move rfl) rfl rfl rfl ?_
          refine RegC.m (op_move rfl) rfl rfl rfl ?_
          refine RegC.w (i := 0) (op_call rfl k_call_16 (write_large (nm3 0) z (n) false ((parts)[j]!) (by first | (with_reducible assumption) | exact takeS_ok _ (by assumption)) (by first | omega | (simp <;> omega)) (by first | omega | (simp <;> omega)))) rfl rfl rfl rfl ?_
          refine RegC.m (op_assign rfl) rfl rfl rfl ?_
          refine RegC.done ⟨.inl rfl, ?_⟩
          refine WP.nrm 40 ?_
          refine WP.reg k_mixed fun nm31 hnm31 => ?_
          refine RegC.m (op_move rfl) rfl rfl rfl ?_
          refine RegC.m (op_lenO rfl k_sl_26) rfl rfl rfl ?_
          refine RegC.m (op_move rfl) rfl rfl rfl ?_
          refine RegC.m (op_lenV (f := AVal.u8) (l := (parts)[j]!) rfl k_sl_26) rfl rfl rfl ?_
          refine RegC.m (op_addI rfl (by first | omega | (simp only [List.length_append, List.length_map, List.length_cons, List.length_nil, List.length_replicate, List.length_take, List.length_drop, List.length_set]; omega) | (simp <;> omega) | simp_all)) rfl rfl rfl ?_
          refine RegC.m (OpV.boolT (op_gtr rfl) (by omega)) rfl rfl rfl ?_
          refine RegC.done ⟨.inl rfl, ?_⟩
          refine WP.nrm 40 ?_
          refine WP.cond (t := true) rfl ?_
          refine WP.nrm 40 ?_
          refine WP.reg k_mixed fun nm32 hnm32 => ?_
          refine RegC.m (op_move rfl) rfl rfl rfl ?_
          refine RegC.m (op_neq rfl) rfl rfl rfl ?_
          refine RegC.done ⟨.inl rfl, ?_⟩
          refine WP.nrm 40 ?_
          refine WP.cond (t := false) rfl ?_
          refine WP.nrm 40 ?_
          refine WP.reg k_mixed fun nm33 hnm33 => ?_
          refine RegC.m (op_addI rfl (by first | omega | (simp only [List.length_append, List.length_map, List.length_cons, List.length_nil, List.length_replicate, List.length_take, List.length_drop, List.length_set]; omega) | (simp <;> omega) | simp_all)) rfl rfl rfl ?_
          refine RegC.m (op_move rfl) rfl rfl rfl ?_
          refine RegC.done ⟨.inl rfl, ?_⟩
          refine WP.nrm 40 ?_
          refine WP.jump (subE.cons rfl (subE.cons rfl (subE.cons rfl (subE.cons rfl (subE.cons rfl (subE.cons rfl (subE.cons rfl (subE.cons rfl (subE.cons rfl (subE.nil)))))))))) (by (try simp only [List.set_cons_zero, List.set_cons_succ, List.cons_append, List.nil_append]); exact (.cons_cons _ (.cons_cons _ (.cons_cons _ (.cons_cons _ (List.nil_sublist _)))))) (ihB (((j : Int) + 1)) (T) (z) (n) (bt) (z) (T) (n) (nm29 0) (nm29 1) ?_)
          · exact ⟨j + 1, by push_cast; rfl, by omega, by omega, hn, hC, by omega, hn, by omega, hC⟩
        ·
          have hC2 := canon_take hC (parts[j]!)
          have hs2 : sumS (takeS z (parts[j]!)) (n + (parts[j]!).length) = sum1 d (T ++ parts[j]!) := by rw [← sums_same hC2, hn, List.length_append]
          refine WP.nrm 40 ?_
          refine WP.reg k_mixed fun nm34 hnm34 => ?_
          refine RegC.m (op_move rfl) rfl rfl rfl ?_
          refine RegC.m (op_move rfl) rfl rfl rfl ?_
          refine RegC.w (i := 0) (op_call rfl k_call_16 (write_calls (nm3 0) z (n) false ((parts)[j]!) (by first | (with_reducible assumption) | exact takeS_ok _ (by assumption)) (by first | omega | (simp <;> omega)))) rfl rfl rfl rfl ?_
          refine RegC.m (op_assign rfl) rfl rfl rfl ?_
          refine RegC.done ⟨.inl rfl, ?_⟩
          refine WP.nrm 40 ?_
          refine WP.reg k_mixed fun nm35 hnm35 => ?_
          refine RegC.m (op_move rfl) rfl rfl rfl ?_
          refine RegC.m (op_lenO rfl k_sl_26) rfl rfl rfl ?_
          refine RegC.m (op_move rfl) rfl rfl rfl ?_
          refine RegC.m (op_lenV (f := AVal.u8) (l := (parts)[j]!) rfl k_sl_26) rfl rfl rfl ?_
          refine RegC.m (op_addI rfl (by first | omega | (simp only [List.length_append, List.length_map, List.length_cons, List.length_nil, List.length_replicate, List.length_take, List.length_drop, List.length_set]; omega) | (simp <;> omega) | simp_all)) rfl rfl rfl ?_
          refine RegC.m (OpV.boolF (op_gtr rfl) (by omega)) rfl rfl rfl ?_
          refine RegC.done ⟨.inl rfl, ?_⟩
          refine WP.nrm 40 ?_
          refine WP.cond (t := false) rfl ?_
          refine WP.nrm 40 ?_
          refine WP.reg k_mixed fun nm36 hnm36 => ?_
          refine RegC.m (op_move rfl) rfl rfl rfl ?_
          refine RegC.m (op_neq rfl) rfl rfl rfl ?_
          refine RegC.done ⟨.inl rfl, ?_⟩
          refine WP.nrm 40 ?_
          refine WP.cond (t := false) rfl ?_
          refine WP.nrm 40 ?_
          refine WP.reg k_mixed fun nm37 hnm37 => ?_
          refine RegC.m (op_move rfl) rfl rfl rfl ?_
          refine RegC.m (op_move rfl) rfl rfl rfl ?_
          refine RegC.wa (i := 1) (op_appL (f := AVal.u8) (l := T) (l2 := (parts)[j]!) (fun _ => rfl) rfl k_app_26_26 (by first | omega | (simp only [List.length_append, List.length_map, List.length_cons, List.length_nil, List.length_replicate, List.length_take, List.length_drop, List.length_set]; omega) | (simp <;> omega) | simp_all) (by first | omega | (simp only [List.length_append, List.length_map, List.length_cons, List.length_nil, List.length_replicate, List.length_take, List.length_drop, List.length_set]; omega) | (simp <;> omega) | simp_all)) rfl rfl rfl rfl ?_
          refine RegC.m (op_assign rfl) rfl rfl rfl ?_
          refine RegC.done ⟨.inl rfl, ?_⟩
          refine WP.nrm 40 ?_
          refine WP.reg k_mixed fun nm38 hnm38 => ?_
          refine RegC.m (op_move rfl) rfl rfl rfl ?_
          refine RegC.q (i := 0) (op_call rfl k_call_17 (sum_calls (nm3 0) (takeS z ((parts)[j]!)) ((n + ((parts)[j]!).length)) (by first | (with_reducible assumption) | exact takeS_ok _ (by assumption)))) rfl rfl rfl rfl ?_
          refine RegC.m (op_move rfl) rfl rfl rfl ?_
          refine RegC.m (op_move rfl) rfl rfl rfl ?_
          refine RegC.q (i := 1) (op_call rfl k_call_18 (lend12 (sum1_calls false (d) (T ++ (parts)[j]!) (by first | omega | (simp only [List.length_append, List.length_map, List.length_cons, List.length_nil, List.length_replicate, List.length_take, List.length_drop, List.length_set]; omega) | (simp <;> omega) | simp_all) (by first | omega | (simp only [List.length_append, List.length_map, List.length_cons, List.length_nil, List.length_replicate, List.length_take, List.length_drop, List.length_set]; omega) | (simp <;> omega) | simp_all)) (frz_os (by first | omega | (simp only [List.length_append, List.length_map, List.length_cons, List.length_nil, List.length_replicate, List.length_take, List.length_drop, List.length_set]; omega) | (simp <;> omega) | simp_all)) noRef_8)) rfl rfl rfl rfl ?_
          refine RegC.m (OpV.boolE (t := (!((sumS (takeS z ((parts)[j]!)) ((n + ((parts)[j]!).length)) : List UInt8) == sum1 (d) (T ++ (parts)[j]!)))) (u := false) (op_neqA8 (l := sumS (takeS z ((parts)[j]!)) ((n + ((parts)[j]!).length))) (l2 := sum1 (d) (T ++ (parts)[j]!)) rfl k_arr8_43 (by first | omega | (simp only [List.length_append, List.length_map, List.length_cons, List.length_nil, List.length_replicate, List.length_take, List.length_drop, List.length_set]; omega) | (simp <;> omega) | simp_all) (by first | omega | (simp only [List.length_append, List.length_map, List.length_cons, List.length_nil, List.length_replicate, List.length_take, List.length_drop, List.length_set]; omega) | (simp <;> omega) | simp_all)) (neF hs2)) rfl rfl rfl ?_
          refine RegC.done ⟨.inl rfl, ?_⟩
          refine WP.nrm 40 ?_
          refine WP.cond (t := false) rfl ?_
          refine WP.nrm 40 ?_
          refine WP.reg k_mixed fun nm39 hnm39 => ?_
          refine RegC.m (op_addI rfl (by first | omega | (simp only [List.length_append, List.length_map, List.length_cons, List.length_nil, List.length_replicate, List.length_take, List.length_drop, List.length_set]; omega) | (simp <;> omega) | simp_all)) rfl rfl rfl ?_
          refine RegC.m (op_move rfl) rfl rfl rfl ?_
          refine RegC.done ⟨.inl rfl, ?_⟩
          refine WP.nrm 40 ?_
          refine WP.jump (subE.cons rfl (subE.cons rfl (subE.cons rfl (subE.cons rfl (subE.cons rfl (subE.cons rfl (subE.cons rfl (subE.cons rfl (subE.cons rfl (subE.nil)))))))))) (by (try simp only [List.set_cons_zero, List.set_cons_succ, List.cons_append, List.nil_append]); exact (.cons_cons _ (.cons_cons _ (.cons_cons _ (.cons_cons _ (List.nil_sublist _)))))) (ihB (((j : Int) + 1)) (T ++ (parts)[j]!) ((takeS z ((parts)[j]!))) ((n + ((parts)[j]!).length)) (nm37 0) (z) (T) (n) (nm29 0) (nm29 1) ?_)
          · exact ⟨j + 1, by push_cast; rfl, by omega, by omega, by simp [hn], canon_take hC _, by omega, hn, by omega, hC⟩
      ·
        have hjc := of_decide_eq_false h6
        rcases Nat.lt_or_ge 1048576 (n + (parts[j]!).length) with h8 | h8
        ·
          refine WP.nrm 40 ?_
          refine WP.reg k_mixed fun nm40 hnm40 => ?_
          refine RegC.m (op_move rfl) rfl rfl rfl ?_
          refine RegC.m (op_move rfl) rfl rfl rfl ?_
          refine RegC.w (i := 0) (op_call rfl k_call_16 (write_large (nm3 0) z (n) false ((parts)[j]!) (by first | (with_reducible assumption) | exact takeS_ok _ (by assumption)) (by first | omega | (simp <;> omega)) (by first | omega | (simp <;> omega)))) rfl rfl rfl rfl ?_
          refine RegC.m (op_assign rfl) rfl rfl rfl ?_
          refine RegC.done ⟨.inl rfl, ?_⟩
          refine WP.nrm 40 ?_
          refine WP.reg k_mixed fun nm41 hnm41 => ?_
          refine RegC.m (op_move rfl) rfl rfl rfl ?_
          refine RegC.m (op_lenO rfl k_sl_26) rfl rfl rfl ?_
          refine RegC.m (op_move rfl) rfl rfl rfl ?_
          refine RegC.m (op_lenV (f := AVal.u8) (l := (parts)[j]!) rfl k_sl_26) rfl rfl rfl ?_
          refine RegC.m (op_addI rfl (by first | omega | (simp only [List.length_append, List.length_map, List.length_cons, List.length_nil, List.length_replicate, List.length_take, List.length_drop, List.length_set]; omega) | (simp <;> omega) | simp_all)) rfl rfl rfl ?_
          refine RegC.m (OpV.boolT (op_gtr rfl) (by omega)) rfl rfl rfl ?_
          refine RegC.done ⟨.inl rfl, ?_⟩
          refine WP.nrm 40 ?_
          refine WP.cond (t := true) rfl ?_
          refine WP.nrm 40 ?_
          refine WP.reg k_mixed fun nm42 hnm42 => ?_
          refine RegC.m (op_move rfl) rfl rfl rfl ?_
          refine RegC.m (op_neq rfl) rfl rfl rfl ?_
          refine RegC.done ⟨.inl rfl, ?_⟩
          refine WP.nrm 40 ?_
          refine WP.cond (t := false) rfl ?_
          refine WP.nrm 40 ?_
          refine WP.reg k_mixed fun nm43 hnm43 => ?_
          refine RegC.m (op_addI rfl (by first | omega | (simp only [List.length_append, List.length_map, List.length_cons, List.length_nil, List.length_replicate, List.length_take, List.length_drop, List.length_set]; omega) | (simp <;> omega) | simp_all)) rfl rfl rfl ?_
          refine RegC.m (op_move rfl) rfl rfl rfl ?_
          refine RegC.done ⟨.inl rfl, ?_⟩
          refine WP.nrm 40 ?_
          refine WP.jump (subE.cons rfl (subE.cons rfl (subE.cons rfl (subE.cons rfl (subE.cons rfl (subE.cons rfl (subE.cons rfl (subE.cons rfl (subE.cons rfl (subE.nil)))))))))) (by (try simp only [List.set_cons_zero, List.set_cons_succ, List.cons_append, List.nil_append]); exact (.cons_cons _ (.cons_cons _ (List.nil_sublist _)))) (ih0 (((j : Int) + 1)) (T) (z) (n) (bt) ?_ ?_)
          · exact ⟨j + 1, by push_cast; rfl, by omega, by omega, hn, hC, by omega⟩
          · omega
        ·
          have hC2 := canon_take hC (parts[j]!)
          have hs2 : sumS (takeS z (parts[j]!)) (n + (parts[j]!).length) = sum1 d (T ++ parts[j]!) := by rw [← sums_same hC2, hn, List.length_append]
          refine WP.nrm 40 ?_
          refine WP.reg k_mixed fun nm44 hnm44 => ?_
          refine RegC.m (op_move rfl) rfl rfl rfl ?_
          refine RegC.m (op_move rfl) rfl rfl rfl ?_
          refine RegC.w (i := 0) (op_call rfl k_call_16 (write_calls (nm3 0) z (n) false ((parts)[j]!) (by first | (with_reducible assumption) | exact takeS_ok _ (by assumption)) (by first | omega | (simp <;> omega)))) rfl rfl rfl rfl ?_
          refine RegC.m (op_assign rfl) rfl rfl rfl ?_
          refine RegC.done ⟨.inl rfl, ?_⟩
          refine WP.nrm 40 ?_
          refine WP.reg k_mixed fun nm45 hnm45 => ?_
          refine RegC.m (op_move rfl) rfl rfl rfl ?_
          refine RegC.m (op_lenO rfl k_sl_26) rfl rfl rfl ?_
          refine RegC.m (op_move rfl) rfl rfl rfl ?_
          refine RegC.m (op_lenV (f := AVal.u8) (l := (parts)[j]!) rfl k_sl_26) rfl rfl rfl ?_
          refine RegC.m (op_addI rfl (by first | omega | (simp only [List.length_append, List.length_map, List.length_cons, List.length_nil, List.length_replicate, List.length_take, List.length_drop, List.length_set]; omega) | (simp <;> omega) | simp_all)) rfl rfl rfl ?_
          refine RegC.m (OpV.boolF (op_gtr rfl) (by omega)) rfl rfl rfl ?_
          refine RegC.done ⟨.inl rfl, ?_⟩
          refine WP.nrm 40 ?_
          refine WP.cond (t := false) rfl ?_
          refine WP.nrm 40 ?_
          refine WP.reg k_mixed fun nm46 hnm46 => ?_
          refine RegC.m (op_move rfl) rfl rfl rfl ?_
          refine RegC.m (op_neq rfl) rfl rfl rfl ?_
          refine RegC.done ⟨.inl rfl, ?_⟩
          refine WP.nrm 40 ?_
          refine WP.cond (t := false) rfl ?_
          refine WP.nrm 40 ?_
          refine WP.reg k_mixed fun nm47 hnm47 => ?_
          refine RegC.m (op_move rfl) rfl rfl rfl ?_
          refine RegC.m (op_move rfl) rfl rfl rfl ?_
          refine RegC.wa (i := 1) (op_appL (f := AVal.u8) (l := T) (l2 := (parts)[j]!) (fun _ => rfl) rfl k_app_26_26 (by first | omega | (simp only [List.length_append, List.length_map, List.length_cons, List.length_nil, List.length_replicate, List.length_take, List.length_drop, List.length_set]; omega) | (simp <;> omega) | simp_all) (by first | omega | (simp only [List.length_append, List.length_map, List.length_cons, List.length_nil, List.length_replicate, List.length_take, List.length_drop, List.length_set]; omega) | (simp <;> omega) | simp_all)) rfl rfl rfl rfl ?_
          refine RegC.m (op_assign rfl) rfl rfl rfl ?_
          refine RegC.done ⟨.inl rfl, ?_⟩
          refine WP.nrm 40 ?_
          refine WP.reg k_mixed fun nm48 hnm48 => ?_
          refine RegC.m (op_move rfl) rfl rfl rfl ?_
          refine RegC.q (i := 0) (op_call rfl k_call_17 (sum_calls (nm3 0) (takeS z ((parts)[j]!)) ((n + ((parts)[j]!).length)) (by first | (with_reducible assumption) | exact takeS_ok _ (by assumption)))) rfl rfl rfl rfl ?_
          refine RegC.m (op_move rfl) rfl rfl rfl ?_
          refine RegC.m (op_move rfl) rfl rfl rfl ?_
          refine RegC.q (i := 1) (op_call rfl k_call_18 (lend12 (sum1_calls false (d) (T ++ (parts)[j]!) (by first | omega | (simp only [List.length_append, List.length_map, List.length_cons, List.length_nil, List.length_replicate, List.length_take, List.length_drop, List.length_set]; omega) | (simp <;> omega) | simp_all) (by first | omega | (simp only [List.length_append, List.length_map, List.length_cons, List.length_nil, List.length_replicate, List.length_take, List.length_drop, List.length_set]; omega) | (simp <;> omega) | simp_all)) (frz_os (by first | omega | (simp only [List.length_append, List.length_map, List.length_cons, List.length_nil, List.length_replicate, List.length_take, List.length_drop, List.length_set]; omega) | (simp <;> omega) | simp_all)) noRef_8)) rfl rfl rfl rfl ?_
          refine RegC.m (OpV.boolE (t := (!((sumS (takeS z ((parts)[j]!)) ((n + ((parts)[j]!).length)) : List UInt8) == sum1 (d) (T ++ (parts)[j]!)))) (u := false) (op_neqA8 (l := sumS (takeS z ((parts)[j]!)) ((n + ((parts)[j]!).length))) (l2 := sum1 (d) (T ++ (parts)[j]!)) rfl k_arr8_43 (by first | omega | (simp only [List.length_append, List.length_map, List.length_cons, List.length_nil, List.length_replicate, List.length_take, List.length_drop, List.length_set]; omega) | (simp <;> omega) | simp_all) (by first | omega | (simp only [List.length_append, List.length_map, List.length_cons, List.length_nil, List.length_replicate, List.length_take, List.length_drop, List.length_set]; omega) | (simp <;> omega) | simp_all)) (neF hs2)) rfl rfl rfl ?_
          refine RegC.done ⟨.inl rfl, ?_⟩
          refine WP.nrm 40 ?_
          refine WP.cond (t := false) rfl ?_
          refine WP.nrm 40 ?_
          refine WP.reg k_mixed fun nm49 hnm49 => ?_
          refine RegC.m (op_addI rfl (by first | omega | (simp only [List.length_append, List.length_map, List.length_cons, List.length_nil, List.length_replicate, List.length_take, List.length_drop, List.length_set]; omega) | (simp <;> omega) | simp_all)) rfl rfl rfl ?_
          refine RegC.m (op_move rfl) rfl rfl rfl ?_
          refine RegC.done ⟨.inl rfl, ?_⟩
          refine WP.nrm 40 ?_
          refine WP.jump (subE.cons rfl (subE.cons rfl (subE.cons rfl (subE.cons rfl (subE.cons rfl (subE.cons rfl (subE.cons rfl (subE.cons rfl (subE.cons rfl (subE.nil)))))))))) (by (try simp only [List.set_cons_zero, List.set_cons_succ, List.cons_append, List.nil_append]); exact (.cons_cons _ (.cons_cons _ (List.nil_sublist _)))) (ih0 (((j : Int) + 1)) (T ++ (parts)[j]!) ((takeS z ((parts)[j]!))) ((n + ((parts)[j]!).length)) (nm47 0) ?_ ?_)
          · exact ⟨j + 1, by push_cast; rfl, by omega, by omega, by simp [hn], canon_take hC _, by omega⟩
          · omega
    ·
      refine WP.nrm 40 ?_
      refine WP.reg k_mixed fun nm50 hnm50 => ?_
      refine RegC.m (op_move rfl) rfl rfl rfl ?_
      refine RegC.m (op_eqNilNil rfl k_undP_37) rfl rfl rfl ?_
      refine RegC.done ⟨.inl rfl, ?_⟩
      refine WP.nrm 40 ?_
      refine WP.cond (t := true) rfl ?_
      refine WP.nrm 40 ?_
      refine WP.reg k_mixed fun nm51 hnm51 => ?_
      refine RegC.m (op_assign rfl) rfl rfl rfl ?_
      refine RegC.done ⟨.inl rfl, ?_⟩
      refine WP.nrm 40 ?_
      refine WP.retS (ResV.one rfl (.tmp rfl)) (List.nil_sublist _) ?_
      exact ⟨rfl, rfl⟩
end Go.Proofs.Try
