import Derived.Test.YtdnccchcflaphaaK7
import Derived.Test.YtdnccchcflaphaaFF
import Derived.Test.YtdnccchcflaphaaS8
namespace Go.Proofs.Try
open Go Go.Kw
set_option linter.unusedVariables false
set_option linter.unusedSimpArgs false
set_option maxRecDepth 100000
set_option maxHeartbeats 400000
theorem k_call_112 : callable Try.prog 112 = true := by kernel_rfl
theorem k_zeroV_26 : zeroT Try.prog 26 = some [.vs 0 true []] := by kernel_rfl
theorem k_call_86 : callable Try.prog 86 = true := by kernel_rfl
theorem k_call_117 : callable Try.prog 117 = true := by kernel_rfl
theorem k_zero_104 : zeroT Try.prog 104 = some ((List.replicate 16 (0 : UInt8)).map AVal.u8) := by kernel_rfl
theorem k_arr_104 : arrT Try.prog 104 = some (16, 5, 1) := by kernel_rfl
theorem k_agg_104 : aggT Try.prog 104 = some 16 := by kernel_rfl
theorem k_call_113 : callable Try.prog 113 = true := by kernel_rfl
theorem k_zero_54 : zeroT Try.prog 54 = some ((List.replicate 16 (0 : UInt8)).map AVal.u8) := by kernel_rfl
theorem k_arr_54 : arrT Try.prog 54 = some (16, 5, 1) := by kernel_rfl
theorem k_agg_54 : aggT Try.prog 54 = some 16 := by kernel_rfl

theorem concat1 (b' : Nat) (full : Bool) (parts : List (List UInt8)) (hc : (cat parts).length ≤ 140737488351232) (hpp : parts.length ≤ 140737488351232) : ACalls Try.prog 86 [VS PB full (parts)] [] [b'] (.os b' 0 (cat parts).length 1 false) [(b', .vec 5 ((cat parts).map AVal.u8))] := by
  unfold cat at hc
  refine ACalls.of_wp' (fn := Try.f86) (n := 36) Try.func86 rfl rfl ?_
  unfold Try.f86
  refine WP.nrm 40 ?_
  refine WP.reg k_mixed fun nm1 hnm1 => ?_
  refine RegC.m (op_assign rfl) rfl rfl rfl ?_
  refine RegC.done ⟨.inl rfl, ?_⟩
  refine WP.nrm 40 ?_
  refine WP.reg k_mixed fun nm2 hnm2 => ?_
  refine RegC.m (op_assign rfl) rfl rfl rfl ?_
  refine RegC.done ⟨.inl rfl, ?_⟩
  refine WP.nrm 40 ?_
  refine WP.reg k_mixed fun nm3 hnm3 => ?_
  refine RegC.m (op_move rfl) rfl rfl rfl ?_
  refine RegC.m (op_lenV (f := PB) (l := parts) rfl k_sl_36) rfl rfl rfl ?_
  refine RegC.m (op_move rfl) rfl rfl rfl ?_
  refine RegC.done ⟨.inl rfl, ?_⟩
  refine WP.nrm 40 ?_
  refine WP.loop2 (fun (i : Int) (n : Nat) => [(0, VS PB full (parts)), (3, .i ((n : Int))), (9, VS PB full (parts)), (10, .i (((parts).length : Int))), (11, .i (i))]) (fun (i : Int) (n : Nat) => []) (fun (i : Int) (n : Nat) => ∃ j : Nat, i = j ∧ j ≤ parts.length ∧ n = ((parts.take j).flatMap fun p => p).length) (fun (i : Int) (n : Nat) => (parts.length - i).toNat) (0) (0) (subE.cons rfl (subE.cons rfl (subE.cons rfl (subE.cons rfl (subE.cons rfl (subE.nil)))))) (by (try simp only [List.set_cons_zero, List.set_cons_succ, List.cons_append, List.nil_append]); exact (List.nil_sublist _)) ⟨0, rfl, by omega, by simp⟩ ?_
  intro i n hI ih0
  obtain ⟨j, rfl, hj, hn⟩ := hI
  refine WP.nrm 40 ?_
  refine WP.reg k_mixed fun nm4 hnm4 => ?_
  refine RegC.m (op_lss rfl) rfl rfl rfl ?_
  refine RegC.done ⟨.inl rfl, ?_⟩
  refine WP.nrm 40 ?_
  refine WP.condD rfl (fun h1 => ?_) (fun h1 => ?_)
  ·
    have hjl : j < parts.length := by omega
    have hnx := take_next (fun p => p) parts j hjl
    have hle := flat_le (fun p => p) parts (j + 1)
    rw [hnx, List.length_append] at hle
    try rw [← hX] at hle
    refine WP.nrm 40 ?_
    refine WP.reg k_mixed fun nm5 hnm5 => ?_
    refine RegC.m (op_iV (f := PB) (l := parts) (j) rfl k_sl_36 (by first | omega | (simp only [List.length_append, List.length_map, List.length_cons, List.length_nil, List.length_replicate, List.length_take, List.length_drop, List.length_set]; omega) | (simp <;> omega) | simp_all) (by first | omega | (simp only [List.length_append, List.length_map, List.length_cons, List.length_nil, List.length_replicate, List.length_take, List.length_drop, List.length_set]; omega) | (simp <;> omega) | simp_all)) rfl rfl rfl ?_
    refine RegC.m (op_loadVM (f := PB) (l := parts) (n := j) rfl k_scal_26 (by first | omega | (simp only [List.length_append, List.length_map, List.length_cons, List.length_nil, List.length_replicate, List.length_take, List.length_drop, List.length_set]; omega) | (simp <;> omega) | simp_all)) rfl rfl rfl ?_
    refine RegC.m (op_assign rfl) rfl rfl rfl ?_
    refine RegC.done ⟨.inl rfl, ?_⟩
    refine WP.nrm 40 ?_
    refine WP.reg k_mixed fun nm6 hnm6 => ?_
    refine RegC.m (op_move rfl) rfl rfl rfl ?_
    refine RegC.m (op_move rfl) rfl rfl rfl ?_
    refine RegC.m (op_lenV (f := AVal.u8) (l := (parts)[j]!) rfl k_sl_26) rfl rfl rfl ?_
    refine RegC.m (op_addI rfl (by first | omega | (simp only [List.length_append, List.length_map, List.length_cons, List.length_nil, List.length_replicate, List.length_take, List.length_drop, List.length_set]; omega) | (simp <;> omega) | simp_all)) rfl rfl rfl ?_
    refine RegC.m (op_assign rfl) rfl rfl rfl ?_
    refine RegC.done ⟨.inl rfl, ?_⟩
    refine WP.nrm 40 ?_
    refine WP.reg k_mixed fun nm7 hnm7 => ?_
    refine RegC.m (op_move rfl) rfl rfl rfl ?_
    refine RegC.m (OpV.boolF (op_lss rfl) (by omega)) rfl rfl rfl ?_
    refine RegC.done ⟨.inl rfl, ?_⟩
    refine WP.nrm 40 ?_
    refine WP.cond (t := false) rfl ?_
    refine WP.nrm 40 ?_
    refine WP.reg k_mixed fun nm8 hnm8 => ?_
    refine RegC.m (op_addI rfl (by first | omega | (simp only [List.length_append, List.length_map, List.length_cons, List.length_nil, List.length_replicate, List.length_take, List.length_drop, List.length_set]; omega) | (simp <;> omega) | simp_all)) rfl rfl rfl ?_
    refine RegC.m (op_move rfl) rfl rfl rfl ?_
    refine RegC.done ⟨.inl rfl, ?_⟩
    refine WP.nrm 40 ?_
    refine WP.jump (subE.cons rfl (subE.cons rfl (subE.cons rfl (subE.cons rfl (subE.cons rfl (subE.nil)))))) (List.nil_sublist _) (ih0 _ _ ?_ ?_)
    · exact ⟨j + 1, by push_cast; rfl, by omega, by rw [hnx, List.length_append, ← hn]⟩
    · omega
  ·
    have ej : j = parts.length := by omega
    subst ej
    first | rw [flat_all] at hn | (rw [flat_all] at hX; subst hX)
    refine WP.nrm 40 ?_
    refine WP.reg k_mixed fun nm9 hnm9 => ?_
    refine RegC.m (op_move rfl) rfl rfl rfl ?_
    refine RegC.a (op_call rfl k_call_112 (grow_calls (nm9 0) (n) (by first | omega | (simp only [List.length_append, List.length_map, List.length_cons, List.length_nil, List.length_replicate, List.length_take, List.length_drop, List.length_set]; omega) | (simp <;> omega) | simp_all))) rfl rfl rfl ?_
    refine RegC.m (op_assign rfl) rfl rfl rfl ?_
    refine RegC.done ⟨.inl rfl, ?_⟩
    refine WP.nrm 40 ?_
    refine WP.reg k_mixed fun nm10 hnm10 => ?_
    refine RegC.m (op_move rfl) rfl rfl rfl ?_
    refine RegC.m (op_lenV (f := PB) (l := parts) rfl k_sl_36) rfl rfl rfl ?_
    refine RegC.m (op_move rfl) rfl rfl rfl ?_
    refine RegC.done ⟨.inl rfl, ?_⟩
    refine WP.nrm 40 ?_
    refine WP.loop4 (fun (i : Int) (X : List UInt8) (m : Nat) (bn : Nat) => [(6, .os (bn) (0) (m) 1 false), (25, VS PB full (parts)), (26, .i (((parts).length : Int))), (27, .i (i))]) (fun (i : Int) (X : List UInt8) (m : Nat) (bn : Nat) => [(bn, .vec 5 ((X).map AVal.u8))]) (fun (i : Int) (X : List UInt8) (m : Nat) (bn : Nat) => ∃ j : Nat, i = j ∧ j ≤ parts.length ∧ m = X.length ∧ X = ((parts.take j).flatMap fun p => p)) (fun (i : Int) (X : List UInt8) (m : Nat) (bn : Nat) => (parts.length - i).toNat) (0) ([]) (0) (nm9 0) (subE.cons rfl (subE.cons rfl (subE.cons rfl (subE.cons rfl (subE.nil))))) (by (try simp only [List.set_cons_zero, List.set_cons_succ, List.cons_append, List.nil_append]); exact (.cons_cons _ (List.nil_sublist _))) ⟨0, rfl, by omega, rfl, by simp⟩ ?_
    intro i X m bn hI ih1
    obtain ⟨j, rfl, hj, hm, hX⟩ := hI
    refine WP.nrm 40 ?_
    refine WP.reg k_mixed fun nm11 hnm11 => ?_
    refine RegC.m (op_lss rfl) rfl rfl rfl ?_
    refine RegC.done ⟨.inl rfl, ?_⟩
    refine WP.nrm 40 ?_
    refine WP.condD rfl (fun h2 => ?_) (fun h2 => ?_)
    ·
      have hjl : j < parts.length := by omega
      have hnx := take_next (fun p => p) parts j hjl
      have hle := flat_le (fun p => p) parts (j + 1)
      rw [hnx, List.length_append] at hle
      try rw [← hX] at hle
      refine WP.nrm 40 ?_
      refine WP.reg k_mixed fun nm12 hnm12 => ?_
      refine RegC.m (op_iV (f := PB) (l := parts) (j) rfl k_sl_36 (by first | omega | (simp only [List.length_append, List.length_map, List.length_cons, List.length_nil, List.length_replicate, List.length_take, List.length_drop, List.length_set]; omega) | (simp <;> omega) | simp_all) (by first | omega | (simp only [List.length_append, List.length_map, List.length_cons, List.length_nil, List.length_replicate, List.length_take, List.length_drop, List.length_set]; omega) | (simp <;> omega) | simp_all)) rfl rfl rfl ?_
      refine RegC.m (op_loadVM (f := PB) (l := parts) (n := j) rfl k_scal_26 (by first | omega | (simp only [List.length_append, List.length_map, List.length_cons, List.length_nil, List.length_replicate, List.length_take, List.length_drop, List.length_set]; omega) | (simp <;> omega) | simp_all)) rfl rfl rfl ?_
      refine RegC.m (op_assign rfl) rfl rfl rfl ?_
      refine RegC.done ⟨.inl rfl, ?_⟩
      refine WP.nrm 40 ?_
      refine WP.reg k_mixed fun nm13 hnm13 => ?_
      refine RegC.m (op_move rfl) rfl rfl rfl ?_
      refine RegC.m (op_move rfl) rfl rfl rfl ?_
      refine RegC.wa (i := 0) (op_appL (f := AVal.u8) (l := X) (l2 := (parts)[j]!) (fun _ => rfl) rfl k_app_26_26 (by first | omega | (simp only [List.length_append, List.length_map, List.length_cons, List.length_nil, List.length_replicate, List.length_take, List.length_drop, List.length_set]; omega) | (simp <;> omega) | simp_all) (by first | omega | (simp only [List.length_append, List.length_map, List.length_cons, List.length_nil, List.length_replicate, List.length_take, List.length_drop, List.length_set]; omega) | (simp <;> omega) | simp_all)) rfl rfl rfl rfl ?_
      refine RegC.m (op_assign rfl) rfl rfl rfl ?_
      refine RegC.done ⟨.inl rfl, ?_⟩
      refine WP.nrm 40 ?_
      refine WP.reg k_mixed fun nm14 hnm14 => ?_
      refine RegC.m (op_addI rfl (by first | omega | (simp only [List.length_append, List.length_map, List.length_cons, List.length_nil, List.length_replicate, List.length_take, List.length_drop, List.length_set]; omega) | (simp <;> omega) | simp_all)) rfl rfl rfl ?_
      refine RegC.m (op_move rfl) rfl rfl rfl ?_
      refine RegC.done ⟨.inl rfl, ?_⟩
      refine WP.nrm 40 ?_
      refine WP.jump (subE.cons rfl (subE.cons rfl (subE.cons rfl (subE.cons rfl (subE.nil))))) (.cons_cons _ (List.nil_sublist _)) (ih1 _ _ _ _ ?_ ?_)
      · exact ⟨j + 1, by push_cast; rfl, by omega, by simp [hm], by rw [hnx, ← hX]⟩
      · omega
    ·
      have ej : j = parts.length := by omega
      subst ej
      first | rw [flat_all] at hn | (rw [flat_all] at hX; subst hX)
      refine WP.nrm 40 ?_
      refine WP.reg k_mixed fun nm15 hnm15 => ?_
      refine RegC.m (op_move rfl) rfl rfl rfl ?_
      refine RegC.m (op_assign rfl) rfl rfl rfl ?_
      refine RegC.done ⟨.inl rfl, ?_⟩
      refine WP.nrm 40 ?_
      refine WP.ret1S (b' := b') (vf := fun q => .os q (0) (m) 1 false) 0 (ResV.one rfl (.tmp rfl)) rfl (by simp) os_named (.cons_cons _ (List.nil_sublist _)) ?_
      exact ⟨by rw [hm]; rfl, rfl⟩

theorem concat_d (full : Bool) (parts : List (List UInt8)) (hc : (cat parts).length ≤ 140737488351232) (hpp : parts.length ≤ 140737488351232) : ACalls Try.prog 86 [VS PB full parts] [] [] (VS AVal.u8 false (cat parts)) [] := cool1 (h := []) (fun b => concat1 b full parts hc hpp) rfl

theorem putLong1 (b' : Nat) (full : Bool) (b : List UInt8) (n : Nat) (hn : n ≤ 4611686018427387904) (hb : b.length ≤ 1048576) : ACalls Try.prog 56 [VS AVal.u8 full (b), .i ((n : Int))] [] [b'] (.os b' 0 (b ++ longS (UInt64.ofNat n)).length 1 false) [(b', .vec 5 ((b ++ longS (UInt64.ofNat n)).map AVal.u8))] := by
  refine ACalls.of_wp' (fn := Try.f56) (n := 19) Try.func56 rfl rfl ?_
  unfold Try.f56
  refine WP.weakV 0 rfl ?_
  refine WP.nrm 40 ?_
  refine WP.reg k_mixed fun nm1 hnm1 => ?_
  refine RegC.m (op_assign rfl) rfl rfl rfl ?_
  refine RegC.done ⟨.inl rfl, ?_⟩
  refine WP.nrm 40 ?_
  refine WP.reg k_mixed fun nm2 hnm2 => ?_
  refine RegC.m (op_move rfl) rfl rfl rfl ?_
  refine RegC.m (OpV.boolF (op_lss rfl) (by omega)) rfl rfl rfl ?_
  refine RegC.m (op_move rfl) rfl rfl rfl ?_
  refine RegC.m (op_move rfl) rfl rfl rfl ?_
  refine RegC.m (OpV.boolF (op_gtr rfl) (by omega)) rfl rfl rfl ?_
  refine RegC.m (op_pick rfl) rfl rfl rfl ?_
  refine RegC.done ⟨.inl rfl, ?_⟩
  refine WP.nrm 40 ?_
  refine WP.cond (t := false) rfl ?_
  refine WP.nrm 40 ?_
  refine WP.reg k_mixed fun nm3 hnm3 => ?_
  refine RegC.m (op_move rfl) rfl rfl rfl ?_
  refine RegC.m (op_cv rfl k_und_3 k_undI_78 (cv_i_64 (by first | exact Int.natCast_nonneg _ | omega))) rfl rfl rfl ?_
  refine RegC.m (op_call rfl k_call_69 (longOctets_calls (UInt64.ofNat (n)))) rfl rfl rfl ?_
  refine RegC.a (op_alloc rfl k_zero_114) rfl rfl rfl ?_
  refine RegC.w (i := 0) (op_storeW rfl k_agg_114 (by first | omega | (simp only [List.length_append, List.length_map, List.length_cons, List.length_nil, List.length_replicate, List.length_take, List.length_drop, List.length_set]; omega) | (simp <;> omega) | simp_all) (by first | omega | (simp only [List.length_append, List.length_map, List.length_cons, List.length_nil, List.length_replicate, List.length_take, List.length_drop, List.length_set]; omega) | (simp <;> omega) | simp_all) (by first | exact allS (fun _ => rfl) | simp [AVal.scalar])) rfl rfl rfl rfl ?_
  refine RegC.done ⟨.inl rfl, ?_⟩
  refine WP.cold (b := nm3 0) 0 [(5, .vptr ((longS (UInt64.ofNat (n))).map AVal.u8) (0))] rfl (frzE.cons rfl (.ptr 0) frzE.nil) ?_
  refine WP.nrm 40 ?_
  refine WP.reg k_mixed fun nm4 hnm4 => ?_
  refine RegC.m (op_move rfl) rfl rfl rfl ?_
  refine RegC.m (op_sVA00f (f := AVal.u8) (l := longS (UInt64.ofNat (n))) rfl k_arr_114 (by first | omega | (simp only [List.length_append, List.length_map, List.length_cons, List.length_nil, List.length_replicate, List.length_take, List.length_drop, List.length_set]; omega) | (simp <;> omega) | simp_all | rfl)) rfl rfl rfl ?_
  refine RegC.m (op_buildSlD (zv := .vs 0 true []) (vs := List.map PB [b, longS (UInt64.ofNat (n))]) rfl k_sl_36 k_zeroV_26 rfl rfl rfl (by omega)) rfl rfl rfl ?_
  refine RegC.a (op_call rfl k_call_86 (concat1 (nm4 0) true ([b, longS (UInt64.ofNat (n))]) (by simp [cat] <;> omega) (by simp))) rfl rfl rfl ?_
  refine RegC.m (op_assign rfl) rfl rfl rfl ?_
  refine RegC.done ⟨.inl rfl, ?_⟩
  refine WP.nrm 40 ?_
  refine WP.ret1S (b' := b') (vf := fun q => .os q (0) ((cat ([b, longS (UInt64.ofNat (n))])).length) 1 false) 0 (ResV.one rfl (.tmp rfl)) rfl (by simp) os_named (.cons_cons _ (List.nil_sublist _)) ?_
  exact ⟨by rw [cat2], by rw [cat2]⟩

theorem putNumber1 (b' : Nat) (full : Bool) (b : List UInt8) (n : UInt32) (hb : b.length ≤ 1048576) : ACalls Try.prog 57 [VS AVal.u8 full (b), .u32 (n)] [] [b'] (.os b' 0 (b ++ octS n).length 1 false) [(b', .vec 5 ((b ++ octS n).map AVal.u8))] := by
  refine ACalls.of_wp' (fn := Try.f57) (n := 12) Try.func57 rfl rfl ?_
  unfold Try.f57
  refine WP.weakV 0 rfl ?_
  refine WP.nrm 40 ?_
  refine WP.reg k_mixed fun nm1 hnm1 => ?_
  refine RegC.m (op_assign rfl) rfl rfl rfl ?_
  refine RegC.done ⟨.inl rfl, ?_⟩
  refine WP.nrm 40 ?_
  refine WP.reg k_mixed fun nm2 hnm2 => ?_
  refine RegC.m (op_move rfl) rfl rfl rfl ?_
  refine RegC.m (op_call rfl k_call_87 (octets_calls (n))) rfl rfl rfl ?_
  refine RegC.a (op_alloc rfl k_zero_133) rfl rfl rfl ?_
  refine RegC.w (i := 0) (op_storeW rfl k_agg_133 (by first | omega | (simp only [List.length_append, List.length_map, List.length_cons, List.length_nil, List.length_replicate, List.length_take, List.length_drop, List.length_set]; omega) | (simp <;> omega) | simp_all) (by first | omega | (simp only [List.length_append, List.length_map, List.length_cons, List.length_nil, List.length_replicate, List.length_take, List.length_drop, List.length_set]; omega) | (simp <;> omega) | simp_all) (by first | exact allS (fun _ => rfl) | simp [AVal.scalar])) rfl rfl rfl rfl ?_
  refine RegC.done ⟨.inl rfl, ?_⟩
  refine WP.cold (b := nm2 0) 0 [(5, .vptr ((octS (n)).map AVal.u8) (0))] rfl (frzE.cons rfl (.ptr 0) frzE.nil) ?_
  refine WP.nrm 40 ?_
  refine WP.reg k_mixed fun nm3 hnm3 => ?_
  refine RegC.m (op_move rfl) rfl rfl rfl ?_
  refine RegC.m (op_sVA00f (f := AVal.u8) (l := octS (n)) rfl k_arr_133 (by first | omega | (simp only [List.length_append, List.length_map, List.length_cons, List.length_nil, List.length_replicate, List.length_take, List.length_drop, List.length_set]; omega) | (simp <;> omega) | simp_all | rfl)) rfl rfl rfl ?_
  refine RegC.m (op_buildSlD (zv := .vs 0 true []) (vs := List.map PB [b, octS (n)]) rfl k_sl_36 k_zeroV_26 rfl rfl rfl (by omega)) rfl rfl rfl ?_
  refine RegC.a (op_call rfl k_call_86 (concat1 (nm3 0) true ([b, octS (n)]) (by simp [cat] <;> omega) (by simp))) rfl rfl rfl ?_
  refine RegC.m (op_assign rfl) rfl rfl rfl ?_
  refine RegC.done ⟨.inl rfl, ?_⟩
  refine WP.nrm 40 ?_
  refine WP.ret1S (b' := b') (vf := fun q => .os q (0) ((cat ([b, octS (n)])).length) 1 false) 0 (ResV.one rfl (.tmp rfl)) rfl (by simp) os_named (.cons_cons _ (List.nil_sublist _)) ?_
  exact ⟨by rw [cat2], by rw [cat2]⟩

theorem putLong_d (full : Bool) (b : List UInt8) (n : Nat) (hn : n ≤ 4611686018427387904) (hb : b.length ≤ 1048576) : ACalls Try.prog 56 [VS AVal.u8 full b, .i n] [] [] (VS AVal.u8 false (b ++ longS (UInt64.ofNat n))) [] := cool1 (h := []) (fun b' => putLong1 b' full b n hn hb) rfl

theorem putNumber_d (full : Bool) (b : List UInt8) (n : UInt32) (hb : b.length ≤ 1048576) : ACalls Try.prog 57 [VS AVal.u8 full b, .u32 n] [] [] (VS AVal.u8 false (b ++ octS n)) [] := cool1 (h := []) (fun b' => putNumber1 b' full b n hb) rfl

theorem framed1_f (b' : Nat) (full : Bool) (parts : List (List UInt8)) (hc : (framed1 parts).length ≤ 1048576) (hpp : parts.length ≤ 140737488351232) : ACalls Try.prog 97 [VS PB full (parts)] [] [b'] (.os b' 0 (framed1 parts).length 1 false) [(b', .vec 5 ((framed1 parts).map AVal.u8))] := by
  unfold framed1 at hc
  refine ACalls.of_wp' (fn := Try.f97) (n := 21) Try.func97 rfl rfl ?_
  unfold Try.f97
  refine WP.nrm 40 ?_
  refine WP.reg k_mixed fun nm1 hnm1 => ?_
  refine RegC.m (op_assign rfl) rfl rfl rfl ?_
  refine RegC.done ⟨.inl rfl, ?_⟩
  refine WP.nrm 40 ?_
  refine WP.reg k_mixed fun nm2 hnm2 => ?_
  refine RegC.m (op_assign rfl) rfl rfl rfl ?_
  refine RegC.done ⟨.inl rfl, ?_⟩
  refine WP.own 3 5 1 rfl (fun q3 => ?_)
  refine WP.nrm 40 ?_
  refine WP.reg k_mixed fun nm3 hnm3 => ?_
  refine RegC.m (op_move rfl) rfl rfl rfl ?_
  refine RegC.m (op_lenV (f := PB) (l := parts) rfl k_sl_36) rfl rfl rfl ?_
  refine RegC.m (op_move rfl) rfl rfl rfl ?_
  refine RegC.done ⟨.inl rfl, ?_⟩
  refine WP.nrm 40 ?_
  refine WP.loop4 (fun (i : Int) (X : List UInt8) (m : Nat) (bn : Nat) => [(3, .os (bn) (0) (m) 1 false), (6, VS PB full (parts)), (7, .i (((parts).length : Int))), (8, .i (i))]) (fun (i : Int) (X : List UInt8) (m : Nat) (bn : Nat) => [(bn, .vec 5 ((X).map AVal.u8))]) (fun (i : Int) (X : List UInt8) (m : Nat) (bn : Nat) => ∃ j : Nat, i = j ∧ j ≤ parts.length ∧ m = X.length ∧ X = (parts.take j).flatMap frame1) (fun (i : Int) (X : List UInt8) (m : Nat) (bn : Nat) => (parts.length - i).toNat) (0) ([]) (0) (q3) (subE.cons rfl (subE.cons rfl (subE.cons rfl (subE.cons rfl (subE.nil))))) (by (try simp only [List.set_cons_zero, List.set_cons_succ, List.cons_append, List.nil_append]); exact (.cons_cons _ (List.nil_sublist _))) ⟨0, rfl, by omega, rfl, by simp⟩ ?_
  intro i X m bn hI ih0
  obtain ⟨j, rfl, hj, hm, hX⟩ := hI
  refine WP.nrm 40 ?_
  refine WP.reg k_mixed fun nm4 hnm4 => ?_
  refine RegC.m (op_lss rfl) rfl rfl rfl ?_
  refine RegC.done ⟨.inl rfl, ?_⟩
  refine WP.nrm 40 ?_
  refine WP.condD rfl (fun h1 => ?_) (fun h1 => ?_)
  ·
    have hjl : j < parts.length := by omega
    have hnx := take_next frame1 parts j hjl
    have hle := flat_le frame1 parts (j + 1)
    rw [hnx, List.length_append, ← hX, frame1_length] at hle
    have hl8 := long1_length (parts[j]!).length
    refine WP.nrm 40 ?_
    refine WP.reg k_mixed fun nm5 hnm5 => ?_
    refine RegC.m (op_iV (f := PB) (l := parts) (j) rfl k_sl_36 (by first | omega | (simp only [List.length_append, List.length_map, List.length_cons, List.length_nil, List.length_replicate, List.length_take, List.length_drop, List.length_set]; omega) | (simp <;> omega) | simp_all) (by first | omega | (simp only [List.length_append, List.length_map, List.length_cons, List.length_nil, List.length_replicate, List.length_take, List.length_drop, List.length_set]; omega) | (simp <;> omega) | simp_all)) rfl rfl rfl ?_
    refine RegC.m (op_loadVM (f := PB) (l := parts) (n := j) rfl k_scal_26 (by first | omega | (simp only [List.length_append, List.length_map, List.length_cons, List.length_nil, List.length_replicate, List.length_take, List.length_drop, List.length_set]; omega) | (simp <;> omega) | simp_all)) rfl rfl rfl ?_
    refine RegC.m (op_assign rfl) rfl rfl rfl ?_
    refine RegC.done ⟨.inl rfl, ?_⟩
    refine WP.nrm 40 ?_
    refine WP.reg k_mixed fun nm6 hnm6 => ?_
    refine RegC.m (op_move rfl) rfl rfl rfl ?_
    refine RegC.m (op_move rfl) rfl rfl rfl ?_
    refine RegC.m (op_lenV (f := AVal.u8) (l := (parts)[j]!) rfl k_sl_26) rfl rfl rfl ?_
    refine RegC.m (op_call rfl k_call_117 (short_d (((parts)[j]!).length) (by first | omega | (simp only [List.length_append, List.length_map, List.length_cons, List.length_nil, List.length_replicate, List.length_take, List.length_drop, List.length_set]; omega) | (simp <;> omega) | simp_all))) rfl rfl rfl ?_
    refine RegC.wa (i := 0) (op_appL (f := AVal.u8) (l := X) (l2 := (long1 (((parts)[j]!).length)).drop 4) (fun _ => rfl) rfl k_app_26_26 (by first | omega | (simp only [List.length_append, List.length_map, List.length_cons, List.length_nil, List.length_replicate, List.length_take, List.length_drop, List.length_set]; omega) | (simp <;> omega) | simp_all) (by first | omega | (simp only [List.length_append, List.length_map, List.length_cons, List.length_nil, List.length_replicate, List.length_take, List.length_drop, List.length_set]; omega) | (simp <;> omega) | simp_all)) rfl rfl rfl rfl ?_
    refine RegC.m (op_move rfl) rfl rfl rfl ?_
    refine RegC.wa (i := 0) (op_appL (f := AVal.u8) (l := X ++ (long1 (((parts)[j]!).length)).drop 4) (l2 := (parts)[j]!) (fun _ => rfl) rfl k_app_26_26 (by first | omega | (simp only [List.length_append, List.length_map, List.length_cons, List.length_nil, List.length_replicate, List.length_take, List.length_drop, List.length_set]; omega) | (simp <;> omega) | simp_all) (by first | omega | (simp only [List.length_append, List.length_map, List.length_cons, List.length_nil, List.length_replicate, List.length_take, List.length_drop, List.length_set]; omega) | (simp <;> omega) | simp_all)) rfl rfl rfl rfl ?_
    refine RegC.m (op_assign rfl) rfl rfl rfl ?_
    refine RegC.done ⟨.inl rfl, ?_⟩
    refine WP.nrm 40 ?_
    refine WP.reg k_mixed fun nm7 hnm7 => ?_
    refine RegC.m (op_addI rfl (by first | omega | (simp only [List.length_append, List.length_map, List.length_cons, List.length_nil, List.length_replicate, List.length_take, List.length_drop, List.length_set]; omega) | (simp <;> omega) | simp_all)) rfl rfl rfl ?_
    refine RegC.m (op_move rfl) rfl rfl rfl ?_
    refine RegC.done ⟨.inl rfl, ?_⟩
    refine WP.nrm 40 ?_
    refine WP.jump (subE.cons rfl (subE.cons rfl (subE.cons rfl (subE.cons rfl (subE.nil))))) (.cons_cons _ (List.nil_sublist _)) (ih0 _ _ _ _ ?_ ?_)
    · exact ⟨j + 1, by push_cast; rfl, by omega, by simp [hm, Nat.add_assoc], by rw [hnx, ← hX]; unfold frame1; rw [List.append_assoc]⟩
    · omega
  ·
    have ej : j = parts.length := by omega
    subst ej
    rw [flat_all] at hX
    subst hX
    refine WP.nrm 40 ?_
    refine WP.reg k_mixed fun nm8 hnm8 => ?_
    refine RegC.m (op_move rfl) rfl rfl rfl ?_
    refine RegC.m (op_assign rfl) rfl rfl rfl ?_
    refine RegC.done ⟨.inl rfl, ?_⟩
    refine WP.nrm 40 ?_
    refine WP.ret1S (b' := b') (vf := fun q => .os q (0) (m) 1 false) 0 (ResV.one rfl (.tmp rfl)) rfl (by simp) os_named (.cons_cons _ (List.nil_sublist _)) ?_
    exact ⟨by rw [hm]; rfl, rfl⟩

theorem framed_d (full : Bool) (parts : List (List UInt8)) (hc : (framed1 parts).length ≤ 1048576) (hpp : parts.length ≤ 140737488351232) : ACalls Try.prog 97 [VS PB full parts] [] [] (VS AVal.u8 false (framed1 parts)) [] := cool1 (h := []) (fun b => framed1_f b full parts hc hpp) rfl

theorem tag1_calls (k : List UInt8) (hk : k.length = 32) (full : Bool) (x : List UInt8) (hx : x.length ≤ 1048544) : ACalls Try.prog 98 [.agg ((k).map AVal.u8), VS AVal.u8 full (x)] [] [] (.agg ((tag1 8 (k ++ x)).map AVal.u8)) [] := by
  refine ACalls.of_wp' (fn := Try.f98) (n := 15) Try.func98 rfl rfl ?_
  unfold Try.f98
  refine WP.nrm 40 ?_
  refine WP.reg k_mixed fun nm1 hnm1 => ?_
  refine RegC.m (op_boxD rfl) rfl rfl rfl ?_
  refine RegC.a (op_alloc rfl k_zero_104) rfl rfl rfl ?_
  refine RegC.done ⟨.inl rfl, ?_⟩
  refine WP.nrm 40 ?_
  refine WP.reg k_mixed fun nm2 hnm2 => ?_
  refine RegC.m (op_sVA00f (f := AVal.u8) (l := k) rfl k_arr_23 (by first | omega | (simp only [List.length_append, List.length_map, List.length_cons, List.length_nil, List.length_replicate, List.length_take, List.length_drop, List.length_set]; omega) | (simp <;> omega) | simp_all | rfl)) rfl rfl rfl ?_
  refine RegC.a (op_call rfl k_call_15 (clone_calls (nm2 0) false (k) (by first | omega | (simp only [List.length_append, List.length_map, List.length_cons, List.length_nil, List.length_replicate, List.length_take, List.length_drop, List.length_set]; omega) | (simp <;> omega) | simp_all))) rfl rfl rfl ?_
  refine RegC.m (op_move rfl) rfl rfl rfl ?_
  refine RegC.wa (i := 1) (op_appL (f := AVal.u8) (l := k) (l2 := x) (fun _ => rfl) rfl k_app_26_26 (by first | omega | (simp only [List.length_append, List.length_map, List.length_cons, List.length_nil, List.length_replicate, List.length_take, List.length_drop, List.length_set]; omega) | (simp <;> omega) | simp_all) (by first | omega | (simp only [List.length_append, List.length_map, List.length_cons, List.length_nil, List.length_replicate, List.length_take, List.length_drop, List.length_set]; omega) | (simp <;> omega) | simp_all)) rfl rfl rfl rfl ?_
  refine RegC.q (i := 1) (op_call rfl k_call_18 (lend12 (sum1_calls false (8) (k ++ x) (by first | omega | (simp only [List.length_append, List.length_map, List.length_cons, List.length_nil, List.length_replicate, List.length_take, List.length_drop, List.length_set]; omega) | (simp <;> omega) | simp_all) (by first | omega | (simp only [List.length_append, List.length_map, List.length_cons, List.length_nil, List.length_replicate, List.length_take, List.length_drop, List.length_set]; omega) | (simp <;> omega) | simp_all)) (frz_os (by first | omega | (simp only [List.length_append, List.length_map, List.length_cons, List.length_nil, List.length_replicate, List.length_take, List.length_drop, List.length_set]; omega) | (simp <;> omega) | simp_all)) noRef_8)) rfl rfl rfl rfl ?_
  refine RegC.a (op_alloc rfl k_zero_43) rfl rfl rfl ?_
  refine RegC.w (i := 2) (op_storeW rfl k_agg_43 (by first | omega | (simp only [List.length_append, List.length_map, List.length_cons, List.length_nil, List.length_replicate, List.length_take, List.length_drop, List.length_set]; omega) | (simp <;> omega) | simp_all) (by first | omega | (simp only [List.length_append, List.length_map, List.length_cons, List.length_nil, List.length_replicate, List.length_take, List.length_drop, List.length_set]; omega) | (simp <;> omega) | simp_all) (by first | exact allS (fun _ => rfl) | simp [AVal.scalar])) rfl rfl rfl rfl ?_
  refine RegC.done ⟨.inl rfl, ?_⟩
  refine WP.nrm 40 ?_
  refine WP.reg k_mixed fun nm3 hnm3 => ?_
  refine RegC.q (i := 0) (op_sA00 rfl k_arr_104 (by first | omega | (simp only [List.length_append, List.length_map, List.length_cons, List.length_nil, List.length_replicate, List.length_take, List.length_drop, List.length_set]; omega) | (simp <;> omega) | simp_all)) rfl rfl rfl rfl ?_
  refine RegC.q (i := 2) (op_sA00 rfl k_arr_43 (by first | omega | (simp only [List.length_append, List.length_map, List.length_cons, List.length_nil, List.length_replicate, List.length_take, List.length_drop, List.length_set]; omega) | (simp <;> omega) | simp_all)) rfl rfl rfl rfl ?_
  refine RegC.wq (i := 0) (j := 2) (OpV.toH (op_copyMO (l := List.replicate 16 (0 : UInt8)) (l2 := sum1 (8) (k ++ x)) (f := AVal.u8) (fun _ => rfl) rfl rfl k_sl_26 (by first | omega | (simp only [List.length_append, List.length_map, List.length_cons, List.length_nil, List.length_replicate, List.length_take, List.length_drop, List.length_set]; omega) | (simp <;> omega) | simp_all) (by first | omega | (simp only [List.length_append, List.length_map, List.length_cons, List.length_nil, List.length_replicate, List.length_take, List.length_drop, List.length_set]; omega) | (simp <;> omega) | simp_all)) rfl (by rw [tag_raw])) rfl rfl rfl rfl rfl rfl ?_
  refine RegC.done ⟨.inr rfl, ?_⟩
  refine WP.nrm 40 ?_
  refine WP.reg k_mixed fun nm4 hnm4 => ?_
  refine RegC.q (i := 0) (op_loadW rfl k_agg_104 (by first | omega | (simp only [List.length_append, List.length_map, List.length_cons, List.length_nil, List.length_replicate, List.length_take, List.length_drop, List.length_set]; omega) | (simp <;> omega) | simp_all)) rfl rfl rfl rfl ?_
  refine RegC.w (i := 0) (op_storeW rfl k_agg_104 (by first | omega | (simp only [List.length_append, List.length_map, List.length_cons, List.length_nil, List.length_replicate, List.length_take, List.length_drop, List.length_set]; omega) | (simp <;> omega) | simp_all) (by first | omega | (simp only [List.length_append, List.length_map, List.length_cons, List.length_nil, List.length_replicate, List.length_take, List.length_drop, List.length_set]; omega) | (simp <;> omega) | simp_all) (by first | exact allS (fun _ => rfl) | simp [AVal.scalar])) rfl rfl rfl rfl ?_
  refine RegC.done ⟨.inl rfl, ?_⟩
  refine WP.nrm 40 ?_
  refine WP.retS (ResV.one rfl (.cellW 0 rfl rfl k_agg_104 (by first | omega | (simp only [List.length_append, List.length_map, List.length_cons, List.length_nil, List.length_replicate, List.length_take, List.length_drop, List.length_set]; omega) | (simp <;> omega) | simp_all))) (List.nil_sublist _) ?_
  exact ⟨rfl, rfl⟩

theorem summed_calls (b' : Nat) (d : Nat) (hd : d ≤ 255) (full : Bool) (parts : List (List UInt8)) (hc : (cat parts).length ≤ 1048576) (hpp : parts.length ≤ 140737488351232) : ACalls Try.prog 113 [.i ((d : Int)), VS PB full (parts)] [] [b'] (.tup [.ptr b' 0, .i 0]) [(b', .vec 82 ((((sumAll d parts).s).map AVal.u8) ++ ((((sumAll d parts).r).map AVal.u8) ++ ([.i (((sumAll d parts).h : Int))] ++ [.i (((cat parts).length : Int))]))))] := by
  unfold cat at hc
  refine ACalls.of_wp' (fn := Try.f113) (n := 33) Try.func113 rfl rfl ?_
  unfold Try.f113
  refine WP.nrm 40 ?_
  refine WP.reg k_mixed fun nm1 hnm1 => ?_
  refine RegC.m (op_assign rfl) rfl rfl rfl ?_
  refine RegC.m (op_assign rfl) rfl rfl rfl ?_
  refine RegC.done ⟨.inl rfl, ?_⟩
  refine WP.nrm 40 ?_
  refine WP.reg k_mixed fun nm2 hnm2 => ?_
  refine RegC.m (op_move rfl) rfl rfl rfl ?_
  refine RegC.a (op_call rfl k_call_13 (newSummer_calls (nm2 0) (d) (by first | omega | (simp only [List.length_append, List.length_map, List.length_cons, List.length_nil, List.length_replicate, List.length_take, List.length_drop, List.length_set]; omega) | (simp <;> omega) | simp_all))) rfl rfl rfl ?_
  refine RegC.m (op_move rfl) rfl rfl rfl ?_
  refine RegC.m (op_extract rfl rfl) rfl rfl rfl ?_
  refine RegC.m (op_extract rfl rfl) rfl rfl rfl ?_
  refine RegC.m (op_assign rfl) rfl rfl rfl ?_
  refine RegC.m (op_assign rfl) rfl rfl rfl ?_
  refine RegC.done ⟨.inl rfl, ?_⟩
  refine WP.nrm 40 ?_
  refine WP.reg k_mixed fun nm3 hnm3 => ?_
  refine RegC.m (op_move rfl) rfl rfl rfl ?_
  refine RegC.m (op_neq rfl) rfl rfl rfl ?_
  refine RegC.done ⟨.inl rfl, ?_⟩
  refine WP.nrm 40 ?_
  refine WP.cond (t := false) rfl ?_
  refine WP.nrm 40 ?_
  refine WP.reg k_mixed fun nm4 hnm4 => ?_
  refine RegC.m (op_move rfl) rfl rfl rfl ?_
  refine RegC.m (op_lenV (f := PB) (l := parts) rfl k_sl_36) rfl rfl rfl ?_
  refine RegC.m (op_move rfl) rfl rfl rfl ?_
  refine RegC.done ⟨.inl rfl, ?_⟩
  refine WP.nrm 40 ?_
  refine WP.loop3 (fun (i : Int) (z : Sm) (t : Nat) => [(6, .ptr (nm2 0) (0)), (19, VS PB full (parts)), (20, .i (((parts).length : Int))), (21, .i (i))]) (fun (i : Int) (z : Sm) (t : Nat) => [(nm2 0, .vec 82 (((z.s).map AVal.u8) ++ (((z.r).map AVal.u8) ++ ([.i ((z.h : Int))] ++ [.i ((t : Int))]))))]) (fun (i : Int) (z : Sm) (t : Nat) => ∃ j : Nat, i = j ∧ j ≤ parts.length ∧ t = ((parts.take j).flatMap fun p => p).length ∧ z = sumAt d parts j) (fun (i : Int) (z : Sm) (t : Nat) => (parts.length - i).toNat) (0) (⟨initS d, List.replicate 32 0, 0⟩) (0) (subE.cons rfl (subE.cons rfl (subE.cons rfl (subE.cons rfl (subE.nil))))) (by (try simp only [List.set_cons_zero, List.set_cons_succ, List.cons_append, List.nil_append]); exact (.cons_cons _ (List.nil_sublist _))) ⟨0, rfl, by omega, rfl, rfl⟩ ?_
  intro i z t hI ih0
  obtain ⟨j, rfl, hj, ht, hz⟩ := hI
  have hzok : z.ok := by rw [hz]; exact (canon_at d parts j hj).ok
  obtain ⟨hs0, hr0, hh0⟩ := id hzok
  refine WP.nrm 40 ?_
  refine WP.reg k_mixed fun nm5 hnm5 => ?_
  refine RegC.m (op_lss rfl) rfl rfl rfl ?_
  refine RegC.done ⟨.inl rfl, ?_⟩
  refine WP.nrm 40 ?_
  refine WP.condD rfl (fun h1 => ?_) (fun h1 => ?_)
  ·
    have hjl : j < parts.length := by omega
    have hnx := take_next (fun p => p) parts j hjl
    have hle := flat_le (fun p => p) parts (j + 1)
    rw [hnx, List.length_append] at hle
    refine WP.nrm 40 ?_
    refine WP.reg k_mixed fun nm6 hnm6 => ?_
    refine RegC.m (op_iV (f := PB) (l := parts) (j) rfl k_sl_36 (by first | omega | (simp only [List.length_append, List.length_map, List.length_cons, List.length_nil, List.length_replicate, List.length_take, List.length_drop, List.length_set]; omega) | (simp <;> omega) | simp_all) (by first | omega | (simp only [List.length_append, List.length_map, List.length_cons, List.length_nil, List.length_replicate, List.length_take, List.length_drop, List.length_set]; omega) | (simp <;> omega) | simp_all)) rfl rfl rfl ?_
    refine RegC.m (op_loadVM (f := PB) (l := parts) (n := j) rfl k_scal_26 (by first | omega | (simp only [List.length_append, List.length_map, List.length_cons, List.length_nil, List.length_replicate, List.length_take, List.length_drop, List.length_set]; omega) | (simp <;> omega) | simp_all)) rfl rfl rfl ?_
    refine RegC.m (op_assign rfl) rfl rfl rfl ?_
    refine RegC.done ⟨.inl rfl, ?_⟩
    refine WP.nrm 40 ?_
    refine WP.reg k_mixed fun nm7 hnm7 => ?_
    refine RegC.m (op_move rfl) rfl rfl rfl ?_
    refine RegC.m (op_move rfl) rfl rfl rfl ?_
    refine RegC.w (i := 0) (op_call rfl k_call_16 (write_calls (nm2 0) z (t) false ((parts)[j]!) (by first | (with_reducible assumption) | exact takeS_ok _ (by assumption)) (by first | omega | (simp only [List.length_append, List.length_map, List.length_cons, List.length_nil, List.length_replicate, List.length_take, List.length_drop, List.length_set]; omega) | (simp <;> omega) | simp_all))) rfl rfl rfl rfl ?_
    refine RegC.m (op_assign rfl) rfl rfl rfl ?_
    refine RegC.done ⟨.inl rfl, ?_⟩
    refine WP.nrm 40 ?_
    refine WP.reg k_mixed fun nm8 hnm8 => ?_
    refine RegC.m (op_move rfl) rfl rfl rfl ?_
    refine RegC.m (op_neq rfl) rfl rfl rfl ?_
    refine RegC.done ⟨.inl rfl, ?_⟩
    refine WP.nrm 40 ?_
    refine WP.cond (t := false) rfl ?_
    refine WP.nrm 40 ?_
    refine WP.reg k_mixed fun nm9 hnm9 => ?_
    refine RegC.m (op_addI rfl (by first | omega | (simp only [List.length_append, List.length_map, List.length_cons, List.length_nil, List.length_replicate, List.length_take, List.length_drop, List.length_set]; omega) | (simp <;> omega) | simp_all)) rfl rfl rfl ?_
    refine RegC.m (op_move rfl) rfl rfl rfl ?_
    refine RegC.done ⟨.inl rfl, ?_⟩
    refine WP.nrm 40 ?_
    refine WP.jump (subE.cons rfl (subE.cons rfl (subE.cons rfl (subE.cons rfl (subE.nil))))) (.cons_cons _ (List.nil_sublist _)) (ih0 _ _ _ ?_ ?_)
    · exact ⟨j + 1, by push_cast; rfl, by omega, by rw [hnx, List.length_append, ← ht], by rw [hz]; exact sumAt_next d parts j hjl⟩
    · omega
  ·
    have ej : j = parts.length := by omega
    rw [ej, sumAt_all] at hz
    rw [ej, flat_all] at ht
    subst hz
    subst ht
    refine WP.nrm 40 ?_
    refine WP.reg k_mixed fun nm10 hnm10 => ?_
    refine RegC.m (op_move rfl) rfl rfl rfl ?_
    refine RegC.m (op_assign rfl) rfl rfl rfl ?_
    refine RegC.m (op_assign rfl) rfl rfl rfl ?_
    refine RegC.done ⟨.inl rfl, ?_⟩
    refine WP.nrm 40 ?_
    refine WP.ret1S (b' := b') (vf := fun q => .tup [.ptr q (0), .i (0)]) 0 (ResV.many rfl rfl (.cons (.tmp rfl) (.cons (.tmp rfl) (RessOf.nil)))) rfl (by simp) (tup_named (x := fun q => .ptr q (0)) ptr_named) (.cons_cons _ (List.nil_sublist _)) ?_
    exact ⟨rfl, rfl⟩

theorem sums_calls (d : Nat) (hd : d ≤ 255) (full : Bool) (parts : List (List UInt8)) (hc : (framedS parts).length ≤ 1048576) (hpp : parts.length ≤ 140737488351232) : ACalls Try.prog 88 [.i ((d : Int)), VS PB full (parts)] [] [] (.tup [.agg ((sum1 d (framedS parts)).map AVal.u8), .i 0]) [] := by
  unfold framedS at hc
  refine ACalls.of_wp' (fn := Try.f88) (n := 44) Try.func88 rfl rfl ?_
  unfold Try.f88
  refine WP.nrm 40 ?_
  refine WP.reg k_mixed fun nm1 hnm1 => ?_
  refine RegC.a (op_alloc rfl k_zero_43) rfl rfl rfl ?_
  refine RegC.m (op_assign rfl) rfl rfl rfl ?_
  refine RegC.done ⟨.inl rfl, ?_⟩
  refine WP.nrm 40 ?_
  refine WP.reg k_mixed fun nm2 hnm2 => ?_
  refine RegC.m (op_move rfl) rfl rfl rfl ?_
  refine RegC.a (op_call rfl k_call_13 (newSummer_calls (nm2 0) (d) (by first | omega | (simp only [List.length_append, List.length_map, List.length_cons, List.length_nil, List.length_replicate, List.length_take, List.length_drop, List.length_set]; omega) | (simp <;> omega) | simp_all))) rfl rfl rfl ?_
  refine RegC.m (op_move rfl) rfl rfl rfl ?_
  refine RegC.m (op_extract rfl rfl) rfl rfl rfl ?_
  refine RegC.m (op_extract rfl rfl) rfl rfl rfl ?_
  refine RegC.m (op_assign rfl) rfl rfl rfl ?_
  refine RegC.m (op_assign rfl) rfl rfl rfl ?_
  refine RegC.done ⟨.inl rfl, ?_⟩
  refine WP.nrm 40 ?_
  refine WP.reg k_mixed fun nm3 hnm3 => ?_
  refine RegC.m (op_move rfl) rfl rfl rfl ?_
  refine RegC.m (op_neq rfl) rfl rfl rfl ?_
  refine RegC.done ⟨.inl rfl, ?_⟩
  refine WP.nrm 40 ?_
  refine WP.cond (t := false) rfl ?_
  refine WP.nrm 40 ?_
  refine WP.reg k_mixed fun nm4 hnm4 => ?_
  refine RegC.m (op_move rfl) rfl rfl rfl ?_
  refine RegC.m (op_lenV (f := PB) (l := parts) rfl k_sl_36) rfl rfl rfl ?_
  refine RegC.m (op_move rfl) rfl rfl rfl ?_
  refine RegC.done ⟨.inl rfl, ?_⟩
  refine WP.nrm 40 ?_
  refine WP.loop3 (fun (i : Int) (z : Sm) (t : Nat) => [(4, .ptr (nm1 0) (0)), (6, .ptr (nm2 0) (0)), (20, VS PB full (parts)), (21, .i (((parts).length : Int))), (22, .i (i))]) (fun (i : Int) (z : Sm) (t : Nat) => [(nm1 0, .vec 43 ((List.replicate 32 (0 : UInt8)).map AVal.u8)), (nm2 0, .vec 82 (((z.s).map AVal.u8) ++ (((z.r).map AVal.u8) ++ ([.i ((z.h : Int))] ++ [.i ((t : Int))]))))]) (fun (i : Int) (z : Sm) (t : Nat) => ∃ j : Nat, i = j ∧ j ≤ parts.length ∧ t = ((parts.take j).flatMap frameS).length ∧ Canon d ((parts.take j).flatMap frameS) z) (fun (i : Int) (z : Sm) (t : Nat) => (parts.length - i).toNat) (0) (⟨initS d, List.replicate 32 0, 0⟩) (0) (subE.cons rfl (subE.cons rfl (subE.cons rfl (subE.cons rfl (subE.cons rfl (subE.nil)))))) (by (try simp only [List.set_cons_zero, List.set_cons_succ, List.cons_append, List.nil_append]); exact (.cons_cons _ (.cons_cons _ (List.nil_sublist _)))) ⟨0, rfl, by omega, rfl, canon_init d⟩ ?_
  intro i z t hI ih0
  obtain ⟨j, rfl, hj, ht, hz⟩ := hI
  have hzok : z.ok := hz.ok
  obtain ⟨hs0, hr0, hh0⟩ := id hzok
  refine WP.nrm 40 ?_
  refine WP.reg k_mixed fun nm5 hnm5 => ?_
  refine RegC.m (op_lss rfl) rfl rfl rfl ?_
  refine RegC.done ⟨.inl rfl, ?_⟩
  refine WP.nrm 40 ?_
  refine WP.condD rfl (fun h1 => ?_) (fun h1 => ?_)
  ·
    have hjl : j < parts.length := by omega
    have hnx := take_next frameS parts j hjl
    have hle := flat_le frameS parts (j + 1)
    rw [hnx, List.length_append, ← ht, frameS_length] at hle
    have ho4 := octS_length (UInt32.ofNat (parts[j]!).length)
    refine WP.nrm 40 ?_
    refine WP.reg k_mixed fun nm6 hnm6 => ?_
    refine RegC.m (op_iV (f := PB) (l := parts) (j) rfl k_sl_36 (by first | omega | (simp only [List.length_append, List.length_map, List.length_cons, List.length_nil, List.length_replicate, List.length_take, List.length_drop, List.length_set]; omega) | (simp <;> omega) | simp_all) (by first | omega | (simp only [List.length_append, List.length_map, List.length_cons, List.length_nil, List.length_replicate, List.length_take, List.length_drop, List.length_set]; omega) | (simp <;> omega) | simp_all)) rfl rfl rfl ?_
    refine RegC.m (op_loadVM (f := PB) (l := parts) (n := j) rfl k_scal_26 (by first | omega | (simp only [List.length_append, List.length_map, List.length_cons, List.length_nil, List.length_replicate, List.length_take, List.length_drop, List.length_set]; omega) | (simp <;> omega) | simp_all)) rfl rfl rfl ?_
    refine RegC.m (op_assign rfl) rfl rfl rfl ?_
    refine RegC.done ⟨.inl rfl, ?_⟩
    refine WP.nrm 40 ?_
    refine WP.reg k_mixed fun nm7 hnm7 => ?_
    refine RegC.m (op_move rfl) rfl rfl rfl ?_
    refine RegC.m (op_lenV (f := AVal.u8) (l := (parts)[j]!) rfl k_sl_26) rfl rfl rfl ?_
    refine RegC.m (op_cv rfl k_und_3 k_undI_102 (cv_i_32 (by first | exact Int.natCast_nonneg _ | omega))) rfl rfl rfl ?_
    refine RegC.m (op_call rfl k_call_87 (octets_calls (UInt32.ofNat (((parts)[j]!).length)))) rfl rfl rfl ?_
    refine RegC.a (op_alloc rfl k_zero_133) rfl rfl rfl ?_
    refine RegC.w (i := 2) (op_storeW rfl k_agg_133 (by first | omega | (simp only [List.length_append, List.length_map, List.length_cons, List.length_nil, List.length_replicate, List.length_take, List.length_drop, List.length_set]; omega) | (simp <;> omega) | simp_all) (by first | omega | (simp only [List.length_append, List.length_map, List.length_cons, List.length_nil, List.length_replicate, List.length_take, List.length_drop, List.length_set]; omega) | (simp <;> omega) | simp_all) (by first | exact allS (fun _ => rfl) | simp [AVal.scalar])) rfl rfl rfl rfl ?_
    refine RegC.done ⟨.inl rfl, ?_⟩
    refine WP.cold (b := nm7 0) 2 [(10, .vptr ((octS (UInt32.ofNat (((parts)[j]!).length))).map AVal.u8) (0))] rfl (frzE.cons rfl (.ptr 0) frzE.nil) ?_
    refine WP.nrm 40 ?_
    refine WP.reg k_mixed fun nm8 hnm8 => ?_
    refine RegC.m (op_move rfl) rfl rfl rfl ?_
    refine RegC.m (op_sVA00f (f := AVal.u8) (l := octS (UInt32.ofNat (((parts)[j]!).length))) rfl k_arr_133 (by first | omega | (simp only [List.length_append, List.length_map, List.length_cons, List.length_nil, List.length_replicate, List.length_take, List.length_drop, List.length_set]; omega) | (simp <;> omega) | simp_all | rfl)) rfl rfl rfl ?_
    refine RegC.w (i := 1) (op_call rfl k_call_16 (write_calls (nm2 0) z (t) false (octS (UInt32.ofNat (((parts)[j]!).length))) (by first | (with_reducible assumption) | exact takeS_ok _ (by assumption)) (by first | omega | (simp only [List.length_append, List.length_map, List.length_cons, List.length_nil, List.length_replicate, List.length_take, List.length_drop, List.length_set]; omega) | (simp <;> omega) | simp_all))) rfl rfl rfl rfl ?_
    refine RegC.m (op_neq rfl) rfl rfl rfl ?_
    refine RegC.m (op_move rfl) rfl rfl rfl ?_
    refine RegC.m (op_move rfl) rfl rfl rfl ?_
    refine RegC.m (op_move rfl) rfl rfl rfl ?_
    refine RegC.w (i := 1) (op_call rfl k_call_16 (write_calls (nm2 0) (takeS z (octS (UInt32.ofNat (((parts)[j]!).length)))) ((t + (octS (UInt32.ofNat (((parts)[j]!).length))).length)) false ((parts)[j]!) (by first | (with_reducible assumption) | exact takeS_ok _ (by assumption)) (by first | omega | (simp only [List.length_append, List.length_map, List.length_cons, List.length_nil, List.length_replicate, List.length_take, List.length_drop, List.length_set]; omega) | (simp <;> omega) | simp_all))) rfl rfl rfl rfl ?_
    refine RegC.m (op_neq rfl) rfl rfl rfl ?_
    refine RegC.m (op_pick rfl) rfl rfl rfl ?_
    refine RegC.done ⟨.inl rfl, ?_⟩
    refine WP.nrm 40 ?_
    refine WP.cond (t := false) rfl ?_
    refine WP.nrm 40 ?_
    refine WP.reg k_mixed fun nm9 hnm9 => ?_
    refine RegC.m (op_addI rfl (by first | omega | (simp only [List.length_append, List.length_map, List.length_cons, List.length_nil, List.length_replicate, List.length_take, List.length_drop, List.length_set]; omega) | (simp <;> omega) | simp_all)) rfl rfl rfl ?_
    refine RegC.m (op_move rfl) rfl rfl rfl ?_
    refine RegC.done ⟨.inl rfl, ?_⟩
    refine WP.nrm 40 ?_
    refine WP.jump (subE.cons rfl (subE.cons rfl (subE.cons rfl (subE.cons rfl (subE.cons rfl (subE.nil)))))) (.cons_cons _ (.cons_cons _ (List.nil_sublist _))) (ih0 _ _ _ ?_ ?_)
    · exact ⟨j + 1, by push_cast; rfl, by omega, by rw [hnx, List.length_append, ← ht, frameS_length]; simp; omega, by rw [hnx]; unfold frameS; rw [← List.append_assoc]; exact canon_take (canon_take hz _) _⟩
    · omega
  ·
    have ej : j = parts.length := by omega
    rw [ej, flat_all] at hz ht
    have hsum := sums_same hz
    rw [← ht] at hsum
    refine WP.nrm 40 ?_
    refine WP.reg k_mixed fun nm10 hnm10 => ?_
    refine RegC.m (op_move rfl) rfl rfl rfl ?_
    refine RegC.q (i := 1) (op_call rfl k_call_17 (sum_calls (nm2 0) z (t) (by first | (with_reducible assumption) | exact takeS_ok _ (by assumption)))) rfl rfl rfl rfl ?_
    refine RegC.w (i := 0) (op_storeW rfl k_agg_43 (by first | omega | (simp only [List.length_append, List.length_map, List.length_cons, List.length_nil, List.length_replicate, List.length_take, List.length_drop, List.length_set]; omega) | (simp <;> omega) | simp_all) (by first | omega | (simp only [List.length_append, List.length_map, List.length_cons, List.length_nil, List.length_replicate, List.length_take, List.length_drop, List.length_set]; omega) | (simp <;> omega) | simp_all) (by first | exact allS (fun _ => rfl) | simp [AVal.scalar])) rfl rfl rfl rfl ?_
    refine RegC.m (op_assign rfl) rfl rfl rfl ?_
    refine RegC.done ⟨.inl rfl, ?_⟩
    refine WP.nrm 40 ?_
    refine WP.retS (ResV.many rfl rfl (.cons (.cellW 0 rfl rfl k_agg_43 (by first | omega | (simp only [List.length_append, List.length_map, List.length_cons, List.length_nil, List.length_replicate, List.length_take, List.length_drop, List.length_set]; omega) | (simp <;> omega) | simp_all)) (.cons (.tmp rfl) (RessOf.nil)))) (List.nil_sublist _) ?_
    exact ⟨by rw [hsum]; rfl, rfl⟩

theorem tagOf_calls (k : List UInt8) (hk : k.length = 32) (full : Bool) (x : List UInt8) (hx : x.length ≤ 1048544) : ACalls Try.prog 89 [.agg ((k).map AVal.u8), VS AVal.u8 full (x)] [] [] (.tup [.agg ((tag1 8 (k ++ x)).map AVal.u8), .i 0]) [] := by
  refine ACalls.of_wp' (fn := Try.f89) (n := 25) Try.func89 rfl rfl ?_
  unfold Try.f89
  refine WP.weakV 1 rfl ?_
  refine WP.nrm 40 ?_
  refine WP.reg k_mixed fun nm1 hnm1 => ?_
  refine RegC.m (op_boxD rfl) rfl rfl rfl ?_
  refine RegC.a (op_alloc rfl k_zero_104) rfl rfl rfl ?_
  refine RegC.m (op_assign rfl) rfl rfl rfl ?_
  refine RegC.done ⟨.inl rfl, ?_⟩
  refine WP.nrm 40 ?_
  refine WP.reg k_mixed fun nm2 hnm2 => ?_
  refine RegC.m (op_sVA00f (f := AVal.u8) (l := k) rfl k_arr_23 (by first | omega | (simp only [List.length_append, List.length_map, List.length_cons, List.length_nil, List.length_replicate, List.length_take, List.length_drop, List.length_set]; omega) | (simp <;> omega) | simp_all | rfl)) rfl rfl rfl ?_
  refine RegC.m (op_move rfl) rfl rfl rfl ?_
  refine RegC.m (op_buildSlD (zv := .vs 0 true []) (vs := List.map PB [k, x]) rfl k_sl_36 k_zeroV_26 rfl rfl rfl (by omega)) rfl rfl rfl ?_
  refine RegC.a (op_call rfl k_call_113 (summed_calls (nm2 0) (8) (by omega) true ([k, x]) (by simp [cat] <;> omega) (by simp))) rfl rfl rfl ?_
  refine RegC.m (op_move rfl) rfl rfl rfl ?_
  refine RegC.m (op_extract rfl rfl) rfl rfl rfl ?_
  refine RegC.m (op_extract rfl rfl) rfl rfl rfl ?_
  refine RegC.m (op_assign rfl) rfl rfl rfl ?_
  refine RegC.m (op_assign rfl) rfl rfl rfl ?_
  refine RegC.done ⟨.inl rfl, ?_⟩
  refine WP.nrm 40 ?_
  refine WP.reg k_mixed fun nm3 hnm3 => ?_
  refine RegC.m (op_move rfl) rfl rfl rfl ?_
  refine RegC.m (op_neq rfl) rfl rfl rfl ?_
  refine RegC.done ⟨.inl rfl, ?_⟩
  refine WP.nrm 40 ?_
  refine WP.cond (t := false) rfl ?_
  have hca := canon_all 8 [k, x]
  have hsum := sums_same hca
  have hzok := hca.ok
  refine WP.nrm 40 ?_
  refine WP.reg k_mixed fun nm4 hnm4 => ?_
  refine RegC.m (op_move rfl) rfl rfl rfl ?_
  refine RegC.q (i := 1) (op_call rfl k_call_17 (sum_calls (nm2 0) (sumAll (8) ([k, x])) ((cat ([k, x])).length) (by first | (with_reducible assumption) | exact takeS_ok _ (by assumption)))) rfl rfl rfl rfl ?_
  refine RegC.a (op_alloc rfl k_zero_43) rfl rfl rfl ?_
  refine RegC.w (i := 2) (op_storeW rfl k_agg_43 (by first | omega | (simp only [List.length_append, List.length_map, List.length_cons, List.length_nil, List.length_replicate, List.length_take, List.length_drop, List.length_set]; omega) | (simp <;> omega) | simp_all) (by first | omega | (simp only [List.length_append, List.length_map, List.length_cons, List.length_nil, List.length_replicate, List.length_take, List.length_drop, List.length_set]; omega) | (simp <;> omega) | simp_all) (by first | exact allS (fun _ => rfl) | simp [AVal.scalar])) rfl rfl rfl rfl ?_
  refine RegC.done ⟨.inl rfl, ?_⟩
  refine WP.cold (b := nm4 0) 2 [(8, .vptr ((sumS (sumAll (8) ([k, x])) ((cat ([k, x])).length)).map AVal.u8) (0))] rfl (frzE.cons rfl (.ptr 0) frzE.nil) ?_
  refine WP.nrm 40 ?_
  refine WP.reg k_mixed fun nm5 hnm5 => ?_
  refine RegC.m (op_sVA01 (f := AVal.u8) (l := sumS (sumAll (8) ([k, x])) ((cat ([k, x])).length)) (16) rfl k_arr_43 (by first | omega | (simp only [List.length_append, List.length_map, List.length_cons, List.length_nil, List.length_replicate, List.length_take, List.length_drop, List.length_set]; omega) | (simp <;> omega) | simp_all) (by first | omega | (simp only [List.length_append, List.length_map, List.length_cons, List.length_nil, List.length_replicate, List.length_take, List.length_drop, List.length_set]; omega) | (simp <;> omega) | simp_all) (by first | omega | (simp only [List.length_append, List.length_map, List.length_cons, List.length_nil, List.length_replicate, List.length_take, List.length_drop, List.length_set]; omega) | (simp <;> omega) | simp_all | rfl)) rfl rfl rfl ?_
  refine RegC.m (op_toArrM (f := AVal.u8) (l := (sumS (sumAll (8) ([k, x])) ((cat ([k, x])).length)).take (16)) rfl k_arr_104 (by first | omega | (simp only [List.length_append, List.length_map, List.length_cons, List.length_nil, List.length_replicate, List.length_take, List.length_drop, List.length_set]; omega) | (simp <;> omega) | simp_all) (by omega)) rfl rfl rfl ?_
  refine RegC.m (op_loadVP (f := AVal.u8) (l := (sumS (sumAll (8) ([k, x])) ((cat ([k, x])).length)).take (16)) (off := 0) rfl k_agg_104 (by first | omega | (simp only [List.length_append, List.length_map, List.length_cons, List.length_nil, List.length_replicate, List.length_take, List.length_drop, List.length_set]; omega) | (simp <;> omega) | simp_all)) rfl rfl rfl ?_
  refine RegC.w (i := 0) (op_storeW rfl k_agg_104 (by first | omega | (simp only [List.length_append, List.length_map, List.length_cons, List.length_nil, List.length_replicate, List.length_take, List.length_drop, List.length_set]; omega) | (simp <;> omega) | simp_all) (by first | omega | (simp only [List.length_append, List.length_map, List.length_cons, List.length_nil, List.length_replicate, List.length_take, List.length_drop, List.length_set]; omega) | (simp <;> omega) | simp_all) (by first | exact allS (fun _ => rfl) | simp [AVal.scalar])) rfl rfl rfl rfl ?_
  refine RegC.m (op_assign rfl) rfl rfl rfl ?_
  refine RegC.done ⟨.inl rfl, ?_⟩
  refine WP.nrm 40 ?_
  refine WP.retS (ResV.many rfl rfl (.cons (.cellW 0 rfl rfl k_agg_104 (by first | omega | (simp only [List.length_append, List.length_map, List.length_cons, List.length_nil, List.length_replicate, List.length_take, List.length_drop, List.length_set]; omega) | (simp <;> omega) | simp_all)) (.cons (.tmp rfl) (RessOf.nil)))) (List.nil_sublist _) ?_
  exact ⟨by rw [hsum, cat2, tag_cut], rfl⟩

theorem nameOf_calls (k : List UInt8) (hk : k.length = 32) : ACalls Try.prog 91 [.agg ((k).map AVal.u8)] [] [] (.agg ((tag1 10 k).map AVal.u8)) [] := by
  refine ACalls.of_wp' (fn := Try.f91) (n := 20) Try.func91 rfl rfl ?_
  unfold Try.f91
  refine WP.nrm 40 ?_
  refine WP.reg k_mixed fun nm1 hnm1 => ?_
  refine RegC.m (op_boxD rfl) rfl rfl rfl ?_
  refine RegC.a (op_alloc rfl k_zero_54) rfl rfl rfl ?_
  refine RegC.done ⟨.inl rfl, ?_⟩
  refine WP.nrm 40 ?_
  refine WP.reg k_mixed fun nm2 hnm2 => ?_
  refine RegC.m (op_sVA00f (f := AVal.u8) (l := k) rfl k_arr_23 (by first | omega | (simp only [List.length_append, List.length_map, List.length_cons, List.length_nil, List.length_replicate, List.length_take, List.length_drop, List.length_set]; omega) | (simp <;> omega) | simp_all | rfl)) rfl rfl rfl ?_
  refine RegC.m (op_buildSlD (zv := .vs 0 true []) (vs := List.map PB [k]) rfl k_sl_36 k_zeroV_26 rfl rfl rfl (by omega)) rfl rfl rfl ?_
  refine RegC.a (op_call rfl k_call_113 (summed_calls (nm2 0) (10) (by omega) true ([k]) (by simp [cat] <;> omega) (by simp))) rfl rfl rfl ?_
  refine RegC.m (op_move rfl) rfl rfl rfl ?_
  refine RegC.m (op_extract rfl rfl) rfl rfl rfl ?_
  refine RegC.m (op_extract rfl rfl) rfl rfl rfl ?_
  refine RegC.m (op_assign rfl) rfl rfl rfl ?_
  refine RegC.m (op_assign rfl) rfl rfl rfl ?_
  refine RegC.done ⟨.inl rfl, ?_⟩
  refine WP.nrm 40 ?_
  refine WP.reg k_mixed fun nm3 hnm3 => ?_
  refine RegC.m (op_move rfl) rfl rfl rfl ?_
  refine RegC.m (op_neq rfl) rfl rfl rfl ?_
  refine RegC.done ⟨.inl rfl, ?_⟩
  refine WP.nrm 40 ?_
  refine WP.cond (t := false) rfl ?_
  have hca := canon_all 10 [k]
  have hsum := sums_same hca
  have hzok := hca.ok
  refine WP.nrm 40 ?_
  refine WP.reg k_mixed fun nm4 hnm4 => ?_
  refine RegC.m (op_move rfl) rfl rfl rfl ?_
  refine RegC.q (i := 1) (op_call rfl k_call_17 (sum_calls (nm2 0) (sumAll (10) ([k])) ((cat ([k])).length) (by first | (with_reducible assumption) | exact takeS_ok _ (by assumption)))) rfl rfl rfl rfl ?_
  refine RegC.a (op_alloc rfl k_zero_43) rfl rfl rfl ?_
  refine RegC.w (i := 2) (op_storeW rfl k_agg_43 (by first | omega | (simp only [List.length_append, List.length_map, List.length_cons, List.length_nil, List.length_replicate, List.length_take, List.length_drop, List.length_set]; omega) | (simp <;> omega) | simp_all) (by first | omega | (simp only [List.length_append, List.length_map, List.length_cons, List.length_nil, List.length_replicate, List.length_take, List.length_drop, List.length_set]; omega) | (simp <;> omega) | simp_all) (by first | exact allS (fun _ => rfl) | simp [AVal.scalar])) rfl rfl rfl rfl ?_
  refine RegC.done ⟨.inl rfl, ?_⟩
  refine WP.cold (b := nm4 0) 2 [(5, .vptr ((sumS (sumAll (10) ([k])) ((cat ([k])).length)).map AVal.u8) (0))] rfl (frzE.cons rfl (.ptr 0) frzE.nil) ?_
  refine WP.nrm 40 ?_
  refine WP.reg k_mixed fun nm5 hnm5 => ?_
  refine RegC.m (op_sVA01 (f := AVal.u8) (l := sumS (sumAll (10) ([k])) ((cat ([k])).length)) (16) rfl k_arr_43 (by first | omega | (simp only [List.length_append, List.length_map, List.length_cons, List.length_nil, List.length_replicate, List.length_take, List.length_drop, List.length_set]; omega) | (simp <;> omega) | simp_all) (by first | omega | (simp only [List.length_append, List.length_map, List.length_cons, List.length_nil, List.length_replicate, List.length_take, List.length_drop, List.length_set]; omega) | (simp <;> omega) | simp_all) (by first | omega | (simp only [List.length_append, List.length_map, List.length_cons, List.length_nil, List.length_replicate, List.length_take, List.length_drop, List.length_set]; omega) | (simp <;> omega) | simp_all | rfl)) rfl rfl rfl ?_
  refine RegC.m (op_toArrM (f := AVal.u8) (l := (sumS (sumAll (10) ([k])) ((cat ([k])).length)).take (16)) rfl k_arr_54 (by first | omega | (simp only [List.length_append, List.length_map, List.length_cons, List.length_nil, List.length_replicate, List.length_take, List.length_drop, List.length_set]; omega) | (simp <;> omega) | simp_all) (by omega)) rfl rfl rfl ?_
  refine RegC.m (op_loadVP (f := AVal.u8) (l := (sumS (sumAll (10) ([k])) ((cat ([k])).length)).take (16)) (off := 0) rfl k_agg_54 (by first | omega | (simp only [List.length_append, List.length_map, List.length_cons, List.length_nil, List.length_replicate, List.length_take, List.length_drop, List.length_set]; omega) | (simp <;> omega) | simp_all)) rfl rfl rfl ?_
  refine RegC.w (i := 0) (op_storeW rfl k_agg_54 (by first | omega | (simp only [List.length_append, List.length_map, List.length_cons, List.length_nil, List.length_replicate, List.length_take, List.length_drop, List.length_set]; omega) | (simp <;> omega) | simp_all) (by first | omega | (simp only [List.length_append, List.length_map, List.length_cons, List.length_nil, List.length_replicate, List.length_take, List.length_drop, List.length_set]; omega) | (simp <;> omega) | simp_all) (by first | exact allS (fun _ => rfl) | simp [AVal.scalar])) rfl rfl rfl rfl ?_
  refine RegC.done ⟨.inl rfl, ?_⟩
  refine WP.nrm 40 ?_
  refine WP.retS (ResV.one rfl (.cellW 0 rfl rfl k_agg_54 (by first | omega | (simp only [List.length_append, List.length_map, List.length_cons, List.length_nil, List.length_replicate, List.length_take, List.length_drop, List.length_set]; omega) | (simp <;> omega) | simp_all))) (List.nil_sublist _) ?_
  exact ⟨by rw [hsum, cat1, tag_cut], rfl⟩
end Go.Proofs.Try
