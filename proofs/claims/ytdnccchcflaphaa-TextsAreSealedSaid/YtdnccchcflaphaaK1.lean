import Derived.Test.YtdnccchcflaphaaK0
import Derived.Test.YtdnccchcflaphaaS1
namespace Go.Proofs.Try
open Go Go.Kw
set_option linter.unusedVariables false
set_option linter.unusedSimpArgs false
set_option maxRecDepth 100000
set_option maxHeartbeats 400000
theorem word_calls (l : List UInt8) (hl : l.length = 4) : ACalls Try.prog 120 [.agg ((l).map AVal.u8)] [] [] (.u32 (wordS l)) [] := by
  refine ACalls.of_wp' (fn := Try.f120) (n := 21) Try.func120 rfl rfl ?_
  unfold Try.f120
  refine WP.nrm 40 ?_
  refine WP.reg k_mixed fun nm1 hnm1 => ?_
  refine RegC.a (op_boxA rfl) rfl rfl rfl ?_
  refine RegC.m (op_assign rfl) rfl rfl rfl ?_
  refine RegC.done ⟨.inl rfl, ?_⟩
  refine WP.nrm 40 ?_
  refine WP.reg k_mixed fun nm2 hnm2 => ?_
  refine RegC.m (op_iA (0) rfl k_arr_133 (by first | omega | (simp only [List.length_append, List.length_map, List.length_cons, List.length_nil, List.length_replicate, List.length_take, List.length_drop, List.length_set]; omega) | (simp <;> omega) | simp_all) (by first | omega | (simp only [List.length_append, List.length_map, List.length_cons, List.length_nil, List.length_replicate, List.length_take, List.length_drop, List.length_set]; omega) | (simp <;> omega) | simp_all)) rfl rfl rfl ?_
  refine RegC.q (i := 0) (op_loadM (f := AVal.u8) (l := l) (n := 0) rfl k_scal_5 (by first | omega | (simp only [List.length_append, List.length_map, List.length_cons, List.length_nil, List.length_replicate, List.length_take, List.length_drop, List.length_set]; omega) | (simp <;> omega) | simp_all)) rfl rfl rfl rfl ?_
  refine RegC.m (op_cv rfl k_und_5 k_undI_102 cv_8_32) rfl rfl rfl ?_
  refine RegC.m (op_shl32 (24) rfl (by first | omega | (simp only [List.length_append, List.length_map, List.length_cons, List.length_nil, List.length_replicate, List.length_take, List.length_drop, List.length_set]; omega) | (simp <;> omega) | simp_all)) rfl rfl rfl ?_
  refine RegC.m (op_iA (1) rfl k_arr_133 (by first | omega | (simp only [List.length_append, List.length_map, List.length_cons, List.length_nil, List.length_replicate, List.length_take, List.length_drop, List.length_set]; omega) | (simp <;> omega) | simp_all) (by first | omega | (simp only [List.length_append, List.length_map, List.length_cons, List.length_nil, List.length_replicate, List.length_take, List.length_drop, List.length_set]; omega) | (simp <;> omega) | simp_all)) rfl rfl rfl ?_
  refine RegC.q (i := 0) (op_loadM (f := AVal.u8) (l := l) (n := 1) rfl k_scal_5 (by first | omega | (simp only [List.length_append, List.length_map, List.length_cons, List.length_nil, List.length_replicate, List.length_take, List.length_drop, List.length_set]; omega) | (simp <;> omega) | simp_all)) rfl rfl rfl rfl ?_
  refine RegC.m (op_cv rfl k_und_5 k_undI_102 cv_8_32) rfl rfl rfl ?_
  refine RegC.m (op_shl32 (16) rfl (by first | omega | (simp only [List.length_append, List.length_map, List.length_cons, List.length_nil, List.length_replicate, List.length_take, List.length_drop, List.length_set]; omega) | (simp <;> omega) | simp_all)) rfl rfl rfl ?_
  refine RegC.m (op_or32 rfl) rfl rfl rfl ?_
  refine RegC.m (op_iA (2) rfl k_arr_133 (by first | omega | (simp only [List.length_append, List.length_map, List.length_cons, List.length_nil, List.length_replicate, List.length_take, List.length_drop, List.length_set]; omega) | (simp <;> omega) | simp_all) (by first | omega | (simp only [List.length_append, List.length_map, List.length_cons, List.length_nil, List.length_replicate, List.length_take, List.length_drop, List.length_set]; omega) | (simp <;> omega) | simp_all)) rfl rfl rfl ?_
  refine RegC.q (i := 0) (op_loadM (f := AVal.u8) (l := l) (n := 2) rfl k_scal_5 (by first | omega | (simp only [List.length_append, List.length_map, List.length_cons, List.length_nil, List.length_replicate, List.length_take, List.length_drop, List.length_set]; omega) | (simp <;> omega) | simp_all)) rfl rfl rfl rfl ?_
  refine RegC.m (op_cv rfl k_und_5 k_undI_102 cv_8_32) rfl rfl rfl ?_
  refine RegC.m (op_shl32 (8) rfl (by first | omega | (simp only [List.length_append, List.length_map, List.length_cons, List.length_nil, List.length_replicate, List.length_take, List.length_drop, List.length_set]; omega) | (simp <;> omega) | simp_all)) rfl rfl rfl ?_
  refine RegC.m (op_or32 rfl) rfl rfl rfl ?_
  refine RegC.m (op_iA (3) rfl k_arr_133 (by first | omega | (simp only [List.length_append, List.length_map, List.length_cons, List.length_nil, List.length_replicate, List.length_take, List.length_drop, List.length_set]; omega) | (simp <;> omega) | simp_all) (by first | omega | (simp only [List.length_append, List.length_map, List.length_cons, List.length_nil, List.length_replicate, List.length_take, List.length_drop, List.length_set]; omega) | (simp <;> omega) | simp_all)) rfl rfl rfl ?_
  refine RegC.q (i := 0) (op_loadM (f := AVal.u8) (l := l) (n := 3) rfl k_scal_5 (by first | omega | (simp only [List.length_append, List.length_map, List.length_cons, List.length_nil, List.length_replicate, List.length_take, List.length_drop, List.length_set]; omega) | (simp <;> omega) | simp_all)) rfl rfl rfl rfl ?_
  refine RegC.m (op_cv rfl k_und_5 k_undI_102 cv_8_32) rfl rfl rfl ?_
  refine RegC.m (op_or32 rfl) rfl rfl rfl ?_
  refine RegC.m (op_assign rfl) rfl rfl rfl ?_
  refine RegC.done ⟨.inl rfl, ?_⟩
  refine WP.nrm 40 ?_
  refine WP.retS (ResV.one rfl (.tmp rfl)) (List.nil_sublist _) ?_
  exact ⟨rfl, rfl⟩

theorem octets_calls (n : UInt32) : ACalls Try.prog 87 [.u32 (n)] [] [] (.agg ((octS n).map AVal.u8)) [] := by
  refine ACalls.of_wp' (fn := Try.f87) (n := 15) Try.func87 rfl rfl ?_
  unfold Try.f87
  refine WP.nrm 40 ?_
  refine WP.reg k_mixed fun nm1 hnm1 => ?_
  refine RegC.a (op_alloc rfl k_zero_133) rfl rfl rfl ?_
  refine RegC.done ⟨.inl rfl, ?_⟩
  refine WP.nrm 40 ?_
  refine WP.reg k_mixed fun nm2 hnm2 => ?_
  refine RegC.m (op_move rfl) rfl rfl rfl ?_
  refine RegC.m (op_shr32 (24) rfl (by first | omega | (simp only [List.length_append, List.length_map, List.length_cons, List.length_nil, List.length_replicate, List.length_take, List.length_drop, List.length_set]; omega) | (simp <;> omega) | simp_all)) rfl rfl rfl ?_
  refine RegC.m (op_cv rfl k_und_102 k_undI_5 cv_32_8) rfl rfl rfl ?_
  refine RegC.m (op_move rfl) rfl rfl rfl ?_
  refine RegC.m (op_shr32 (16) rfl (by first | omega | (simp only [List.length_append, List.length_map, List.length_cons, List.length_nil, List.length_replicate, List.length_take, List.length_drop, List.length_set]; omega) | (simp <;> omega) | simp_all)) rfl rfl rfl ?_
  refine RegC.m (op_cv rfl k_und_102 k_undI_5 cv_32_8) rfl rfl rfl ?_
  refine RegC.m (op_move rfl) rfl rfl rfl ?_
  refine RegC.m (op_shr32 (8) rfl (by first | omega | (simp only [List.length_append, List.length_map, List.length_cons, List.length_nil, List.length_replicate, List.length_take, List.length_drop, List.length_set]; omega) | (simp <;> omega) | simp_all)) rfl rfl rfl ?_
  refine RegC.m (op_cv rfl k_und_102 k_undI_5 cv_32_8) rfl rfl rfl ?_
  refine RegC.m (op_move rfl) rfl rfl rfl ?_
  refine RegC.m (op_cv rfl k_und_102 k_undI_5 cv_32_8) rfl rfl rfl ?_
  refine RegC.m (op_buildArr (vs := List.map AVal.u8 [((n >>> UInt32.ofNat (24))).toUInt8, ((n >>> UInt32.ofNat (16))).toUInt8, ((n >>> UInt32.ofNat (8))).toUInt8, (n).toUInt8]) rfl k_arr_133 k_zero_133 rfl rfl rfl rfl) rfl rfl rfl ?_
  refine RegC.w (i := 0) (op_storeW rfl k_agg_133 (by first | omega | (simp only [List.length_append, List.length_map, List.length_cons, List.length_nil, List.length_replicate, List.length_take, List.length_drop, List.length_set]; omega) | (simp <;> omega) | simp_all) (by first | omega | (simp only [List.length_append, List.length_map, List.length_cons, List.length_nil, List.length_replicate, List.length_take, List.length_drop, List.length_set]; omega) | (simp <;> omega) | simp_all) (by first | exact allS (fun _ => rfl) | simp [AVal.scalar])) rfl rfl rfl rfl ?_
  refine RegC.done ⟨.inl rfl, ?_⟩
  refine WP.nrm 40 ?_
  refine WP.retS (ResV.one rfl (.cellW 0 rfl rfl k_agg_133 (by first | omega | (simp only [List.length_append, List.length_map, List.length_cons, List.length_nil, List.length_replicate, List.length_take, List.length_drop, List.length_set]; omega) | (simp <;> omega) | simp_all))) (List.nil_sublist _) ?_
  exact ⟨rfl, rfl⟩

theorem longOctets_calls (n : UInt64) : ACalls Try.prog 69 [.u64 (n)] [] [] (.agg ((longS n).map AVal.u8)) [] := by
  refine ACalls.of_wp' (fn := Try.f69) (n := 29) Try.func69 rfl rfl ?_
  unfold Try.f69
  refine WP.nrm 40 ?_
  refine WP.reg k_mixed fun nm1 hnm1 => ?_
  refine RegC.a (op_alloc rfl k_zero_114) rfl rfl rfl ?_
  refine RegC.done ⟨.inl rfl, ?_⟩
  refine WP.nrm 40 ?_
  refine WP.reg k_mixed fun nm2 hnm2 => ?_
  refine RegC.m (op_move rfl) rfl rfl rfl ?_
  refine RegC.m (op_shr64 (32) rfl (by first | omega | (simp only [List.length_append, List.length_map, List.length_cons, List.length_nil, List.length_replicate, List.length_take, List.length_drop, List.length_set]; omega) | (simp <;> omega) | simp_all)) rfl rfl rfl ?_
  refine RegC.m (op_cv rfl k_und_78 k_undI_102 cv_64_32) rfl rfl rfl ?_
  refine RegC.m (op_call rfl k_call_87 (octets_calls (((n >>> UInt64.ofNat (32))).toUInt32))) rfl rfl rfl ?_
  refine RegC.m (op_move rfl) rfl rfl rfl ?_
  refine RegC.m (op_cv rfl k_und_78 k_undI_102 cv_64_32) rfl rfl rfl ?_
  refine RegC.m (op_call rfl k_call_87 (octets_calls ((n).toUInt32))) rfl rfl rfl ?_
  refine RegC.a (op_alloc rfl k_zero_133) rfl rfl rfl ?_
  refine RegC.a (op_alloc rfl k_zero_133) rfl rfl rfl ?_
  refine RegC.w (i := 1) (op_storeW rfl k_agg_133 (by first | omega | (simp only [List.length_append, List.length_map, List.length_cons, List.length_nil, List.length_replicate, List.length_take, List.length_drop, List.length_set]; omega) | (simp <;> omega) | simp_all) (by first | omega | (simp only [List.length_append, List.length_map, List.length_cons, List.length_nil, List.length_replicate, List.length_take, List.length_drop, List.length_set]; omega) | (simp <;> omega) | simp_all) (by first | exact allS (fun _ => rfl) | simp [AVal.scalar])) rfl rfl rfl rfl ?_
  refine RegC.w (i := 2) (op_storeW rfl k_agg_133 (by first | omega | (simp only [List.length_append, List.length_map, List.length_cons, List.length_nil, List.length_replicate, List.length_take, List.length_drop, List.length_set]; omega) | (simp <;> omega) | simp_all) (by first | omega | (simp only [List.length_append, List.length_map, List.length_cons, List.length_nil, List.length_replicate, List.length_take, List.length_drop, List.length_set]; omega) | (simp <;> omega) | simp_all) (by first | exact allS (fun _ => rfl) | simp [AVal.scalar])) rfl rfl rfl rfl ?_
  refine RegC.done ⟨.inl rfl, ?_⟩
  refine WP.nrm 40 ?_
  refine WP.reg k_mixed fun nm3 hnm3 => ?_
  refine RegC.m (op_iA (0) rfl k_arr_133 (by first | omega | (simp only [List.length_append, List.length_map, List.length_cons, List.length_nil, List.length_replicate, List.length_take, List.length_drop, List.length_set]; omega) | (simp <;> omega) | simp_all) (by first | omega | (simp only [List.length_append, List.length_map, List.length_cons, List.length_nil, List.length_replicate, List.length_take, List.length_drop, List.length_set]; omega) | (simp <;> omega) | simp_all)) rfl rfl rfl ?_
  refine RegC.q (i := 1) (op_loadM (f := AVal.u8) (l := octS (((n >>> UInt64.ofNat (32))).toUInt32)) (n := 0) rfl k_scal_5 (by first | omega | (simp only [List.length_append, List.length_map, List.length_cons, List.length_nil, List.length_replicate, List.length_take, List.length_drop, List.length_set]; omega) | (simp <;> omega) | simp_all)) rfl rfl rfl rfl ?_
  refine RegC.m (op_iA (1) rfl k_arr_133 (by first | omega | (simp only [List.length_append, List.length_map, List.length_cons, List.length_nil, List.length_replicate, List.length_take, List.length_drop, List.length_set]; omega) | (simp <;> omega) | simp_all) (by first | omega | (simp only [List.length_append, List.length_map, List.length_cons, List.length_nil, List.length_replicate, List.length_take, List.length_drop, List.length_set]; omega) | (simp <;> omega) | simp_all)) rfl rfl rfl ?_
  refine RegC.q (i := 1) (op_loadM (f := AVal.u8) (l := octS (((n >>> UInt64.ofNat (32))).toUInt32)) (n := 1) rfl k_scal_5 (by first | omega | (simp only [List.length_append, List.length_map, List.length_cons, List.length_nil, List.length_replicate, List.length_take, List.length_drop, List.length_set]; omega) | (simp <;> omega) | simp_all)) rfl rfl rfl rfl ?_
  refine RegC.m (op_iA (2) rfl k_arr_133 (by first | omega | (simp only [List.length_append, List.length_map, List.length_cons, List.length_nil, List.length_replicate, List.length_take, List.length_drop, List.length_set]; omega) | (simp <;> omega) | simp_all) (by first | omega | (simp only [List.length_append, List.length_map, List.length_cons, List.length_nil, List.length_replicate, List.length_take, List.length_drop, List.length_set]; omega) | (simp <;> omega) | simp_all)) rfl rfl rfl ?_
  refine RegC.q (i := 1) (op_loadM (f := AVal.u8) (l := octS (((n >>> UInt64.ofNat (32))).toUInt32)) (n := 2) rfl k_scal_5 (by first | omega | (simp only [List.length_append, List.length_map, List.length_cons, List.length_nil, List.length_replicate, List.length_take, List.length_drop, List.length_set]; omega) | (simp <;> omega) | simp_all)) rfl rfl rfl rfl ?_
  refine RegC.m (op_iA (3) rfl k_arr_133 (by first | omega | (simp only [List.length_append, List.length_map, List.length_cons, List.length_nil, List.length_replicate, List.length_take, List.length_drop, List.length_set]; omega) | (simp <;> omega) | simp_all) (by first | omega | (simp only [List.length_append, List.length_map, List.length_cons, List.length_nil, List.length_replicate, List.length_take, List.length_drop, List.length_set]; omega) | (simp <;> omega) | simp_all)) rfl rfl rfl ?_
  refine RegC.q (i := 1) (op_loadM (f := AVal.u8) (l := octS (((n >>> UInt64.ofNat (32))).toUInt32)) (n := 3) rfl k_scal_5 (by first | omega | (simp only [List.length_append, List.length_map, List.length_cons, List.length_nil, List.length_replicate, List.length_take, List.length_drop, List.length_set]; omega) | (simp <;> omega) | simp_all)) rfl rfl rfl rfl ?_
  refine RegC.m (op_iA (0) rfl k_arr_133 (by first | omega | (simp only [List.length_append, List.length_map, List.length_cons, List.length_nil, List.length_replicate, List.length_take, List.length_drop, List.length_set]; omega) | (simp <;> omega) | simp_all) (by first | omega | (simp only [List.length_append, List.length_map, List.length_cons, List.length_nil, List.length_replicate, List.length_take, List.length_drop, List.length_set]; omega) | (simp <;> omega) | simp_all)) rfl rfl rfl ?_
  refine RegC.q (i := 2) (op_loadM (f := AVal.u8) (l := octS ((n).toUInt32)) (n := 0) rfl k_scal_5 (by first | omega | (simp only [List.length_append, List.length_map, List.length_cons, List.length_nil, List.length_replicate, List.length_take, List.length_drop, List.length_set]; omega) | (simp <;> omega) | simp_all)) rfl rfl rfl rfl ?_
  refine RegC.m (op_iA (1) rfl k_arr_133 (by first | omega | (simp only [List.length_append, List.length_map, List.length_cons, List.length_nil, List.length_replicate, List.length_take, List.length_drop, List.length_set]; omega) | (simp <;> omega) | simp_all) (by first | omega | (simp only [List.length_append, List.length_map, List.length_cons, List.length_nil, List.length_replicate, List.length_take, List.length_drop, List.length_set]; omega) | (simp <;> omega) | simp_all)) rfl rfl rfl ?_
  refine RegC.q (i := 2) (op_loadM (f := AVal.u8) (l := octS ((n).toUInt32)) (n := 1) rfl k_scal_5 (by first | omega | (simp only [List.length_append, List.length_map, List.length_cons, List.length_nil, List.length_replicate, List.length_take, List.length_drop, List.length_set]; omega) | (simp <;> omega) | simp_all)) rfl rfl rfl rfl ?_
  refine RegC.m (op_iA (2) rfl k_arr_133 (by first | omega | (simp only [List.length_append, List.length_map, List.length_cons, List.length_nil, List.length_replicate, List.length_take, List.length_drop, List.length_set]; omega) | (simp <;> omega) | simp_all) (by first | omega | (simp only [List.length_append, List.length_map, List.length_cons, List.length_nil, List.length_replicate, List.length_take, List.length_drop, List.length_set]; omega) | (simp <;> omega) | simp_all)) rfl rfl rfl ?_
  refine RegC.q (i := 2) (op_loadM (f := AVal.u8) (l := octS ((n).toUInt32)) (n := 2) rfl k_scal_5 (by first | omega | (simp only [List.length_append, List.length_map, List.length_cons, List.length_nil, List.length_replicate, List.length_take, List.length_drop, List.length_set]; omega) | (simp <;> omega) | simp_all)) rfl rfl rfl rfl ?_
  refine RegC.m (op_iA (3) rfl k_arr_133 (by first | omega | (simp only [List.length_append, List.length_map, List.length_cons, List.length_nil, List.length_replicate, List.length_take, List.length_drop, List.length_set]; omega) | (simp <;> omega) | simp_all) (by first | omega | (simp only [List.length_append, List.length_map, List.length_cons, List.length_nil, List.length_replicate, List.length_take, List.length_drop, List.length_set]; omega) | (simp <;> omega) | simp_all)) rfl rfl rfl ?_
  refine RegC.q (i := 2) (op_loadM (f := AVal.u8) (l := octS ((n).toUInt32)) (n := 3) rfl k_scal_5 (by first | omega | (simp only [List.length_append, List.length_map, List.length_cons, List.length_nil, List.length_replicate, List.length_take, List.length_drop, List.length_set]; omega) | (simp <;> omega) | simp_all)) rfl rfl rfl rfl ?_
  refine RegC.m (op_buildArr (vs := List.map AVal.u8 [(octS (((n >>> UInt64.ofNat (32))).toUInt32))[0]!, (octS (((n >>> UInt64.ofNat (32))).toUInt32))[1]!, (octS (((n >>> UInt64.ofNat (32))).toUInt32))[2]!, (octS (((n >>> UInt64.ofNat (32))).toUInt32))[3]!, (octS ((n).toUInt32))[0]!, (octS ((n).toUInt32))[1]!, (octS ((n).toUInt32))[2]!, (octS ((n).toUInt32))[3]!]) rfl k_arr_114 k_zero_114 rfl rfl rfl rfl) rfl rfl rfl ?_
  refine RegC.w (i := 0) (op_storeW rfl k_agg_114 (by first | omega | (simp only [List.length_append, List.length_map, List.length_cons, List.length_nil, List.length_replicate, List.length_take, List.length_drop, List.length_set]; omega) | (simp <;> omega) | simp_all) (by first | omega | (simp only [List.length_append, List.length_map, List.length_cons, List.length_nil, List.length_replicate, List.length_take, List.length_drop, List.length_set]; omega) | (simp <;> omega) | simp_all) (by first | exact allS (fun _ => rfl) | simp [AVal.scalar])) rfl rfl rfl rfl ?_
  refine RegC.done ⟨.inl rfl, ?_⟩
  refine WP.nrm 40 ?_
  refine WP.retS (ResV.one rfl (.cellW 0 rfl rfl k_agg_114 (by first | omega | (simp only [List.length_append, List.length_map, List.length_cons, List.length_nil, List.length_replicate, List.length_take, List.length_drop, List.length_set]; omega) | (simp <;> omega) | simp_all))) (List.nil_sublist _) ?_
  exact ⟨rfl, rfl⟩

theorem rot_calls (x : UInt32) (k : Nat) (h1 : 1 ≤ k) (h2 : k < 32) : ACalls Try.prog 106 [.u32 (x), .i ((k : Int))] [] [] (.u32 (rotS x k)) [] := by
  refine ACalls.of_wp' (fn := Try.f106) (n := 17) Try.func106 rfl rfl ?_
  unfold Try.f106
  refine WP.nrm 40 ?_
  refine WP.reg k_mixed fun nm1 hnm1 => ?_
  refine RegC.m (op_assign rfl) rfl rfl rfl ?_
  refine RegC.done ⟨.inl rfl, ?_⟩
  refine WP.nrm 40 ?_
  refine WP.reg k_mixed fun nm2 hnm2 => ?_
  refine RegC.m (op_move rfl) rfl rfl rfl ?_
  refine RegC.m (op_cv rfl k_und_3 k_undI_60 (cv_i_64 (by first | exact Int.natCast_nonneg _ | omega))) rfl rfl rfl ?_
  refine RegC.m (op_and64 (b := (31 : UInt64)) rfl) rfl rfl rfl ?_
  refine RegC.m (op_assign rfl) rfl rfl rfl ?_
  refine RegC.done ⟨.inl rfl, ?_⟩
  refine WP.nrm 40 ?_
  refine WP.reg k_mixed fun nm3 hnm3 => ?_
  refine RegC.m (op_move rfl) rfl rfl rfl ?_
  refine RegC.m (op_move rfl) rfl rfl rfl ?_
  refine RegC.m (op_shl32 (k) rfl ⟨congrArg Nat.cast (and31 k h2), by omega⟩) rfl rfl rfl ?_
  refine RegC.m (op_move rfl) rfl rfl rfl ?_
  refine RegC.m (op_move rfl) rfl rfl rfl ?_
  refine RegC.m (op_sub64 (a := (32 : UInt64)) rfl) rfl rfl rfl ?_
  refine RegC.m (op_shr32 (32 - k) rfl ⟨congrArg Nat.cast (sub31 k h2), by omega⟩) rfl rfl rfl ?_
  refine RegC.m (op_or32 rfl) rfl rfl rfl ?_
  refine RegC.m (op_assign rfl) rfl rfl rfl ?_
  refine RegC.done ⟨.inl rfl, ?_⟩
  refine WP.nrm 40 ?_
  refine WP.retS (ResV.one rfl (.tmp rfl)) (List.nil_sublist _) ?_
  exact ⟨rfl, rfl⟩

theorem turn1_calls (x : UInt32) (k : Nat) (h1 : 1 ≤ k) (h2 : k < 32) : ACalls Try.prog 72 [.u32 (x), .i ((k : Int))] [] [] (.u32 (rotS x k)) [] := by
  refine ACalls.of_wp' (fn := Try.f72) (n := 13) Try.func72 rfl rfl ?_
  unfold Try.f72
  refine WP.nrm 40 ?_
  refine WP.reg k_mixed fun nm1 hnm1 => ?_
  refine RegC.m (op_assign rfl) rfl rfl rfl ?_
  refine RegC.done ⟨.inl rfl, ?_⟩
  refine WP.nrm 40 ?_
  refine WP.reg k_mixed fun nm2 hnm2 => ?_
  refine RegC.m (op_move rfl) rfl rfl rfl ?_
  refine RegC.m (op_move rfl) rfl rfl rfl ?_
  refine RegC.m (op_shl32 (k) rfl (by first | omega | (simp only [List.length_append, List.length_map, List.length_cons, List.length_nil, List.length_replicate, List.length_take, List.length_drop, List.length_set]; omega) | (simp <;> omega) | simp_all)) rfl rfl rfl ?_
  refine RegC.m (op_move rfl) rfl rfl rfl ?_
  refine RegC.m (op_move rfl) rfl rfl rfl ?_
  refine RegC.m (op_subI rfl (by first | omega | (simp only [List.length_append, List.length_map, List.length_cons, List.length_nil, List.length_replicate, List.length_take, List.length_drop, List.length_set]; omega) | (simp <;> omega) | simp_all)) rfl rfl rfl ?_
  refine RegC.m (op_shr32 (32 - k) rfl (by first | omega | (simp only [List.length_append, List.length_map, List.length_cons, List.length_nil, List.length_replicate, List.length_take, List.length_drop, List.length_set]; omega) | (simp <;> omega) | simp_all)) rfl rfl rfl ?_
  refine RegC.m (op_or32 rfl) rfl rfl rfl ?_
  refine RegC.m (op_assign rfl) rfl rfl rfl ?_
  refine RegC.done ⟨.inr rfl, ?_⟩
  refine WP.nrm 40 ?_
  refine WP.retS (ResV.one rfl (.tmp rfl)) (List.nil_sublist _) ?_
  exact ⟨rfl, rfl⟩

theorem turn_calls (b : Nat) (w : List UInt32) (r i : Nat) (hw : w.length = 16) (hr : r < 8) (hi : i < 16) : ACalls Try.prog 105 [.ptr (b) (0), .i ((r : Int)), .i ((i : Int))] [(b, .vec 116 ((w).map AVal.u32))] [] (.u32 (turnS w r i)) [(b, .vec 116 ((w).map AVal.u32))] := by
  refine ACalls.of_wp' (fn := Try.f105) (n := 28) Try.func105 rfl rfl ?_
  unfold Try.f105
  refine WP.nrm 40 ?_
  refine WP.reg k_mixed fun nm1 hnm1 => ?_
  refine RegC.m (op_assign rfl) rfl rfl rfl ?_
  refine RegC.done ⟨.inl rfl, ?_⟩
  refine WP.nrm 40 ?_
  refine WP.reg k_mixed fun nm2 hnm2 => ?_
  refine RegC.m (op_move rfl) rfl rfl rfl ?_
  refine RegC.m (op_move rfl) rfl rfl rfl ?_
  refine RegC.m (op_addI rfl (by first | omega | (simp only [List.length_append, List.length_map, List.length_cons, List.length_nil, List.length_replicate, List.length_take, List.length_drop, List.length_set]; omega) | (simp <;> omega) | simp_all)) rfl rfl rfl ?_
  refine RegC.m (op_move rfl) rfl rfl rfl ?_
  refine RegC.m (op_addI rfl (by first | omega | (simp only [List.length_append, List.length_map, List.length_cons, List.length_nil, List.length_replicate, List.length_take, List.length_drop, List.length_set]; omega) | (simp <;> omega) | simp_all)) rfl rfl rfl ?_
  refine RegC.m (op_remI rfl (by first | omega | (simp only [List.length_append, List.length_map, List.length_cons, List.length_nil, List.length_replicate, List.length_take, List.length_drop, List.length_set]; omega) | (simp <;> omega) | simp_all)) rfl rfl rfl ?_
  refine RegC.m (op_nilCheck rfl) rfl rfl rfl ?_
  refine RegC.m (op_iA ((((i + 1) + r) % 16)) rfl k_arr_116 (by first | omega | (simp only [List.length_append, List.length_map, List.length_cons, List.length_nil, List.length_replicate, List.length_take, List.length_drop, List.length_set]; omega) | (simp <;> omega) | simp_all) (by first | omega | (simp only [List.length_append, List.length_map, List.length_cons, List.length_nil, List.length_replicate, List.length_take, List.length_drop, List.length_set]; omega) | (simp <;> omega) | simp_all)) rfl rfl rfl ?_
  refine RegC.q (i := 0) (op_loadM (f := AVal.u32) (l := w) (n := (((i + 1) + r) % 16)) rfl k_scal_102 (by first | omega | (simp only [List.length_append, List.length_map, List.length_cons, List.length_nil, List.length_replicate, List.length_take, List.length_drop, List.length_set]; omega) | (simp <;> omega) | simp_all)) rfl rfl rfl rfl ?_
  refine RegC.m (op_move rfl) rfl rfl rfl ?_
  refine RegC.m (op_addI rfl (by first | omega | (simp only [List.length_append, List.length_map, List.length_cons, List.length_nil, List.length_replicate, List.length_take, List.length_drop, List.length_set]; omega) | (simp <;> omega) | simp_all)) rfl rfl rfl ?_
  refine RegC.m (op_call rfl k_call_106 (rot_calls ((w)[(((i + 1) + r) % 16)]!) ((5 + i)) (by first | omega | (simp only [List.length_append, List.length_map, List.length_cons, List.length_nil, List.length_replicate, List.length_take, List.length_drop, List.length_set]; omega) | (simp <;> omega) | simp_all) (by first | omega | (simp only [List.length_append, List.length_map, List.length_cons, List.length_nil, List.length_replicate, List.length_take, List.length_drop, List.length_set]; omega) | (simp <;> omega) | simp_all))) rfl rfl rfl ?_
  refine RegC.m (op_move rfl) rfl rfl rfl ?_
  refine RegC.m (op_mulI rfl (by first | omega | (simp only [List.length_append, List.length_map, List.length_cons, List.length_nil, List.length_replicate, List.length_take, List.length_drop, List.length_set]; omega) | (simp <;> omega) | simp_all)) rfl rfl rfl ?_
  refine RegC.m (op_move rfl) rfl rfl rfl ?_
  refine RegC.m (op_addI rfl (by first | omega | (simp only [List.length_append, List.length_map, List.length_cons, List.length_nil, List.length_replicate, List.length_take, List.length_drop, List.length_set]; omega) | (simp <;> omega) | simp_all)) rfl rfl rfl ?_
  refine RegC.m (op_addI rfl (by first | omega | (simp only [List.length_append, List.length_map, List.length_cons, List.length_nil, List.length_replicate, List.length_take, List.length_drop, List.length_set]; omega) | (simp <;> omega) | simp_all)) rfl rfl rfl ?_
  refine RegC.m (op_cv rfl k_und_3 k_undI_78 (cv_i_64 (by first | exact Int.natCast_nonneg _ | omega))) rfl rfl rfl ?_
  refine RegC.m (op_mul64 (a := (2654435769 : UInt64)) rfl) rfl rfl rfl ?_
  refine RegC.m (op_cv rfl k_und_78 k_undI_102 cv_64_32) rfl rfl rfl ?_
  refine RegC.m (op_xor32 rfl) rfl rfl rfl ?_
  refine RegC.m (op_assign rfl) rfl rfl rfl ?_
  refine RegC.done ⟨.inl rfl, ?_⟩
  refine WP.nrm 40 ?_
  refine WP.retS (ResV.one rfl (.tmp rfl)) (.cons_cons _ (List.nil_sublist _)) ?_
  exact ⟨rfl, rfl⟩

theorem wordsOf_calls (s : List UInt8) (hs : s.length = 64) : ACalls Try.prog 104 [.agg ((s).map AVal.u8)] [] [] (.agg ((wordsS s).map AVal.u32)) [] := by
  refine ACalls.of_wp' (fn := Try.f104) (n := 21) Try.func104 rfl rfl ?_
  unfold Try.f104
  refine WP.nrm 40 ?_
  refine WP.reg k_mixed fun nm1 hnm1 => ?_
  refine RegC.a (op_boxA rfl) rfl rfl rfl ?_
  refine RegC.a (op_alloc rfl k_zero_116) rfl rfl rfl ?_
  refine RegC.done ⟨.inl rfl, ?_⟩
  refine WP.nrm 40 ?_
  refine WP.reg k_mixed fun nm2 hnm2 => ?_
  refine RegC.a (op_alloc rfl k_zero_116) rfl rfl rfl ?_
  refine RegC.done ⟨.inl rfl, ?_⟩
  refine WP.nrm 40 ?_
  refine WP.reg k_mixed fun nm3 hnm3 => ?_
  refine RegC.m (op_move rfl) rfl rfl rfl ?_
  refine RegC.done ⟨.inl rfl, ?_⟩
  refine WP.nrm 40 ?_
  refine WP.loop2 (fun (i : Int) (w : List UInt32) => [(1, .ptr (nm1 0) (0)), (2, .ptr (nm1 1) (0)), (3, .ptr (nm2 0) (0)), (5, .i (i))]) (fun (i : Int) (w : List UInt32) => [(nm1 0, .vec 76 ((s).map AVal.u8)), (nm1 1, .vec 116 ((List.replicate 16 (0 : UInt32)).map AVal.u32)), (nm2 0, .vec 116 ((w).map AVal.u32))]) (fun (i : Int) (w : List UInt32) => ∃ j : Nat, i = j ∧ j ≤ 16 ∧ w.length = 16 ∧ loopS 16 (wordsF s) j w = wordsS s) (fun (i : Int) (w : List UInt32) => (16 - i).toNat) _ _ (subE.cons rfl (subE.cons rfl (subE.cons rfl (subE.cons rfl (subE.nil))))) (.cons_cons _ (.cons_cons _ (.cons_cons _ (List.nil_sublist _)))) ⟨0, rfl, by omega, by first | (with_reducible assumption) | simp | simp [*], rfl⟩ ?_
  intro i w hI ih0
  obtain ⟨j, rfl, hj, lw, qw⟩ := hI
  refine WP.nrm 40 ?_
  refine WP.reg k_mixed fun nm4 hnm4 => ?_
  refine RegC.m (op_lss rfl) rfl rfl rfl ?_
  refine RegC.done ⟨.inl rfl, ?_⟩
  refine WP.nrm 40 ?_
  refine WP.condD rfl (fun h1 => ?_) (fun h1 => ?_)
  ·
    refine WP.nrm 40 ?_
    refine WP.reg k_mixed fun nm5 hnm5 => ?_
    refine RegC.m (op_move rfl) rfl rfl rfl ?_
    refine RegC.m (op_assign rfl) rfl rfl rfl ?_
    refine RegC.done ⟨.inl rfl, ?_⟩
    refine WP.nrm 40 ?_
    refine WP.reg k_mixed fun nm6 hnm6 => ?_
    refine RegC.m (op_move rfl) rfl rfl rfl ?_
    refine RegC.m (op_move rfl) rfl rfl rfl ?_
    refine RegC.m (op_mulI rfl (by first | omega | (simp only [List.length_append, List.length_map, List.length_cons, List.length_nil, List.length_replicate, List.length_take, List.length_drop, List.length_set]; omega) | (simp <;> omega) | simp_all)) rfl rfl rfl ?_
    refine RegC.m (op_move rfl) rfl rfl rfl ?_
    refine RegC.m (op_mulI rfl (by first | omega | (simp only [List.length_append, List.length_map, List.length_cons, List.length_nil, List.length_replicate, List.length_take, List.length_drop, List.length_set]; omega) | (simp <;> omega) | simp_all)) rfl rfl rfl ?_
    refine RegC.m (op_addI rfl (by first | omega | (simp only [List.length_append, List.length_map, List.length_cons, List.length_nil, List.length_replicate, List.length_take, List.length_drop, List.length_set]; omega) | (simp <;> omega) | simp_all)) rfl rfl rfl ?_
    refine RegC.q (i := 0) (op_sA11 ((4 * j)) (((4 * j) + 4)) rfl k_arr_76 (by first | omega | (simp only [List.length_append, List.length_map, List.length_cons, List.length_nil, List.length_replicate, List.length_take, List.length_drop, List.length_set]; omega) | (simp <;> omega) | simp_all) (by first | omega | (simp only [List.length_append, List.length_map, List.length_cons, List.length_nil, List.length_replicate, List.length_take, List.length_drop, List.length_set]; omega) | (simp <;> omega) | simp_all) (by first | omega | (simp only [List.length_append, List.length_map, List.length_cons, List.length_nil, List.length_replicate, List.length_take, List.length_drop, List.length_set]; omega) | (simp <;> omega) | simp_all) (by first | omega | (simp only [List.length_append, List.length_map, List.length_cons, List.length_nil, List.length_replicate, List.length_take, List.length_drop, List.length_set]; omega) | (simp <;> omega) | simp_all) (by first | omega | (simp only [List.length_append, List.length_map, List.length_cons, List.length_nil, List.length_replicate, List.length_take, List.length_drop, List.length_set]; omega) | (simp <;> omega) | simp_all)) rfl rfl rfl rfl ?_
    refine RegC.m (op_toArr rfl k_arr_133 (by first | omega | (simp only [List.length_append, List.length_map, List.length_cons, List.length_nil, List.length_replicate, List.length_take, List.length_drop, List.length_set]; omega) | (simp <;> omega) | simp_all) (by first | omega | (simp only [List.length_append, List.length_map, List.length_cons, List.length_nil, List.length_replicate, List.length_take, List.length_drop, List.length_set]; omega) | (simp <;> omega) | simp_all)) rfl rfl rfl ?_
    refine RegC.q (i := 0) (op_loadP (f := AVal.u8) (l := s) (off := (4 * j)) rfl k_agg_133 (by first | omega | (simp only [List.length_append, List.length_map, List.length_cons, List.length_nil, List.length_replicate, List.length_take, List.length_drop, List.length_set]; omega) | (simp <;> omega) | simp_all)) rfl rfl rfl rfl ?_
    refine RegC.m (op_call rfl k_call_120 (word_calls (((s).drop ((4 * j))).take 4) (by first | omega | (simp only [List.length_append, List.length_map, List.length_cons, List.length_nil, List.length_replicate, List.length_take, List.length_drop, List.length_set]; omega) | (simp <;> omega) | simp_all))) rfl rfl rfl ?_
    refine RegC.m (op_iA (j) rfl k_arr_116 (by first | omega | (simp only [List.length_append, List.length_map, List.length_cons, List.length_nil, List.length_replicate, List.length_take, List.length_drop, List.length_set]; omega) | (simp <;> omega) | simp_all) (by first | omega | (simp only [List.length_append, List.length_map, List.length_cons, List.length_nil, List.length_replicate, List.length_take, List.length_drop, List.length_set]; omega) | (simp <;> omega) | simp_all)) rfl rfl rfl ?_
    refine RegC.w (i := 2) (op_storeM (f := AVal.u32) (l := w) (n := j) (v := wordS (((s).drop ((4 * j))).take 4)) rfl k_scal_102 rfl (by first | omega | (simp only [List.length_append, List.length_map, List.length_cons, List.length_nil, List.length_replicate, List.length_take, List.length_drop, List.length_set]; omega) | (simp <;> omega) | simp_all)) rfl rfl rfl rfl ?_
    refine RegC.done ⟨.inl rfl, ?_⟩
    refine WP.nrm 40 ?_
    refine WP.reg k_mixed fun nm7 hnm7 => ?_
    refine RegC.m (op_addI rfl (by first | omega | (simp only [List.length_append, List.length_map, List.length_cons, List.length_nil, List.length_replicate, List.length_take, List.length_drop, List.length_set]; omega) | (simp <;> omega) | simp_all)) rfl rfl rfl ?_
    refine RegC.m (op_move rfl) rfl rfl rfl ?_
    refine RegC.done ⟨.inl rfl, ?_⟩
    refine WP.nrm 40 ?_
    refine WP.jump (subE.cons rfl (subE.cons rfl (subE.cons rfl (subE.cons rfl (subE.nil))))) (.cons_cons _ (.cons_cons _ (.cons_cons _ (List.nil_sublist _)))) (ih0 _ _ ?_ ?_)
    · exact ⟨j + 1, by push_cast; rfl, by omega, by simp [lw], by rw [← qw, loopS_next (by omega : j < 16)]; rfl⟩
    · omega
  ·
    have ej : j = 16 := by omega
    subst ej
    rw [loopS_end] at qw
    refine WP.nrm 40 ?_
    refine WP.reg k_mixed fun nm8 hnm8 => ?_
    refine RegC.q (i := 2) (op_loadW rfl k_agg_116 (by first | omega | (simp only [List.length_append, List.length_map, List.length_cons, List.length_nil, List.length_replicate, List.length_take, List.length_drop, List.length_set]; omega) | (simp <;> omega) | simp_all)) rfl rfl rfl rfl ?_
    refine RegC.w (i := 1) (op_storeW rfl k_agg_116 (by first | omega | (simp only [List.length_append, List.length_map, List.length_cons, List.length_nil, List.length_replicate, List.length_take, List.length_drop, List.length_set]; omega) | (simp <;> omega) | simp_all) (by first | omega | (simp only [List.length_append, List.length_map, List.length_cons, List.length_nil, List.length_replicate, List.length_take, List.length_drop, List.length_set]; omega) | (simp <;> omega) | simp_all) (by first | exact allS (fun _ => rfl) | simp [AVal.scalar])) rfl rfl rfl rfl ?_
    refine RegC.done ⟨.inl rfl, ?_⟩
    refine WP.nrm 40 ?_
    refine WP.retS (ResV.one rfl (.cellW 1 rfl rfl k_agg_116 (by first | omega | (simp only [List.length_append, List.length_map, List.length_cons, List.length_nil, List.length_replicate, List.length_take, List.length_drop, List.length_set]; omega) | (simp <;> omega) | simp_all))) (List.nil_sublist _) ?_
    exact ⟨by rw [qw], rfl⟩

theorem stateOf_calls (w : List UInt32) (hw : w.length = 16) : ACalls Try.prog 107 [.agg ((w).map AVal.u32)] [] [] (.agg ((stateS w).map AVal.u8)) [] := by
  refine ACalls.of_wp' (fn := Try.f107) (n := 21) Try.func107 rfl rfl ?_
  unfold Try.f107
  refine WP.nrm 40 ?_
  refine WP.reg k_mixed fun nm1 hnm1 => ?_
  refine RegC.a (op_boxA rfl) rfl rfl rfl ?_
  refine RegC.a (op_alloc rfl k_zero_76) rfl rfl rfl ?_
  refine RegC.done ⟨.inl rfl, ?_⟩
  refine WP.nrm 40 ?_
  refine WP.reg k_mixed fun nm2 hnm2 => ?_
  refine RegC.a (op_alloc rfl k_zero_76) rfl rfl rfl ?_
  refine RegC.done ⟨.inl rfl, ?_⟩
  refine WP.nrm 40 ?_
  refine WP.reg k_mixed fun nm3 hnm3 => ?_
  refine RegC.q (i := 0) (op_loadW rfl k_agg_116 (by first | omega | (simp only [List.length_append, List.length_map, List.length_cons, List.length_nil, List.length_replicate, List.length_take, List.length_drop, List.length_set]; omega) | (simp <;> omega) | simp_all)) rfl rfl rfl rfl ?_
  refine RegC.m (op_move rfl) rfl rfl rfl ?_
  refine RegC.done ⟨.inl rfl, ?_⟩
  refine WP.nrm 40 ?_
  refine WP.loop2 (fun (i : Int) (s : List UInt8) => [(2, .ptr (nm1 1) (0)), (3, .ptr (nm2 0) (0)), (7, .agg ((w).map AVal.u32)), (8, .i (i))]) (fun (i : Int) (s : List UInt8) => [(nm1 0, .vec 116 ((w).map AVal.u32)), (nm1 1, .vec 76 ((List.replicate 64 (0 : UInt8)).map AVal.u8)), (nm2 0, .vec 76 ((s).map AVal.u8))]) (fun (i : Int) (s : List UInt8) => ∃ j : Nat, i = j ∧ j ≤ 16 ∧ s.length = 64 ∧ loopS 16 (stateF w) j s = stateS w) (fun (i : Int) (s : List UInt8) => (16 - i).toNat) _ _ (subE.cons rfl (subE.cons rfl (subE.cons rfl (subE.cons rfl (subE.nil))))) (.cons_cons _ (.cons_cons _ (.cons_cons _ (List.nil_sublist _)))) ⟨0, rfl, by omega, by first | (with_reducible assumption) | simp | simp [*], rfl⟩ ?_
  intro i s hI ih0
  obtain ⟨j, rfl, hj, ls, qs⟩ := hI
  refine WP.nrm 40 ?_
  refine WP.reg k_mixed fun nm4 hnm4 => ?_
  refine RegC.m (op_lss rfl) rfl rfl rfl ?_
  refine RegC.done ⟨.inl rfl, ?_⟩
  refine WP.nrm 40 ?_
  refine WP.condD rfl (fun h1 => ?_) (fun h1 => ?_)
  ·
    refine WP.nrm 40 ?_
    refine WP.reg k_mixed fun nm5 hnm5 => ?_
    refine RegC.m (op_move rfl) rfl rfl rfl ?_
    refine RegC.m (op_xA (f := AVal.u32) (l := w) (j) rfl k_arr_116 k_scal_102 (by first | omega | (simp only [List.length_append, List.length_map, List.length_cons, List.length_nil, List.length_replicate, List.length_take, List.length_drop, List.length_set]; omega) | (simp <;> omega) | simp_all) (by first | omega | (simp only [List.length_append, List.length_map, List.length_cons, List.length_nil, List.length_replicate, List.length_take, List.length_drop, List.length_set]; omega) | (simp <;> omega) | simp_all) (by first | omega | (simp only [List.length_append, List.length_map, List.length_cons, List.length_nil, List.length_replicate, List.length_take, List.length_drop, List.length_set]; omega) | (simp <;> omega) | simp_all)) rfl rfl rfl ?_
    refine RegC.m (op_assign rfl) rfl rfl rfl ?_
    refine RegC.m (op_assign rfl) rfl rfl rfl ?_
    refine RegC.done ⟨.inl rfl, ?_⟩
    refine WP.nrm 40 ?_
    refine WP.reg k_mixed fun nm6 hnm6 => ?_
    refine RegC.m (op_move rfl) rfl rfl rfl ?_
    refine RegC.m (op_call rfl k_call_87 (octets_calls ((w)[j]!))) rfl rfl rfl ?_
    refine RegC.a (op_alloc rfl k_zero_133) rfl rfl rfl ?_
    refine RegC.w (i := 3) (op_storeW rfl k_agg_133 (by first | omega | (simp only [List.length_append, List.length_map, List.length_cons, List.length_nil, List.length_replicate, List.length_take, List.length_drop, List.length_set]; omega) | (simp <;> omega) | simp_all) (by first | omega | (simp only [List.length_append, List.length_map, List.length_cons, List.length_nil, List.length_replicate, List.length_take, List.length_drop, List.length_set]; omega) | (simp <;> omega) | simp_all) (by first | exact allS (fun _ => rfl) | simp [AVal.scalar])) rfl rfl rfl rfl ?_
    refine RegC.done ⟨.inl rfl, ?_⟩
    refine WP.nrm 40 ?_
    refine WP.reg k_mixed fun nm7 hnm7 => ?_
    refine RegC.m (op_move rfl) rfl rfl rfl ?_
    refine RegC.m (op_mulI rfl (by first | omega | (simp only [List.length_append, List.length_map, List.length_cons, List.length_nil, List.length_replicate, List.length_take, List.length_drop, List.length_set]; omega) | (simp <;> omega) | simp_all)) rfl rfl rfl ?_
    refine RegC.q (i := 2) (op_sA10 ((4 * j)) rfl k_arr_76 (by first | omega | (simp only [List.length_append, List.length_map, List.length_cons, List.length_nil, List.length_replicate, List.length_take, List.length_drop, List.length_set]; omega) | (simp <;> omega) | simp_all) (by first | omega | (simp only [List.length_append, List.length_map, List.length_cons, List.length_nil, List.length_replicate, List.length_take, List.length_drop, List.length_set]; omega) | (simp <;> omega) | simp_all) (by first | omega | (simp only [List.length_append, List.length_map, List.length_cons, List.length_nil, List.length_replicate, List.length_take, List.length_drop, List.length_set]; omega) | (simp <;> omega) | simp_all)) rfl rfl rfl rfl ?_
    refine RegC.q (i := 3) (op_sA00 rfl k_arr_133 (by first | omega | (simp only [List.length_append, List.length_map, List.length_cons, List.length_nil, List.length_replicate, List.length_take, List.length_drop, List.length_set]; omega) | (simp <;> omega) | simp_all)) rfl rfl rfl rfl ?_
    refine RegC.wq (i := 2) (j := 3) (op_copyMO (l := s) (l2 := octS ((w)[j]!)) (f := AVal.u8) (fun _ => rfl) rfl rfl k_sl_26 (by first | omega | (simp only [List.length_append, List.length_map, List.length_cons, List.length_nil, List.length_replicate, List.length_take, List.length_drop, List.length_set]; omega) | (simp <;> omega) | simp_all) (by first | omega | (simp only [List.length_append, List.length_map, List.length_cons, List.length_nil, List.length_replicate, List.length_take, List.length_drop, List.length_set]; omega) | (simp <;> omega) | simp_all)) rfl rfl rfl rfl rfl rfl ?_
    refine RegC.done ⟨.inr rfl, ?_⟩
    refine WP.nrm 40 ?_
    refine WP.reg k_mixed fun nm8 hnm8 => ?_
    refine RegC.m (op_addI rfl (by first | omega | (simp only [List.length_append, List.length_map, List.length_cons, List.length_nil, List.length_replicate, List.length_take, List.length_drop, List.length_set]; omega) | (simp <;> omega) | simp_all)) rfl rfl rfl ?_
    refine RegC.m (op_move rfl) rfl rfl rfl ?_
    refine RegC.done ⟨.inl rfl, ?_⟩
    refine WP.nrm 40 ?_
    refine WP.jump (subE.cons rfl (subE.cons rfl (subE.cons rfl (subE.cons rfl (subE.nil))))) (.cons_cons _ (.cons_cons _ (.cons_cons _ (List.nil_sublist _)))) (ih0 _ _ ?_ ?_)
    · rw [state_step w s j (by omega)]; exact ⟨j + 1, by push_cast; rfl, by omega, stateF_length w s j (by omega) ls, by rw [← qs, loopS_next (by omega : j < 16)]⟩
    · omega
  ·
    have ej : j = 16 := by omega
    subst ej
    rw [loopS_end] at qs
    refine WP.nrm 40 ?_
    refine WP.reg k_mixed fun nm9 hnm9 => ?_
    refine RegC.q (i := 2) (op_loadW rfl k_agg_76 (by first | omega | (simp only [List.length_append, List.length_map, List.length_cons, List.length_nil, List.length_replicate, List.length_take, List.length_drop, List.length_set]; omega) | (simp <;> omega) | simp_all)) rfl rfl rfl rfl ?_
    refine RegC.w (i := 1) (op_storeW rfl k_agg_76 (by first | omega | (simp only [List.length_append, List.length_map, List.length_cons, List.length_nil, List.length_replicate, List.length_take, List.length_drop, List.length_set]; omega) | (simp <;> omega) | simp_all) (by first | omega | (simp only [List.length_append, List.length_map, List.length_cons, List.length_nil, List.length_replicate, List.length_take, List.length_drop, List.length_set]; omega) | (simp <;> omega) | simp_all) (by first | exact allS (fun _ => rfl) | simp [AVal.scalar])) rfl rfl rfl rfl ?_
    refine RegC.done ⟨.inl rfl, ?_⟩
    refine WP.nrm 40 ?_
    refine WP.retS (ResV.one rfl (.cellW 1 rfl rfl k_agg_76 (by first | omega | (simp only [List.length_append, List.length_map, List.length_cons, List.length_nil, List.length_replicate, List.length_take, List.length_drop, List.length_set]; omega) | (simp <;> omega) | simp_all))) (List.nil_sublist _) ?_
    exact ⟨by rw [qs], rfl⟩

theorem stir_calls (s : List UInt8) (hs : s.length = 64) : ACalls Try.prog 70 [.agg ((s).map AVal.u8)] [] [] (.agg ((stirS s).map AVal.u8)) [] := by
  refine ACalls.of_wp' (fn := Try.f70) (n := 37) Try.func70 rfl rfl ?_
  unfold Try.f70
  refine WP.nrm 40 ?_
  refine WP.reg k_mixed fun nm1 hnm1 => ?_
  refine RegC.a (op_boxA rfl) rfl rfl rfl ?_
  refine RegC.a (op_alloc rfl k_zero_76) rfl rfl rfl ?_
  refine RegC.done ⟨.inl rfl, ?_⟩
  refine WP.nrm 40 ?_
  refine WP.reg k_mixed fun nm2 hnm2 => ?_
  refine RegC.q (i := 0) (op_loadW rfl k_agg_76 (by first | omega | (simp only [List.length_append, List.length_map, List.length_cons, List.length_nil, List.length_replicate, List.length_take, List.length_drop, List.length_set]; omega) | (simp <;> omega) | simp_all)) rfl rfl rfl rfl ?_
  refine RegC.m (op_call rfl k_call_104 (wordsOf_calls (s) (by first | omega | (simp only [List.length_append, List.length_map, List.length_cons, List.length_nil, List.length_replicate, List.length_take, List.length_drop, List.length_set]; omega) | (simp <;> omega) | simp_all))) rfl rfl rfl ?_
  refine RegC.a (op_alloc rfl k_zero_116) rfl rfl rfl ?_
  refine RegC.w (i := 2) (op_storeW rfl k_agg_116 (by first | omega | (simp only [List.length_append, List.length_map, List.length_cons, List.length_nil, List.length_replicate, List.length_take, List.length_drop, List.length_set]; omega) | (simp <;> omega) | simp_all) (by first | omega | (simp only [List.length_append, List.length_map, List.length_cons, List.length_nil, List.length_replicate, List.length_take, List.length_drop, List.length_set]; omega) | (simp <;> omega) | simp_all) (by first | exact allS (fun _ => rfl) | simp [AVal.scalar])) rfl rfl rfl rfl ?_
  refine RegC.done ⟨.inl rfl, ?_⟩
  refine WP.nrm 40 ?_
  refine WP.reg k_mixed fun nm3 hnm3 => ?_
  refine RegC.m (op_move rfl) rfl rfl rfl ?_
  refine RegC.done ⟨.inl rfl, ?_⟩
  refine WP.nrm 40 ?_
  refine WP.loop2 (fun (r : Int) (w : List UInt32) => [(2, .ptr (nm1 1) (0)), (3, .ptr (nm2 0) (0)), (8, .i (r))]) (fun (r : Int) (w : List UInt32) => [(nm1 0, .vec 76 ((s).map AVal.u8)), (nm1 1, .vec 76 ((List.replicate 64 (0 : UInt8)).map AVal.u8)), (nm2 0, .vec 116 ((w).map AVal.u32))]) (fun (r : Int) (w : List UInt32) => ∃ a : Nat, r = a ∧ a ≤ 8 ∧ w.length = 16 ∧ loopS 8 (roundS) a w = stirW (wordsS s)) (fun (r : Int) (w : List UInt32) => (8 - r).toNat) _ _ (subE.cons rfl (subE.cons rfl (subE.cons rfl (subE.nil)))) (.cons_cons _ (.cons_cons _ (.cons_cons _ (List.nil_sublist _)))) ⟨0, rfl, by omega, by first | (with_reducible assumption) | simp | simp [*], rfl⟩ ?_
  intro r w hI ih0
  obtain ⟨a, rfl, ha, lw, qw⟩ := hI
  refine WP.nrm 40 ?_
  refine WP.reg k_mixed fun nm4 hnm4 => ?_
  refine RegC.m (op_lss rfl) rfl rfl rfl ?_
  refine RegC.done ⟨.inl rfl, ?_⟩
  refine WP.nrm 40 ?_
  refine WP.condD rfl (fun h1 => ?_) (fun h1 => ?_)
  ·
    refine WP.nrm 40 ?_
    refine WP.reg k_mixed fun nm5 hnm5 => ?_
    refine RegC.m (op_move rfl) rfl rfl rfl ?_
    refine RegC.m (op_assign rfl) rfl rfl rfl ?_
    refine RegC.done ⟨.inl rfl, ?_⟩
    refine WP.nrm 40 ?_
    refine WP.reg k_mixed fun nm6 hnm6 => ?_
    refine RegC.m (op_move rfl) rfl rfl rfl ?_
    refine RegC.done ⟨.inl rfl, ?_⟩
    refine WP.nrm 40 ?_
    refine WP.loop2 (fun (i : Int) (v : List UInt32) => [(2, .ptr (nm1 1) (0)), (3, .ptr (nm2 0) (0)), (4, .i ((a : Int))), (8, .i ((a : Int))), (11, .i (i))]) (fun (i : Int) (v : List UInt32) => [(nm1 0, .vec 76 ((s).map AVal.u8)), (nm1 1, .vec 76 ((List.replicate 64 (0 : UInt8)).map AVal.u8)), (nm2 0, .vec 116 ((v).map AVal.u32))]) (fun (i : Int) (v : List UInt32) => ∃ c : Nat, i = c ∧ c ≤ 16 ∧ v.length = 16 ∧ loopS 16 (stepS a) c v = roundS w a) (fun (i : Int) (v : List UInt32) => (16 - i).toNat) _ _ (subE.cons rfl (subE.cons rfl (subE.cons rfl (subE.cons rfl (subE.cons rfl (subE.nil)))))) (.cons_cons _ (.cons_cons _ (.cons_cons _ (List.nil_sublist _)))) ⟨0, rfl, by omega, by first | (with_reducible assumption) | simp | simp [*], rfl⟩ ?_
    intro i v hI ih1
    obtain ⟨c, rfl, hc, lv, qv⟩ := hI
    refine WP.nrm 40 ?_
    refine WP.reg k_mixed fun nm7 hnm7 => ?_
    refine RegC.m (op_lss rfl) rfl rfl rfl ?_
    refine RegC.done ⟨.inl rfl, ?_⟩
    refine WP.nrm 40 ?_
    refine WP.condD rfl (fun h2 => ?_) (fun h2 => ?_)
    ·
      refine WP.nrm 40 ?_
      refine WP.reg k_mixed fun nm8 hnm8 => ?_
      refine RegC.m (op_move rfl) rfl rfl rfl ?_
      refine RegC.m (op_assign rfl) rfl rfl rfl ?_
      refine RegC.done ⟨.inl rfl, ?_⟩
      refine WP.nrm 40 ?_
      refine WP.reg k_mixed fun nm9 hnm9 => ?_
      refine RegC.m (op_move rfl) rfl rfl rfl ?_
      refine RegC.m (op_iA (c) rfl k_arr_116 (by first | omega | (simp only [List.length_append, List.length_map, List.length_cons, List.length_nil, List.length_replicate, List.length_take, List.length_drop, List.length_set]; omega) | (simp <;> omega) | simp_all) (by first | omega | (simp only [List.length_append, List.length_map, List.length_cons, List.length_nil, List.length_replicate, List.length_take, List.length_drop, List.length_set]; omega) | (simp <;> omega) | simp_all)) rfl rfl rfl ?_
      refine RegC.q (i := 2) (op_loadM (f := AVal.u32) (l := v) (n := c) rfl k_scal_102 (by first | omega | (simp only [List.length_append, List.length_map, List.length_cons, List.length_nil, List.length_replicate, List.length_take, List.length_drop, List.length_set]; omega) | (simp <;> omega) | simp_all)) rfl rfl rfl rfl ?_
      refine RegC.m (op_move rfl) rfl rfl rfl ?_
      refine RegC.m (op_move rfl) rfl rfl rfl ?_
      refine RegC.q (i := 2) (op_call rfl k_call_105 (turn_calls (nm2 0) (v) (a) (c) (by first | omega | (simp only [List.length_append, List.length_map, List.length_cons, List.length_nil, List.length_replicate, List.length_take, List.length_drop, List.length_set]; omega) | (simp <;> omega) | simp_all) (by first | omega | (simp only [List.length_append, List.length_map, List.length_cons, List.length_nil, List.length_replicate, List.length_take, List.length_drop, List.length_set]; omega) | (simp <;> omega) | simp_all) (by first | omega | (simp only [List.length_append, List.length_map, List.length_cons, List.length_nil, List.length_replicate, List.length_take, List.length_drop, List.length_set]; omega) | (simp <;> omega) | simp_all))) rfl rfl rfl rfl ?_
      refine RegC.m (op_add32 rfl) rfl rfl rfl ?_
      refine RegC.m (op_iA (c) rfl k_arr_116 (by first | omega | (simp only [List.length_append, List.length_map, List.length_cons, List.length_nil, List.length_replicate, List.length_take, List.length_drop, List.length_set]; omega) | (simp <;> omega) | simp_all) (by first | omega | (simp only [List.length_append, List.length_map, List.length_cons, List.length_nil, List.length_replicate, List.length_take, List.length_drop, List.length_set]; omega) | (simp <;> omega) | simp_all)) rfl rfl rfl ?_
      refine RegC.w (i := 2) (op_storeM (f := AVal.u32) (l := v) (n := c) (v := ((v)[c]! + turnS (v) (a) (c))) rfl k_scal_102 rfl (by first | omega | (simp only [List.length_append, List.length_map, List.length_cons, List.length_nil, List.length_replicate, List.length_take, List.length_drop, List.length_set]; omega) | (simp <;> omega) | simp_all)) rfl rfl rfl rfl ?_
      refine RegC.done ⟨.inr rfl, ?_⟩
      refine WP.nrm 40 ?_
      refine WP.reg k_mixed fun nm10 hnm10 => ?_
      refine RegC.m (op_move rfl) rfl rfl rfl ?_
      refine RegC.m (op_addI rfl (by first | omega | (simp only [List.length_append, List.length_map, List.length_cons, List.length_nil, List.length_replicate, List.length_take, List.length_drop, List.length_set]; omega) | (simp <;> omega) | simp_all)) rfl rfl rfl ?_
      refine RegC.m (op_remI rfl (by first | omega | (simp only [List.length_append, List.length_map, List.length_cons, List.length_nil, List.length_replicate, List.length_take, List.length_drop, List.length_set]; omega) | (simp <;> omega) | simp_all)) rfl rfl rfl ?_
      refine RegC.m (op_iA (((c + 9) % 16)) rfl k_arr_116 (by first | omega | (simp only [List.length_append, List.length_map, List.length_cons, List.length_nil, List.length_replicate, List.length_take, List.length_drop, List.length_set]; omega) | (simp <;> omega) | simp_all) (by first | omega | (simp only [List.length_append, List.length_map, List.length_cons, List.length_nil, List.length_replicate, List.length_take, List.length_drop, List.length_set]; omega) | (simp <;> omega) | simp_all)) rfl rfl rfl ?_
      refine RegC.q (i := 2) (op_loadM (f := AVal.u32) (l := (v).set (c) (((v)[c]! + turnS (v) (a) (c)))) (n := ((c + 9) % 16)) rfl k_scal_102 (by first | omega | (simp only [List.length_append, List.length_map, List.length_cons, List.length_nil, List.length_replicate, List.length_take, List.length_drop, List.length_set]; omega) | (simp <;> omega) | simp_all)) rfl rfl rfl rfl ?_
      refine RegC.m (op_move rfl) rfl rfl rfl ?_
      refine RegC.m (op_iA (c) rfl k_arr_116 (by first | omega | (simp only [List.length_append, List.length_map, List.length_cons, List.length_nil, List.length_replicate, List.length_take, List.length_drop, List.length_set]; omega) | (simp <;> omega) | simp_all) (by first | omega | (simp only [List.length_append, List.length_map, List.length_cons, List.length_nil, List.length_replicate, List.length_take, List.length_drop, List.length_set]; omega) | (simp <;> omega) | simp_all)) rfl rfl rfl ?_
      refine RegC.q (i := 2) (op_loadM (f := AVal.u32) (l := (v).set (c) (((v)[c]! + turnS (v) (a) (c)))) (n := c) rfl k_scal_102 (by first | omega | (simp only [List.length_append, List.length_map, List.length_cons, List.length_nil, List.length_replicate, List.length_take, List.length_drop, List.length_set]; omega) | (simp <;> omega) | simp_all)) rfl rfl rfl rfl ?_
      refine RegC.m (op_call rfl k_call_106 (rot_calls (((v).set (c) (((v)[c]! + turnS (v) (a) (c))))[c]!) (11) (by first | omega | (simp only [List.length_append, List.length_map, List.length_cons, List.length_nil, List.length_replicate, List.length_take, List.length_drop, List.length_set]; omega) | (simp <;> omega) | simp_all) (by first | omega | (simp only [List.length_append, List.length_map, List.length_cons, List.length_nil, List.length_replicate, List.length_take, List.length_drop, List.length_set]; omega) | (simp <;> omega) | simp_all))) rfl rfl rfl ?_
      refine RegC.m (op_xor32 rfl) rfl rfl rfl ?_
      refine RegC.m (op_iA (((c + 9) % 16)) rfl k_arr_116 (by first | omega | (simp only [List.length_append, List.length_map, List.length_cons, List.length_nil, List.length_replicate, List.length_take, List.length_drop, List.length_set]; omega) | (simp <;> omega) | simp_all) (by first | omega | (simp only [List.length_append, List.length_map, List.length_cons, List.length_nil, List.length_replicate, List.length_take, List.length_drop, List.length_set]; omega) | (simp <;> omega) | simp_all)) rfl rfl rfl ?_
      refine RegC.w (i := 2) (op_storeM (f := AVal.u32) (l := (v).set (c) (((v)[c]! + turnS (v) (a) (c)))) (n := ((c + 9) % 16)) (v := (((v).set (c) (((v)[c]! + turnS (v) (a) (c))))[((c + 9) % 16)]! ^^^ rotS (((v).set (c) (((v)[c]! + turnS (v) (a) (c))))[c]!) (11))) rfl k_scal_102 rfl (by first | omega | (simp only [List.length_append, List.length_map, List.length_cons, List.length_nil, List.length_replicate, List.length_take, List.length_drop, List.length_set]; omega) | (simp <;> omega) | simp_all)) rfl rfl rfl rfl ?_
      refine RegC.done ⟨.inr rfl, ?_⟩
      refine WP.nrm 40 ?_
      refine WP.reg k_mixed fun nm11 hnm11 => ?_
      refine RegC.m (op_addI rfl (by first | omega | (simp only [List.length_append, List.length_map, List.length_cons, List.length_nil, List.length_replicate, List.length_take, List.length_drop, List.length_set]; omega) | (simp <;> omega) | simp_all)) rfl rfl rfl ?_
      refine RegC.m (op_move rfl) rfl rfl rfl ?_
      refine RegC.done ⟨.inl rfl, ?_⟩
      refine WP.nrm 40 ?_
      refine WP.jump (subE.cons rfl (subE.cons rfl (subE.cons rfl (subE.cons rfl (subE.cons rfl (subE.nil)))))) (.cons_cons _ (.cons_cons _ (.cons_cons _ (List.nil_sublist _)))) (ih1 _ _ ?_ ?_)
      · exact ⟨c + 1, by push_cast; rfl, by omega, by simp [lv], by rw [← qv, loopS_next (by omega : c < 16)]; rfl⟩
      · omega
    ·
      have ec : c = 16 := by omega
      subst ec
      rw [loopS_end] at qv
      refine WP.nrm 40 ?_
      refine WP.reg k_mixed fun nm12 hnm12 => ?_
      refine RegC.m (op_addI rfl (by first | omega | (simp only [List.length_append, List.length_map, List.length_cons, List.length_nil, List.length_replicate, List.length_take, List.length_drop, List.length_set]; omega) | (simp <;> omega) | simp_all)) rfl rfl rfl ?_
      refine RegC.m (op_move rfl) rfl rfl rfl ?_
      refine RegC.done ⟨.inl rfl, ?_⟩
      refine WP.nrm 40 ?_
      refine WP.jump (subE.cons rfl (subE.cons rfl (subE.cons rfl (subE.nil)))) (.cons_cons _ (.cons_cons _ (.cons_cons _ (List.nil_sublist _)))) (ih0 _ _ ?_ ?_)
      · rw [qv]; exact ⟨a + 1, by push_cast; rfl, by omega, by simp [lw], by rw [← qw, loopS_next (by omega : a < 8)]⟩
      · omega
  ·
    have ea : a = 8 := by omega
    subst ea
    rw [loopS_end] at qw
    refine WP.nrm 40 ?_
    refine WP.reg k_mixed fun nm13 hnm13 => ?_
    refine RegC.q (i := 2) (op_loadW rfl k_agg_116 (by first | omega | (simp only [List.length_append, List.length_map, List.length_cons, List.length_nil, List.length_replicate, List.length_take, List.length_drop, List.length_set]; omega) | (simp <;> omega) | simp_all)) rfl rfl rfl rfl ?_
    refine RegC.m (op_call rfl k_call_107 (stateOf_calls (w) (by first | omega | (simp only [List.length_append, List.length_map, List.length_cons, List.length_nil, List.length_replicate, List.length_take, List.length_drop, List.length_set]; omega) | (simp <;> omega) | simp_all))) rfl rfl rfl ?_
    refine RegC.w (i := 1) (op_storeW rfl k_agg_76 (by first | omega | (simp only [List.length_append, List.length_map, List.length_cons, List.length_nil, List.length_replicate, List.length_take, List.length_drop, List.length_set]; omega) | (simp <;> omega) | simp_all) (by first | omega | (simp only [List.length_append, List.length_map, List.length_cons, List.length_nil, List.length_replicate, List.length_take, List.length_drop, List.length_set]; omega) | (simp <;> omega) | simp_all) (by first | exact allS (fun _ => rfl) | simp [AVal.scalar])) rfl rfl rfl rfl ?_
    refine RegC.done ⟨.inl rfl, ?_⟩
    refine WP.nrm 40 ?_
    refine WP.retS (ResV.one rfl (.cellW 1 rfl rfl k_agg_76 (by first | omega | (simp only [List.length_append, List.length_map, List.length_cons, List.length_nil, List.length_replicate, List.length_take, List.length_drop, List.length_set]; omega) | (simp <;> omega) | simp_all))) (List.nil_sublist _) ?_
    exact ⟨by rw [qw]; rfl, rfl⟩

theorem words1_calls (s : List UInt8) (hs : s.length = 64) : ACalls Try.prog 71 [.agg ((s).map AVal.u8)] [] [] (.agg ((words1 s).map AVal.u32)) [] := by
  refine ACalls.of_wp' (fn := Try.f71) (n := 24) Try.func71 rfl rfl ?_
  unfold Try.f71
  refine WP.nrm 40 ?_
  refine WP.reg k_mixed fun nm1 hnm1 => ?_
  refine RegC.a (op_boxA rfl) rfl rfl rfl ?_
  refine RegC.a (op_alloc rfl k_zero_116) rfl rfl rfl ?_
  refine RegC.done ⟨.inl rfl, ?_⟩
  refine WP.nrm 40 ?_
  refine WP.reg k_mixed fun nm2 hnm2 => ?_
  refine RegC.a (op_alloc rfl k_zero_116) rfl rfl rfl ?_
  refine RegC.done ⟨.inl rfl, ?_⟩
  refine WP.nrm 40 ?_
  refine WP.reg k_mixed fun nm3 hnm3 => ?_
  refine RegC.q (i := 0) (op_loadW rfl k_agg_76 (by first | omega | (simp only [List.length_append, List.length_map, List.length_cons, List.length_nil, List.length_replicate, List.length_take, List.length_drop, List.length_set]; omega) | (simp <;> omega) | simp_all)) rfl rfl rfl rfl ?_
  refine RegC.m (op_move rfl) rfl rfl rfl ?_
  refine RegC.done ⟨.inl rfl, ?_⟩
  refine WP.nrm 40 ?_
  refine WP.loop2 (fun (i : Int) (w : List UInt32) => [(2, .ptr (nm1 1) (0)), (3, .ptr (nm2 0) (0)), (6, .agg ((s).map AVal.u8)), (7, .i (i))]) (fun (i : Int) (w : List UInt32) => [(nm1 0, .vec 76 ((s).map AVal.u8)), (nm1 1, .vec 116 ((List.replicate 16 (0 : UInt32)).map AVal.u32)), (nm2 0, .vec 116 ((w).map AVal.u32))]) (fun (i : Int) (w : List UInt32) => ∃ j : Nat, i = j ∧ j ≤ 64 ∧ w.length = 16 ∧ loopS 64 (words1F s) j w = words1 s) (fun (i : Int) (w : List UInt32) => (64 - i).toNat) _ _ (subE.cons rfl (subE.cons rfl (subE.cons rfl (subE.cons rfl (subE.nil))))) (.cons_cons _ (.cons_cons _ (.cons_cons _ (List.nil_sublist _)))) ⟨0, rfl, by omega, by first | (with_reducible assumption) | simp | simp [*], rfl⟩ ?_
  intro i w hI ih0
  obtain ⟨j, rfl, hj, lw, qw⟩ := hI
  refine WP.nrm 40 ?_
  refine WP.reg k_mixed fun nm4 hnm4 => ?_
  refine RegC.m (op_lss rfl) rfl rfl rfl ?_
  refine RegC.done ⟨.inl rfl, ?_⟩
  refine WP.nrm 40 ?_
  refine WP.condD rfl (fun h1 => ?_) (fun h1 => ?_)
  ·
    refine WP.nrm 40 ?_
    refine WP.reg k_mixed fun nm5 hnm5 => ?_
    refine RegC.m (op_move rfl) rfl rfl rfl ?_
    refine RegC.m (op_xA (f := AVal.u8) (l := s) (j) rfl k_arr_76 k_scal_5 (by first | omega | (simp only [List.length_append, List.length_map, List.length_cons, List.length_nil, List.length_replicate, List.length_take, List.length_drop, List.length_set]; omega) | (simp <;> omega) | simp_all) (by first | omega | (simp only [List.length_append, List.length_map, List.length_cons, List.length_nil, List.length_replicate, List.length_take, List.length_drop, List.length_set]; omega) | (simp <;> omega) | simp_all) (by first | omega | (simp only [List.length_append, List.length_map, List.length_cons, List.length_nil, List.length_replicate, List.length_take, List.length_drop, List.length_set]; omega) | (simp <;> omega) | simp_all)) rfl rfl rfl ?_
    refine RegC.m (op_assign rfl) rfl rfl rfl ?_
    refine RegC.m (op_assign rfl) rfl rfl rfl ?_
    refine RegC.done ⟨.inl rfl, ?_⟩
    refine WP.nrm 40 ?_
    refine WP.reg k_mixed fun nm6 hnm6 => ?_
    refine RegC.m (op_move rfl) rfl rfl rfl ?_
    refine RegC.m (op_quoI rfl (by first | omega | (simp only [List.length_append, List.length_map, List.length_cons, List.length_nil, List.length_replicate, List.length_take, List.length_drop, List.length_set]; omega) | (simp <;> omega) | simp_all)) rfl rfl rfl ?_
    refine RegC.m (op_move rfl) rfl rfl rfl ?_
    refine RegC.m (op_quoI rfl (by first | omega | (simp only [List.length_append, List.length_map, List.length_cons, List.length_nil, List.length_replicate, List.length_take, List.length_drop, List.length_set]; omega) | (simp <;> omega) | simp_all)) rfl rfl rfl ?_
    refine RegC.m (op_iA ((j / 4)) rfl k_arr_116 (by first | omega | (simp only [List.length_append, List.length_map, List.length_cons, List.length_nil, List.length_replicate, List.length_take, List.length_drop, List.length_set]; omega) | (simp <;> omega) | simp_all) (by first | omega | (simp only [List.length_append, List.length_map, List.length_cons, List.length_nil, List.length_replicate, List.length_take, List.length_drop, List.length_set]; omega) | (simp <;> omega) | simp_all)) rfl rfl rfl ?_
    refine RegC.q (i := 2) (op_loadM (f := AVal.u32) (l := w) (n := (j / 4)) rfl k_scal_102 (by first | omega | (simp only [List.length_append, List.length_map, List.length_cons, List.length_nil, List.length_replicate, List.length_take, List.length_drop, List.length_set]; omega) | (simp <;> omega) | simp_all)) rfl rfl rfl rfl ?_
    refine RegC.m (op_shl32 (8) rfl (by first | omega | (simp only [List.length_append, List.length_map, List.length_cons, List.length_nil, List.length_replicate, List.length_take, List.length_drop, List.length_set]; omega) | (simp <;> omega) | simp_all)) rfl rfl rfl ?_
    refine RegC.m (op_move rfl) rfl rfl rfl ?_
    refine RegC.m (op_cv rfl k_und_5 k_undI_102 cv_8_32) rfl rfl rfl ?_
    refine RegC.m (op_or32 rfl) rfl rfl rfl ?_
    refine RegC.m (op_iA ((j / 4)) rfl k_arr_116 (by first | omega | (simp only [List.length_append, List.length_map, List.length_cons, List.length_nil, List.length_replicate, List.length_take, List.length_drop, List.length_set]; omega) | (simp <;> omega) | simp_all) (by first | omega | (simp only [List.length_append, List.length_map, List.length_cons, List.length_nil, List.length_replicate, List.length_take, List.length_drop, List.length_set]; omega) | (simp <;> omega) | simp_all)) rfl rfl rfl ?_
    refine RegC.w (i := 2) (op_storeM (f := AVal.u32) (l := w) (n := (j / 4)) (v := (((w)[(j / 4)]! <<< UInt32.ofNat (8)) ||| ((s)[j]!).toUInt32)) rfl k_scal_102 rfl (by first | omega | (simp only [List.length_append, List.length_map, List.length_cons, List.length_nil, List.length_replicate, List.length_take, List.length_drop, List.length_set]; omega) | (simp <;> omega) | simp_all)) rfl rfl rfl rfl ?_
    refine RegC.done ⟨.inl rfl, ?_⟩
    refine WP.nrm 40 ?_
    refine WP.reg k_mixed fun nm7 hnm7 => ?_
    refine RegC.m (op_addI rfl (by first | omega | (simp only [List.length_append, List.length_map, List.length_cons, List.length_nil, List.length_replicate, List.length_take, List.length_drop, List.length_set]; omega) | (simp <;> omega) | simp_all)) rfl rfl rfl ?_
    refine RegC.m (op_move rfl) rfl rfl rfl ?_
    refine RegC.done ⟨.inl rfl, ?_⟩
    refine WP.nrm 40 ?_
    refine WP.jump (subE.cons rfl (subE.cons rfl (subE.cons rfl (subE.cons rfl (subE.nil))))) (.cons_cons _ (.cons_cons _ (.cons_cons _ (List.nil_sublist _)))) (ih0 _ _ ?_ ?_)
    · exact ⟨j + 1, by push_cast; rfl, by omega, by simp [lw], by rw [← qw, loopS_next (by omega : j < 64)]; rfl⟩
    · omega
  ·
    have ej : j = 64 := by omega
    subst ej
    rw [loopS_end] at qw
    refine WP.nrm 40 ?_
    refine WP.reg k_mixed fun nm8 hnm8 => ?_
    refine RegC.q (i := 2) (op_loadW rfl k_agg_116 (by first | omega | (simp only [List.length_append, List.length_map, List.length_cons, List.length_nil, List.length_replicate, List.length_take, List.length_drop, List.length_set]; omega) | (simp <;> omega) | simp_all)) rfl rfl rfl rfl ?_
    refine RegC.w (i := 1) (op_storeW rfl k_agg_116 (by first | omega | (simp only [List.length_append, List.length_map, List.length_cons, List.length_nil, List.length_replicate, List.length_take, List.length_drop, List.length_set]; omega) | (simp <;> omega) | simp_all) (by first | omega | (simp only [List.length_append, List.length_map, List.length_cons, List.length_nil, List.length_replicate, List.length_take, List.length_drop, List.length_set]; omega) | (simp <;> omega) | simp_all) (by first | exact allS (fun _ => rfl) | simp [AVal.scalar])) rfl rfl rfl rfl ?_
    refine RegC.done ⟨.inl rfl, ?_⟩
    refine WP.nrm 40 ?_
    refine WP.retS (ResV.one rfl (.cellW 1 rfl rfl k_agg_116 (by first | omega | (simp only [List.length_append, List.length_map, List.length_cons, List.length_nil, List.length_replicate, List.length_take, List.length_drop, List.length_set]; omega) | (simp <;> omega) | simp_all))) (List.nil_sublist _) ?_
    exact ⟨by rw [qw], rfl⟩

theorem octs1_calls (w : List UInt32) (hw : w.length = 16) : ACalls Try.prog 73 [.agg ((w).map AVal.u32)] [] [] (.agg ((octs1 w).map AVal.u8)) [] := by
  refine ACalls.of_wp' (fn := Try.f73) (n := 22) Try.func73 rfl rfl ?_
  unfold Try.f73
  refine WP.nrm 40 ?_
  refine WP.reg k_mixed fun nm1 hnm1 => ?_
  refine RegC.a (op_boxA rfl) rfl rfl rfl ?_
  refine RegC.a (op_alloc rfl k_zero_76) rfl rfl rfl ?_
  refine RegC.done ⟨.inl rfl, ?_⟩
  refine WP.nrm 40 ?_
  refine WP.reg k_mixed fun nm2 hnm2 => ?_
  refine RegC.a (op_alloc rfl k_zero_76) rfl rfl rfl ?_
  refine RegC.done ⟨.inl rfl, ?_⟩
  refine WP.nrm 40 ?_
  refine WP.reg k_mixed fun nm3 hnm3 => ?_
  refine RegC.m (op_move rfl) rfl rfl rfl ?_
  refine RegC.done ⟨.inl rfl, ?_⟩
  refine WP.nrm 40 ?_
  refine WP.loop2 (fun (i : Int) (s : List UInt8) => [(1, .ptr (nm1 0) (0)), (2, .ptr (nm1 1) (0)), (3, .ptr (nm2 0) (0)), (5, .i (i))]) (fun (i : Int) (s : List UInt8) => [(nm1 0, .vec 116 ((w).map AVal.u32)), (nm1 1, .vec 76 ((List.replicate 64 (0 : UInt8)).map AVal.u8)), (nm2 0, .vec 76 ((s).map AVal.u8))]) (fun (i : Int) (s : List UInt8) => ∃ j : Nat, i = j ∧ j ≤ 64 ∧ s.length = 64 ∧ loopS 64 (octs1F w) j s = octs1 w) (fun (i : Int) (s : List UInt8) => (64 - i).toNat) _ _ (subE.cons rfl (subE.cons rfl (subE.cons rfl (subE.cons rfl (subE.nil))))) (.cons_cons _ (.cons_cons _ (.cons_cons _ (List.nil_sublist _)))) ⟨0, rfl, by omega, by first | (with_reducible assumption) | simp | simp [*], rfl⟩ ?_
  intro i s hI ih0
  obtain ⟨j, rfl, hj, ls, qs⟩ := hI
  refine WP.nrm 40 ?_
  refine WP.reg k_mixed fun nm4 hnm4 => ?_
  refine RegC.m (op_lss rfl) rfl rfl rfl ?_
  refine RegC.done ⟨.inl rfl, ?_⟩
  refine WP.nrm 40 ?_
  refine WP.condD rfl (fun h1 => ?_) (fun h1 => ?_)
  ·
    refine WP.nrm 40 ?_
    refine WP.reg k_mixed fun nm5 hnm5 => ?_
    refine RegC.m (op_move rfl) rfl rfl rfl ?_
    refine RegC.m (op_assign rfl) rfl rfl rfl ?_
    refine RegC.done ⟨.inl rfl, ?_⟩
    refine WP.nrm 40 ?_
    refine WP.reg k_mixed fun nm6 hnm6 => ?_
    refine RegC.m (op_move rfl) rfl rfl rfl ?_
    refine RegC.m (op_move rfl) rfl rfl rfl ?_
    refine RegC.m (op_quoI rfl (by first | omega | (simp only [List.length_append, List.length_map, List.length_cons, List.length_nil, List.length_replicate, List.length_take, List.length_drop, List.length_set]; omega) | (simp <;> omega) | simp_all)) rfl rfl rfl ?_
    refine RegC.m (op_iA ((j / 4)) rfl k_arr_116 (by first | omega | (simp only [List.length_append, List.length_map, List.length_cons, List.length_nil, List.length_replicate, List.length_take, List.length_drop, List.length_set]; omega) | (simp <;> omega) | simp_all) (by first | omega | (simp only [List.length_append, List.length_map, List.length_cons, List.length_nil, List.length_replicate, List.length_take, List.length_drop, List.length_set]; omega) | (simp <;> omega) | simp_all)) rfl rfl rfl ?_
    refine RegC.q (i := 0) (op_loadM (f := AVal.u32) (l := w) (n := (j / 4)) rfl k_scal_102 (by first | omega | (simp only [List.length_append, List.length_map, List.length_cons, List.length_nil, List.length_replicate, List.length_take, List.length_drop, List.length_set]; omega) | (simp <;> omega) | simp_all)) rfl rfl rfl rfl ?_
    refine RegC.m (op_move rfl) rfl rfl rfl ?_
    refine RegC.m (op_remI rfl (by first | omega | (simp only [List.length_append, List.length_map, List.length_cons, List.length_nil, List.length_replicate, List.length_take, List.length_drop, List.length_set]; omega) | (simp <;> omega) | simp_all)) rfl rfl rfl ?_
    refine RegC.m (op_mulI rfl (by first | omega | (simp only [List.length_append, List.length_map, List.length_cons, List.length_nil, List.length_replicate, List.length_take, List.length_drop, List.length_set]; omega) | (simp <;> omega) | simp_all)) rfl rfl rfl ?_
    refine RegC.m (op_subI rfl (by first | omega | (simp only [List.length_append, List.length_map, List.length_cons, List.length_nil, List.length_replicate, List.length_take, List.length_drop, List.length_set]; omega) | (simp <;> omega) | simp_all)) rfl rfl rfl ?_
    refine RegC.m (op_shr32 (24 - 8 * (j % 4)) rfl (by first | omega | (simp only [List.length_append, List.length_map, List.length_cons, List.length_nil, List.length_replicate, List.length_take, List.length_drop, List.length_set]; omega) | (simp <;> omega) | simp_all)) rfl rfl rfl ?_
    refine RegC.m (op_cv rfl k_und_102 k_undI_5 cv_32_8) rfl rfl rfl ?_
    refine RegC.m (op_iA (j) rfl k_arr_76 (by first | omega | (simp only [List.length_append, List.length_map, List.length_cons, List.length_nil, List.length_replicate, List.length_take, List.length_drop, List.length_set]; omega) | (simp <;> omega) | simp_all) (by first | omega | (simp only [List.length_append, List.length_map, List.length_cons, List.length_nil, List.length_replicate, List.length_take, List.length_drop, List.length_set]; omega) | (simp <;> omega) | simp_all)) rfl rfl rfl ?_
    refine RegC.w (i := 2) (op_storeM (f := AVal.u8) (l := s) (n := j) (v := (((w)[(j / 4)]! >>> UInt32.ofNat (24 - 8 * (j % 4)))).toUInt8) rfl k_scal_5 rfl (by first | omega | (simp only [List.length_append, List.length_map, List.length_cons, List.length_nil, List.length_replicate, List.length_take, List.length_drop, List.length_set]; omega) | (simp <;> omega) | simp_all)) rfl rfl rfl rfl ?_
    refine RegC.done ⟨.inl rfl, ?_⟩
    refine WP.nrm 40 ?_
    refine WP.reg k_mixed fun nm7 hnm7 => ?_
    refine RegC.m (op_addI rfl (by first | omega | (simp only [List.length_append, List.length_map, List.length_cons, List.length_nil, List.length_replicate, List.length_take, List.length_drop, List.length_set]; omega) | (simp <;> omega) | simp_all)) rfl rfl rfl ?_
    refine RegC.m (op_move rfl) rfl rfl rfl ?_
    refine RegC.done ⟨.inl rfl, ?_⟩
    refine WP.nrm 40 ?_
    refine WP.jump (subE.cons rfl (subE.cons rfl (subE.cons rfl (subE.cons rfl (subE.nil))))) (.cons_cons _ (.cons_cons _ (.cons_cons _ (List.nil_sublist _)))) (ih0 _ _ ?_ ?_)
    · exact ⟨j + 1, by push_cast; rfl, by omega, by simp [ls], by rw [← qs, loopS_next (by omega : j < 64)]; rfl⟩
    · omega
  ·
    have ej : j = 64 := by omega
    subst ej
    rw [loopS_end] at qs
    refine WP.nrm 40 ?_
    refine WP.reg k_mixed fun nm8 hnm8 => ?_
    refine RegC.q (i := 2) (op_loadW rfl k_agg_76 (by first | omega | (simp only [List.length_append, List.length_map, List.length_cons, List.length_nil, List.length_replicate, List.length_take, List.length_drop, List.length_set]; omega) | (simp <;> omega) | simp_all)) rfl rfl rfl rfl ?_
    refine RegC.w (i := 1) (op_storeW rfl k_agg_76 (by first | omega | (simp only [List.length_append, List.length_map, List.length_cons, List.length_nil, List.length_replicate, List.length_take, List.length_drop, List.length_set]; omega) | (simp <;> omega) | simp_all) (by first | omega | (simp only [List.length_append, List.length_map, List.length_cons, List.length_nil, List.length_replicate, List.length_take, List.length_drop, List.length_set]; omega) | (simp <;> omega) | simp_all) (by first | exact allS (fun _ => rfl) | simp [AVal.scalar])) rfl rfl rfl rfl ?_
    refine RegC.done ⟨.inl rfl, ?_⟩
    refine WP.nrm 40 ?_
    refine WP.retS (ResV.one rfl (.cellW 1 rfl rfl k_agg_76 (by first | omega | (simp only [List.length_append, List.length_map, List.length_cons, List.length_nil, List.length_replicate, List.length_take, List.length_drop, List.length_set]; omega) | (simp <;> omega) | simp_all))) (List.nil_sublist _) ?_
    exact ⟨by rw [qs], rfl⟩

theorem stir1_calls (s : List UInt8) (hs : s.length = 64) : ACalls Try.prog 37 [.agg ((s).map AVal.u8)] [] [] (.agg ((stir1 s).map AVal.u8)) [] := by
  refine ACalls.of_wp' (fn := Try.f37) (n := 56) Try.func37 rfl rfl ?_
  unfold Try.f37
  refine WP.nrm 40 ?_
  refine WP.reg k_mixed fun nm1 hnm1 => ?_
  refine RegC.a (op_boxA rfl) rfl rfl rfl ?_
  refine RegC.a (op_alloc rfl k_zero_76) rfl rfl rfl ?_
  refine RegC.done ⟨.inl rfl, ?_⟩
  refine WP.nrm 40 ?_
  refine WP.reg k_mixed fun nm2 hnm2 => ?_
  refine RegC.q (i := 0) (op_loadW rfl k_agg_76 (by first | omega | (simp only [List.length_append, List.length_map, List.length_cons, List.length_nil, List.length_replicate, List.length_take, List.length_drop, List.length_set]; omega) | (simp <;> omega) | simp_all)) rfl rfl rfl rfl ?_
  refine RegC.m (op_call rfl k_call_71 (words1_calls (s) (by first | omega | (simp only [List.length_append, List.length_map, List.length_cons, List.length_nil, List.length_replicate, List.length_take, List.length_drop, List.length_set]; omega) | (simp <;> omega) | simp_all))) rfl rfl rfl ?_
  refine RegC.a (op_alloc rfl k_zero_116) rfl rfl rfl ?_
  refine RegC.w (i := 2) (op_storeW rfl k_agg_116 (by first | omega | (simp only [List.length_append, List.length_map, List.length_cons, List.length_nil, List.length_replicate, List.length_take, List.length_drop, List.length_set]; omega) | (simp <;> omega) | simp_all) (by first | omega | (simp only [List.length_append, List.length_map, List.length_cons, List.length_nil, List.length_replicate, List.length_take, List.length_drop, List.length_set]; omega) | (simp <;> omega) | simp_all) (by first | exact allS (fun _ => rfl) | simp [AVal.scalar])) rfl rfl rfl rfl ?_
  refine RegC.done ⟨.inl rfl, ?_⟩
  refine WP.nrm 40 ?_
  refine WP.reg k_mixed fun nm3 hnm3 => ?_
  refine RegC.m (op_move rfl) rfl rfl rfl ?_
  refine RegC.done ⟨.inl rfl, ?_⟩
  refine WP.nrm 40 ?_
  refine WP.loop2 (fun (r : Int) (w : List UInt32) => [(2, .ptr (nm1 1) (0)), (3, .ptr (nm2 0) (0)), (10, .i (r))]) (fun (r : Int) (w : List UInt32) => [(nm1 0, .vec 76 ((s).map AVal.u8)), (nm1 1, .vec 76 ((List.replicate 64 (0 : UInt8)).map AVal.u8)), (nm2 0, .vec 116 ((w).map AVal.u32))]) (fun (r : Int) (w : List UInt32) => ∃ a : Nat, r = a ∧ a ≤ 8 ∧ w.length = 16 ∧ loopS 8 (round1) a w = stirW1 (words1 s)) (fun (r : Int) (w : List UInt32) => (8 - r).toNat) _ _ (subE.cons rfl (subE.cons rfl (subE.cons rfl (subE.nil)))) (.cons_cons _ (.cons_cons _ (.cons_cons _ (List.nil_sublist _)))) ⟨0, rfl, by omega, by first | (with_reducible assumption) | simp | simp [*], rfl⟩ ?_
  intro r w hI ih0
  obtain ⟨a, rfl, ha, lw, qw⟩ := hI
  refine WP.nrm 40 ?_
  refine WP.reg k_mixed fun nm4 hnm4 => ?_
  refine RegC.m (op_lss rfl) rfl rfl rfl ?_
  refine RegC.done ⟨.inl rfl, ?_⟩
  refine WP.nrm 40 ?_
  refine WP.condD rfl (fun h1 => ?_) (fun h1 => ?_)
  ·
    refine WP.nrm 40 ?_
    refine WP.reg k_mixed fun nm5 hnm5 => ?_
    refine RegC.m (op_move rfl) rfl rfl rfl ?_
    refine RegC.m (op_assign rfl) rfl rfl rfl ?_
    refine RegC.done ⟨.inl rfl, ?_⟩
    refine WP.nrm 40 ?_
    refine WP.reg k_mixed fun nm6 hnm6 => ?_
    refine RegC.m (op_move rfl) rfl rfl rfl ?_
    refine RegC.done ⟨.inl rfl, ?_⟩
    refine WP.nrm 40 ?_
    refine WP.loop2 (fun (i : Int) (v : List UInt32) => [(2, .ptr (nm1 1) (0)), (3, .ptr (nm2 0) (0)), (4, .i ((a : Int))), (10, .i ((a : Int))), (13, .i (i))]) (fun (i : Int) (v : List UInt32) => [(nm1 0, .vec 76 ((s).map AVal.u8)), (nm1 1, .vec 76 ((List.replicate 64 (0 : UInt8)).map AVal.u8)), (nm2 0, .vec 116 ((v).map AVal.u32))]) (fun (i : Int) (v : List UInt32) => ∃ c : Nat, i = c ∧ c ≤ 16 ∧ v.length = 16 ∧ loopS 16 (step1 a) c v = round1 w a) (fun (i : Int) (v : List UInt32) => (16 - i).toNat) _ _ (subE.cons rfl (subE.cons rfl (subE.cons rfl (subE.cons rfl (subE.cons rfl (subE.nil)))))) (.cons_cons _ (.cons_cons _ (.cons_cons _ (List.nil_sublist _)))) ⟨0, rfl, by omega, by first | (with_reducible assumption) | simp | simp [*], rfl⟩ ?_
    intro i v hI ih1
    obtain ⟨c, rfl, hc, lv, qv⟩ := hI
    refine WP.nrm 40 ?_
    refine WP.reg k_mixed fun nm7 hnm7 => ?_
    refine RegC.m (op_lss rfl) rfl rfl rfl ?_
    refine RegC.done ⟨.inl rfl, ?_⟩
    refine WP.nrm 40 ?_
    refine WP.condD rfl (fun h2 => ?_) (fun h2 => ?_)
    ·
      refine WP.nrm 40 ?_
      refine WP.reg k_mixed fun nm8 hnm8 => ?_
      refine RegC.m (op_move rfl) rfl rfl rfl ?_
      refine RegC.m (op_assign rfl) rfl rfl rfl ?_
      refine RegC.done ⟨.inl rfl, ?_⟩
      refine WP.nrm 40 ?_
      refine WP.reg k_mixed fun nm9 hnm9 => ?_
      refine RegC.m (op_move rfl) rfl rfl rfl ?_
      refine RegC.m (op_addI rfl (by first | omega | (simp only [List.length_append, List.length_map, List.length_cons, List.length_nil, List.length_replicate, List.length_take, List.length_drop, List.length_set]; omega) | (simp <;> omega) | simp_all)) rfl rfl rfl ?_
      refine RegC.m (op_move rfl) rfl rfl rfl ?_
      refine RegC.m (op_addI rfl (by first | omega | (simp only [List.length_append, List.length_map, List.length_cons, List.length_nil, List.length_replicate, List.length_take, List.length_drop, List.length_set]; omega) | (simp <;> omega) | simp_all)) rfl rfl rfl ?_
      refine RegC.m (op_remI rfl (by first | omega | (simp only [List.length_append, List.length_map, List.length_cons, List.length_nil, List.length_replicate, List.length_take, List.length_drop, List.length_set]; omega) | (simp <;> omega) | simp_all)) rfl rfl rfl ?_
      refine RegC.m (op_move rfl) rfl rfl rfl ?_
      refine RegC.m (op_addI rfl (by first | omega | (simp only [List.length_append, List.length_map, List.length_cons, List.length_nil, List.length_replicate, List.length_take, List.length_drop, List.length_set]; omega) | (simp <;> omega) | simp_all)) rfl rfl rfl ?_
      refine RegC.m (op_remI rfl (by first | omega | (simp only [List.length_append, List.length_map, List.length_cons, List.length_nil, List.length_replicate, List.length_take, List.length_drop, List.length_set]; omega) | (simp <;> omega) | simp_all)) rfl rfl rfl ?_
      refine RegC.m (op_assign rfl) rfl rfl rfl ?_
      refine RegC.m (op_assign rfl) rfl rfl rfl ?_
      refine RegC.done ⟨.inl rfl, ?_⟩
      refine WP.nrm 40 ?_
      refine WP.reg k_mixed fun nm10 hnm10 => ?_
      refine RegC.m (op_move rfl) rfl rfl rfl ?_
      refine RegC.m (op_iA (c) rfl k_arr_116 (by first | omega | (simp only [List.length_append, List.length_map, List.length_cons, List.length_nil, List.length_replicate, List.length_take, List.length_drop, List.length_set]; omega) | (simp <;> omega) | simp_all) (by first | omega | (simp only [List.length_append, List.length_map, List.length_cons, List.length_nil, List.length_replicate, List.length_take, List.length_drop, List.length_set]; omega) | (simp <;> omega) | simp_all)) rfl rfl rfl ?_
      refine RegC.q (i := 2) (op_loadM (f := AVal.u32) (l := v) (n := c) rfl k_scal_102 (by first | omega | (simp only [List.length_append, List.length_map, List.length_cons, List.length_nil, List.length_replicate, List.length_take, List.length_drop, List.length_set]; omega) | (simp <;> omega) | simp_all)) rfl rfl rfl rfl ?_
      refine RegC.m (op_move rfl) rfl rfl rfl ?_
      refine RegC.m (op_iA ((((c + 1) + a) % 16)) rfl k_arr_116 (by first | omega | (simp only [List.length_append, List.length_map, List.length_cons, List.length_nil, List.length_replicate, List.length_take, List.length_drop, List.length_set]; omega) | (simp <;> omega) | simp_all) (by first | omega | (simp only [List.length_append, List.length_map, List.length_cons, List.length_nil, List.length_replicate, List.length_take, List.length_drop, List.length_set]; omega) | (simp <;> omega) | simp_all)) rfl rfl rfl ?_
      refine RegC.q (i := 2) (op_loadM (f := AVal.u32) (l := v) (n := (((c + 1) + a) % 16)) rfl k_scal_102 (by first | omega | (simp only [List.length_append, List.length_map, List.length_cons, List.length_nil, List.length_replicate, List.length_take, List.length_drop, List.length_set]; omega) | (simp <;> omega) | simp_all)) rfl rfl rfl rfl ?_
      refine RegC.m (op_move rfl) rfl rfl rfl ?_
      refine RegC.m (op_addI rfl (by first | omega | (simp only [List.length_append, List.length_map, List.length_cons, List.length_nil, List.length_replicate, List.length_take, List.length_drop, List.length_set]; omega) | (simp <;> omega) | simp_all)) rfl rfl rfl ?_
      refine RegC.m (op_call rfl k_call_72 (turn1_calls ((v)[(((c + 1) + a) % 16)]!) ((5 + c)) (by first | omega | (simp only [List.length_append, List.length_map, List.length_cons, List.length_nil, List.length_replicate, List.length_take, List.length_drop, List.length_set]; omega) | (simp <;> omega) | simp_all) (by first | omega | (simp only [List.length_append, List.length_map, List.length_cons, List.length_nil, List.length_replicate, List.length_take, List.length_drop, List.length_set]; omega) | (simp <;> omega) | simp_all))) rfl rfl rfl ?_
      refine RegC.m (op_move rfl) rfl rfl rfl ?_
      refine RegC.m (op_mulI rfl (by first | omega | (simp only [List.length_append, List.length_map, List.length_cons, List.length_nil, List.length_replicate, List.length_take, List.length_drop, List.length_set]; omega) | (simp <;> omega) | simp_all)) rfl rfl rfl ?_
      refine RegC.m (op_move rfl) rfl rfl rfl ?_
      refine RegC.m (op_addI rfl (by first | omega | (simp only [List.length_append, List.length_map, List.length_cons, List.length_nil, List.length_replicate, List.length_take, List.length_drop, List.length_set]; omega) | (simp <;> omega) | simp_all)) rfl rfl rfl ?_
      refine RegC.m (op_addI rfl (by first | omega | (simp only [List.length_append, List.length_map, List.length_cons, List.length_nil, List.length_replicate, List.length_take, List.length_drop, List.length_set]; omega) | (simp <;> omega) | simp_all)) rfl rfl rfl ?_
      refine RegC.m (op_cv rfl k_und_3 k_undI_102 (cv_i_32 (by first | exact Int.natCast_nonneg _ | omega))) rfl rfl rfl ?_
      refine RegC.m (op_mul32 (a := (2654435769 : UInt32)) rfl) rfl rfl rfl ?_
      refine RegC.m (op_xor32 rfl) rfl rfl rfl ?_
      refine RegC.m (op_add32 rfl) rfl rfl rfl ?_
      refine RegC.m (op_iA (c) rfl k_arr_116 (by first | omega | (simp only [List.length_append, List.length_map, List.length_cons, List.length_nil, List.length_replicate, List.length_take, List.length_drop, List.length_set]; omega) | (simp <;> omega) | simp_all) (by first | omega | (simp only [List.length_append, List.length_map, List.length_cons, List.length_nil, List.length_replicate, List.length_take, List.length_drop, List.length_set]; omega) | (simp <;> omega) | simp_all)) rfl rfl rfl ?_
      refine RegC.w (i := 2) (op_storeM (f := AVal.u32) (l := v) (n := c) (v := ((v)[c]! + (rotS ((v)[(((c + 1) + a) % 16)]!) ((5 + c)) ^^^ ((2654435769 : UInt32) * UInt32.ofNat ((((16 * a) + c) + 1)))))) rfl k_scal_102 rfl (by first | omega | (simp only [List.length_append, List.length_map, List.length_cons, List.length_nil, List.length_replicate, List.length_take, List.length_drop, List.length_set]; omega) | (simp <;> omega) | simp_all)) rfl rfl rfl rfl ?_
      refine RegC.done ⟨.inr rfl, ?_⟩
      refine WP.nrm 40 ?_
      refine WP.reg k_mixed fun nm11 hnm11 => ?_
      refine RegC.m (op_move rfl) rfl rfl rfl ?_
      refine RegC.m (op_iA (((c + 9) % 16)) rfl k_arr_116 (by first | omega | (simp only [List.length_append, List.length_map, List.length_cons, List.length_nil, List.length_replicate, List.length_take, List.length_drop, List.length_set]; omega) | (simp <;> omega) | simp_all) (by first | omega | (simp only [List.length_append, List.length_map, List.length_cons, List.length_nil, List.length_replicate, List.length_take, List.length_drop, List.length_set]; omega) | (simp <;> omega) | simp_all)) rfl rfl rfl ?_
      refine RegC.q (i := 2) (op_loadM (f := AVal.u32) (l := (v).set (c) (((v)[c]! + (rotS ((v)[(((c + 1) + a) % 16)]!) ((5 + c)) ^^^ ((2654435769 : UInt32) * UInt32.ofNat ((((16 * a) + c) + 1))))))) (n := ((c + 9) % 16)) rfl k_scal_102 (by first | omega | (simp only [List.length_append, List.length_map, List.length_cons, List.length_nil, List.length_replicate, List.length_take, List.length_drop, List.length_set]; omega) | (simp <;> omega) | simp_all)) rfl rfl rfl rfl ?_
      refine RegC.m (op_move rfl) rfl rfl rfl ?_
      refine RegC.m (op_iA (c) rfl k_arr_116 (by first | omega | (simp only [List.length_append, List.length_map, List.length_cons, List.length_nil, List.length_replicate, List.length_take, List.length_drop, List.length_set]; omega) | (simp <;> omega) | simp_all) (by first | omega | (simp only [List.length_append, List.length_map, List.length_cons, List.length_nil, List.length_replicate, List.length_take, List.length_drop, List.length_set]; omega) | (simp <;> omega) | simp_all)) rfl rfl rfl ?_
      refine RegC.q (i := 2) (op_loadM (f := AVal.u32) (l := (v).set (c) (((v)[c]! + (rotS ((v)[(((c + 1) + a) % 16)]!) ((5 + c)) ^^^ ((2654435769 : UInt32) * UInt32.ofNat ((((16 * a) + c) + 1))))))) (n := c) rfl k_scal_102 (by first | omega | (simp only [List.length_append, List.length_map, List.length_cons, List.length_nil, List.length_replicate, List.length_take, List.length_drop, List.length_set]; omega) | (simp <;> omega) | simp_all)) rfl rfl rfl rfl ?_
      refine RegC.m (op_call rfl k_call_72 (turn1_calls (((v).set (c) (((v)[c]! + (rotS ((v)[(((c + 1) + a) % 16)]!) ((5 + c)) ^^^ ((2654435769 : UInt32) * UInt32.ofNat ((((16 * a) + c) + 1)))))))[c]!) (11) (by first | omega | (simp only [List.length_append, List.length_map, List.length_cons, List.length_nil, List.length_replicate, List.length_take, List.length_drop, List.length_set]; omega) | (simp <;> omega) | simp_all) (by first | omega | (simp only [List.length_append, List.length_map, List.length_cons, List.length_nil, List.length_replicate, List.length_take, List.length_drop, List.length_set]; omega) | (simp <;> omega) | simp_all))) rfl rfl rfl ?_
      refine RegC.m (op_xor32 rfl) rfl rfl rfl ?_
      refine RegC.m (op_iA (((c + 9) % 16)) rfl k_arr_116 (by first | omega | (simp only [List.length_append, List.length_map, List.length_cons, List.length_nil, List.length_replicate, List.length_take, List.length_drop, List.length_set]; omega) | (simp <;> omega) | simp_all) (by first | omega | (simp only [List.length_append, List.length_map, List.length_cons, List.length_nil, List.length_replicate, List.length_take, List.length_drop, List.length_set]; omega) | (simp <;> omega) | simp_all)) rfl rfl rfl ?_
      refine RegC.w (i := 2) (op_storeM (f := AVal.u32) (l := (v).set (c) (((v)[c]! + (rotS ((v)[(((c + 1) + a) % 16)]!) ((5 + c)) ^^^ ((2654435769 : UInt32) * UInt32.ofNat ((((16 * a) + c) + 1))))))) (n := ((c + 9) % 16)) (v := (((v).set (c) (((v)[c]! + (rotS ((v)[(((c + 1) + a) % 16)]!) ((5 + c)) ^^^ ((2654435769 : UInt32) * UInt32.ofNat ((((16 * a) + c) + 1)))))))[((c + 9) % 16)]! ^^^ rotS (((v).set (c) (((v)[c]! + (rotS ((v)[(((c + 1) + a) % 16)]!) ((5 + c)) ^^^ ((2654435769 : UInt32) * UInt32.ofNat ((((16 * a) + c) + 1)))))))[c]!) (11))) rfl k_scal_102 rfl (by first | omega | (simp only [List.length_append, List.length_map, List.length_cons, List.length_nil, List.length_replicate, List.length_take, List.length_drop, List.length_set]; omega) | (simp <;> omega) | simp_all)) rfl rfl rfl rfl ?_
      refine RegC.done ⟨.inr rfl, ?_⟩
      refine WP.nrm 40 ?_
      refine WP.reg k_mixed fun nm12 hnm12 => ?_
      refine RegC.m (op_addI rfl (by first | omega | (simp only [List.length_append, List.length_map, List.length_cons, List.length_nil, List.length_replicate, List.length_take, List.length_drop, List.length_set]; omega) | (simp <;> omega) | simp_all)) rfl rfl rfl ?_
      refine RegC.m (op_move rfl) rfl rfl rfl ?_
      refine RegC.done ⟨.inl rfl, ?_⟩
      refine WP.nrm 40 ?_
      refine WP.jump (subE.cons rfl (subE.cons rfl (subE.cons rfl (subE.cons rfl (subE.cons rfl (subE.nil)))))) (.cons_cons _ (.cons_cons _ (.cons_cons _ (List.nil_sublist _)))) (ih1 _ _ ?_ ?_)
      · exact ⟨c + 1, by push_cast; rfl, by omega, by simp [lv], by rw [← qv, loopS_next (by omega : c < 16)]; rfl⟩
      · omega
    ·
      have ec : c = 16 := by omega
      subst ec
      rw [loopS_end] at qv
      refine WP.nrm 40 ?_
      refine WP.reg k_mixed fun nm13 hnm13 => ?_
      refine RegC.m (op_addI rfl (by first | omega | (simp only [List.length_append, List.length_map, List.length_cons, List.length_nil, List.length_replicate, List.length_take, List.length_drop, List.length_set]; omega) | (simp <;> omega) | simp_all)) rfl rfl rfl ?_
      refine RegC.m (op_move rfl) rfl rfl rfl ?_
      refine RegC.done ⟨.inl rfl, ?_⟩
      refine WP.nrm 40 ?_
      refine WP.jump (subE.cons rfl (subE.cons rfl (subE.cons rfl (subE.nil)))) (.cons_cons _ (.cons_cons _ (.cons_cons _ (List.nil_sublist _)))) (ih0 _ _ ?_ ?_)
      · rw [qv]; exact ⟨a + 1, by push_cast; rfl, by omega, by simp [lw], by rw [← qw, loopS_next (by omega : a < 8)]⟩
      · omega
  ·
    have ea : a = 8 := by omega
    subst ea
    rw [loopS_end] at qw
    refine WP.nrm 40 ?_
    refine WP.reg k_mixed fun nm14 hnm14 => ?_
    refine RegC.q (i := 2) (op_loadW rfl k_agg_116 (by first | omega | (simp only [List.length_append, List.length_map, List.length_cons, List.length_nil, List.length_replicate, List.length_take, List.length_drop, List.length_set]; omega) | (simp <;> omega) | simp_all)) rfl rfl rfl rfl ?_
    refine RegC.m (op_call rfl k_call_73 (octs1_calls (w) (by first | omega | (simp only [List.length_append, List.length_map, List.length_cons, List.length_nil, List.length_replicate, List.length_take, List.length_drop, List.length_set]; omega) | (simp <;> omega) | simp_all))) rfl rfl rfl ?_
    refine RegC.w (i := 1) (op_storeW rfl k_agg_76 (by first | omega | (simp only [List.length_append, List.length_map, List.length_cons, List.length_nil, List.length_replicate, List.length_take, List.length_drop, List.length_set]; omega) | (simp <;> omega) | simp_all) (by first | omega | (simp only [List.length_append, List.length_map, List.length_cons, List.length_nil, List.length_replicate, List.length_take, List.length_drop, List.length_set]; omega) | (simp <;> omega) | simp_all) (by first | exact allS (fun _ => rfl) | simp [AVal.scalar])) rfl rfl rfl rfl ?_
    refine RegC.done ⟨.inl rfl, ?_⟩
    refine WP.nrm 40 ?_
    refine WP.retS (ResV.one rfl (.cellW 1 rfl rfl k_agg_76 (by first | omega | (simp only [List.length_append, List.length_map, List.length_cons, List.length_nil, List.length_replicate, List.length_take, List.length_drop, List.length_set]; omega) | (simp <;> omega) | simp_all))) (List.nil_sublist _) ?_
    exact ⟨by rw [qw]; rfl, rfl⟩

theorem long1_calls (b' : Nat) (n : Nat) (hn : n ≤ 9223372036854775807) : ACalls Try.prog 36 [.i ((n : Int))] [] [b'] (.os b' 0 8 1 false) [(b', .vec 5 ((long1 n).map AVal.u8))] := by
  refine ACalls.of_wp' (fn := Try.f36) (n := 22) Try.func36 rfl rfl ?_
  unfold Try.f36
  refine WP.nrm 40 ?_
  refine WP.reg k_mixed fun nm1 hnm1 => ?_
  refine RegC.m (op_assign rfl) rfl rfl rfl ?_
  refine RegC.done ⟨.inl rfl, ?_⟩
  refine WP.nrm 40 ?_
  refine WP.reg k_mixed fun nm2 hnm2 => ?_
  refine RegC.a (op_makeM (f := AVal.u8) (z := (0 : UInt8)) (m := 8) (c := 8) rfl k_sl_26 k_zeroE_5 (by first | omega | (simp only [List.length_append, List.length_map, List.length_cons, List.length_nil, List.length_replicate, List.length_take, List.length_drop, List.length_set]; omega) | (simp <;> omega) | simp_all) (by first | omega | (simp only [List.length_append, List.length_map, List.length_cons, List.length_nil, List.length_replicate, List.length_take, List.length_drop, List.length_set]; omega) | (simp <;> omega) | simp_all) (by first | omega | (simp only [List.length_append, List.length_map, List.length_cons, List.length_nil, List.length_replicate, List.length_take, List.length_drop, List.length_set]; omega) | (simp <;> omega) | simp_all) (by first | omega | (simp only [List.length_append, List.length_map, List.length_cons, List.length_nil, List.length_replicate, List.length_take, List.length_drop, List.length_set]; omega) | (simp <;> omega) | simp_all) (by first | omega | (simp only [List.length_append, List.length_map, List.length_cons, List.length_nil, List.length_replicate, List.length_take, List.length_drop, List.length_set]; omega) | (simp <;> omega) | simp_all)) rfl rfl rfl ?_
  refine RegC.m (op_assign rfl) rfl rfl rfl ?_
  refine RegC.done ⟨.inl rfl, ?_⟩
  refine WP.nrm 40 ?_
  refine WP.reg k_mixed fun nm3 hnm3 => ?_
  refine RegC.m (op_move rfl) rfl rfl rfl ?_
  refine RegC.m (op_lenO rfl k_sl_26) rfl rfl rfl ?_
  refine RegC.m (op_move rfl) rfl rfl rfl ?_
  refine RegC.done ⟨.inl rfl, ?_⟩
  refine WP.nrm 40 ?_
  refine WP.loop2 (fun (i : Int) (l : List UInt8) => [(0, .i ((n : Int))), (3, .os (nm2 0) (0) (8) 1 false), (6, .os (nm2 0) (0) (8) 1 false), (7, .i (((List.replicate (8) (0 : UInt8)).length : Int))), (8, .i (i))]) (fun (i : Int) (l : List UInt8) => [(nm2 0, .vec 5 ((l).map AVal.u8))]) (fun (i : Int) (l : List UInt8) => ∃ j : Nat, i = j ∧ j ≤ 8 ∧ l.length = 8 ∧ loopS 8 (long1F n) j l = long1 n) (fun (i : Int) (l : List UInt8) => (8 - i).toNat) _ _ (subE.cons rfl (subE.cons rfl (subE.cons rfl (subE.cons rfl (subE.cons rfl (subE.nil)))))) (.cons_cons _ (List.nil_sublist _)) ⟨0, rfl, by omega, by first | (with_reducible assumption) | simp | simp [*], rfl⟩ ?_
  intro i l hI ih0
  obtain ⟨j, rfl, hj, ll, ql⟩ := hI
  refine WP.nrm 40 ?_
  refine WP.reg k_mixed fun nm4 hnm4 => ?_
  refine RegC.m (op_lss rfl) rfl rfl rfl ?_
  refine RegC.done ⟨.inl rfl, ?_⟩
  refine WP.nrm 40 ?_
  refine WP.condD rfl (fun h1 => ?_) (fun h1 => ?_)
  ·
    replace h1 : (j : Int) < 8 := h1
    refine WP.nrm 40 ?_
    refine WP.reg k_mixed fun nm5 hnm5 => ?_
    refine RegC.m (op_move rfl) rfl rfl rfl ?_
    refine RegC.m (op_assign rfl) rfl rfl rfl ?_
    refine RegC.done ⟨.inl rfl, ?_⟩
    refine WP.nrm 40 ?_
    refine WP.reg k_mixed fun nm6 hnm6 => ?_
    refine RegC.m (op_move rfl) rfl rfl rfl ?_
    refine RegC.m (op_move rfl) rfl rfl rfl ?_
    refine RegC.m (op_move rfl) rfl rfl rfl ?_
    refine RegC.m (op_move rfl) rfl rfl rfl ?_
    refine RegC.m (op_mulI rfl (by first | omega | (simp only [List.length_append, List.length_map, List.length_cons, List.length_nil, List.length_replicate, List.length_take, List.length_drop, List.length_set]; omega) | (simp <;> omega) | simp_all)) rfl rfl rfl ?_
    refine RegC.m (op_subI rfl (by first | omega | (simp only [List.length_append, List.length_map, List.length_cons, List.length_nil, List.length_replicate, List.length_take, List.length_drop, List.length_set]; omega) | (simp <;> omega) | simp_all)) rfl rfl rfl ?_
    refine RegC.m (op_shrN (m := n) (56 - 8 * j) rfl (by first | omega | (simp only [List.length_append, List.length_map, List.length_cons, List.length_nil, List.length_replicate, List.length_take, List.length_drop, List.length_set]; omega) | (simp <;> omega) | simp_all)) rfl rfl rfl ?_
    refine RegC.m (op_cv rfl k_und_3 k_undI_5 (cv_i_8 (by first | exact Int.natCast_nonneg _ | omega))) rfl rfl rfl ?_
    refine RegC.m (op_iO (j) rfl k_sl_26 (by first | omega | (simp only [List.length_append, List.length_map, List.length_cons, List.length_nil, List.length_replicate, List.length_take, List.length_drop, List.length_set]; omega) | (simp <;> omega) | simp_all) (by first | omega | (simp only [List.length_append, List.length_map, List.length_cons, List.length_nil, List.length_replicate, List.length_take, List.length_drop, List.length_set]; omega) | (simp <;> omega) | simp_all)) rfl rfl rfl ?_
    refine RegC.w (i := 0) (op_storeM (f := AVal.u8) (l := l) (n := j) (v := UInt8.ofNat (((n) / 2 ^ (56 - 8 * j)))) rfl k_scal_5 rfl (by first | omega | (simp only [List.length_append, List.length_map, List.length_cons, List.length_nil, List.length_replicate, List.length_take, List.length_drop, List.length_set]; omega) | (simp <;> omega) | simp_all)) rfl rfl rfl rfl ?_
    refine RegC.done ⟨.inl rfl, ?_⟩
    refine WP.nrm 40 ?_
    refine WP.reg k_mixed fun nm7 hnm7 => ?_
    refine RegC.m (op_addI rfl (by first | omega | (simp only [List.length_append, List.length_map, List.length_cons, List.length_nil, List.length_replicate, List.length_take, List.length_drop, List.length_set]; omega) | (simp <;> omega) | simp_all)) rfl rfl rfl ?_
    refine RegC.m (op_move rfl) rfl rfl rfl ?_
    refine RegC.done ⟨.inl rfl, ?_⟩
    refine WP.nrm 40 ?_
    refine WP.jump (subE.cons rfl (subE.cons rfl (subE.cons rfl (subE.cons rfl (subE.cons rfl (subE.nil)))))) (.cons_cons _ (List.nil_sublist _)) (ih0 _ _ ?_ ?_)
    · exact ⟨j + 1, by push_cast; rfl, by omega, by simp [ll], by rw [← ql, loopS_next (by omega : j < 8)]; rfl⟩
    · omega
  ·
    replace h1 : ¬ (j : Int) < 8 := h1
    have ej : j = 8 := by omega
    subst ej
    rw [loopS_end] at ql
    refine WP.nrm 40 ?_
    refine WP.reg k_mixed fun nm8 hnm8 => ?_
    refine RegC.m (op_move rfl) rfl rfl rfl ?_
    refine RegC.m (op_assign rfl) rfl rfl rfl ?_
    refine RegC.done ⟨.inl rfl, ?_⟩
    refine WP.nrm 40 ?_
    refine WP.ret1S (b' := b') (vf := fun q => .os q (0) (8) 1 false) 0 (ResV.one rfl (.tmp rfl)) rfl (by simp) os_named (.cons_cons _ (List.nil_sublist _)) ?_
    exact ⟨rfl, by rw [ql]⟩

theorem equal_calls (f1 f2 : Bool) (a b : List UInt8) : ACalls Try.prog 9 [VS AVal.u8 f1 (a), VS AVal.u8 f2 (b)] [] [] (.bool (a == b)) [] := by
  refine ACalls.of_wp' (fn := Try.f9) (n := 10) Try.func9 rfl rfl ?_
  unfold Try.f9
  refine WP.nrm 40 ?_
  refine WP.reg k_mixed fun nm1 hnm1 => ?_
  refine RegC.m (op_assign rfl) rfl rfl rfl ?_
  refine RegC.done ⟨.inl rfl, ?_⟩
  refine WP.nrm 40 ?_
  refine WP.reg k_mixed fun nm2 hnm2 => ?_
  refine RegC.m (op_move rfl) rfl rfl rfl ?_
  refine RegC.m (op_toStrV (l := a) rfl k_undSl_26 k_undI_5 k_undS_9 rfl) rfl rfl rfl ?_
  refine RegC.m (op_move rfl) rfl rfl rfl ?_
  refine RegC.m (op_toStrV (l := b) rfl k_undSl_26 k_undI_5 k_undS_9 rfl) rfl rfl rfl ?_
  refine RegC.m (op_eqS rfl) rfl rfl rfl ?_
  refine RegC.m (op_assign rfl) rfl rfl rfl ?_
  refine RegC.done ⟨.inl rfl, ?_⟩
  refine WP.nrm 40 ?_
  refine WP.retS (ResV.one rfl (.tmp rfl)) (List.nil_sublist _) ?_
  exact ⟨rfl, rfl⟩

theorem block_calls (k n : List UInt8) (u : UInt64) (hk : k.length = 32) (hn : n.length = 16) : ACalls Try.prog 35 [.agg ((k).map AVal.u8), .agg ((n).map AVal.u8), .u64 (u)] [] [] (.agg ((blockU k n u).map AVal.u8)) [] := by
  refine ACalls.of_wp' (fn := Try.f35) (n := 22) Try.func35 rfl rfl ?_
  unfold Try.f35
  refine WP.nrm 40 ?_
  refine WP.reg k_mixed fun nm1 hnm1 => ?_
  refine RegC.a (op_boxA rfl) rfl rfl rfl ?_
  refine RegC.a (op_boxA rfl) rfl rfl rfl ?_
  refine RegC.a (op_alloc rfl k_zero_76) rfl rfl rfl ?_
  refine RegC.done ⟨.inl rfl, ?_⟩
  refine WP.nrm 40 ?_
  refine WP.reg k_mixed fun nm2 hnm2 => ?_
  refine RegC.a (op_alloc rfl k_zero_76) rfl rfl rfl ?_
  refine RegC.done ⟨.inl rfl, ?_⟩
  refine WP.nrm 40 ?_
  refine WP.reg k_mixed fun nm3 hnm3 => ?_
  refine RegC.q (i := 3) (op_sA00 rfl k_arr_76 (by first | omega | (simp only [List.length_append, List.length_map, List.length_cons, List.length_nil, List.length_replicate, List.length_take, List.length_drop, List.length_set]; omega) | (simp <;> omega) | simp_all)) rfl rfl rfl rfl ?_
  refine RegC.q (i := 0) (op_sA00 rfl k_arr_23 (by first | omega | (simp only [List.length_append, List.length_map, List.length_cons, List.length_nil, List.length_replicate, List.length_take, List.length_drop, List.length_set]; omega) | (simp <;> omega) | simp_all)) rfl rfl rfl rfl ?_
  refine RegC.wq (i := 3) (j := 0) (op_copyMO (l := List.replicate 64 (0 : UInt8)) (l2 := k) (f := AVal.u8) (fun _ => rfl) rfl rfl k_sl_26 (by first | omega | (simp only [List.length_append, List.length_map, List.length_cons, List.length_nil, List.length_replicate, List.length_take, List.length_drop, List.length_set]; omega) | (simp <;> omega) | simp_all) (by first | omega | (simp only [List.length_append, List.length_map, List.length_cons, List.length_nil, List.length_replicate, List.length_take, List.length_drop, List.length_set]; omega) | (simp <;> omega) | simp_all)) rfl rfl rfl rfl rfl rfl ?_
  refine RegC.done ⟨.inr rfl, ?_⟩
  refine WP.nrm 40 ?_
  refine WP.reg k_mixed fun nm4 hnm4 => ?_
  refine RegC.q (i := 3) (op_sA10 (32) rfl k_arr_76 (by first | omega | (simp only [List.length_append, List.length_map, List.length_cons, List.length_nil, List.length_replicate, List.length_take, List.length_drop, List.length_set]; omega) | (simp <;> omega) | simp_all) (by first | omega | (simp only [List.length_append, List.length_map, List.length_cons, List.length_nil, List.length_replicate, List.length_take, List.length_drop, List.length_set]; omega) | (simp <;> omega) | simp_all) (by first | omega | (simp only [List.length_append, List.length_map, List.length_cons, List.length_nil, List.length_replicate, List.length_take, List.length_drop, List.length_set]; omega) | (simp <;> omega) | simp_all)) rfl rfl rfl rfl ?_
  refine RegC.q (i := 1) (op_sA00 rfl k_arr_25 (by first | omega | (simp only [List.length_append, List.length_map, List.length_cons, List.length_nil, List.length_replicate, List.length_take, List.length_drop, List.length_set]; omega) | (simp <;> omega) | simp_all)) rfl rfl rfl rfl ?_
  refine RegC.wq (i := 3) (j := 1) (op_copyMO (l := (List.replicate 64 (0 : UInt8)).take (0) ++ ((k).drop (0)).take (min (32) (64)) ++ (List.replicate 64 (0 : UInt8)).drop (0 + min (32) (64))) (l2 := n) (f := AVal.u8) (fun _ => rfl) rfl rfl k_sl_26 (by first | omega | (simp only [List.length_append, List.length_map, List.length_cons, List.length_nil, List.length_replicate, List.length_take, List.length_drop, List.length_set]; omega) | (simp <;> omega) | simp_all) (by first | omega | (simp only [List.length_append, List.length_map, List.length_cons, List.length_nil, List.length_replicate, List.length_take, List.length_drop, List.length_set]; omega) | (simp <;> omega) | simp_all)) rfl rfl rfl rfl rfl rfl ?_
  refine RegC.done ⟨.inr rfl, ?_⟩
  refine WP.nrm 40 ?_
  refine WP.reg k_mixed fun nm5 hnm5 => ?_
  refine RegC.m (op_move rfl) rfl rfl rfl ?_
  refine RegC.m (op_call rfl k_call_69 (longOctets_calls (u))) rfl rfl rfl ?_
  refine RegC.a (op_alloc rfl k_zero_114) rfl rfl rfl ?_
  refine RegC.w (i := 4) (op_storeW rfl k_agg_114 (by first | omega | (simp only [List.length_append, List.length_map, List.length_cons, List.length_nil, List.length_replicate, List.length_take, List.length_drop, List.length_set]; omega) | (simp <;> omega) | simp_all) (by first | omega | (simp only [List.length_append, List.length_map, List.length_cons, List.length_nil, List.length_replicate, List.length_take, List.length_drop, List.length_set]; omega) | (simp <;> omega) | simp_all) (by first | exact allS (fun _ => rfl) | simp [AVal.scalar])) rfl rfl rfl rfl ?_
  refine RegC.done ⟨.inl rfl, ?_⟩
  refine WP.nrm 40 ?_
  refine WP.reg k_mixed fun nm6 hnm6 => ?_
  refine RegC.q (i := 3) (op_sA10 (56) rfl k_arr_76 (by first | omega | (simp only [List.length_append, List.length_map, List.length_cons, List.length_nil, List.length_replicate, List.length_take, List.length_drop, List.length_set]; omega) | (simp <;> omega) | simp_all) (by first | omega | (simp only [List.length_append, List.length_map, List.length_cons, List.length_nil, List.length_replicate, List.length_take, List.length_drop, List.length_set]; omega) | (simp <;> omega) | simp_all) (by first | omega | (simp only [List.length_append, List.length_map, List.length_cons, List.length_nil, List.length_replicate, List.length_take, List.length_drop, List.length_set]; omega) | (simp <;> omega) | simp_all)) rfl rfl rfl rfl ?_
  refine RegC.q (i := 4) (op_sA00 rfl k_arr_114 (by first | omega | (simp only [List.length_append, List.length_map, List.length_cons, List.length_nil, List.length_replicate, List.length_take, List.length_drop, List.length_set]; omega) | (simp <;> omega) | simp_all)) rfl rfl rfl rfl ?_
  refine RegC.wq (i := 3) (j := 4) (op_copyMO (l := ((List.replicate 64 (0 : UInt8)).take (0) ++ ((k).drop (0)).take (min (32) (64)) ++ (List.replicate 64 (0 : UInt8)).drop (0 + min (32) (64))).take (32) ++ ((n).drop (0)).take (min (16) ((64 - 32))) ++ ((List.replicate 64 (0 : UInt8)).take (0) ++ ((k).drop (0)).take (min (32) (64)) ++ (List.replicate 64 (0 : UInt8)).drop (0 + min (32) (64))).drop (32 + min (16) ((64 - 32)))) (l2 := longS (u)) (f := AVal.u8) (fun _ => rfl) rfl rfl k_sl_26 (by first | omega | (simp only [List.length_append, List.length_map, List.length_cons, List.length_nil, List.length_replicate, List.length_take, List.length_drop, List.length_set]; omega) | (simp <;> omega) | simp_all) (by first | omega | (simp only [List.length_append, List.length_map, List.length_cons, List.length_nil, List.length_replicate, List.length_take, List.length_drop, List.length_set]; omega) | (simp <;> omega) | simp_all)) rfl rfl rfl rfl rfl rfl ?_
  refine RegC.done ⟨.inr rfl, ?_⟩
  refine WP.nrm 40 ?_
  refine WP.reg k_mixed fun nm7 hnm7 => ?_
  refine RegC.q (i := 3) (op_loadW rfl k_agg_76 (by first | omega | (simp only [List.length_append, List.length_map, List.length_cons, List.length_nil, List.length_replicate, List.length_take, List.length_drop, List.length_set]; omega) | (simp <;> omega) | simp_all)) rfl rfl rfl rfl ?_
  refine RegC.m (op_call rfl k_call_70 (stir_calls ((((List.replicate 64 (0 : UInt8)).take (0) ++ ((k).drop (0)).take (min (32) (64)) ++ (List.replicate 64 (0 : UInt8)).drop (0 + min (32) (64))).take (32) ++ ((n).drop (0)).take (min (16) ((64 - 32))) ++ ((List.replicate 64 (0 : UInt8)).take (0) ++ ((k).drop (0)).take (min (32) (64)) ++ (List.replicate 64 (0 : UInt8)).drop (0 + min (32) (64))).drop (32 + min (16) ((64 - 32)))).take (56) ++ ((longS (u)).drop (0)).take (min (8) ((64 - 56))) ++ (((List.replicate 64 (0 : UInt8)).take (0) ++ ((k).drop (0)).take (min (32) (64)) ++ (List.replicate 64 (0 : UInt8)).drop (0 + min (32) (64))).take (32) ++ ((n).drop (0)).take (min (16) ((64 - 32))) ++ ((List.replicate 64 (0 : UInt8)).take (0) ++ ((k).drop (0)).take (min (32) (64)) ++ (List.replicate 64 (0 : UInt8)).drop (0 + min (32) (64))).drop (32 + min (16) ((64 - 32)))).drop (56 + min (8) ((64 - 56)))) (by first | omega | (simp only [List.length_append, List.length_map, List.length_cons, List.length_nil, List.length_replicate, List.length_take, List.length_drop, List.length_set]; omega) | (simp <;> omega) | simp_all))) rfl rfl rfl ?_
  refine RegC.w (i := 2) (op_storeW rfl k_agg_76 (by first | omega | (simp only [List.length_append, List.length_map, List.length_cons, List.length_nil, List.length_replicate, List.length_take, List.length_drop, List.length_set]; omega) | (simp <;> omega) | simp_all) (by first | omega | (simp only [List.length_append, List.length_map, List.length_cons, List.length_nil, List.length_replicate, List.length_take, List.length_drop, List.length_set]; omega) | (simp <;> omega) | simp_all) (by first | exact allS (fun _ => rfl) | simp [AVal.scalar])) rfl rfl rfl rfl ?_
  refine RegC.done ⟨.inl rfl, ?_⟩
  refine WP.nrm 40 ?_
  refine WP.retS (ResV.one rfl (.cellW 2 rfl rfl k_agg_76 (by first | omega | (simp only [List.length_append, List.length_map, List.length_cons, List.length_nil, List.length_replicate, List.length_take, List.length_drop, List.length_set]; omega) | (simp <;> omega) | simp_all))) (List.nil_sublist _) ?_
  exact ⟨by rw [raw35 k n _ hk hn (longS_length u)]; rfl, rfl⟩

theorem stream_calls (b' : Nat) (k n : List UInt8) (hk : k.length = 32) (hn : n.length = 16) (fr many : Nat) (h1 : fr ≤ 1099511627776) (h2 : many ≤ 1048576) : ACalls Try.prog 8 [.agg ((k).map AVal.u8), .agg ((n).map AVal.u8), .i ((fr : Int)), .i ((many : Int))] [] [b'] (.tup [.os b' 0 many 1 false, .i 0]) [(b', .vec 5 ((streamS k n fr many).map AVal.u8))] := by
  refine ACalls.of_wp' (fn := Try.f8) (n := 61) Try.func8 rfl rfl ?_
  unfold Try.f8
  refine WP.nrm 40 ?_
  refine WP.reg k_mixed fun nm1 hnm1 => ?_
  refine RegC.a (op_boxA rfl) rfl rfl rfl ?_
  refine RegC.a (op_boxA rfl) rfl rfl rfl ?_
  refine RegC.m (op_assign rfl) rfl rfl rfl ?_
  refine RegC.m (op_assign rfl) rfl rfl rfl ?_
  refine RegC.done ⟨.inl rfl, ?_⟩
  refine WP.nrm 40 ?_
  refine WP.reg k_mixed fun nm2 hnm2 => ?_
  refine RegC.m (op_move rfl) rfl rfl rfl ?_
  refine RegC.m (OpV.boolF (op_lss rfl) (by omega)) rfl rfl rfl ?_
  refine RegC.m (op_move rfl) rfl rfl rfl ?_
  refine RegC.m (op_move rfl) rfl rfl rfl ?_
  refine RegC.m (OpV.boolF (op_gtr rfl) (by omega)) rfl rfl rfl ?_
  refine RegC.m (op_pick rfl) rfl rfl rfl ?_
  refine RegC.m (op_move rfl) rfl rfl rfl ?_
  refine RegC.m (op_move rfl) rfl rfl rfl ?_
  refine RegC.m (OpV.boolF (op_lss rfl) (by omega)) rfl rfl rfl ?_
  refine RegC.m (op_pick rfl) rfl rfl rfl ?_
  refine RegC.done ⟨.inl rfl, ?_⟩
  refine WP.nrm 40 ?_
  refine WP.cond (t := false) rfl ?_
  refine WP.nrm 40 ?_
  refine WP.reg k_mixed fun nm3 hnm3 => ?_
  refine RegC.m (op_move rfl) rfl rfl rfl ?_
  refine RegC.m (OpV.boolF (op_gtr rfl) (by omega)) rfl rfl rfl ?_
  refine RegC.done ⟨.inl rfl, ?_⟩
  refine WP.nrm 40 ?_
  refine WP.cond (t := false) rfl ?_
  refine WP.nrm 40 ?_
  refine WP.reg k_mixed fun nm4 hnm4 => ?_
  refine RegC.m (op_move rfl) rfl rfl rfl ?_
  refine RegC.a (op_makeM (f := AVal.u8) (z := (0 : UInt8)) (m := 0) (c := many) rfl k_sl_26 k_zeroE_5 (by first | omega | (simp only [List.length_append, List.length_map, List.length_cons, List.length_nil, List.length_replicate, List.length_take, List.length_drop, List.length_set]; omega) | (simp <;> omega) | simp_all) (by first | omega | (simp only [List.length_append, List.length_map, List.length_cons, List.length_nil, List.length_replicate, List.length_take, List.length_drop, List.length_set]; omega) | (simp <;> omega) | simp_all) (by first | omega | (simp only [List.length_append, List.length_map, List.length_cons, List.length_nil, List.length_replicate, List.length_take, List.length_drop, List.length_set]; omega) | (simp <;> omega) | simp_all) (by first | omega | (simp only [List.length_append, List.length_map, List.length_cons, List.length_nil, List.length_replicate, List.length_take, List.length_drop, List.length_set]; omega) | (simp <;> omega) | simp_all) (by first | omega | (simp only [List.length_append, List.length_map, List.length_cons, List.length_nil, List.length_replicate, List.length_take, List.length_drop, List.length_set]; omega) | (simp <;> omega) | simp_all)) rfl rfl rfl ?_
  refine RegC.m (op_assign rfl) rfl rfl rfl ?_
  refine RegC.done ⟨.inl rfl, ?_⟩
  refine WP.nrm 40 ?_
  refine WP.reg k_mixed fun nm5 hnm5 => ?_
  refine RegC.m (op_move rfl) rfl rfl rfl ?_
  refine RegC.m (op_quoI rfl (by first | omega | (simp only [List.length_append, List.length_map, List.length_cons, List.length_nil, List.length_replicate, List.length_take, List.length_drop, List.length_set]; omega) | (simp <;> omega) | simp_all)) rfl rfl rfl ?_
  refine RegC.m (op_assign rfl) rfl rfl rfl ?_
  refine RegC.done ⟨.inl rfl, ?_⟩
  refine WP.nrm 40 ?_
  refine WP.loop3 (fun (i : Int) (L : Nat) (bn : Nat) => [(2, .i ((fr : Int))), (3, .i ((many : Int))), (4, .ptr (nm1 0) (0)), (5, .ptr (nm1 1) (0)), (10, .os (bn) (0) (L) 1 false), (11, .i (i))]) (fun (i : Int) (L : Nat) (bn : Nat) => [(nm1 0, .vec 23 ((k).map AVal.u8)), (nm1 1, .vec 25 ((n).map AVal.u8)), (bn, .vec 5 ((streamS k n fr L).map AVal.u8))]) (fun (i : Int) (L : Nat) (bn : Nat) => ∃ j : Nat, i = j ∧ L ≤ many ∧ (L = 0 ∧ j = fr / 64 ∨ 0 < L ∧ fr / 64 < j ∧ (L = many ∨ fr + L = 64 * j))) (fun (i : Int) (L : Nat) (bn : Nat) => many - L) _ _ _ (subE.cons rfl (subE.cons rfl (subE.cons rfl (subE.cons rfl (subE.cons rfl (subE.cons rfl (subE.nil))))))) (.cons_cons _ (.cons_cons _ (.cons_cons _ (List.nil_sublist _)))) ⟨fr / 64, rfl, by simp, .inl ⟨rfl, rfl⟩⟩ ?_
  intro i L bn hI ih0
  obtain ⟨j, rfl, hL, hj⟩ := hI
  refine WP.nrm 40 ?_
  refine WP.reg k_mixed fun nm6 hnm6 => ?_
  refine RegC.m (op_move rfl) rfl rfl rfl ?_
  refine RegC.m (op_lenO rfl k_sl_26) rfl rfl rfl ?_
  refine RegC.m (op_move rfl) rfl rfl rfl ?_
  refine RegC.m (op_lss rfl) rfl rfl rfl ?_
  refine RegC.done ⟨.inl rfl, ?_⟩
  refine WP.nrm 40 ?_
  refine WP.condD rfl (fun h1 => ?_) (fun h1 => ?_)
  ·
    refine WP.nrm 40 ?_
    refine WP.reg k_mixed fun nm7 hnm7 => ?_
    refine RegC.q (i := 0) (op_loadW rfl k_agg_23 (by first | omega | (simp only [List.length_append, List.length_map, List.length_cons, List.length_nil, List.length_replicate, List.length_take, List.length_drop, List.length_set]; omega) | (simp <;> omega) | simp_all)) rfl rfl rfl rfl ?_
    refine RegC.q (i := 1) (op_loadW rfl k_agg_25 (by first | omega | (simp only [List.length_append, List.length_map, List.length_cons, List.length_nil, List.length_replicate, List.length_take, List.length_drop, List.length_set]; omega) | (simp <;> omega) | simp_all)) rfl rfl rfl rfl ?_
    refine RegC.m (op_move rfl) rfl rfl rfl ?_
    refine RegC.m (op_cv rfl k_und_3 k_undI_78 (cv_i_64 (by first | exact Int.natCast_nonneg _ | omega))) rfl rfl rfl ?_
    refine RegC.m (op_call rfl k_call_35 (block_calls (k) (n) (UInt64.ofNat (j)) (by first | omega | (simp only [List.length_append, List.length_map, List.length_cons, List.length_nil, List.length_replicate, List.length_take, List.length_drop, List.length_set]; omega) | (simp <;> omega) | simp_all) (by first | omega | (simp only [List.length_append, List.length_map, List.length_cons, List.length_nil, List.length_replicate, List.length_take, List.length_drop, List.length_set]; omega) | (simp <;> omega) | simp_all))) rfl rfl rfl ?_
    refine RegC.a (op_alloc rfl k_zero_76) rfl rfl rfl ?_
    refine RegC.w (i := 3) (op_storeW rfl k_agg_76 (by first | omega | (simp only [List.length_append, List.length_map, List.length_cons, List.length_nil, List.length_replicate, List.length_take, List.length_drop, List.length_set]; omega) | (simp <;> omega) | simp_all) (by first | omega | (simp only [List.length_append, List.length_map, List.length_cons, List.length_nil, List.length_replicate, List.length_take, List.length_drop, List.length_set]; omega) | (simp <;> omega) | simp_all) (by first | exact allS (fun _ => rfl) | simp [AVal.scalar])) rfl rfl rfl rfl ?_
    refine RegC.done ⟨.inl rfl, ?_⟩
    refine WP.nrm 40 ?_
    refine WP.reg k_mixed fun nm8 hnm8 => ?_
    refine RegC.q (i := 3) (op_sA00 rfl k_arr_76 (by first | omega | (simp only [List.length_append, List.length_map, List.length_cons, List.length_nil, List.length_replicate, List.length_take, List.length_drop, List.length_set]; omega) | (simp <;> omega) | simp_all)) rfl rfl rfl rfl ?_
    refine RegC.m (op_assign rfl) rfl rfl rfl ?_
    refine RegC.done ⟨.inl rfl, ?_⟩
    refine WP.nrm 40 ?_
    refine WP.reg k_mixed fun nm9 hnm9 => ?_
    refine RegC.m (op_move rfl) rfl rfl rfl ?_
    refine RegC.m (op_move rfl) rfl rfl rfl ?_
    refine RegC.m (op_quoI rfl (by first | omega | (simp only [List.length_append, List.length_map, List.length_cons, List.length_nil, List.length_replicate, List.length_take, List.length_drop, List.length_set]; omega) | (simp <;> omega) | simp_all)) rfl rfl rfl ?_
    refine RegC.m (op_eql rfl) rfl rfl rfl ?_
    refine RegC.done ⟨.inl rfl, ?_⟩
    refine WP.nrm 40 ?_
    refine WP.condB rfl (fun h2 => ?_) (fun h2 => ?_)
    ·
      have hb := of_decide_eq_true h2
      have hL0 : L = 0 ∧ j = fr / 64 := by omega
      refine WP.nrm 40 ?_
      refine WP.reg k_mixed fun nm10 hnm10 => ?_
      refine RegC.m (op_move rfl) rfl rfl rfl ?_
      refine RegC.m (op_remI rfl (by first | omega | (simp only [List.length_append, List.length_map, List.length_cons, List.length_nil, List.length_replicate, List.length_take, List.length_drop, List.length_set]; omega) | (simp <;> omega) | simp_all)) rfl rfl rfl ?_
      refine RegC.q (i := 3) (op_sA10 ((fr % 64)) rfl k_arr_76 (by first | omega | (simp only [List.length_append, List.length_map, List.length_cons, List.length_nil, List.length_replicate, List.length_take, List.length_drop, List.length_set]; omega) | (simp <;> omega) | simp_all) (by first | omega | (simp only [List.length_append, List.length_map, List.length_cons, List.length_nil, List.length_replicate, List.length_take, List.length_drop, List.length_set]; omega) | (simp <;> omega) | simp_all) (by first | omega | (simp only [List.length_append, List.length_map, List.length_cons, List.length_nil, List.length_replicate, List.length_take, List.length_drop, List.length_set]; omega) | (simp <;> omega) | simp_all)) rfl rfl rfl rfl ?_
      refine RegC.m (op_assign rfl) rfl rfl rfl ?_
      refine RegC.done ⟨.inl rfl, ?_⟩
      refine WP.nrm 40 ?_
      refine WP.reg k_mixed fun nm11 hnm11 => ?_
      refine RegC.m (op_move rfl) rfl rfl rfl ?_
      refine RegC.m (op_move rfl) rfl rfl rfl ?_
      refine RegC.m (op_move rfl) rfl rfl rfl ?_
      refine RegC.m (op_lenO rfl k_sl_26) rfl rfl rfl ?_
      refine RegC.m (op_move rfl) rfl rfl rfl ?_
      refine RegC.m (op_move rfl) rfl rfl rfl ?_
      refine RegC.m (op_lenO rfl k_sl_26) rfl rfl rfl ?_
      refine RegC.m (op_subI rfl (by first | omega | (simp only [List.length_append, List.length_map, List.length_cons, List.length_nil, List.length_replicate, List.length_take, List.length_drop, List.length_set]; omega) | (simp <;> omega) | simp_all)) rfl rfl rfl ?_
      refine RegC.m (op_min rfl) rfl rfl rfl ?_
      refine RegC.m (op_sO01 ((min ((64 - (fr % 64))) (many - L))) rfl k_sl_26 (by first | omega | (simp only [List.length_append, List.length_map, List.length_cons, List.length_nil, List.length_replicate, List.length_take, List.length_drop, List.length_set]; omega) | (simp <;> omega) | simp_all) (by first | omega | (simp only [List.length_append, List.length_map, List.length_cons, List.length_nil, List.length_replicate, List.length_take, List.length_drop, List.length_set]; omega) | (simp <;> omega) | simp_all) (by first | omega | (simp only [List.length_append, List.length_map, List.length_cons, List.length_nil, List.length_replicate, List.length_take, List.length_drop, List.length_set]; omega) | (simp <;> omega) | simp_all)) rfl rfl rfl ?_
      refine RegC.wqa (i := 2) (j := 3) (OpV.toH (op_appLO (f := AVal.u8) (l := streamS k n fr L) (l2 := blockU (k) (n) (UInt64.ofNat (j))) (lo := (fr % 64)) (n := (min ((64 - (fr % 64))) (many - L))) (fun _ => rfl) rfl k_app_26_26 (by first | omega | (simp only [List.length_append, List.length_map, List.length_cons, List.length_nil, List.length_replicate, List.length_take, List.length_drop, List.length_set]; omega) | (simp <;> omega) | simp_all) (by first | omega | (simp only [List.length_append, List.length_map, List.length_cons, List.length_nil, List.length_replicate, List.length_take, List.length_drop, List.length_set]; omega) | (simp <;> omega) | simp_all) (by first | omega | (simp only [List.length_append, List.length_map, List.length_cons, List.length_nil, List.length_replicate, List.length_take, List.length_drop, List.length_set]; omega) | (simp <;> omega) | simp_all)) rfl (by rw [streamS_app k n fr L ((min ((64 - (fr % 64))) (many - L))) j ((fr % 64)) (by omega) (by omega) (by omega)])) rfl rfl rfl rfl rfl rfl ?_
      refine RegC.m (op_assign rfl) rfl rfl rfl ?_
      refine RegC.done ⟨.inl rfl, ?_⟩
      refine WP.nrm 40 ?_
      refine WP.reg k_mixed fun nm12 hnm12 => ?_
      refine RegC.m (op_move rfl) rfl rfl rfl ?_
      refine RegC.m (op_addI rfl (by first | omega | (simp only [List.length_append, List.length_map, List.length_cons, List.length_nil, List.length_replicate, List.length_take, List.length_drop, List.length_set]; omega) | (simp <;> omega) | simp_all)) rfl rfl rfl ?_
      refine RegC.m (op_assign rfl) rfl rfl rfl ?_
      refine RegC.done ⟨.inl rfl, ?_⟩
      refine WP.nrm 40 ?_
      refine WP.jump (subE.cons rfl (subE.cons rfl (subE.cons rfl (subE.cons rfl (subE.cons rfl (subE.cons rfl (subE.nil))))))) (.cons_cons _ (.cons_cons _ (.cons_cons _ (List.nil_sublist _)))) (ih0 _ _ _ ?_ ?_)
      · exact ⟨j + 1, by push_cast; rfl, by omega, by omega⟩
      · omega
    ·
      have hb := of_decide_eq_false h2
      have hL0 : 0 < L ∧ fr + L = 64 * j := by omega
      refine WP.nrm 40 ?_
      refine WP.reg k_mixed fun nm13 hnm13 => ?_
      refine RegC.m (op_move rfl) rfl rfl rfl ?_
      refine RegC.m (op_move rfl) rfl rfl rfl ?_
      refine RegC.m (op_move rfl) rfl rfl rfl ?_
      refine RegC.m (op_lenO rfl k_sl_26) rfl rfl rfl ?_
      refine RegC.m (op_move rfl) rfl rfl rfl ?_
      refine RegC.m (op_move rfl) rfl rfl rfl ?_
      refine RegC.m (op_lenO rfl k_sl_26) rfl rfl rfl ?_
      refine RegC.m (op_subI rfl (by first | omega | (simp only [List.length_append, List.length_map, List.length_cons, List.length_nil, List.length_replicate, List.length_take, List.length_drop, List.length_set]; omega) | (simp <;> omega) | simp_all)) rfl rfl rfl ?_
      refine RegC.m (op_min rfl) rfl rfl rfl ?_
      refine RegC.m (op_sO01 ((min (64) (many - L))) rfl k_sl_26 (by first | omega | (simp only [List.length_append, List.length_map, List.length_cons, List.length_nil, List.length_replicate, List.length_take, List.length_drop, List.length_set]; omega) | (simp <;> omega) | simp_all) (by first | omega | (simp only [List.length_append, List.length_map, List.length_cons, List.length_nil, List.length_replicate, List.length_take, List.length_drop, List.length_set]; omega) | (simp <;> omega) | simp_all) (by first | omega | (simp only [List.length_append, List.length_map, List.length_cons, List.length_nil, List.length_replicate, List.length_take, List.length_drop, List.length_set]; omega) | (simp <;> omega) | simp_all)) rfl rfl rfl ?_
      refine RegC.wqa (i := 2) (j := 3) (OpV.toH (op_appLO (f := AVal.u8) (l := streamS k n fr L) (l2 := blockU (k) (n) (UInt64.ofNat (j))) (lo := 0) (n := (min (64) (many - L))) (fun _ => rfl) rfl k_app_26_26 (by first | omega | (simp only [List.length_append, List.length_map, List.length_cons, List.length_nil, List.length_replicate, List.length_take, List.length_drop, List.length_set]; omega) | (simp <;> omega) | simp_all) (by first | omega | (simp only [List.length_append, List.length_map, List.length_cons, List.length_nil, List.length_replicate, List.length_take, List.length_drop, List.length_set]; omega) | (simp <;> omega) | simp_all) (by first | omega | (simp only [List.length_append, List.length_map, List.length_cons, List.length_nil, List.length_replicate, List.length_take, List.length_drop, List.length_set]; omega) | (simp <;> omega) | simp_all)) rfl (by rw [streamS_app k n fr L ((min (64) (many - L))) j (0) (by omega) (by omega) (by omega)])) rfl rfl rfl rfl rfl rfl ?_
      refine RegC.m (op_assign rfl) rfl rfl rfl ?_
      refine RegC.done ⟨.inl rfl, ?_⟩
      refine WP.nrm 40 ?_
      refine WP.reg k_mixed fun nm14 hnm14 => ?_
      refine RegC.m (op_move rfl) rfl rfl rfl ?_
      refine RegC.m (op_addI rfl (by first | omega | (simp only [List.length_append, List.length_map, List.length_cons, List.length_nil, List.length_replicate, List.length_take, List.length_drop, List.length_set]; omega) | (simp <;> omega) | simp_all)) rfl rfl rfl ?_
      refine RegC.m (op_assign rfl) rfl rfl rfl ?_
      refine RegC.done ⟨.inl rfl, ?_⟩
      refine WP.nrm 40 ?_
      refine WP.jump (subE.cons rfl (subE.cons rfl (subE.cons rfl (subE.cons rfl (subE.cons rfl (subE.cons rfl (subE.nil))))))) (.cons_cons _ (.cons_cons _ (.cons_cons _ (List.nil_sublist _)))) (ih0 _ _ _ ?_ ?_)
      · exact ⟨j + 1, by push_cast; rfl, by omega, by omega⟩
      · omega
  ·
    refine WP.nrm 40 ?_
    refine WP.reg k_mixed fun nm15 hnm15 => ?_
    refine RegC.m (op_move rfl) rfl rfl rfl ?_
    refine RegC.m (op_assign rfl) rfl rfl rfl ?_
    refine RegC.m (op_assign rfl) rfl rfl rfl ?_
    refine RegC.done ⟨.inl rfl, ?_⟩
    refine WP.nrm 40 ?_
    refine WP.ret1S (b' := b') (vf := fun q => .tup [.os q (0) (L) 1 false, .i (0)]) 2 (ResV.many rfl rfl (.cons (.tmp rfl) (.cons (.tmp rfl) (RessOf.nil)))) rfl (by simp) (tup_named (x := fun q => .os q (0) (L) 1 false) os_named) (.cons _ (.cons _ (.cons_cons _ (List.nil_sublist _)))) ?_
    exact ⟨by rw [show L = many by omega], by rw [show L = many by omega]⟩

theorem cover_calls (b' : Nat) (full : Bool) (text : List UInt8) (k n : List UInt8) (hk : k.length = 32) (hn : n.length = 16) (ht : text.length ≤ 1048576) : ACalls Try.prog 11 [.agg ((k).map AVal.u8), .agg ((n).map AVal.u8), VS AVal.u8 full (text)] [] [b'] (.tup [.os b' 0 text.length 1 false, .i 0]) [(b', .vec 5 ((coverS k n text).map AVal.u8))] := by
  refine ACalls.of_wp' (fn := Try.f11) (n := 39) Try.func11 rfl rfl ?_
  unfold Try.f11
  refine WP.nrm 40 ?_
  refine WP.reg k_mixed fun nm1 hnm1 => ?_
  refine RegC.a (op_boxA rfl) rfl rfl rfl ?_
  refine RegC.a (op_boxA rfl) rfl rfl rfl ?_
  refine RegC.m (op_assign rfl) rfl rfl rfl ?_
  refine RegC.m (op_assign rfl) rfl rfl rfl ?_
  refine RegC.done ⟨.inl rfl, ?_⟩
  refine WP.nrm 40 ?_
  refine WP.reg k_mixed fun nm2 hnm2 => ?_
  refine RegC.q (i := 0) (op_loadW rfl k_agg_23 (by first | omega | (simp only [List.length_append, List.length_map, List.length_cons, List.length_nil, List.length_replicate, List.length_take, List.length_drop, List.length_set]; omega) | (simp <;> omega) | simp_all)) rfl rfl rfl rfl ?_
  refine RegC.q (i := 1) (op_loadW rfl k_agg_25 (by first | omega | (simp only [List.length_append, List.length_map, List.length_cons, List.length_nil, List.length_replicate, List.length_take, List.length_drop, List.length_set]; omega) | (simp <;> omega) | simp_all)) rfl rfl rfl rfl ?_
  refine RegC.m (op_move rfl) rfl rfl rfl ?_
  refine RegC.m (op_lenV (f := AVal.u8) (l := text) rfl k_sl_26) rfl rfl rfl ?_
  refine RegC.a (op_call rfl k_call_8 (stream_calls (nm2 0) (k) (n) (by first | omega | (simp only [List.length_append, List.length_map, List.length_cons, List.length_nil, List.length_replicate, List.length_take, List.length_drop, List.length_set]; omega) | (simp <;> omega) | simp_all) (by first | omega | (simp only [List.length_append, List.length_map, List.length_cons, List.length_nil, List.length_replicate, List.length_take, List.length_drop, List.length_set]; omega) | (simp <;> omega) | simp_all) (0) ((text).length) (by first | omega | (simp only [List.length_append, List.length_map, List.length_cons, List.length_nil, List.length_replicate, List.length_take, List.length_drop, List.length_set]; omega) | (simp <;> omega) | simp_all) (by first | omega | (simp only [List.length_append, List.length_map, List.length_cons, List.length_nil, List.length_replicate, List.length_take, List.length_drop, List.length_set]; omega) | (simp <;> omega) | simp_all))) rfl rfl rfl ?_
  refine RegC.m (op_move rfl) rfl rfl rfl ?_
  refine RegC.m (op_extract rfl rfl) rfl rfl rfl ?_
  refine RegC.m (op_extract rfl rfl) rfl rfl rfl ?_
  refine RegC.m (op_assign rfl) rfl rfl rfl ?_
  refine RegC.m (op_assign rfl) rfl rfl rfl ?_
  refine RegC.done ⟨.inl rfl, ?_⟩
  refine WP.nrm 40 ?_
  refine WP.reg k_mixed fun nm3 hnm3 => ?_
  refine RegC.m (op_move rfl) rfl rfl rfl ?_
  refine RegC.m (op_neq rfl) rfl rfl rfl ?_
  refine RegC.done ⟨.inl rfl, ?_⟩
  refine WP.nrm 40 ?_
  refine WP.cond (t := false) rfl ?_
  refine WP.nrm 40 ?_
  refine WP.reg k_mixed fun nm4 hnm4 => ?_
  refine RegC.m (op_move rfl) rfl rfl rfl ?_
  refine RegC.m (op_lenV (f := AVal.u8) (l := text) rfl k_sl_26) rfl rfl rfl ?_
  refine RegC.m (op_move rfl) rfl rfl rfl ?_
  refine RegC.done ⟨.inl rfl, ?_⟩
  refine WP.nrm 40 ?_
  refine WP.loop2 (fun (i : Int) (l : List UInt8) => [(8, .os (nm2 0) (0) (text.length) 1 false), (23, VS AVal.u8 full (text)), (24, .i (((text).length : Int))), (25, .i (i))]) (fun (i : Int) (l : List UInt8) => [(nm1 0, .vec 23 ((k).map AVal.u8)), (nm1 1, .vec 25 ((n).map AVal.u8)), (nm2 0, .vec 5 ((l).map AVal.u8))]) (fun (i : Int) (l : List UInt8) => ∃ j : Nat, i = j ∧ j ≤ text.length ∧ l.length = text.length ∧ loopS text.length (coverF text) j l = coverS k n text) (fun (i : Int) (l : List UInt8) => (text.length - i).toNat) _ _ (subE.cons rfl (subE.cons rfl (subE.cons rfl (subE.cons rfl (subE.nil))))) (.cons_cons _ (.cons_cons _ (.cons_cons _ (List.nil_sublist _)))) ⟨0, rfl, by omega, by simp, rfl⟩ ?_
  intro i l hI ih0
  obtain ⟨j, rfl, hj, ll, ql⟩ := hI
  refine WP.nrm 40 ?_
  refine WP.reg k_mixed fun nm5 hnm5 => ?_
  refine RegC.m (op_lss rfl) rfl rfl rfl ?_
  refine RegC.done ⟨.inl rfl, ?_⟩
  refine WP.nrm 40 ?_
  refine WP.condD rfl (fun h1 => ?_) (fun h1 => ?_)
  ·
    refine WP.nrm 40 ?_
    refine WP.reg k_mixed fun nm6 hnm6 => ?_
    refine RegC.m (op_move rfl) rfl rfl rfl ?_
    refine RegC.m (op_iV (f := AVal.u8) (l := text) (j) rfl k_sl_26 (by first | omega | (simp only [List.length_append, List.length_map, List.length_cons, List.length_nil, List.length_replicate, List.length_take, List.length_drop, List.length_set]; omega) | (simp <;> omega) | simp_all) (by first | omega | (simp only [List.length_append, List.length_map, List.length_cons, List.length_nil, List.length_replicate, List.length_take, List.length_drop, List.length_set]; omega) | (simp <;> omega) | simp_all)) rfl rfl rfl ?_
    refine RegC.m (op_loadVM (f := AVal.u8) (l := text) (n := j) rfl k_scal_5 (by first | omega | (simp only [List.length_append, List.length_map, List.length_cons, List.length_nil, List.length_replicate, List.length_take, List.length_drop, List.length_set]; omega) | (simp <;> omega) | simp_all)) rfl rfl rfl ?_
    refine RegC.m (op_assign rfl) rfl rfl rfl ?_
    refine RegC.m (op_assign rfl) rfl rfl rfl ?_
    refine RegC.done ⟨.inl rfl, ?_⟩
    refine WP.nrm 40 ?_
    refine WP.reg k_mixed fun nm7 hnm7 => ?_
    refine RegC.m (op_move rfl) rfl rfl rfl ?_
    refine RegC.m (op_move rfl) rfl rfl rfl ?_
    refine RegC.m (op_iO (j) rfl k_sl_26 (by first | omega | (simp only [List.length_append, List.length_map, List.length_cons, List.length_nil, List.length_replicate, List.length_take, List.length_drop, List.length_set]; omega) | (simp <;> omega) | simp_all) (by first | omega | (simp only [List.length_append, List.length_map, List.length_cons, List.length_nil, List.length_replicate, List.length_take, List.length_drop, List.length_set]; omega) | (simp <;> omega) | simp_all)) rfl rfl rfl ?_
    refine RegC.q (i := 2) (op_loadM (f := AVal.u8) (l := l) (n := j) rfl k_scal_5 (by first | omega | (simp only [List.length_append, List.length_map, List.length_cons, List.length_nil, List.length_replicate, List.length_take, List.length_drop, List.length_set]; omega) | (simp <;> omega) | simp_all)) rfl rfl rfl rfl ?_
    refine RegC.m (op_move rfl) rfl rfl rfl ?_
    refine RegC.m (op_xor8 rfl) rfl rfl rfl ?_
    refine RegC.m (op_iO (j) rfl k_sl_26 (by first | omega | (simp only [List.length_append, List.length_map, List.length_cons, List.length_nil, List.length_replicate, List.length_take, List.length_drop, List.length_set]; omega) | (simp <;> omega) | simp_all) (by first | omega | (simp only [List.length_append, List.length_map, List.length_cons, List.length_nil, List.length_replicate, List.length_take, List.length_drop, List.length_set]; omega) | (simp <;> omega) | simp_all)) rfl rfl rfl ?_
    refine RegC.w (i := 2) (op_storeM (f := AVal.u8) (l := l) (n := j) (v := ((l)[j]! ^^^ (text)[j]!)) rfl k_scal_5 rfl (by first | omega | (simp only [List.length_append, List.length_map, List.length_cons, List.length_nil, List.length_replicate, List.length_take, List.length_drop, List.length_set]; omega) | (simp <;> omega) | simp_all)) rfl rfl rfl rfl ?_
    refine RegC.done ⟨.inl rfl, ?_⟩
    refine WP.nrm 40 ?_
    refine WP.reg k_mixed fun nm8 hnm8 => ?_
    refine RegC.m (op_addI rfl (by first | omega | (simp only [List.length_append, List.length_map, List.length_cons, List.length_nil, List.length_replicate, List.length_take, List.length_drop, List.length_set]; omega) | (simp <;> omega) | simp_all)) rfl rfl rfl ?_
    refine RegC.m (op_move rfl) rfl rfl rfl ?_
    refine RegC.done ⟨.inl rfl, ?_⟩
    refine WP.nrm 40 ?_
    refine WP.jump (subE.cons rfl (subE.cons rfl (subE.cons rfl (subE.cons rfl (subE.nil))))) (.cons_cons _ (.cons_cons _ (.cons_cons _ (List.nil_sublist _)))) (ih0 _ _ ?_ ?_)
    · exact ⟨j + 1, by push_cast; rfl, by omega, by simp [ll], by rw [← ql, loopS_next (by omega : j < text.length)]; rfl⟩
    · omega
  ·
    have ej : j = text.length := by omega
    subst ej
    rw [loopS_end] at ql
    refine WP.nrm 40 ?_
    refine WP.reg k_mixed fun nm9 hnm9 => ?_
    refine RegC.m (op_move rfl) rfl rfl rfl ?_
    refine RegC.m (op_assign rfl) rfl rfl rfl ?_
    refine RegC.m (op_assign rfl) rfl rfl rfl ?_
    refine RegC.done ⟨.inl rfl, ?_⟩
    refine WP.nrm 40 ?_
    refine WP.ret1S (b' := b') (vf := fun q => .tup [.os q (0) (text.length) 1 false, .i (0)]) 2 (ResV.many rfl rfl (.cons (.tmp rfl) (.cons (.tmp rfl) (RessOf.nil)))) rfl (by simp) (tup_named (x := fun q => .os q (0) (text.length) 1 false) os_named) (.cons _ (.cons _ (.cons_cons _ (List.nil_sublist _)))) ?_
    exact ⟨rfl, by rw [ql]⟩

theorem hex1_calls  : ACalls Try.prog 34 [VS AVal.u8 true (([1] : List UInt8))] [] [] (.str [48, 49]) [] := by
  refine ACalls.of_wp' (fn := Try.f34) (n := 28) Try.func34 rfl rfl ?_
  unfold Try.f34
  refine WP.nrm 40 ?_
  refine WP.reg k_mixed fun nm1 hnm1 => ?_
  refine RegC.m (op_assign rfl) rfl rfl rfl ?_
  refine RegC.done ⟨.inl rfl, ?_⟩
  refine WP.nrm 40 ?_
  refine WP.reg k_mixed fun nm2 hnm2 => ?_
  refine RegC.m (op_move rfl) rfl rfl rfl ?_
  refine RegC.m (op_lenV (f := AVal.u8) (l := ([1] : List UInt8)) rfl k_sl_26) rfl rfl rfl ?_
  refine RegC.m (op_mulI rfl (by first | omega | (simp only [List.length_append, List.length_map, List.length_cons, List.length_nil, List.length_replicate, List.length_take, List.length_drop, List.length_set]; omega) | (simp <;> omega) | simp_all)) rfl rfl rfl ?_
  refine RegC.a (op_makeM (f := AVal.u8) (z := (0 : UInt8)) (m := 0) (c := (2 * (([1] : List UInt8)).length)) rfl k_sl_26 k_zeroE_5 (by first | omega | (simp only [List.length_append, List.length_map, List.length_cons, List.length_nil, List.length_replicate, List.length_take, List.length_drop, List.length_set]; omega) | (simp <;> omega) | simp_all) (by first | omega | (simp only [List.length_append, List.length_map, List.length_cons, List.length_nil, List.length_replicate, List.length_take, List.length_drop, List.length_set]; omega) | (simp <;> omega) | simp_all) (by first | omega | (simp only [List.length_append, List.length_map, List.length_cons, List.length_nil, List.length_replicate, List.length_take, List.length_drop, List.length_set]; omega) | (simp <;> omega) | simp_all) (by first | omega | (simp only [List.length_append, List.length_map, List.length_cons, List.length_nil, List.length_replicate, List.length_take, List.length_drop, List.length_set]; omega) | (simp <;> omega) | simp_all) (by first | omega | (simp only [List.length_append, List.length_map, List.length_cons, List.length_nil, List.length_replicate, List.length_take, List.length_drop, List.length_set]; omega) | (simp <;> omega) | simp_all)) rfl rfl rfl ?_
  refine RegC.m (op_assign rfl) rfl rfl rfl ?_
  refine RegC.done ⟨.inl rfl, ?_⟩
  refine WP.nrm 40 ?_
  refine WP.reg k_mixed fun nm3 hnm3 => ?_
  refine RegC.m (op_move rfl) rfl rfl rfl ?_
  refine RegC.m (op_lenV (f := AVal.u8) (l := ([1] : List UInt8)) rfl k_sl_26) rfl rfl rfl ?_
  refine RegC.m (op_move rfl) rfl rfl rfl ?_
  refine RegC.done ⟨.inl rfl, ?_⟩
  refine WP.nrm 40 ?_
  refine WP.loop ?_
  refine WP.nrm 40 ?_
  refine WP.reg k_mixed fun nm4 hnm4 => ?_
  refine RegC.m (OpV.boolT (op_lss rfl) (by decide)) rfl rfl rfl ?_
  refine RegC.done ⟨.inl rfl, ?_⟩
  refine WP.nrm 40 ?_
  refine WP.cond (t := true) rfl ?_
  refine WP.nrm 40 ?_
  refine WP.reg k_mixed fun nm5 hnm5 => ?_
  refine RegC.m (op_iV (f := AVal.u8) (l := ([1] : List UInt8)) (0) rfl k_sl_26 (by first | omega | (simp only [List.length_append, List.length_map, List.length_cons, List.length_nil, List.length_replicate, List.length_take, List.length_drop, List.length_set]; omega) | (simp <;> omega) | simp_all) (by first | omega | (simp only [List.length_append, List.length_map, List.length_cons, List.length_nil, List.length_replicate, List.length_take, List.length_drop, List.length_set]; omega) | (simp <;> omega) | simp_all)) rfl rfl rfl ?_
  refine RegC.m (op_loadVM (f := AVal.u8) (l := ([1] : List UInt8)) (n := 0) rfl k_scal_5 (by first | omega | (simp only [List.length_append, List.length_map, List.length_cons, List.length_nil, List.length_replicate, List.length_take, List.length_drop, List.length_set]; omega) | (simp <;> omega) | simp_all)) rfl rfl rfl ?_
  refine RegC.m (op_assign rfl) rfl rfl rfl ?_
  refine RegC.done ⟨.inl rfl, ?_⟩
  refine WP.nrm 40 ?_
  refine WP.reg k_mixed fun nm6 hnm6 => ?_
  refine RegC.m (op_move rfl) rfl rfl rfl ?_
  refine RegC.m (op_move rfl) rfl rfl rfl ?_
  refine RegC.m (op_shr8 (4) rfl (by first | omega | (simp only [List.length_append, List.length_map, List.length_cons, List.length_nil, List.length_replicate, List.length_take, List.length_drop, List.length_set]; omega) | (simp <;> omega) | simp_all)) rfl rfl rfl ?_
  refine RegC.m (op_xS (l := [48, 49, 50, 51, 52, 53, 54, 55, 56, 57, 97, 98, 99, 100, 101, 102]) (0) rfl k_undS_9 (by decide) (by decide)) rfl rfl rfl ?_
  refine RegC.m (op_move rfl) rfl rfl rfl ?_
  refine RegC.m (op_and8 (b := (15 : UInt8)) rfl) rfl rfl rfl ?_
  refine RegC.m (op_xS (l := [48, 49, 50, 51, 52, 53, 54, 55, 56, 57, 97, 98, 99, 100, 101, 102]) (1) rfl k_undS_9 (by decide) (by decide)) rfl rfl rfl ?_
  refine RegC.a (op_buildSlM (vs := List.map AVal.u8 [([48, 49, 50, 51, 52, 53, 54, 55, 56, 57, 97, 98, 99, 100, 101, 102] : List UInt8)[0]!, ([48, 49, 50, 51, 52, 53, 54, 55, 56, 57, 97, 98, 99, 100, 101, 102] : List UInt8)[1]!]) rfl k_sl_26 k_zeroE_5 rfl rfl rfl (by omega)) rfl rfl rfl ?_
  refine RegC.wqa (i := 0) (j := 1) (op_appMO (f := AVal.u8) (l := List.replicate (0) (0 : UInt8)) (l2 := [([48, 49, 50, 51, 52, 53, 54, 55, 56, 57, 97, 98, 99, 100, 101, 102] : List UInt8)[0]!, ([48, 49, 50, 51, 52, 53, 54, 55, 56, 57, 97, 98, 99, 100, 101, 102] : List UInt8)[1]!]) (lo := 0) (n := ([([48, 49, 50, 51, 52, 53, 54, 55, 56, 57, 97, 98, 99, 100, 101, 102] : List UInt8)[0]!, ([48, 49, 50, 51, 52, 53, 54, 55, 56, 57, 97, 98, 99, 100, 101, 102] : List UInt8)[1]!]).length) (fun _ => rfl) rfl k_app_26_26 (by first | omega | (simp only [List.length_append, List.length_map, List.length_cons, List.length_nil, List.length_replicate, List.length_take, List.length_drop, List.length_set]; omega) | (simp <;> omega) | simp_all) (by first | omega | (simp only [List.length_append, List.length_map, List.length_cons, List.length_nil, List.length_replicate, List.length_take, List.length_drop, List.length_set]; omega) | (simp <;> omega) | simp_all)) rfl rfl rfl rfl rfl rfl ?_
  refine RegC.m (op_assign rfl) rfl rfl rfl ?_
  refine RegC.done ⟨.inr rfl, ?_⟩
  refine WP.nrm 40 ?_
  refine WP.reg k_mixed fun nm7 hnm7 => ?_
  refine RegC.m (op_addI rfl (by first | omega | (simp only [List.length_append, List.length_map, List.length_cons, List.length_nil, List.length_replicate, List.length_take, List.length_drop, List.length_set]; omega) | (simp <;> omega) | simp_all)) rfl rfl rfl ?_
  refine RegC.m (op_move rfl) rfl rfl rfl ?_
  refine RegC.done ⟨.inl rfl, ?_⟩
  refine WP.nrm 40 ?_
  refine WP.inLoop ?_
  refine WP.nrm 40 ?_
  refine WP.reg k_mixed fun nm8 hnm8 => ?_
  refine RegC.m (OpV.boolF (op_lss rfl) (by decide)) rfl rfl rfl ?_
  refine RegC.done ⟨.inl rfl, ?_⟩
  refine WP.nrm 40 ?_
  refine WP.cond (t := false) rfl ?_
  refine WP.nrm 40 ?_
  refine WP.reg k_mixed fun nm9 hnm9 => ?_
  refine RegC.m (op_move rfl) rfl rfl rfl ?_
  refine RegC.q (i := 0) (op_toStrO (l := List.replicate (0) (0 : UInt8) ++ (([([48, 49, 50, 51, 52, 53, 54, 55, 56, 57, 97, 98, 99, 100, 101, 102] : List UInt8)[0]!, ([48, 49, 50, 51, 52, 53, 54, 55, 56, 57, 97, 98, 99, 100, 101, 102] : List UInt8)[1]!]).drop (0)).take (([([48, 49, 50, 51, 52, 53, 54, 55, 56, 57, 97, 98, 99, 100, 101, 102] : List UInt8)[0]!, ([48, 49, 50, 51, 52, 53, 54, 55, 56, 57, 97, 98, 99, 100, 101, 102] : List UInt8)[1]!]).length)) rfl k_undSl_26 k_undI_5 k_undS_9 (by simp) (by simp)) rfl rfl rfl rfl ?_
  refine RegC.m (op_assign rfl) rfl rfl rfl ?_
  refine RegC.done ⟨.inl rfl, ?_⟩
  refine WP.nrm 40 ?_
  refine WP.retS (ResV.one rfl (.tmp rfl)) (List.nil_sublist _) ?_
  exact ⟨rfl, rfl⟩

theorem landed_calls  : ACalls Try.prog 7 [] [] [] (.bool true) [] := by
  refine ACalls.of_wp' (fn := Try.f7) (n := 4) Try.func7 rfl rfl ?_
  unfold Try.f7
  refine WP.nrm 40 ?_
  refine WP.reg k_mixed fun nm1 hnm1 => ?_
  refine RegC.m (op_assign rfl) rfl rfl rfl ?_
  refine RegC.done ⟨.inl rfl, ?_⟩
  refine WP.nrm 40 ?_
  refine WP.reg k_mixed fun nm2 hnm2 => ?_
  refine RegC.a (op_buildSlM (vs := List.map AVal.u8 [(1 : UInt8)]) rfl k_sl_26 k_zeroE_5 rfl rfl rfl (by omega)) rfl rfl rfl ?_
  refine RegC.q (i := 0) (op_call rfl k_call_34 (lend1 (g := AVal.u8) (l := [1]) hex1_calls rfl rfl)) rfl rfl rfl rfl ?_
  refine RegC.m (OpV.boolE (t := (([48, 49] : List UInt8) == [48, 49])) (u := true) (op_eqS rfl) rfl) rfl rfl rfl ?_
  refine RegC.m (op_assign rfl) rfl rfl rfl ?_
  refine RegC.done ⟨.inl rfl, ?_⟩
  refine WP.nrm 40 ?_
  refine WP.retS (ResV.one rfl (.tmp rfl)) (List.nil_sublist _) ?_
  exact ⟨rfl, rfl⟩

theorem stream1_calls (b' : Nat) (k n : List UInt8) (hk : k.length = 32) (hn : n.length = 16) (fr many : Nat) (h1 : fr ≤ 1099511627776) (h2 : many ≤ 1048576) : ACalls Try.prog 10 [.agg ((k).map AVal.u8), .agg ((n).map AVal.u8), .i ((fr : Int)), .i ((many : Int))] [] [b'] (.os b' 0 many 1 false) [(b', .vec 5 ((stream1 k n fr many).map AVal.u8))] := by
  refine ACalls.of_wp' (fn := Try.f10) (n := 57) Try.func10 rfl rfl ?_
  unfold Try.f10
  refine WP.nrm 40 ?_
  refine WP.reg k_mixed fun nm1 hnm1 => ?_
  refine RegC.a (op_boxA rfl) rfl rfl rfl ?_
  refine RegC.a (op_boxA rfl) rfl rfl rfl ?_
  refine RegC.m (op_assign rfl) rfl rfl rfl ?_
  refine RegC.done ⟨.inl rfl, ?_⟩
  refine WP.nrm 40 ?_
  refine WP.reg k_mixed fun nm2 hnm2 => ?_
  refine RegC.m (op_assign rfl) rfl rfl rfl ?_
  refine RegC.done ⟨.inl rfl, ?_⟩
  refine WP.nrm 40 ?_
  refine WP.reg k_mixed fun nm3 hnm3 => ?_
  refine RegC.m (op_move rfl) rfl rfl rfl ?_
  refine RegC.m (op_assign rfl) rfl rfl rfl ?_
  refine RegC.done ⟨.inl rfl, ?_⟩
  refine WP.nrm 40 ?_
  refine WP.own 9 5 1 rfl (fun own1 => ?_)
  refine WP.loop3 (fun (i : Int) (L : Nat) (bn : Nat) => [(2, .i ((fr : Int))), (3, .i ((many : Int))), (4, .ptr (nm1 0) (0)), (5, .ptr (nm1 1) (0)), (9, .os (bn) (0) (L) 1 false), (10, .i (i))]) (fun (i : Int) (L : Nat) (bn : Nat) => [(nm1 0, .vec 23 ((k).map AVal.u8)), (nm1 1, .vec 25 ((n).map AVal.u8)), (bn, .vec 5 ((stream1 k n fr L).map AVal.u8))]) (fun (i : Int) (L : Nat) (bn : Nat) => ∃ j : Nat, i = j ∧ L ≤ many ∧ j = fr + L) (fun (i : Int) (L : Nat) (bn : Nat) => many - L) _ _ _ (subE.cons rfl (subE.cons rfl (subE.cons rfl (subE.cons rfl (subE.cons rfl (subE.cons rfl (subE.nil))))))) (.cons_cons _ (.cons_cons _ (.cons_cons _ (List.nil_sublist _)))) ⟨fr, rfl, by omega, rfl⟩ ?_
  intro i L bn hI ih0
  obtain ⟨j, rfl, hL, hj⟩ := hI
  refine WP.nrm 40 ?_
  refine WP.reg k_mixed fun nm4 hnm4 => ?_
  refine RegC.m (op_move rfl) rfl rfl rfl ?_
  refine RegC.m (op_move rfl) rfl rfl rfl ?_
  refine RegC.m (op_move rfl) rfl rfl rfl ?_
  refine RegC.m (op_addI rfl (by first | omega | (simp only [List.length_append, List.length_map, List.length_cons, List.length_nil, List.length_replicate, List.length_take, List.length_drop, List.length_set]; omega) | (simp <;> omega) | simp_all)) rfl rfl rfl ?_
  refine RegC.m (op_lss rfl) rfl rfl rfl ?_
  refine RegC.done ⟨.inl rfl, ?_⟩
  refine WP.nrm 40 ?_
  refine WP.condD rfl (fun h2 => ?_) (fun h2 => ?_)
  ·
    refine WP.nrm 40 ?_
    refine WP.reg k_mixed fun nm5 hnm5 => ?_
    refine RegC.a (op_alloc rfl k_zero_76) rfl rfl rfl ?_
    refine RegC.done ⟨.inl rfl, ?_⟩
    refine WP.nrm 40 ?_
    refine WP.reg k_mixed fun nm6 hnm6 => ?_
    refine RegC.q (i := 3) (op_sA00 rfl k_arr_76 (by first | omega | (simp only [List.length_append, List.length_map, List.length_cons, List.length_nil, List.length_replicate, List.length_take, List.length_drop, List.length_set]; omega) | (simp <;> omega) | simp_all)) rfl rfl rfl rfl ?_
    refine RegC.q (i := 0) (op_sA00 rfl k_arr_23 (by first | omega | (simp only [List.length_append, List.length_map, List.length_cons, List.length_nil, List.length_replicate, List.length_take, List.length_drop, List.length_set]; omega) | (simp <;> omega) | simp_all)) rfl rfl rfl rfl ?_
    refine RegC.wq (i := 3) (j := 0) (op_copyMO (l := List.replicate 64 (0 : UInt8)) (l2 := k) (f := AVal.u8) (fun _ => rfl) rfl rfl k_sl_26 (by first | omega | (simp only [List.length_append, List.length_map, List.length_cons, List.length_nil, List.length_replicate, List.length_take, List.length_drop, List.length_set]; omega) | (simp <;> omega) | simp_all) (by first | omega | (simp only [List.length_append, List.length_map, List.length_cons, List.length_nil, List.length_replicate, List.length_take, List.length_drop, List.length_set]; omega) | (simp <;> omega) | simp_all)) rfl rfl rfl rfl rfl rfl ?_
    refine RegC.done ⟨.inr rfl, ?_⟩
    refine WP.nrm 40 ?_
    refine WP.reg k_mixed fun nm7 hnm7 => ?_
    refine RegC.q (i := 3) (op_sA10 (32) rfl k_arr_76 (by first | omega | (simp only [List.length_append, List.length_map, List.length_cons, List.length_nil, List.length_replicate, List.length_take, List.length_drop, List.length_set]; omega) | (simp <;> omega) | simp_all) (by first | omega | (simp only [List.length_append, List.length_map, List.length_cons, List.length_nil, List.length_replicate, List.length_take, List.length_drop, List.length_set]; omega) | (simp <;> omega) | simp_all) (by first | omega | (simp only [List.length_append, List.length_map, List.length_cons, List.length_nil, List.length_replicate, List.length_take, List.length_drop, List.length_set]; omega) | (simp <;> omega) | simp_all)) rfl rfl rfl rfl ?_
    refine RegC.q (i := 1) (op_sA00 rfl k_arr_25 (by first | omega | (simp only [List.length_append, List.length_map, List.length_cons, List.length_nil, List.length_replicate, List.length_take, List.length_drop, List.length_set]; omega) | (simp <;> omega) | simp_all)) rfl rfl rfl rfl ?_
    refine RegC.wq (i := 3) (j := 1) (op_copyMO (l := (List.replicate 64 (0 : UInt8)).take (0) ++ ((k).drop (0)).take (min (32) (64)) ++ (List.replicate 64 (0 : UInt8)).drop (0 + min (32) (64))) (l2 := n) (f := AVal.u8) (fun _ => rfl) rfl rfl k_sl_26 (by first | omega | (simp only [List.length_append, List.length_map, List.length_cons, List.length_nil, List.length_replicate, List.length_take, List.length_drop, List.length_set]; omega) | (simp <;> omega) | simp_all) (by first | omega | (simp only [List.length_append, List.length_map, List.length_cons, List.length_nil, List.length_replicate, List.length_take, List.length_drop, List.length_set]; omega) | (simp <;> omega) | simp_all)) rfl rfl rfl rfl rfl rfl ?_
    refine RegC.done ⟨.inr rfl, ?_⟩
    refine WP.nrm 40 ?_
    refine WP.reg k_mixed fun nm8 hnm8 => ?_
    refine RegC.q (i := 3) (op_sA10 (56) rfl k_arr_76 (by first | omega | (simp only [List.length_append, List.length_map, List.length_cons, List.length_nil, List.length_replicate, List.length_take, List.length_drop, List.length_set]; omega) | (simp <;> omega) | simp_all) (by first | omega | (simp only [List.length_append, List.length_map, List.length_cons, List.length_nil, List.length_replicate, List.length_take, List.length_drop, List.length_set]; omega) | (simp <;> omega) | simp_all) (by first | omega | (simp only [List.length_append, List.length_map, List.length_cons, List.length_nil, List.length_replicate, List.length_take, List.length_drop, List.length_set]; omega) | (simp <;> omega) | simp_all)) rfl rfl rfl rfl ?_
    refine RegC.m (op_move rfl) rfl rfl rfl ?_
    refine RegC.m (op_quoI rfl (by first | omega | (simp only [List.length_append, List.length_map, List.length_cons, List.length_nil, List.length_replicate, List.length_take, List.length_drop, List.length_set]; omega) | (simp <;> omega) | simp_all)) rfl rfl rfl ?_
    refine RegC.a (op_call rfl k_call_36 (long1_calls (nm8 0) ((j / 64)) (by first | omega | (simp only [List.length_append, List.length_map, List.length_cons, List.length_nil, List.length_replicate, List.length_take, List.length_drop, List.length_set]; omega) | (simp <;> omega) | simp_all))) rfl rfl rfl ?_
    refine RegC.wq (i := 3) (j := 4) (op_copyMO (l := ((List.replicate 64 (0 : UInt8)).take (0) ++ ((k).drop (0)).take (min (32) (64)) ++ (List.replicate 64 (0 : UInt8)).drop (0 + min (32) (64))).take (32) ++ ((n).drop (0)).take (min (16) ((64 - 32))) ++ ((List.replicate 64 (0 : UInt8)).take (0) ++ ((k).drop (0)).take (min (32) (64)) ++ (List.replicate 64 (0 : UInt8)).drop (0 + min (32) (64))).drop (32 + min (16) ((64 - 32)))) (l2 := long1 ((j / 64))) (f := AVal.u8) (fun _ => rfl) rfl rfl k_sl_26 (by first | omega | (simp only [List.length_append, List.length_map, List.length_cons, List.length_nil, List.length_replicate, List.length_take, List.length_drop, List.length_set]; omega) | (simp <;> omega) | simp_all) (by first | omega | (simp only [List.length_append, List.length_map, List.length_cons, List.length_nil, List.length_replicate, List.length_take, List.length_drop, List.length_set]; omega) | (simp <;> omega) | simp_all)) rfl rfl rfl rfl rfl rfl ?_
    refine RegC.done ⟨.inr rfl, ?_⟩
    refine WP.nrm 40 ?_
    refine WP.reg k_mixed fun nm9 hnm9 => ?_
    refine RegC.q (i := 3) (op_loadW rfl k_agg_76 (by first | omega | (simp only [List.length_append, List.length_map, List.length_cons, List.length_nil, List.length_replicate, List.length_take, List.length_drop, List.length_set]; omega) | (simp <;> omega) | simp_all)) rfl rfl rfl rfl ?_
    refine RegC.m (op_call rfl k_call_37 (stir1_calls ((((List.replicate 64 (0 : UInt8)).take (0) ++ ((k).drop (0)).take (min (32) (64)) ++ (List.replicate 64 (0 : UInt8)).drop (0 + min (32) (64))).take (32) ++ ((n).drop (0)).take (min (16) ((64 - 32))) ++ ((List.replicate 64 (0 : UInt8)).take (0) ++ ((k).drop (0)).take (min (32) (64)) ++ (List.replicate 64 (0 : UInt8)).drop (0 + min (32) (64))).drop (32 + min (16) ((64 - 32)))).take (56) ++ ((long1 ((j / 64))).drop (0)).take (min (8) ((64 - 56))) ++ (((List.replicate 64 (0 : UInt8)).take (0) ++ ((k).drop (0)).take (min (32) (64)) ++ (List.replicate 64 (0 : UInt8)).drop (0 + min (32) (64))).take (32) ++ ((n).drop (0)).take (min (16) ((64 - 32))) ++ ((List.replicate 64 (0 : UInt8)).take (0) ++ ((k).drop (0)).take (min (32) (64)) ++ (List.replicate 64 (0 : UInt8)).drop (0 + min (32) (64))).drop (32 + min (16) ((64 - 32)))).drop (56 + min (8) ((64 - 56)))) (by first | omega | (simp only [List.length_append, List.length_map, List.length_cons, List.length_nil, List.length_replicate, List.length_take, List.length_drop, List.length_set]; omega) | (simp <;> omega) | simp_all))) rfl rfl rfl ?_
    refine RegC.w (i := 3) (OpV.toH (op_storeW rfl k_agg_76 (by first | omega | (simp only [List.length_append, List.length_map, List.length_cons, List.length_nil, List.length_replicate, List.length_take, List.length_drop, List.length_set]; omega) | (simp <;> omega) | simp_all) (by first | omega | (simp only [List.length_append, List.length_map, List.length_cons, List.length_nil, List.length_replicate, List.length_take, List.length_drop, List.length_set]; omega) | (simp <;> omega) | simp_all) (by first | exact allS (fun _ => rfl) | simp [AVal.scalar])) rfl (by first | (rw [raw35 k n _ hk hn (long1_length _)]; done) | (rw [raw35 k n _ hk hn (long1_length _)]; rfl))) rfl rfl rfl rfl ?_
    refine RegC.done ⟨.inl rfl, ?_⟩
    refine WP.nrm 40 ?_
    refine WP.reg k_mixed fun nm10 hnm10 => ?_
    refine RegC.m (op_move rfl) rfl rfl rfl ?_
    refine RegC.m (op_remI rfl (by first | omega | (simp only [List.length_append, List.length_map, List.length_cons, List.length_nil, List.length_replicate, List.length_take, List.length_drop, List.length_set]; omega) | (simp <;> omega) | simp_all)) rfl rfl rfl ?_
    refine RegC.m (op_move rfl) rfl rfl rfl ?_
    refine RegC.m (op_addI rfl (by first | omega | (simp only [List.length_append, List.length_map, List.length_cons, List.length_nil, List.length_replicate, List.length_take, List.length_drop, List.length_set]; omega) | (simp <;> omega) | simp_all)) rfl rfl rfl ?_
    refine RegC.m (op_move rfl) rfl rfl rfl ?_
    refine RegC.m (op_addI rfl (by first | omega | (simp only [List.length_append, List.length_map, List.length_cons, List.length_nil, List.length_replicate, List.length_take, List.length_drop, List.length_set]; omega) | (simp <;> omega) | simp_all)) rfl rfl rfl ?_
    refine RegC.m (op_move rfl) rfl rfl rfl ?_
    refine RegC.m (op_subI rfl (by first | omega | (simp only [List.length_append, List.length_map, List.length_cons, List.length_nil, List.length_replicate, List.length_take, List.length_drop, List.length_set]; omega) | (simp <;> omega) | simp_all)) rfl rfl rfl ?_
    refine RegC.m (op_min rfl) rfl rfl rfl ?_
    refine RegC.m (op_assign rfl) rfl rfl rfl ?_
    refine RegC.done ⟨.inl rfl, ?_⟩
    refine WP.nrm 40 ?_
    refine WP.reg k_mixed fun nm11 hnm11 => ?_
    refine RegC.m (op_move rfl) rfl rfl rfl ?_
    refine RegC.m (op_move rfl) rfl rfl rfl ?_
    refine RegC.m (op_remI rfl (by first | omega | (simp only [List.length_append, List.length_map, List.length_cons, List.length_nil, List.length_replicate, List.length_take, List.length_drop, List.length_set]; omega) | (simp <;> omega) | simp_all)) rfl rfl rfl ?_
    refine RegC.m (op_move rfl) rfl rfl rfl ?_
    refine RegC.q (i := 3) (op_sA11 ((j % 64)) ((min 64 (j % 64 + fr + many - j))) rfl k_arr_76 (by first | omega | (simp only [List.length_append, List.length_map, List.length_cons, List.length_nil, List.length_replicate, List.length_take, List.length_drop, List.length_set]; omega) | (simp <;> omega) | simp_all) (by first | omega | (simp only [List.length_append, List.length_map, List.length_cons, List.length_nil, List.length_replicate, List.length_take, List.length_drop, List.length_set]; omega) | (simp <;> omega) | simp_all) (by first | omega | (simp only [List.length_append, List.length_map, List.length_cons, List.length_nil, List.length_replicate, List.length_take, List.length_drop, List.length_set]; omega) | (simp <;> omega) | simp_all) (by first | omega | (simp only [List.length_append, List.length_map, List.length_cons, List.length_nil, List.length_replicate, List.length_take, List.length_drop, List.length_set]; omega) | (simp <;> omega) | simp_all) (by first | omega | (simp only [List.length_append, List.length_map, List.length_cons, List.length_nil, List.length_replicate, List.length_take, List.length_drop, List.length_set]; omega) | (simp <;> omega) | simp_all)) rfl rfl rfl rfl ?_
    refine RegC.wqa (i := 2) (j := 3) (OpV.toH (op_appLO (f := AVal.u8) (l := stream1 k n fr L) (l2 := block1 k n (j / 64)) (lo := (j % 64)) (n := (min 64 (j % 64 + fr + many - j)) - (j % 64)) (fun _ => rfl) rfl k_app_26_26 (by first | omega | (simp only [List.length_append, List.length_map, List.length_cons, List.length_nil, List.length_replicate, List.length_take, List.length_drop, List.length_set]; omega) | (simp <;> omega) | simp_all) (by first | omega | (simp only [List.length_append, List.length_map, List.length_cons, List.length_nil, List.length_replicate, List.length_take, List.length_drop, List.length_set]; omega) | (simp <;> omega) | simp_all) (by first | omega | (simp only [List.length_append, List.length_map, List.length_cons, List.length_nil, List.length_replicate, List.length_take, List.length_drop, List.length_set]; omega) | (simp <;> omega) | simp_all)) rfl (by rw [stream1_app k n fr L ((min 64 (j % 64 + fr + many - j)) - (j % 64)) (j / 64) ((j % 64)) (by omega) (by omega)])) rfl rfl rfl rfl rfl rfl ?_
    refine RegC.m (op_assign rfl) rfl rfl rfl ?_
    refine RegC.done ⟨.inl rfl, ?_⟩
    refine WP.nrm 40 ?_
    refine WP.reg k_mixed fun nm12 hnm12 => ?_
    refine RegC.m (op_move rfl) rfl rfl rfl ?_
    refine RegC.m (op_move rfl) rfl rfl rfl ?_
    refine RegC.m (op_move rfl) rfl rfl rfl ?_
    refine RegC.m (op_remI rfl (by first | omega | (simp only [List.length_append, List.length_map, List.length_cons, List.length_nil, List.length_replicate, List.length_take, List.length_drop, List.length_set]; omega) | (simp <;> omega) | simp_all)) rfl rfl rfl ?_
    refine RegC.m (op_subI rfl (by first | omega | (simp only [List.length_append, List.length_map, List.length_cons, List.length_nil, List.length_replicate, List.length_take, List.length_drop, List.length_set]; omega) | (simp <;> omega) | simp_all)) rfl rfl rfl ?_
    refine RegC.m (op_subI rfl (by first | omega | (simp only [List.length_append, List.length_map, List.length_cons, List.length_nil, List.length_replicate, List.length_take, List.length_drop, List.length_set]; omega) | (simp <;> omega) | simp_all)) rfl rfl rfl ?_
    refine RegC.m (op_addI rfl (by first | omega | (simp only [List.length_append, List.length_map, List.length_cons, List.length_nil, List.length_replicate, List.length_take, List.length_drop, List.length_set]; omega) | (simp <;> omega) | simp_all)) rfl rfl rfl ?_
    refine RegC.m (op_assign rfl) rfl rfl rfl ?_
    refine RegC.done ⟨.inl rfl, ?_⟩
    refine WP.nrm 40 ?_
    refine WP.reg k_mixed fun nm13 hnm13 => ?_
    refine RegC.m (op_move rfl) rfl rfl rfl ?_
    refine RegC.m (op_addI rfl (by first | omega | (simp only [List.length_append, List.length_map, List.length_cons, List.length_nil, List.length_replicate, List.length_take, List.length_drop, List.length_set]; omega) | (simp <;> omega) | simp_all)) rfl rfl rfl ?_
    refine RegC.m (op_assign rfl) rfl rfl rfl ?_
    refine RegC.done ⟨.inl rfl, ?_⟩
    refine WP.nrm 40 ?_
    refine WP.jump (subE.cons rfl (subE.cons rfl (subE.cons rfl (subE.cons rfl (subE.cons rfl (subE.cons rfl (subE.nil))))))) (.cons_cons _ (.cons_cons _ (.cons_cons _ (List.nil_sublist _)))) (ih0 _ _ _ ?_ ?_)
    · exact ⟨_, by omega, by omega, rfl⟩
    · omega
  ·
    refine WP.nrm 40 ?_
    refine WP.reg k_mixed fun nm14 hnm14 => ?_
    refine RegC.m (op_move rfl) rfl rfl rfl ?_
    refine RegC.m (op_assign rfl) rfl rfl rfl ?_
    refine RegC.done ⟨.inl rfl, ?_⟩
    refine WP.nrm 40 ?_
    refine WP.ret1S (b' := b') (vf := fun q => .os q (0) (L) 1 false) 2 (ResV.one rfl (.tmp rfl)) rfl (by simp) os_named (.cons _ (.cons _ (.cons_cons _ (List.nil_sublist _)))) ?_
    exact ⟨by rw [show L = many by omega], by rw [show L = many by omega]⟩

theorem cover1_calls (b' : Nat) (full : Bool) (text : List UInt8) (k n : List UInt8) (hk : k.length = 32) (hn : n.length = 16) (ht : text.length ≤ 1048576) : ACalls Try.prog 12 [.agg ((k).map AVal.u8), .agg ((n).map AVal.u8), VS AVal.u8 full (text)] [] [b'] (.os b' 0 text.length 1 false) [(b', .vec 5 ((cover1 k n text).map AVal.u8))] := by
  refine ACalls.of_wp' (fn := Try.f12) (n := 31) Try.func12 rfl rfl ?_
  unfold Try.f12
  refine WP.nrm 40 ?_
  refine WP.reg k_mixed fun nm1 hnm1 => ?_
  refine RegC.a (op_boxA rfl) rfl rfl rfl ?_
  refine RegC.a (op_boxA rfl) rfl rfl rfl ?_
  refine RegC.m (op_assign rfl) rfl rfl rfl ?_
  refine RegC.done ⟨.inl rfl, ?_⟩
  refine WP.nrm 40 ?_
  refine WP.reg k_mixed fun nm2 hnm2 => ?_
  refine RegC.q (i := 0) (op_loadW rfl k_agg_23 (by first | omega | (simp only [List.length_append, List.length_map, List.length_cons, List.length_nil, List.length_replicate, List.length_take, List.length_drop, List.length_set]; omega) | (simp <;> omega) | simp_all)) rfl rfl rfl rfl ?_
  refine RegC.q (i := 1) (op_loadW rfl k_agg_25 (by first | omega | (simp only [List.length_append, List.length_map, List.length_cons, List.length_nil, List.length_replicate, List.length_take, List.length_drop, List.length_set]; omega) | (simp <;> omega) | simp_all)) rfl rfl rfl rfl ?_
  refine RegC.m (op_move rfl) rfl rfl rfl ?_
  refine RegC.m (op_lenV (f := AVal.u8) (l := text) rfl k_sl_26) rfl rfl rfl ?_
  refine RegC.a (op_call rfl k_call_10 (stream1_calls (nm2 0) (k) (n) (by first | omega | (simp only [List.length_append, List.length_map, List.length_cons, List.length_nil, List.length_replicate, List.length_take, List.length_drop, List.length_set]; omega) | (simp <;> omega) | simp_all) (by first | omega | (simp only [List.length_append, List.length_map, List.length_cons, List.length_nil, List.length_replicate, List.length_take, List.length_drop, List.length_set]; omega) | (simp <;> omega) | simp_all) (0) ((text).length) (by first | omega | (simp only [List.length_append, List.length_map, List.length_cons, List.length_nil, List.length_replicate, List.length_take, List.length_drop, List.length_set]; omega) | (simp <;> omega) | simp_all) (by first | omega | (simp only [List.length_append, List.length_map, List.length_cons, List.length_nil, List.length_replicate, List.length_take, List.length_drop, List.length_set]; omega) | (simp <;> omega) | simp_all))) rfl rfl rfl ?_
  refine RegC.m (op_assign rfl) rfl rfl rfl ?_
  refine RegC.done ⟨.inl rfl, ?_⟩
  refine WP.nrm 40 ?_
  refine WP.reg k_mixed fun nm3 hnm3 => ?_
  refine RegC.m (op_move rfl) rfl rfl rfl ?_
  refine RegC.m (op_lenO rfl k_sl_26) rfl rfl rfl ?_
  refine RegC.m (op_move rfl) rfl rfl rfl ?_
  refine RegC.done ⟨.inl rfl, ?_⟩
  refine WP.nrm 40 ?_
  refine WP.loop2 (fun (i : Int) (l : List UInt8) => [(2, VS AVal.u8 full (text)), (7, .os (nm2 0) (0) (text.length) 1 false), (14, .os (nm2 0) (0) (text.length) 1 false), (15, .i ((((text).length : Nat) : Int))), (16, .i (i))]) (fun (i : Int) (l : List UInt8) => [(nm1 0, .vec 23 ((k).map AVal.u8)), (nm1 1, .vec 25 ((n).map AVal.u8)), (nm2 0, .vec 5 ((l).map AVal.u8))]) (fun (i : Int) (l : List UInt8) => ∃ j : Nat, i = j ∧ j ≤ text.length ∧ l.length = text.length ∧ loopS text.length (coverF text) j l = cover1 k n text) (fun (i : Int) (l : List UInt8) => (text.length - i).toNat) _ _ (subE.cons rfl (subE.cons rfl (subE.cons rfl (subE.cons rfl (subE.cons rfl (subE.nil)))))) (.cons_cons _ (.cons_cons _ (.cons_cons _ (List.nil_sublist _)))) ⟨0, rfl, by omega, by simp, rfl⟩ ?_
  intro i l hI ih0
  obtain ⟨j, rfl, hj, ll, ql⟩ := hI
  refine WP.nrm 40 ?_
  refine WP.reg k_mixed fun nm4 hnm4 => ?_
  refine RegC.m (op_lss rfl) rfl rfl rfl ?_
  refine RegC.done ⟨.inl rfl, ?_⟩
  refine WP.nrm 40 ?_
  refine WP.condD rfl (fun h1 => ?_) (fun h1 => ?_)
  ·
    refine WP.nrm 40 ?_
    refine WP.reg k_mixed fun nm5 hnm5 => ?_
    refine RegC.m (op_move rfl) rfl rfl rfl ?_
    refine RegC.m (op_assign rfl) rfl rfl rfl ?_
    refine RegC.done ⟨.inl rfl, ?_⟩
    refine WP.nrm 40 ?_
    refine WP.reg k_mixed fun nm6 hnm6 => ?_
    refine RegC.m (op_move rfl) rfl rfl rfl ?_
    refine RegC.m (op_move rfl) rfl rfl rfl ?_
    refine RegC.m (op_iO (j) rfl k_sl_26 (by first | omega | (simp only [List.length_append, List.length_map, List.length_cons, List.length_nil, List.length_replicate, List.length_take, List.length_drop, List.length_set]; omega) | (simp <;> omega) | simp_all) (by first | omega | (simp only [List.length_append, List.length_map, List.length_cons, List.length_nil, List.length_replicate, List.length_take, List.length_drop, List.length_set]; omega) | (simp <;> omega) | simp_all)) rfl rfl rfl ?_
    refine RegC.q (i := 2) (op_loadM (f := AVal.u8) (l := l) (n := j) rfl k_scal_5 (by first | omega | (simp only [List.length_append, List.length_map, List.length_cons, List.length_nil, List.length_replicate, List.length_take, List.length_drop, List.length_set]; omega) | (simp <;> omega) | simp_all)) rfl rfl rfl rfl ?_
    refine RegC.m (op_move rfl) rfl rfl rfl ?_
    refine RegC.m (op_move rfl) rfl rfl rfl ?_
    refine RegC.m (op_iV (f := AVal.u8) (l := text) (j) rfl k_sl_26 (by first | omega | (simp only [List.length_append, List.length_map, List.length_cons, List.length_nil, List.length_replicate, List.length_take, List.length_drop, List.length_set]; omega) | (simp <;> omega) | simp_all) (by first | omega | (simp only [List.length_append, List.length_map, List.length_cons, List.length_nil, List.length_replicate, List.length_take, List.length_drop, List.length_set]; omega) | (simp <;> omega) | simp_all)) rfl rfl rfl ?_
    refine RegC.m (op_loadVM (f := AVal.u8) (l := text) (n := j) rfl k_scal_5 (by first | omega | (simp only [List.length_append, List.length_map, List.length_cons, List.length_nil, List.length_replicate, List.length_take, List.length_drop, List.length_set]; omega) | (simp <;> omega) | simp_all)) rfl rfl rfl ?_
    refine RegC.m (op_xor8 rfl) rfl rfl rfl ?_
    refine RegC.m (op_iO (j) rfl k_sl_26 (by first | omega | (simp only [List.length_append, List.length_map, List.length_cons, List.length_nil, List.length_replicate, List.length_take, List.length_drop, List.length_set]; omega) | (simp <;> omega) | simp_all) (by first | omega | (simp only [List.length_append, List.length_map, List.length_cons, List.length_nil, List.length_replicate, List.length_take, List.length_drop, List.length_set]; omega) | (simp <;> omega) | simp_all)) rfl rfl rfl ?_
    refine RegC.w (i := 2) (op_storeM (f := AVal.u8) (l := l) (n := j) (v := ((l)[j]! ^^^ (text)[j]!)) rfl k_scal_5 rfl (by first | omega | (simp only [List.length_append, List.length_map, List.length_cons, List.length_nil, List.length_replicate, List.length_take, List.length_drop, List.length_set]; omega) | (simp <;> omega) | simp_all)) rfl rfl rfl rfl ?_
    refine RegC.done ⟨.inr rfl, ?_⟩
    refine WP.nrm 40 ?_
    refine WP.reg k_mixed fun nm7 hnm7 => ?_
    refine RegC.m (op_addI rfl (by first | omega | (simp only [List.length_append, List.length_map, List.length_cons, List.length_nil, List.length_replicate, List.length_take, List.length_drop, List.length_set]; omega) | (simp <;> omega) | simp_all)) rfl rfl rfl ?_
    refine RegC.m (op_move rfl) rfl rfl rfl ?_
    refine RegC.done ⟨.inl rfl, ?_⟩
    refine WP.nrm 40 ?_
    refine WP.jump (subE.cons rfl (subE.cons rfl (subE.cons rfl (subE.cons rfl (subE.cons rfl (subE.nil)))))) (.cons_cons _ (.cons_cons _ (.cons_cons _ (List.nil_sublist _)))) (ih0 _ _ ?_ ?_)
    · exact ⟨j + 1, by push_cast; rfl, by omega, by simp [ll], by rw [← ql, loopS_next (by omega : j < text.length)]; rfl⟩
    · omega
  ·
    have ej : j = text.length := by omega
    subst ej
    rw [loopS_end] at ql
    refine WP.nrm 40 ?_
    refine WP.reg k_mixed fun nm8 hnm8 => ?_
    refine RegC.m (op_move rfl) rfl rfl rfl ?_
    refine RegC.m (op_assign rfl) rfl rfl rfl ?_
    refine RegC.done ⟨.inl rfl, ?_⟩
    refine WP.nrm 40 ?_
    refine WP.ret1S (b' := b') (vf := fun q => .os q (0) (text.length) 1 false) 2 (ResV.one rfl (.tmp rfl)) rfl (by simp) os_named (.cons _ (.cons _ (.cons_cons _ (List.nil_sublist _)))) ?_
    exact ⟨rfl, by rw [ql]⟩

theorem stream_range (k n : List UInt8) (hk : k.length = 32) (hn : n.length = 16) (fr many : Int) (h : fr < 0 ∨ fr > 1099511627776 ∨ many < 0) : ACalls Try.prog 8 [.agg ((k).map AVal.u8), .agg ((n).map AVal.u8), .i (fr), .i (many)] [] [] (.tup [.vs 0 true [], .i 4]) [] := by
  refine ACalls.of_wp' (fn := Try.f8) (n := 61) Try.func8 rfl rfl ?_
  unfold Try.f8
  refine WP.nrm 40 ?_
  refine WP.reg k_mixed fun nm1 hnm1 => ?_
  refine RegC.a (op_boxA rfl) rfl rfl rfl ?_
  refine RegC.a (op_boxA rfl) rfl rfl rfl ?_
  refine RegC.m (op_assign rfl) rfl rfl rfl ?_
  refine RegC.m (op_assign rfl) rfl rfl rfl ?_
  refine RegC.done ⟨.inl rfl, ?_⟩
  refine WP.nrm 40 ?_
  refine WP.reg k_mixed fun nm2 hnm2 => ?_
  refine RegC.m (op_move rfl) rfl rfl rfl ?_
  rcases Decidable.em ((fr : Int) < 0) with h1 | h1
  ·
    refine RegC.m (OpV.boolT (op_lss rfl) h1) rfl rfl rfl ?_
    refine RegC.m (op_move rfl) rfl rfl rfl ?_
    refine RegC.skip rfl rfl ?_
    refine RegC.skip rfl rfl ?_
    refine RegC.m (op_pick rfl) rfl rfl rfl ?_
    refine RegC.m (op_move rfl) rfl rfl rfl ?_
    refine RegC.skip rfl rfl ?_
    refine RegC.skip rfl rfl ?_
    refine RegC.m (op_pick rfl) rfl rfl rfl ?_
    refine RegC.done ⟨.inl rfl, ?_⟩
    refine WP.nrm 40 ?_
    refine WP.cond (t := true) rfl ?_
    refine WP.nrm 40 ?_
    refine WP.reg k_mixed fun nm3 hnm3 => ?_
    refine RegC.m (op_assign rfl) rfl rfl rfl ?_
    refine RegC.m (op_assign rfl) rfl rfl rfl ?_
    refine RegC.done ⟨.inl rfl, ?_⟩
    refine WP.nrm 40 ?_
    refine WP.retS (ResV.many rfl rfl (.cons (.tmp rfl) (.cons (.tmp rfl) (RessOf.nil)))) (List.nil_sublist _) ?_
    exact ⟨rfl, rfl⟩
  ·
    refine RegC.m (OpV.boolF (op_lss rfl) h1) rfl rfl rfl ?_
    refine RegC.m (op_move rfl) rfl rfl rfl ?_
    refine RegC.m (op_move rfl) rfl rfl rfl ?_
    rcases Decidable.em ((fr : Int) > 1099511627776) with h2 | h2
    ·
      refine RegC.m (OpV.boolT (op_gtr rfl) h2) rfl rfl rfl ?_
      refine RegC.m (op_pick rfl) rfl rfl rfl ?_
      refine RegC.m (op_move rfl) rfl rfl rfl ?_
      refine RegC.skip rfl rfl ?_
      refine RegC.skip rfl rfl ?_
      refine RegC.m (op_pick rfl) rfl rfl rfl ?_
      refine RegC.done ⟨.inl rfl, ?_⟩
      refine WP.nrm 40 ?_
      refine WP.cond (t := true) rfl ?_
      refine WP.nrm 40 ?_
      refine WP.reg k_mixed fun nm4 hnm4 => ?_
      refine RegC.m (op_assign rfl) rfl rfl rfl ?_
      refine RegC.m (op_assign rfl) rfl rfl rfl ?_
      refine RegC.done ⟨.inl rfl, ?_⟩
      refine WP.nrm 40 ?_
      refine WP.retS (ResV.many rfl rfl (.cons (.tmp rfl) (.cons (.tmp rfl) (RessOf.nil)))) (List.nil_sublist _) ?_
      exact ⟨rfl, rfl⟩
    ·
      refine RegC.m (OpV.boolF (op_gtr rfl) h2) rfl rfl rfl ?_
      refine RegC.m (op_pick rfl) rfl rfl rfl ?_
      refine RegC.m (op_move rfl) rfl rfl rfl ?_
      refine RegC.m (op_move rfl) rfl rfl rfl ?_
      refine RegC.m (op_lss rfl) rfl rfl rfl ?_
      refine RegC.m (op_pick rfl) rfl rfl rfl ?_
      refine RegC.done ⟨.inl rfl, ?_⟩
      refine WP.nrm 40 ?_
      refine WP.condD rfl (fun h3 => ?_) (fun h3 => ?_)
      ·
        refine WP.nrm 40 ?_
        refine WP.reg k_mixed fun nm5 hnm5 => ?_
        refine RegC.m (op_assign rfl) rfl rfl rfl ?_
        refine RegC.m (op_assign rfl) rfl rfl rfl ?_
        refine RegC.done ⟨.inl rfl, ?_⟩
        refine WP.nrm 40 ?_
        refine WP.retS (ResV.many rfl rfl (.cons (.tmp rfl) (.cons (.tmp rfl) (RessOf.nil)))) (List.nil_sublist _) ?_
        exact ⟨rfl, rfl⟩
      ·
        exfalso; omega

theorem stream_large (k n : List UInt8) (hk : k.length = 32) (hn : n.length = 16) (fr many : Int) (h1 : 0 ≤ fr) (h2 : fr ≤ 1099511627776) (h3 : many > 1048576) : ACalls Try.prog 8 [.agg ((k).map AVal.u8), .agg ((n).map AVal.u8), .i (fr), .i (many)] [] [] (.tup [.vs 0 true [], .i 5]) [] := by
  refine ACalls.of_wp' (fn := Try.f8) (n := 61) Try.func8 rfl rfl ?_
  unfold Try.f8
  refine WP.nrm 40 ?_
  refine WP.reg k_mixed fun nm1 hnm1 => ?_
  refine RegC.a (op_boxA rfl) rfl rfl rfl ?_
  refine RegC.a (op_boxA rfl) rfl rfl rfl ?_
  refine RegC.m (op_assign rfl) rfl rfl rfl ?_
  refine RegC.m (op_assign rfl) rfl rfl rfl ?_
  refine RegC.done ⟨.inl rfl, ?_⟩
  refine WP.nrm 40 ?_
  refine WP.reg k_mixed fun nm2 hnm2 => ?_
  refine RegC.m (op_move rfl) rfl rfl rfl ?_
  refine RegC.m (OpV.boolF (op_lss rfl) (by omega)) rfl rfl rfl ?_
  refine RegC.m (op_move rfl) rfl rfl rfl ?_
  refine RegC.m (op_move rfl) rfl rfl rfl ?_
  refine RegC.m (OpV.boolF (op_gtr rfl) (by omega)) rfl rfl rfl ?_
  refine RegC.m (op_pick rfl) rfl rfl rfl ?_
  refine RegC.m (op_move rfl) rfl rfl rfl ?_
  refine RegC.m (op_move rfl) rfl rfl rfl ?_
  refine RegC.m (OpV.boolF (op_lss rfl) (by omega)) rfl rfl rfl ?_
  refine RegC.m (op_pick rfl) rfl rfl rfl ?_
  refine RegC.done ⟨.inl rfl, ?_⟩
  refine WP.nrm 40 ?_
  refine WP.cond (t := false) rfl ?_
  refine WP.nrm 40 ?_
  refine WP.reg k_mixed fun nm3 hnm3 => ?_
  refine RegC.m (op_move rfl) rfl rfl rfl ?_
  refine RegC.m (OpV.boolT (op_gtr rfl) (by omega)) rfl rfl rfl ?_
  refine RegC.done ⟨.inl rfl, ?_⟩
  refine WP.nrm 40 ?_
  refine WP.cond (t := true) rfl ?_
  refine WP.nrm 40 ?_
  refine WP.reg k_mixed fun nm4 hnm4 => ?_
  refine RegC.m (op_assign rfl) rfl rfl rfl ?_
  refine RegC.m (op_assign rfl) rfl rfl rfl ?_
  refine RegC.done ⟨.inl rfl, ?_⟩
  refine WP.nrm 40 ?_
  refine WP.retS (ResV.many rfl rfl (.cons (.tmp rfl) (.cons (.tmp rfl) (RessOf.nil)))) (List.nil_sublist _) ?_
  exact ⟨rfl, rfl⟩

theorem cover_large (full : Bool) (text : List UInt8) (k n : List UInt8) (hk : k.length = 32) (hn : n.length = 16) (ht : 1048576 < text.length) : ACalls Try.prog 11 [.agg ((k).map AVal.u8), .agg ((n).map AVal.u8), VS AVal.u8 full (text)] [] [] (.tup [.vs 0 true [], .i 5]) [] := by
  refine ACalls.of_wp' (fn := Try.f11) (n := 39) Try.func11 rfl rfl ?_
  unfold Try.f11
  refine WP.nrm 40 ?_
  refine WP.reg k_mixed fun nm1 hnm1 => ?_
  refine RegC.a (op_boxA rfl) rfl rfl rfl ?_
  refine RegC.a (op_boxA rfl) rfl rfl rfl ?_
  refine RegC.m (op_assign rfl) rfl rfl rfl ?_
  refine RegC.m (op_assign rfl) rfl rfl rfl ?_
  refine RegC.done ⟨.inl rfl, ?_⟩
  refine WP.nrm 40 ?_
  refine WP.reg k_mixed fun nm2 hnm2 => ?_
  refine RegC.q (i := 0) (op_loadW rfl k_agg_23 (by first | omega | (simp only [List.length_append, List.length_map, List.length_cons, List.length_nil, List.length_replicate, List.length_take, List.length_drop, List.length_set]; omega) | (simp <;> omega) | simp_all)) rfl rfl rfl rfl ?_
  refine RegC.q (i := 1) (op_loadW rfl k_agg_25 (by first | omega | (simp only [List.length_append, List.length_map, List.length_cons, List.length_nil, List.length_replicate, List.length_take, List.length_drop, List.length_set]; omega) | (simp <;> omega) | simp_all)) rfl rfl rfl rfl ?_
  refine RegC.m (op_move rfl) rfl rfl rfl ?_
  refine RegC.m (op_lenV (f := AVal.u8) (l := text) rfl k_sl_26) rfl rfl rfl ?_
  refine RegC.m (op_call rfl k_call_8 (stream_large (k) (n) (by first | omega | (simp only [List.length_append, List.length_map, List.length_cons, List.length_nil, List.length_replicate, List.length_take, List.length_drop, List.length_set]; omega) | (simp <;> omega) | simp_all) (by first | omega | (simp only [List.length_append, List.length_map, List.length_cons, List.length_nil, List.length_replicate, List.length_take, List.length_drop, List.length_set]; omega) | (simp <;> omega) | simp_all) _ _ (by first | omega | (simp only [List.length_append, List.length_map, List.length_cons, List.length_nil, List.length_replicate, List.length_take, List.length_drop, List.length_set]; omega) | (simp <;> omega) | simp_all) (by first | omega | (simp only [List.length_append, List.length_map, List.length_cons, List.length_nil, List.length_replicate, List.length_take, List.length_drop, List.length_set]; omega) | (simp <;> omega) | simp_all) (by first | omega | (simp only [List.length_append, List.length_map, List.length_cons, List.length_nil, List.length_replicate, List.length_take, List.length_drop, List.length_set]; omega) | (simp <;> omega) | simp_all))) rfl rfl rfl ?_
  refine RegC.m (op_move rfl) rfl rfl rfl ?_
  refine RegC.m (op_extract rfl rfl) rfl rfl rfl ?_
  refine RegC.m (op_extract rfl rfl) rfl rfl rfl ?_
  refine RegC.m (op_assign rfl) rfl rfl rfl ?_
  refine RegC.m (op_assign rfl) rfl rfl rfl ?_
  refine RegC.done ⟨.inl rfl, ?_⟩
  refine WP.nrm 40 ?_
  refine WP.reg k_mixed fun nm3 hnm3 => ?_
  refine RegC.m (op_move rfl) rfl rfl rfl ?_
  refine RegC.m (op_neq rfl) rfl rfl rfl ?_
  refine RegC.done ⟨.inl rfl, ?_⟩
  refine WP.nrm 40 ?_
  refine WP.cond (t := true) rfl ?_
  refine WP.nrm 40 ?_
  refine WP.reg k_mixed fun nm4 hnm4 => ?_
  refine RegC.m (op_move rfl) rfl rfl rfl ?_
  refine RegC.m (op_assign rfl) rfl rfl rfl ?_
  refine RegC.m (op_assign rfl) rfl rfl rfl ?_
  refine RegC.done ⟨.inl rfl, ?_⟩
  refine WP.nrm 40 ?_
  refine WP.retS (ResV.many rfl rfl (.cons (.tmp rfl) (.cons (.tmp rfl) (RessOf.nil)))) (List.nil_sublist _) ?_
  exact ⟨rfl, rfl⟩
end Go.Proofs.Try
