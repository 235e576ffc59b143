import Derived.Test.YtdnccchcflaphaaK9
import Derived.Test.YtdnccchcflaphaaFF
import Derived.Test.YtdnccchcflaphaaS10
namespace Go.Proofs.Try
open Go Go.Kw
set_option linter.unusedVariables false
set_option linter.unusedSimpArgs false
set_option maxRecDepth 100000
set_option maxHeartbeats 400000
theorem k_call_56 : callable Try.prog 56 = true := by kernel_rfl
theorem k_call_88 : callable Try.prog 88 = true := by kernel_rfl
theorem k_call_96 : callable Try.prog 96 = true := by kernel_rfl
theorem k_call_97 : callable Try.prog 97 = true := by kernel_rfl
theorem k_call_98 : callable Try.prog 98 = true := by kernel_rfl
theorem k_sl_106 : slT Try.prog 106 = some (28, 1, 8) := by kernel_rfl
theorem k_scal_28 : scalT Try.prog 28 = true := by kernel_rfl

theorem bnS_calls (n : List UInt8) (hn : n.length = 16) (i : Nat) (hi : i ≤ 1048576) : ACalls Try.prog 58 [.agg ((n).map AVal.u8), .i ((i : Int))] [] [] (.agg ((bnS n i).map AVal.u8)) [] := by
  refine ACalls.of_wp' (fn := Try.f58) (n := 18) Try.func58 rfl rfl ?_
  unfold Try.f58
  refine WP.nrm 40 ?_
  refine WP.reg k_mixed fun nm1 hnm1 => ?_
  refine RegC.m (op_boxD rfl) rfl rfl rfl ?_
  refine RegC.a (op_alloc rfl k_zero_25) rfl rfl rfl ?_
  refine RegC.done ⟨.inl rfl, ?_⟩
  refine WP.nrm 40 ?_
  refine WP.reg k_mixed fun nm2 hnm2 => ?_
  refine RegC.m (op_sVA00f (f := AVal.u8) (l := n) rfl k_arr_25 (by first | omega | (simp only [List.length_append, List.length_map, List.length_cons, List.length_nil, List.length_replicate, List.length_take, List.length_drop, List.length_set]; omega) | (simp <;> omega) | simp_all | rfl)) rfl rfl rfl ?_
  refine RegC.m (op_move rfl) rfl rfl rfl ?_
  refine RegC.m (op_call rfl k_call_56 (putLong_d true (([] : List UInt8)) (i) (by first | omega | (simp only [List.length_append, List.length_map, List.length_cons, List.length_nil, List.length_replicate, List.length_take, List.length_drop, List.length_set]; omega) | (simp <;> omega) | simp_all) (by first | omega | (simp only [List.length_append, List.length_map, List.length_cons, List.length_nil, List.length_replicate, List.length_take, List.length_drop, List.length_set]; omega) | (simp <;> omega) | simp_all))) rfl rfl rfl ?_
  refine RegC.m (op_buildSlD (zv := .vs 0 true []) (vs := List.map PB [n, ([] : List UInt8) ++ longS (UInt64.ofNat (i))]) rfl k_sl_36 k_zeroV_26 rfl rfl rfl (by omega)) rfl rfl rfl ?_
  refine RegC.m (op_call rfl k_call_88 (sums_calls (0) (by omega) true ([n, ([] : List UInt8) ++ longS (UInt64.ofNat (i))]) (by simp [framedS, frameS] <;> omega) (by simp))) rfl rfl rfl ?_
  refine RegC.m (op_move rfl) rfl rfl rfl ?_
  refine RegC.m (op_extract rfl rfl) rfl rfl rfl ?_
  refine RegC.m (op_extract rfl rfl) rfl rfl rfl ?_
  refine RegC.a (op_alloc rfl k_zero_43) rfl rfl rfl ?_
  refine RegC.w (i := 1) (op_storeW rfl k_agg_43 (by first | omega | (simp only [List.length_append, List.length_map, List.length_cons, List.length_nil, List.length_replicate, List.length_take, List.length_drop, List.length_set]; omega) | (simp <;> omega) | simp_all) (by first | omega | (simp only [List.length_append, List.length_map, List.length_cons, List.length_nil, List.length_replicate, List.length_take, List.length_drop, List.length_set]; omega) | (simp <;> omega) | simp_all) (by first | exact allS (fun _ => rfl) | simp [AVal.scalar])) rfl rfl rfl rfl ?_
  refine RegC.m (op_assign rfl) rfl rfl rfl ?_
  refine RegC.done ⟨.inr rfl, ?_⟩
  refine WP.cold (b := nm2 0) 1 [(5, .vptr ((sum1 (0) (framedS ([n, ([] : List UInt8) ++ longS (UInt64.ofNat (i))]))).map AVal.u8) (0))] rfl (frzE.cons rfl (.ptr 0) frzE.nil) ?_
  refine WP.nrm 40 ?_
  refine WP.reg k_mixed fun nm3 hnm3 => ?_
  refine RegC.m (op_sVA01 (f := AVal.u8) (l := sum1 (0) (framedS ([n, ([] : List UInt8) ++ longS (UInt64.ofNat (i))]))) (16) rfl k_arr_43 (by first | omega | (simp only [List.length_append, List.length_map, List.length_cons, List.length_nil, List.length_replicate, List.length_take, List.length_drop, List.length_set]; omega) | (simp <;> omega) | simp_all) (by first | omega | (simp only [List.length_append, List.length_map, List.length_cons, List.length_nil, List.length_replicate, List.length_take, List.length_drop, List.length_set]; omega) | (simp <;> omega) | simp_all) (by first | omega | (simp only [List.length_append, List.length_map, List.length_cons, List.length_nil, List.length_replicate, List.length_take, List.length_drop, List.length_set]; omega) | (simp <;> omega) | simp_all | rfl)) rfl rfl rfl ?_
  refine RegC.m (op_toArrM (f := AVal.u8) (l := (sum1 (0) (framedS ([n, ([] : List UInt8) ++ longS (UInt64.ofNat (i))]))).take (16)) rfl k_arr_25 (by first | omega | (simp only [List.length_append, List.length_map, List.length_cons, List.length_nil, List.length_replicate, List.length_take, List.length_drop, List.length_set]; omega) | (simp <;> omega) | simp_all) (by omega)) rfl rfl rfl ?_
  refine RegC.m (op_loadVP (f := AVal.u8) (l := (sum1 (0) (framedS ([n, ([] : List UInt8) ++ longS (UInt64.ofNat (i))]))).take (16)) (off := 0) rfl k_agg_25 (by first | omega | (simp only [List.length_append, List.length_map, List.length_cons, List.length_nil, List.length_replicate, List.length_take, List.length_drop, List.length_set]; omega) | (simp <;> omega) | simp_all)) rfl rfl rfl ?_
  refine RegC.w (i := 0) (op_storeW rfl k_agg_25 (by first | omega | (simp only [List.length_append, List.length_map, List.length_cons, List.length_nil, List.length_replicate, List.length_take, List.length_drop, List.length_set]; omega) | (simp <;> omega) | simp_all) (by first | omega | (simp only [List.length_append, List.length_map, List.length_cons, List.length_nil, List.length_replicate, List.length_take, List.length_drop, List.length_set]; omega) | (simp <;> omega) | simp_all) (by first | exact allS (fun _ => rfl) | simp [AVal.scalar])) rfl rfl rfl rfl ?_
  refine RegC.done ⟨.inl rfl, ?_⟩
  refine WP.nrm 40 ?_
  refine WP.retS (ResV.one rfl (.cellW 0 rfl rfl k_agg_25 (by first | omega | (simp only [List.length_append, List.length_map, List.length_cons, List.length_nil, List.length_replicate, List.length_take, List.length_drop, List.length_set]; omega) | (simp <;> omega) | simp_all))) (List.nil_sublist _) ?_
  exact ⟨by rw [bnS_cut], rfl⟩

theorem bn1_calls (n : List UInt8) (hn : n.length = 16) (i : Nat) (hi : i ≤ 1048576) : ACalls Try.prog 62 [.agg ((n).map AVal.u8), .i ((i : Int))] [] [] (.agg ((bn1 n i).map AVal.u8)) [] := by
  have hfl := framed1_len2 n (octs i 8)
  have ho8 := octs_length i 8
  refine ACalls.of_wp' (fn := Try.f62) (n := 16) Try.func62 rfl rfl ?_
  unfold Try.f62
  refine WP.nrm 40 ?_
  refine WP.reg k_mixed fun nm1 hnm1 => ?_
  refine RegC.m (op_boxD rfl) rfl rfl rfl ?_
  refine RegC.a (op_alloc rfl k_zero_25) rfl rfl rfl ?_
  refine RegC.done ⟨.inl rfl, ?_⟩
  refine WP.nrm 40 ?_
  refine WP.reg k_mixed fun nm2 hnm2 => ?_
  refine RegC.m (op_sVA00f (f := AVal.u8) (l := n) rfl k_arr_25 (by first | omega | (simp only [List.length_append, List.length_map, List.length_cons, List.length_nil, List.length_replicate, List.length_take, List.length_drop, List.length_set]; omega) | (simp <;> omega) | simp_all | rfl)) rfl rfl rfl ?_
  refine RegC.m (op_move rfl) rfl rfl rfl ?_
  refine RegC.m (op_call rfl k_call_96 (octets_d (i) (8) (by omega) (by first | omega | (simp only [List.length_append, List.length_map, List.length_cons, List.length_nil, List.length_replicate, List.length_take, List.length_drop, List.length_set]; omega) | (simp <;> omega) | simp_all))) rfl rfl rfl ?_
  refine RegC.m (op_buildSlD (zv := .vs 0 true []) (vs := List.map PB [n, octs (i) (8)]) rfl k_sl_36 k_zeroV_26 rfl rfl rfl (by omega)) rfl rfl rfl ?_
  refine RegC.m (op_call rfl k_call_97 (framed_d true ([n, octs (i) (8)]) (by simp [framed1, frame1] <;> omega) (by simp))) rfl rfl rfl ?_
  refine RegC.m (op_call rfl k_call_18 (sum1_calls false (0) (framed1 ([n, octs (i) (8)])) (by first | omega | (simp only [List.length_append, List.length_map, List.length_cons, List.length_nil, List.length_replicate, List.length_take, List.length_drop, List.length_set]; omega) | (simp <;> omega) | simp_all) (by first | omega | (simp only [List.length_append, List.length_map, List.length_cons, List.length_nil, List.length_replicate, List.length_take, List.length_drop, List.length_set]; omega) | (simp <;> omega) | simp_all))) rfl rfl rfl ?_
  refine RegC.a (op_alloc rfl k_zero_43) rfl rfl rfl ?_
  refine RegC.w (i := 1) (op_storeW rfl k_agg_43 (by first | omega | (simp only [List.length_append, List.length_map, List.length_cons, List.length_nil, List.length_replicate, List.length_take, List.length_drop, List.length_set]; omega) | (simp <;> omega) | simp_all) (by first | omega | (simp only [List.length_append, List.length_map, List.length_cons, List.length_nil, List.length_replicate, List.length_take, List.length_drop, List.length_set]; omega) | (simp <;> omega) | simp_all) (by first | exact allS (fun _ => rfl) | simp [AVal.scalar])) rfl rfl rfl rfl ?_
  refine RegC.done ⟨.inr rfl, ?_⟩
  refine WP.nrm 40 ?_
  refine WP.reg k_mixed fun nm3 hnm3 => ?_
  refine RegC.q (i := 0) (op_sA00 rfl k_arr_25 (by first | omega | (simp only [List.length_append, List.length_map, List.length_cons, List.length_nil, List.length_replicate, List.length_take, List.length_drop, List.length_set]; omega) | (simp <;> omega) | simp_all)) rfl rfl rfl rfl ?_
  refine RegC.q (i := 1) (op_sA00 rfl k_arr_43 (by first | omega | (simp only [List.length_append, List.length_map, List.length_cons, List.length_nil, List.length_replicate, List.length_take, List.length_drop, List.length_set]; omega) | (simp <;> omega) | simp_all)) rfl rfl rfl rfl ?_
  refine RegC.wq (i := 0) (j := 1) (OpV.toH (op_copyMO (l := List.replicate 16 (0 : UInt8)) (l2 := sum1 (0) (framed1 ([n, octs (i) (8)]))) (f := AVal.u8) (fun _ => rfl) rfl rfl k_sl_26 (by first | omega | (simp only [List.length_append, List.length_map, List.length_cons, List.length_nil, List.length_replicate, List.length_take, List.length_drop, List.length_set]; omega) | (simp <;> omega) | simp_all) (by first | omega | (simp only [List.length_append, List.length_map, List.length_cons, List.length_nil, List.length_replicate, List.length_take, List.length_drop, List.length_set]; omega) | (simp <;> omega) | simp_all)) rfl (by rw [bn1_raw])) rfl rfl rfl rfl rfl rfl ?_
  refine RegC.done ⟨.inr rfl, ?_⟩
  refine WP.nrm 40 ?_
  refine WP.reg k_mixed fun nm4 hnm4 => ?_
  refine RegC.q (i := 0) (op_loadW rfl k_agg_25 (by first | omega | (simp only [List.length_append, List.length_map, List.length_cons, List.length_nil, List.length_replicate, List.length_take, List.length_drop, List.length_set]; omega) | (simp <;> omega) | simp_all)) rfl rfl rfl rfl ?_
  refine RegC.w (i := 0) (op_storeW rfl k_agg_25 (by first | omega | (simp only [List.length_append, List.length_map, List.length_cons, List.length_nil, List.length_replicate, List.length_take, List.length_drop, List.length_set]; omega) | (simp <;> omega) | simp_all) (by first | omega | (simp only [List.length_append, List.length_map, List.length_cons, List.length_nil, List.length_replicate, List.length_take, List.length_drop, List.length_set]; omega) | (simp <;> omega) | simp_all) (by first | exact allS (fun _ => rfl) | simp [AVal.scalar])) rfl rfl rfl rfl ?_
  refine RegC.done ⟨.inl rfl, ?_⟩
  refine WP.nrm 40 ?_
  refine WP.retS (ResV.one rfl (.cellW 0 rfl rfl k_agg_25 (by first | omega | (simp only [List.length_append, List.length_map, List.length_cons, List.length_nil, List.length_replicate, List.length_take, List.length_drop, List.length_set]; omega) | (simp <;> omega) | simp_all))) (List.nil_sublist _) ?_
  exact ⟨rfl, rfl⟩

theorem btS_calls (k : List UInt8) (hk : k.length = 32) (f1 f2 f3 : Bool) (head first cov : List UInt8) (hh : head.length ≤ 4096) (hf : first.length = 32) (hcv : cov.length ≤ 65536) (i : Nat) (hi : i ≤ 1048576) : ACalls Try.prog 59 [.agg ((k).map AVal.u8), VS AVal.u8 f1 (head), VS AVal.u8 f2 (first), .i ((i : Int)), VS AVal.u8 f3 (cov)] [] [] (.agg ((btS k head first i cov).map AVal.u8)) [] := by
  refine ACalls.of_wp' (fn := Try.f59) (n := 32) Try.func59 rfl rfl ?_
  unfold Try.f59
  refine WP.weakV 1 rfl ?_
  refine WP.weakV 2 rfl ?_
  refine WP.weakV 4 rfl ?_
  refine WP.nrm 40 ?_
  refine WP.reg k_mixed fun nm1 hnm1 => ?_
  refine RegC.m (op_boxD rfl) rfl rfl rfl ?_
  refine RegC.a (op_alloc rfl k_zero_104) rfl rfl rfl ?_
  refine RegC.done ⟨.inl rfl, ?_⟩
  refine WP.nrm 40 ?_
  refine WP.reg k_mixed fun nm2 hnm2 => ?_
  refine RegC.m (op_move rfl) rfl rfl rfl ?_
  refine RegC.m (op_move rfl) rfl rfl rfl ?_
  refine RegC.m (op_move rfl) rfl rfl rfl ?_
  refine RegC.m (op_call rfl k_call_56 (putLong_d true (([] : List UInt8)) (i) (by first | omega | (simp only [List.length_append, List.length_map, List.length_cons, List.length_nil, List.length_replicate, List.length_take, List.length_drop, List.length_set]; omega) | (simp <;> omega) | simp_all) (by first | omega | (simp only [List.length_append, List.length_map, List.length_cons, List.length_nil, List.length_replicate, List.length_take, List.length_drop, List.length_set]; omega) | (simp <;> omega) | simp_all))) rfl rfl rfl ?_
  refine RegC.m (op_move rfl) rfl rfl rfl ?_
  refine RegC.m (op_buildSlD (zv := .vs 0 true []) (vs := List.map PB [head, first, ([] : List UInt8) ++ longS (UInt64.ofNat (i)), cov]) rfl k_sl_36 k_zeroV_26 rfl rfl rfl (by omega)) rfl rfl rfl ?_
  refine RegC.m (op_call rfl k_call_88 (sums_calls (0) (by omega) true ([head, first, ([] : List UInt8) ++ longS (UInt64.ofNat (i)), cov]) (by simp [framedS, frameS] <;> omega) (by simp))) rfl rfl rfl ?_
  refine RegC.m (op_move rfl) rfl rfl rfl ?_
  refine RegC.m (op_extract rfl rfl) rfl rfl rfl ?_
  refine RegC.m (op_extract rfl rfl) rfl rfl rfl ?_
  refine RegC.a (op_alloc rfl k_zero_43) rfl rfl rfl ?_
  refine RegC.w (i := 1) (op_storeW rfl k_agg_43 (by first | omega | (simp only [List.length_append, List.length_map, List.length_cons, List.length_nil, List.length_replicate, List.length_take, List.length_drop, List.length_set]; omega) | (simp <;> omega) | simp_all) (by first | omega | (simp only [List.length_append, List.length_map, List.length_cons, List.length_nil, List.length_replicate, List.length_take, List.length_drop, List.length_set]; omega) | (simp <;> omega) | simp_all) (by first | exact allS (fun _ => rfl) | simp [AVal.scalar])) rfl rfl rfl rfl ?_
  refine RegC.m (op_assign rfl) rfl rfl rfl ?_
  refine RegC.done ⟨.inl rfl, ?_⟩
  refine WP.cold (b := nm2 0) 1 [(11, .vptr ((sum1 (0) (framedS ([head, first, ([] : List UInt8) ++ longS (UInt64.ofNat (i)), cov]))).map AVal.u8) (0))] rfl (frzE.cons rfl (.ptr 0) frzE.nil) ?_
  refine WP.nrm 40 ?_
  refine WP.reg k_mixed fun nm3 hnm3 => ?_
  refine RegC.m (op_loadVG (cells := (k).map AVal.u8) rfl k_agg_23 (by first | omega | (simp only [List.length_append, List.length_map, List.length_cons, List.length_nil, List.length_replicate, List.length_take, List.length_drop, List.length_set]; omega) | (simp <;> omega) | simp_all | rfl) (prW (by first | omega | (simp only [List.length_append, List.length_map, List.length_cons, List.length_nil, List.length_replicate, List.length_take, List.length_drop, List.length_set]; omega) | (simp <;> omega) | simp_all | rfl))) rfl rfl rfl ?_
  refine RegC.m (op_sVA00f (f := AVal.u8) (l := sum1 (0) (framedS ([head, first, ([] : List UInt8) ++ longS (UInt64.ofNat (i)), cov]))) rfl k_arr_43 (by first | omega | (simp only [List.length_append, List.length_map, List.length_cons, List.length_nil, List.length_replicate, List.length_take, List.length_drop, List.length_set]; omega) | (simp <;> omega) | simp_all | rfl)) rfl rfl rfl ?_
  refine RegC.m (op_call rfl k_call_89 (tagOf_calls (k) (by first | omega | (simp only [List.length_append, List.length_map, List.length_cons, List.length_nil, List.length_replicate, List.length_take, List.length_drop, List.length_set]; omega) | (simp <;> omega) | simp_all) false (sum1 (0) (framedS ([head, first, ([] : List UInt8) ++ longS (UInt64.ofNat (i)), cov]))) (by first | omega | (simp only [List.length_append, List.length_map, List.length_cons, List.length_nil, List.length_replicate, List.length_take, List.length_drop, List.length_set]; omega) | (simp <;> omega) | simp_all))) rfl rfl rfl ?_
  refine RegC.m (op_move rfl) rfl rfl rfl ?_
  refine RegC.m (op_extract rfl rfl) rfl rfl rfl ?_
  refine RegC.m (op_extract rfl rfl) rfl rfl rfl ?_
  refine RegC.a (op_alloc rfl k_zero_104) rfl rfl rfl ?_
  refine RegC.w (i := 1) (op_storeW rfl k_agg_104 (by first | omega | (simp only [List.length_append, List.length_map, List.length_cons, List.length_nil, List.length_replicate, List.length_take, List.length_drop, List.length_set]; omega) | (simp <;> omega) | simp_all) (by first | omega | (simp only [List.length_append, List.length_map, List.length_cons, List.length_nil, List.length_replicate, List.length_take, List.length_drop, List.length_set]; omega) | (simp <;> omega) | simp_all) (by first | exact allS (fun _ => rfl) | simp [AVal.scalar])) rfl rfl rfl rfl ?_
  refine RegC.m (op_assign rfl) rfl rfl rfl ?_
  refine RegC.done ⟨.inr rfl, ?_⟩
  refine WP.cold (b := nm3 0) 1 [(13, .vptr ((tag1 8 (k ++ (sum1 (0) (framedS ([head, first, ([] : List UInt8) ++ longS (UInt64.ofNat (i)), cov]))))).map AVal.u8) (0))] rfl (frzE.cons rfl (.ptr 0) frzE.nil) ?_
  refine WP.nrm 40 ?_
  refine WP.reg k_mixed fun nm4 hnm4 => ?_
  refine RegC.m (op_loadVG (cells := (tag1 8 (k ++ (sum1 (0) (framedS ([head, first, ([] : List UInt8) ++ longS (UInt64.ofNat (i)), cov]))))).map AVal.u8) rfl k_agg_104 (by first | omega | (simp only [List.length_append, List.length_map, List.length_cons, List.length_nil, List.length_replicate, List.length_take, List.length_drop, List.length_set]; omega) | (simp <;> omega) | simp_all | rfl) (prW (by first | omega | (simp only [List.length_append, List.length_map, List.length_cons, List.length_nil, List.length_replicate, List.length_take, List.length_drop, List.length_set]; omega) | (simp <;> omega) | simp_all | rfl))) rfl rfl rfl ?_
  refine RegC.w (i := 0) (op_storeW rfl k_agg_104 (by first | omega | (simp only [List.length_append, List.length_map, List.length_cons, List.length_nil, List.length_replicate, List.length_take, List.length_drop, List.length_set]; omega) | (simp <;> omega) | simp_all) (by first | omega | (simp only [List.length_append, List.length_map, List.length_cons, List.length_nil, List.length_replicate, List.length_take, List.length_drop, List.length_set]; omega) | (simp <;> omega) | simp_all) (by first | exact allS (fun _ => rfl) | simp [AVal.scalar])) rfl rfl rfl rfl ?_
  refine RegC.done ⟨.inl rfl, ?_⟩
  refine WP.nrm 40 ?_
  refine WP.retS (ResV.one rfl (.cellW 0 rfl rfl k_agg_104 (by first | omega | (simp only [List.length_append, List.length_map, List.length_cons, List.length_nil, List.length_replicate, List.length_take, List.length_drop, List.length_set]; omega) | (simp <;> omega) | simp_all))) (List.nil_sublist _) ?_
  exact ⟨rfl, rfl⟩

theorem bt1_calls (k : List UInt8) (hk : k.length = 32) (f1 f2 f3 : Bool) (head first cov : List UInt8) (hh : head.length ≤ 4096) (hf : first.length = 32) (hcv : cov.length ≤ 65536) (i : Nat) (hi : i ≤ 1048576) : ACalls Try.prog 63 [.agg ((k).map AVal.u8), VS AVal.u8 f1 (head), VS AVal.u8 f2 (first), VS AVal.u8 f3 (cov), .i ((i : Int))] [] [] (.agg ((bt1 k head first cov i).map AVal.u8)) [] := by
  have hfl := framed1_len4 head first (octs i 8) cov
  have ho8 := octs_length i 8
  refine ACalls.of_wp' (fn := Try.f63) (n := 23) Try.func63 rfl rfl ?_
  unfold Try.f63
  refine WP.weakV 1 rfl ?_
  refine WP.weakV 2 rfl ?_
  refine WP.weakV 3 rfl ?_
  refine WP.nrm 40 ?_
  refine WP.reg k_mixed fun nm1 hnm1 => ?_
  refine RegC.m (op_boxD rfl) rfl rfl rfl ?_
  refine RegC.a (op_alloc rfl k_zero_104) rfl rfl rfl ?_
  refine RegC.done ⟨.inl rfl, ?_⟩
  refine WP.nrm 40 ?_
  refine WP.reg k_mixed fun nm2 hnm2 => ?_
  refine RegC.m (op_move rfl) rfl rfl rfl ?_
  refine RegC.m (op_move rfl) rfl rfl rfl ?_
  refine RegC.m (op_move rfl) rfl rfl rfl ?_
  refine RegC.m (op_call rfl k_call_96 (octets_d (i) (8) (by omega) (by first | omega | (simp only [List.length_append, List.length_map, List.length_cons, List.length_nil, List.length_replicate, List.length_take, List.length_drop, List.length_set]; omega) | (simp <;> omega) | simp_all))) rfl rfl rfl ?_
  refine RegC.m (op_move rfl) rfl rfl rfl ?_
  refine RegC.m (op_buildSlD (zv := .vs 0 true []) (vs := List.map PB [head, first, octs (i) (8), cov]) rfl k_sl_36 k_zeroV_26 rfl rfl rfl (by omega)) rfl rfl rfl ?_
  refine RegC.m (op_call rfl k_call_97 (framed_d true ([head, first, octs (i) (8), cov]) (by simp [framed1, frame1] <;> omega) (by simp))) rfl rfl rfl ?_
  refine RegC.m (op_call rfl k_call_18 (sum1_calls false (0) (framed1 ([head, first, octs (i) (8), cov])) (by first | omega | (simp only [List.length_append, List.length_map, List.length_cons, List.length_nil, List.length_replicate, List.length_take, List.length_drop, List.length_set]; omega) | (simp <;> omega) | simp_all) (by first | omega | (simp only [List.length_append, List.length_map, List.length_cons, List.length_nil, List.length_replicate, List.length_take, List.length_drop, List.length_set]; omega) | (simp <;> omega) | simp_all))) rfl rfl rfl ?_
  refine RegC.a (op_alloc rfl k_zero_43) rfl rfl rfl ?_
  refine RegC.w (i := 1) (op_storeW rfl k_agg_43 (by first | omega | (simp only [List.length_append, List.length_map, List.length_cons, List.length_nil, List.length_replicate, List.length_take, List.length_drop, List.length_set]; omega) | (simp <;> omega) | simp_all) (by first | omega | (simp only [List.length_append, List.length_map, List.length_cons, List.length_nil, List.length_replicate, List.length_take, List.length_drop, List.length_set]; omega) | (simp <;> omega) | simp_all) (by first | exact allS (fun _ => rfl) | simp [AVal.scalar])) rfl rfl rfl rfl ?_
  refine RegC.done ⟨.inl rfl, ?_⟩
  refine WP.cold (b := nm2 0) 1 [(11, .vptr ((sum1 (0) (framed1 ([head, first, octs (i) (8), cov]))).map AVal.u8) (0))] rfl (frzE.cons rfl (.ptr 0) frzE.nil) ?_
  refine WP.nrm 40 ?_
  refine WP.reg k_mixed fun nm3 hnm3 => ?_
  refine RegC.m (op_loadVG (cells := (k).map AVal.u8) rfl k_agg_23 (by first | omega | (simp only [List.length_append, List.length_map, List.length_cons, List.length_nil, List.length_replicate, List.length_take, List.length_drop, List.length_set]; omega) | (simp <;> omega) | simp_all | rfl) (prW (by first | omega | (simp only [List.length_append, List.length_map, List.length_cons, List.length_nil, List.length_replicate, List.length_take, List.length_drop, List.length_set]; omega) | (simp <;> omega) | simp_all | rfl))) rfl rfl rfl ?_
  refine RegC.m (op_sVA00f (f := AVal.u8) (l := sum1 (0) (framed1 ([head, first, octs (i) (8), cov]))) rfl k_arr_43 (by first | omega | (simp only [List.length_append, List.length_map, List.length_cons, List.length_nil, List.length_replicate, List.length_take, List.length_drop, List.length_set]; omega) | (simp <;> omega) | simp_all | rfl)) rfl rfl rfl ?_
  refine RegC.m (op_call rfl k_call_98 (tag1_calls (k) (by first | omega | (simp only [List.length_append, List.length_map, List.length_cons, List.length_nil, List.length_replicate, List.length_take, List.length_drop, List.length_set]; omega) | (simp <;> omega) | simp_all) false (sum1 (0) (framed1 ([head, first, octs (i) (8), cov]))) (by first | omega | (simp only [List.length_append, List.length_map, List.length_cons, List.length_nil, List.length_replicate, List.length_take, List.length_drop, List.length_set]; omega) | (simp <;> omega) | simp_all))) rfl rfl rfl ?_
  refine RegC.w (i := 0) (op_storeW rfl k_agg_104 (by first | omega | (simp only [List.length_append, List.length_map, List.length_cons, List.length_nil, List.length_replicate, List.length_take, List.length_drop, List.length_set]; omega) | (simp <;> omega) | simp_all) (by first | omega | (simp only [List.length_append, List.length_map, List.length_cons, List.length_nil, List.length_replicate, List.length_take, List.length_drop, List.length_set]; omega) | (simp <;> omega) | simp_all) (by first | exact allS (fun _ => rfl) | simp [AVal.scalar])) rfl rfl rfl rfl ?_
  refine RegC.done ⟨.inr rfl, ?_⟩
  refine WP.nrm 40 ?_
  refine WP.retS (ResV.one rfl (.cellW 0 rfl rfl k_agg_104 (by first | omega | (simp only [List.length_append, List.length_map, List.length_cons, List.length_nil, List.length_replicate, List.length_take, List.length_drop, List.length_set]; omega) | (simp <;> omega) | simp_all))) (List.nil_sublist _) ?_
  exact ⟨rfl, rfl⟩

theorem textHead1 (b' : Nat) (n : List UInt8) (hn : n.length = 16) (block size : Nat) (hbl : block ≤ 65536) (hsz : size ≤ 262144) : ACalls Try.prog 61 [.agg ((n).map AVal.u8), .i ((block : Int)), .i ((size : Int))] [] [b'] (.os b' 0 32 1 false) [(b', .vec 5 ((headS n block size).map AVal.u8))] := by
  refine ACalls.of_wp' (fn := Try.f61) (n := 19) Try.func61 rfl rfl ?_
  unfold Try.f61
  refine WP.nrm 40 ?_
  refine WP.reg k_mixed fun nm1 hnm1 => ?_
  refine RegC.m (op_boxD rfl) rfl rfl rfl ?_
  refine RegC.m (op_assign rfl) rfl rfl rfl ?_
  refine RegC.done ⟨.inl rfl, ?_⟩
  refine WP.nrm 40 ?_
  refine WP.reg k_mixed fun nm2 hnm2 => ?_
  refine RegC.a (op_buildSlM (vs := List.map AVal.u8 [(75 : UInt8), (87 : UInt8), (84 : UInt8), (49 : UInt8)]) rfl k_sl_26 k_zeroE_5 rfl rfl rfl (by omega)) rfl rfl rfl ?_
  refine RegC.w (i := 0) (op_cvO rfl k_undSl_26 k_undI_5 (by first | omega | (simp only [List.length_append, List.length_map, List.length_cons, List.length_nil, List.length_replicate, List.length_take, List.length_drop, List.length_set]; omega) | (simp <;> omega) | simp_all)) rfl rfl rfl rfl ?_
  refine RegC.m (op_sVA00f (f := AVal.u8) (l := n) rfl k_arr_25 (by first | omega | (simp only [List.length_append, List.length_map, List.length_cons, List.length_nil, List.length_replicate, List.length_take, List.length_drop, List.length_set]; omega) | (simp <;> omega) | simp_all | rfl)) rfl rfl rfl ?_
  refine RegC.wa (i := 0) (op_appM (f := AVal.u8) (l := [(75 : UInt8), (87 : UInt8), (84 : UInt8), (49 : UInt8)]) (l2 := n) (fun _ => rfl) rfl k_app_26_26 (by first | omega | (simp only [List.length_append, List.length_map, List.length_cons, List.length_nil, List.length_replicate, List.length_take, List.length_drop, List.length_set]; omega) | (simp <;> omega) | simp_all)) rfl rfl rfl rfl ?_
  refine RegC.m (op_assign rfl) rfl rfl rfl ?_
  refine RegC.done ⟨.inl rfl, ?_⟩
  refine WP.nrm 40 ?_
  refine WP.reg k_mixed fun nm3 hnm3 => ?_
  refine RegC.m (op_move rfl) rfl rfl rfl ?_
  refine RegC.m (op_move rfl) rfl rfl rfl ?_
  refine RegC.m (op_call rfl k_call_96 (octets_d (block) (4) (by omega) (by first | omega | (simp only [List.length_append, List.length_map, List.length_cons, List.length_nil, List.length_replicate, List.length_take, List.length_drop, List.length_set]; omega) | (simp <;> omega) | simp_all))) rfl rfl rfl ?_
  refine RegC.wa (i := 0) (op_appM (f := AVal.u8) (l := [(75 : UInt8), (87 : UInt8), (84 : UInt8), (49 : UInt8)] ++ n) (l2 := octs (block) (4)) (fun _ => rfl) rfl k_app_26_26 (by first | omega | (simp only [List.length_append, List.length_map, List.length_cons, List.length_nil, List.length_replicate, List.length_take, List.length_drop, List.length_set]; omega) | (simp <;> omega) | simp_all)) rfl rfl rfl rfl ?_
  refine RegC.m (op_move rfl) rfl rfl rfl ?_
  refine RegC.m (op_call rfl k_call_96 (octets_d (size) (8) (by omega) (by first | omega | (simp only [List.length_append, List.length_map, List.length_cons, List.length_nil, List.length_replicate, List.length_take, List.length_drop, List.length_set]; omega) | (simp <;> omega) | simp_all))) rfl rfl rfl ?_
  refine RegC.wa (i := 0) (op_appM (f := AVal.u8) (l := [(75 : UInt8), (87 : UInt8), (84 : UInt8), (49 : UInt8)] ++ n ++ octs (block) (4)) (l2 := octs (size) (8)) (fun _ => rfl) rfl k_app_26_26 (by first | omega | (simp only [List.length_append, List.length_map, List.length_cons, List.length_nil, List.length_replicate, List.length_take, List.length_drop, List.length_set]; omega) | (simp <;> omega) | simp_all)) rfl rfl rfl rfl ?_
  refine RegC.m (op_assign rfl) rfl rfl rfl ?_
  refine RegC.done ⟨.inl rfl, ?_⟩
  refine WP.nrm 40 ?_
  refine WP.ret1S (b' := b') (vf := fun q => OS q false ([(75 : UInt8), (87 : UInt8), (84 : UInt8), (49 : UInt8)] ++ n ++ octs (block) (4) ++ octs (size) (8))) 0 (ResV.one rfl (.tmp rfl)) rfl (by simp) os_named (.cons_cons _ (List.nil_sublist _)) ?_
  exact ⟨osN (by simp [hn]), by first | (rw [← head_eq]; done) | (rw [← head_eq]; simp)⟩

theorem textHead_d (n : List UInt8) (hn : n.length = 16) (block size : Nat) (hbl : block ≤ 65536) (hsz : size ≤ 262144) : ACalls Try.prog 61 [.agg (n.map AVal.u8), .i block, .i size] [] [] (VS AVal.u8 false (headS n block size)) [] := cool1 (h := []) (fun b => textHead1 b n hn block size hbl hsz) (headS_length n block size hn)

theorem first_calls (full : Bool) (l : List Int) (hl : l.length ≤ 140737488351232) : ACalls Try.prog 28 [VS AVal.i full (l)] [] [] (.i (firstS l)) [] := by
  refine ACalls.of_wp' (fn := Try.f28) (n := 15) Try.func28 rfl rfl ?_
  unfold Try.f28
  refine WP.nrm 40 ?_
  refine WP.reg k_mixed fun nm1 hnm1 => ?_
  refine RegC.m (op_assign rfl) rfl rfl rfl ?_
  refine RegC.done ⟨.inl rfl, ?_⟩
  refine WP.nrm 40 ?_
  refine WP.reg k_mixed fun nm2 hnm2 => ?_
  refine RegC.m (op_move rfl) rfl rfl rfl ?_
  refine RegC.m (op_lenV (f := AVal.i) (l := l) rfl k_sl_106) rfl rfl rfl ?_
  refine RegC.m (op_move rfl) rfl rfl rfl ?_
  refine RegC.done ⟨.inl rfl, ?_⟩
  refine WP.nrm 40 ?_
  refine WP.loop1 (fun (i : Int) => [(5, VS AVal.i full (l)), (6, .i (((l).length : Int))), (7, .i (i))]) (fun (i : Int) => []) (fun (i : Int) => ∃ j : Nat, i = j ∧ j ≤ l.length ∧ firstS (l.drop j) = firstS l) (fun (i : Int) => (l.length - i).toNat) (0) (subE.cons rfl (subE.cons rfl (subE.cons rfl (subE.nil)))) (by (try simp only [List.set_cons_zero, List.set_cons_succ, List.cons_append, List.nil_append]); exact (List.nil_sublist _)) ⟨0, rfl, by omega, rfl⟩ ?_
  intro i hI ih0
  obtain ⟨j, rfl, hj, hf⟩ := hI
  refine WP.nrm 40 ?_
  refine WP.reg k_mixed fun nm3 hnm3 => ?_
  refine RegC.m (op_lss rfl) rfl rfl rfl ?_
  refine RegC.done ⟨.inl rfl, ?_⟩
  refine WP.nrm 40 ?_
  refine WP.condD rfl (fun h1 => ?_) (fun h1 => ?_)
  ·
    refine WP.nrm 40 ?_
    refine WP.reg k_mixed fun nm4 hnm4 => ?_
    refine RegC.m (op_iV (f := AVal.i) (l := l) (j) rfl k_sl_106 (by first | omega | (simp only [List.length_append, List.length_map, List.length_cons, List.length_nil, List.length_replicate, List.length_take, List.length_drop, List.length_set]; omega) | (simp <;> omega) | simp_all) (by first | omega | (simp only [List.length_append, List.length_map, List.length_cons, List.length_nil, List.length_replicate, List.length_take, List.length_drop, List.length_set]; omega) | (simp <;> omega) | simp_all)) rfl rfl rfl ?_
    refine RegC.m (op_loadVM (f := AVal.i) (l := l) (n := j) rfl k_scal_28 (by first | omega | (simp only [List.length_append, List.length_map, List.length_cons, List.length_nil, List.length_replicate, List.length_take, List.length_drop, List.length_set]; omega) | (simp <;> omega) | simp_all)) rfl rfl rfl ?_
    refine RegC.m (op_assign rfl) rfl rfl rfl ?_
    refine RegC.done ⟨.inl rfl, ?_⟩
    refine WP.nrm 40 ?_
    refine WP.reg k_mixed fun nm5 hnm5 => ?_
    refine RegC.m (op_move rfl) rfl rfl rfl ?_
    refine RegC.m (op_neq rfl) rfl rfl rfl ?_
    refine RegC.done ⟨.inl rfl, ?_⟩
    refine WP.nrm 40 ?_
    refine WP.condB rfl (fun h2 => ?_) (fun h2 => ?_)
    ·
      have hz : ¬ l[j]! = 0 := by simpa using h2
      refine WP.nrm 40 ?_
      refine WP.reg k_mixed fun nm6 hnm6 => ?_
      refine RegC.m (op_move rfl) rfl rfl rfl ?_
      refine RegC.m (op_assign rfl) rfl rfl rfl ?_
      refine RegC.done ⟨.inl rfl, ?_⟩
      refine WP.nrm 40 ?_
      refine WP.retS (ResV.one rfl (.tmp rfl)) (List.nil_sublist _) ?_
      exact ⟨by first | (rw [← hf, firstS_drop l j (by omega), if_neg hz]) | (rw [← hf]; rfl), rfl⟩
    ·
      have hz : l[j]! = 0 := by simpa using h2
      refine WP.nrm 40 ?_
      refine WP.reg k_mixed fun nm7 hnm7 => ?_
      refine RegC.m (op_addI rfl (by first | omega | (simp only [List.length_append, List.length_map, List.length_cons, List.length_nil, List.length_replicate, List.length_take, List.length_drop, List.length_set]; omega) | (simp <;> omega) | simp_all)) rfl rfl rfl ?_
      refine RegC.m (op_move rfl) rfl rfl rfl ?_
      refine RegC.done ⟨.inl rfl, ?_⟩
      refine WP.nrm 40 ?_
      refine WP.jump (subE.cons rfl (subE.cons rfl (subE.cons rfl (subE.nil)))) (List.nil_sublist _) (ih0 _ ?_ ?_)
      · exact ⟨j + 1, by push_cast; rfl, by omega, by rw [← hf, firstS_drop l j (by omega), if_pos hz]⟩
      · omega
  ·
    have ej : j = l.length := by omega
    rw [ej, List.drop_length] at hf
    refine WP.nrm 40 ?_
    refine WP.reg k_mixed fun nm8 hnm8 => ?_
    refine RegC.m (op_assign rfl) rfl rfl rfl ?_
    refine RegC.done ⟨.inl rfl, ?_⟩
    refine WP.nrm 40 ?_
    refine WP.retS (ResV.one rfl (.tmp rfl)) (List.nil_sublist _) ?_
    exact ⟨by first | (rw [← hf, firstS_drop l j (by omega), if_neg hz]) | (rw [← hf]; rfl), rfl⟩

theorem when_calls (b : Bool) (e : Int) : ACalls Try.prog 29 [.bool (b), .i (e)] [] [] (.i (whenS b e)) [] := by
  refine ACalls.of_wp' (fn := Try.f29) (n := 7) Try.func29 rfl rfl ?_
  unfold Try.f29
  refine WP.nrm 40 ?_
  refine WP.reg k_mixed fun nm1 hnm1 => ?_
  refine RegC.m (op_assign rfl) rfl rfl rfl ?_
  refine RegC.done ⟨.inl rfl, ?_⟩
  refine WP.nrm 40 ?_
  refine WP.reg k_mixed fun nm2 hnm2 => ?_
  refine RegC.m (op_move rfl) rfl rfl rfl ?_
  refine RegC.done ⟨.inl rfl, ?_⟩
  refine WP.nrm 40 ?_
  refine WP.condB rfl (fun h1 => ?_) (fun h1 => ?_)
  ·
    subst h1
    refine WP.nrm 40 ?_
    refine WP.reg k_mixed fun nm3 hnm3 => ?_
    refine RegC.m (op_move rfl) rfl rfl rfl ?_
    refine RegC.m (op_assign rfl) rfl rfl rfl ?_
    refine RegC.done ⟨.inl rfl, ?_⟩
    refine WP.nrm 40 ?_
    refine WP.retS (ResV.one rfl (.tmp rfl)) (List.nil_sublist _) ?_
    exact ⟨rfl, rfl⟩
  ·
    subst h1
    refine WP.nrm 40 ?_
    refine WP.reg k_mixed fun nm4 hnm4 => ?_
    refine RegC.m (op_assign rfl) rfl rfl rfl ?_
    refine RegC.done ⟨.inl rfl, ?_⟩
    refine WP.nrm 40 ?_
    refine WP.retS (ResV.one rfl (.tmp rfl)) (List.nil_sublist _) ?_
    exact ⟨rfl, rfl⟩

theorem in_calls (n lo hi : Int) : ACalls Try.prog 30 [.i (n), .i (lo), .i (hi)] [] [] (.bool (inS n lo hi)) [] := by
  refine ACalls.of_wp' (fn := Try.f30) (n := 15) Try.func30 rfl rfl ?_
  unfold Try.f30
  refine WP.nrm 40 ?_
  refine WP.reg k_mixed fun nm1 hnm1 => ?_
  refine RegC.m (op_assign rfl) rfl rfl rfl ?_
  refine RegC.done ⟨.inl rfl, ?_⟩
  refine WP.nrm 40 ?_
  refine WP.reg k_mixed fun nm2 hnm2 => ?_
  refine RegC.m (op_move rfl) rfl rfl rfl ?_
  refine RegC.m (op_move rfl) rfl rfl rfl ?_
  rcases Decidable.em ((n : Int) ≥ lo) with h1 | h1
  ·
    refine RegC.m (OpV.boolT (op_geq rfl) h1) rfl rfl rfl ?_
    refine RegC.m (op_move rfl) rfl rfl rfl ?_
    refine RegC.m (op_move rfl) rfl rfl rfl ?_
    refine RegC.m (op_move rfl) rfl rfl rfl ?_
    refine RegC.m (op_leq rfl) rfl rfl rfl ?_
    refine RegC.m (op_pick rfl) rfl rfl rfl ?_
    refine RegC.m (op_assign rfl) rfl rfl rfl ?_
    refine RegC.done ⟨.inl rfl, ?_⟩
    refine WP.nrm 40 ?_
    refine WP.retS (ResV.one rfl (.tmp rfl)) (List.nil_sublist _) ?_
    exact ⟨by simp [inS, *], rfl⟩
  ·
    refine RegC.m (OpV.boolF (op_geq rfl) h1) rfl rfl rfl ?_
    refine RegC.m (op_move rfl) rfl rfl rfl ?_
    refine RegC.skip rfl rfl ?_
    refine RegC.skip rfl rfl ?_
    refine RegC.skip rfl rfl ?_
    refine RegC.m (op_pick rfl) rfl rfl rfl ?_
    refine RegC.m (op_assign rfl) rfl rfl rfl ?_
    refine RegC.done ⟨.inl rfl, ?_⟩
    refine WP.nrm 40 ?_
    refine WP.retS (ResV.one rfl (.tmp rfl)) (List.nil_sublist _) ?_
    exact ⟨by simp [inS, *], rfl⟩
end Go.Proofs.Try
