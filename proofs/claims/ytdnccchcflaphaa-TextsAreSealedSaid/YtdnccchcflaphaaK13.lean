import Derived.Test.YtdnccchcflaphaaK12
import Derived.Test.YtdnccchcflaphaaFF
import Derived.Test.YtdnccchcflaphaaS11
namespace Go.Proofs.Try
open Go Go.Kw
set_option linter.unusedVariables false
set_option linter.unusedSimpArgs false
set_option maxRecDepth 100000
set_option maxHeartbeats 400000
theorem k_call_99 : callable Try.prog 99 = true := by kernel_rfl
theorem k_call_101 : callable Try.prog 101 = true := by kernel_rfl
theorem k_call_30 : callable Try.prog 30 = true := by kernel_rfl

theorem lookWith_ok (f1 full : Bool) (head b : List UInt8) (hh : head.length ≤ 4096) (hb : b.length ≤ 16777216) (hE : lookE b = 0) : ACalls Try.prog 102 [VS AVal.u8 f1 (head), VS AVal.u8 full (b)] [] [] (.tup [.agg ([VS AVal.u8 full (b)] ++ ([.i ((blkN b : Int))] ++ [.i ((szN b : Int))])), .i 0]) [] := by
  refine ACalls.of_wp' (fn := Try.f102) (n := 14) Try.func102 rfl rfl ?_
  unfold Try.f102
  refine WP.nrm 40 ?_
  refine WP.reg k_mixed fun nm1 hnm1 => ?_
  refine RegC.a (op_alloc rfl k_zeroS_151) rfl rfl rfl ?_
  refine RegC.m (op_assign rfl) rfl rfl rfl ?_
  refine RegC.done ⟨.inl rfl, ?_⟩
  refine WP.nrm 40 ?_
  refine WP.reg k_mixed fun nm2 hnm2 => ?_
  refine RegC.m (op_move rfl) rfl rfl rfl ?_
  refine RegC.m (op_lenV (f := AVal.u8) (l := head) rfl k_sl_26) rfl rfl rfl ?_
  refine RegC.m (OpV.boolF (op_gtr rfl) (by omega)) rfl rfl rfl ?_
  refine RegC.done ⟨.inl rfl, ?_⟩
  refine WP.nrm 40 ?_
  refine WP.cond (t := false) rfl ?_
  refine WP.nrm 40 ?_
  refine WP.reg k_mixed fun nm3 hnm3 => ?_
  refine RegC.m (op_move rfl) rfl rfl rfl ?_
  refine RegC.m (op_call rfl k_call_99 (look_ok full (b) (by first | omega | (simp only [List.length_append, List.length_map, List.length_cons, List.length_nil, List.length_replicate, List.length_take, List.length_drop, List.length_set]; omega) | (simp <;> omega) | simp_all) hE)) rfl rfl rfl ?_
  refine RegC.m (op_extract rfl rfl) rfl rfl rfl ?_
  refine RegC.m (op_extract rfl rfl) rfl rfl rfl ?_
  refine RegC.w (i := 0) (op_storeW rfl k_agg_151 (by first | omega | (simp only [List.length_append, List.length_map, List.length_cons, List.length_nil, List.length_replicate, List.length_take, List.length_drop, List.length_set]; omega) | (simp <;> omega) | simp_all | rfl) (by first | omega | (simp only [List.length_append, List.length_map, List.length_cons, List.length_nil, List.length_replicate, List.length_take, List.length_drop, List.length_set]; omega) | (simp <;> omega) | simp_all | rfl) (by simp [AVal.scalar])) rfl rfl rfl rfl ?_
  refine RegC.m (op_assign rfl) rfl rfl rfl ?_
  refine RegC.done ⟨.inl rfl, ?_⟩
  refine WP.nrm 40 ?_
  refine WP.retS (ResV.many rfl rfl (.cons (.cellW 0 rfl rfl k_agg_151 (by first | omega | (simp only [List.length_append, List.length_map, List.length_cons, List.length_nil, List.length_replicate, List.length_take, List.length_drop, List.length_set]; omega) | (simp <;> omega) | simp_all | rfl)) (.cons (.tmp rfl) (RessOf.nil)))) (List.nil_sublist _) ?_
  exact ⟨rfl, rfl⟩

theorem lookWith_bad (f1 full : Bool) (head b : List UInt8) (hh : head.length ≤ 4096) (hb : b.length ≤ 16777216) (hE : ¬ lookE b = 0) : ACalls Try.prog 102 [VS AVal.u8 f1 (head), VS AVal.u8 full (b)] [] [] (.tup [.agg ([VS AVal.u8 true (([] : List UInt8))] ++ ([.i (0)] ++ [.i (0)])), .i (lookE b)]) [] := by
  refine ACalls.of_wp' (fn := Try.f102) (n := 14) Try.func102 rfl rfl ?_
  unfold Try.f102
  refine WP.nrm 40 ?_
  refine WP.reg k_mixed fun nm1 hnm1 => ?_
  refine RegC.a (op_alloc rfl k_zeroS_151) rfl rfl rfl ?_
  refine RegC.m (op_assign rfl) rfl rfl rfl ?_
  refine RegC.done ⟨.inl rfl, ?_⟩
  refine WP.nrm 40 ?_
  refine WP.reg k_mixed fun nm2 hnm2 => ?_
  refine RegC.m (op_move rfl) rfl rfl rfl ?_
  refine RegC.m (op_lenV (f := AVal.u8) (l := head) rfl k_sl_26) rfl rfl rfl ?_
  refine RegC.m (OpV.boolF (op_gtr rfl) (by omega)) rfl rfl rfl ?_
  refine RegC.done ⟨.inl rfl, ?_⟩
  refine WP.nrm 40 ?_
  refine WP.cond (t := false) rfl ?_
  refine WP.nrm 40 ?_
  refine WP.reg k_mixed fun nm3 hnm3 => ?_
  refine RegC.m (op_move rfl) rfl rfl rfl ?_
  refine RegC.m (op_call rfl k_call_99 (look_bad full (b) (by first | omega | (simp only [List.length_append, List.length_map, List.length_cons, List.length_nil, List.length_replicate, List.length_take, List.length_drop, List.length_set]; omega) | (simp <;> omega) | simp_all) hE)) rfl rfl rfl ?_
  refine RegC.m (op_extract rfl rfl) rfl rfl rfl ?_
  refine RegC.m (op_extract rfl rfl) rfl rfl rfl ?_
  refine RegC.w (i := 0) (op_storeW rfl k_agg_151 (by first | omega | (simp only [List.length_append, List.length_map, List.length_cons, List.length_nil, List.length_replicate, List.length_take, List.length_drop, List.length_set]; omega) | (simp <;> omega) | simp_all | rfl) (by first | omega | (simp only [List.length_append, List.length_map, List.length_cons, List.length_nil, List.length_replicate, List.length_take, List.length_drop, List.length_set]; omega) | (simp <;> omega) | simp_all | rfl) (by simp [AVal.scalar])) rfl rfl rfl rfl ?_
  refine RegC.m (op_assign rfl) rfl rfl rfl ?_
  refine RegC.done ⟨.inl rfl, ?_⟩
  refine WP.nrm 40 ?_
  refine WP.retS (ResV.many rfl rfl (.cons (.cellW 0 rfl rfl k_agg_151 (by first | omega | (simp only [List.length_append, List.length_map, List.length_cons, List.length_nil, List.length_replicate, List.length_take, List.length_drop, List.length_set]; omega) | (simp <;> omega) | simp_all | rfl)) (.cons (.tmp rfl) (RessOf.nil)))) (List.nil_sublist _) ?_
  exact ⟨rfl, rfl⟩

theorem blocks_ok (full : Bool) (b : List UInt8) (hb : b.length ≤ 16777216) (hE : lookE b = 0) : ACalls Try.prog 64 [VS AVal.u8 full (b)] [] [] (.tup [.i (blkN b : Nat), .i (manyN b : Nat), .i 0]) [] := by
  have o := ok_of hE
  have hlen := o.len
  have hlo := o.lo
  have hhi := o.hi
  have hsz := o.sz
  have hml : manyN b ≤ 16384 := manyS_le (szN b) (blkN b) (by omega) (by omega)
  refine ACalls.of_wp' (fn := Try.f64) (n := 19) Try.func64 rfl rfl ?_
  unfold Try.f64
  refine WP.nrm 40 ?_
  refine WP.reg k_mixed fun nm1 hnm1 => ?_
  refine RegC.m (op_assign rfl) rfl rfl rfl ?_
  refine RegC.m (op_assign rfl) rfl rfl rfl ?_
  refine RegC.m (op_assign rfl) rfl rfl rfl ?_
  refine RegC.done ⟨.inl rfl, ?_⟩
  refine WP.nrm 40 ?_
  refine WP.reg k_mixed fun nm2 hnm2 => ?_
  refine RegC.m (op_move rfl) rfl rfl rfl ?_
  refine RegC.m (op_call rfl k_call_99 (look_ok full (b) (by first | omega | (simp only [List.length_append, List.length_map, List.length_cons, List.length_nil, List.length_replicate, List.length_take, List.length_drop, List.length_set]; omega) | (simp <;> omega) | simp_all) hE)) rfl rfl rfl ?_
  refine RegC.m (op_move rfl) rfl rfl rfl ?_
  refine RegC.m (op_extract rfl rfl) rfl rfl rfl ?_
  refine RegC.m (op_extract rfl rfl) rfl rfl rfl ?_
  refine RegC.a (op_alloc rfl k_zeroS_151) rfl rfl rfl ?_
  refine RegC.w (i := 0) (op_storeW rfl k_agg_151 (by first | omega | (simp only [List.length_append, List.length_map, List.length_cons, List.length_nil, List.length_replicate, List.length_take, List.length_drop, List.length_set]; omega) | (simp <;> omega) | simp_all | rfl) (by first | omega | (simp only [List.length_append, List.length_map, List.length_cons, List.length_nil, List.length_replicate, List.length_take, List.length_drop, List.length_set]; omega) | (simp <;> omega) | simp_all | rfl) (by simp [AVal.scalar])) rfl rfl rfl rfl ?_
  refine RegC.m (op_assign rfl) rfl rfl rfl ?_
  refine RegC.done ⟨.inl rfl, ?_⟩
  refine WP.nrm 40 ?_
  refine WP.reg k_mixed fun nm3 hnm3 => ?_
  refine RegC.m (op_move rfl) rfl rfl rfl ?_
  refine RegC.m (op_neq rfl) rfl rfl rfl ?_
  refine RegC.done ⟨.inl rfl, ?_⟩
  refine WP.nrm 40 ?_
  refine WP.cond (t := false) rfl ?_
  refine WP.nrm 40 ?_
  refine WP.reg k_mixed fun nm4 hnm4 => ?_
  refine RegC.m (op_fieldE (off := 0) rfl k_fld_151_1 rfl) rfl rfl rfl ?_
  refine RegC.q (i := 0) (op_load (off := 1) rfl k_scal_3 (sgN 1 (0) (by omega) (by first | omega | (simp only [List.length_append, List.length_map, List.length_cons, List.length_nil, List.length_replicate, List.length_take, List.length_drop, List.length_set]; omega) | (simp <;> omega) | simp_all | rfl) (sgH rfl))) rfl rfl rfl rfl ?_
  refine RegC.q (i := 0) (op_loadW rfl k_agg_151 (by first | omega | (simp only [List.length_append, List.length_map, List.length_cons, List.length_nil, List.length_replicate, List.length_take, List.length_drop, List.length_set]; omega) | (simp <;> omega) | simp_all | rfl)) rfl rfl rfl rfl ?_
  refine RegC.m (op_call rfl k_call_100 (many_calls full (b) (blkN (b)) (szN (b)) (by first | omega | (simp only [List.length_append, List.length_map, List.length_cons, List.length_nil, List.length_replicate, List.length_take, List.length_drop, List.length_set]; omega) | (simp <;> omega) | simp_all) (by first | omega | (simp only [List.length_append, List.length_map, List.length_cons, List.length_nil, List.length_replicate, List.length_take, List.length_drop, List.length_set]; omega) | (simp <;> omega) | simp_all) (by first | omega | (simp only [List.length_append, List.length_map, List.length_cons, List.length_nil, List.length_replicate, List.length_take, List.length_drop, List.length_set]; omega) | (simp <;> omega) | simp_all))) rfl rfl rfl ?_
  refine RegC.m (op_assign rfl) rfl rfl rfl ?_
  refine RegC.m (op_assign rfl) rfl rfl rfl ?_
  refine RegC.m (op_assign rfl) rfl rfl rfl ?_
  refine RegC.done ⟨.inr rfl, ?_⟩
  refine WP.nrm 40 ?_
  refine WP.retS (ResV.many rfl rfl (.cons (.tmp rfl) (.cons (.tmp rfl) (.cons (.tmp rfl) (RessOf.nil))))) (List.nil_sublist _) ?_
  exact ⟨rfl, rfl⟩

theorem blocks_bad (full : Bool) (b : List UInt8) (hb : b.length ≤ 16777216) (hE : ¬ lookE b = 0) : ACalls Try.prog 64 [VS AVal.u8 full (b)] [] [] (.tup [.i 0, .i 0, .i (lookE b)]) [] := by
  refine ACalls.of_wp' (fn := Try.f64) (n := 19) Try.func64 rfl rfl ?_
  unfold Try.f64
  refine WP.nrm 40 ?_
  refine WP.reg k_mixed fun nm1 hnm1 => ?_
  refine RegC.m (op_assign rfl) rfl rfl rfl ?_
  refine RegC.m (op_assign rfl) rfl rfl rfl ?_
  refine RegC.m (op_assign rfl) rfl rfl rfl ?_
  refine RegC.done ⟨.inl rfl, ?_⟩
  refine WP.nrm 40 ?_
  refine WP.reg k_mixed fun nm2 hnm2 => ?_
  refine RegC.m (op_move rfl) rfl rfl rfl ?_
  refine RegC.m (op_call rfl k_call_99 (look_bad full (b) (by first | omega | (simp only [List.length_append, List.length_map, List.length_cons, List.length_nil, List.length_replicate, List.length_take, List.length_drop, List.length_set]; omega) | (simp <;> omega) | simp_all) hE)) rfl rfl rfl ?_
  refine RegC.m (op_move rfl) rfl rfl rfl ?_
  refine RegC.m (op_extract rfl rfl) rfl rfl rfl ?_
  refine RegC.m (op_extract rfl rfl) rfl rfl rfl ?_
  refine RegC.a (op_alloc rfl k_zeroS_151) rfl rfl rfl ?_
  refine RegC.w (i := 0) (op_storeW rfl k_agg_151 (by first | omega | (simp only [List.length_append, List.length_map, List.length_cons, List.length_nil, List.length_replicate, List.length_take, List.length_drop, List.length_set]; omega) | (simp <;> omega) | simp_all | rfl) (by first | omega | (simp only [List.length_append, List.length_map, List.length_cons, List.length_nil, List.length_replicate, List.length_take, List.length_drop, List.length_set]; omega) | (simp <;> omega) | simp_all | rfl) (by simp [AVal.scalar])) rfl rfl rfl rfl ?_
  refine RegC.m (op_assign rfl) rfl rfl rfl ?_
  refine RegC.done ⟨.inl rfl, ?_⟩
  refine WP.nrm 40 ?_
  refine WP.reg k_mixed fun nm3 hnm3 => ?_
  refine RegC.m (op_move rfl) rfl rfl rfl ?_
  refine RegC.m (OpV.boolE (t := (((lookE (b)) : Int) != 0)) (u := true) (op_neq rfl) (by simpa using hE)) rfl rfl rfl ?_
  refine RegC.done ⟨.inl rfl, ?_⟩
  refine WP.nrm 40 ?_
  refine WP.cond (t := true) rfl ?_
  refine WP.nrm 40 ?_
  refine WP.reg k_mixed fun nm4 hnm4 => ?_
  refine RegC.m (op_move rfl) rfl rfl rfl ?_
  refine RegC.m (op_assign rfl) rfl rfl rfl ?_
  refine RegC.m (op_assign rfl) rfl rfl rfl ?_
  refine RegC.m (op_assign rfl) rfl rfl rfl ?_
  refine RegC.done ⟨.inl rfl, ?_⟩
  refine WP.nrm 40 ?_
  refine WP.retS (ResV.many rfl rfl (.cons (.tmp rfl) (.cons (.tmp rfl) (.cons (.tmp rfl) (RessOf.nil))))) (List.nil_sublist _) ?_
  exact ⟨rfl, rfl⟩

theorem blocksOf_ok (full : Bool) (b : List UInt8) (hb : b.length ≤ 16777216) (hE : lookE b = 0) : ACalls Try.prog 65 [VS AVal.u8 full (b)] [] [] (.tup [.i (blkN b : Nat), .i (manyN b : Nat), .i 0]) [] := by
  have o := ok_of hE
  have hlen := o.len
  have hlo := o.lo
  have hhi := o.hi
  have hsz := o.sz
  have hml : manyN b ≤ 16384 := manyS_le (szN b) (blkN b) (by omega) (by omega)
  have hB := blkN_num b (by omega)
  have hz := szN_zero b (by omega) (by omega)
  have hs : szN b = numS (((b).take (32)).drop (28)) := hz.2
  have hmi := many_int (numS (((b).take (32)).drop (28))) (numS (((b).take (24)).drop (20))) (by omega)
  have hM : manyN b = manyS (numS (((b).take (32)).drop (28))) (numS (((b).take (24)).drop (20))) := by unfold manyN; rw [hs, hB]
  refine ACalls.of_wp' (fn := Try.f65) (n := 60) Try.func65 rfl rfl ?_
  unfold Try.f65
  refine WP.nrm 40 ?_
  refine WP.reg k_mixed fun nm1 hnm1 => ?_
  refine RegC.m (op_assign rfl) rfl rfl rfl ?_
  refine RegC.m (op_assign rfl) rfl rfl rfl ?_
  refine RegC.m (op_assign rfl) rfl rfl rfl ?_
  refine RegC.done ⟨.inl rfl, ?_⟩
  refine WP.nrm 40 ?_
  refine WP.reg k_mixed fun nm2 hnm2 => ?_
  refine RegC.m (op_move rfl) rfl rfl rfl ?_
  refine RegC.m (op_lenV (f := AVal.u8) (l := b) rfl k_sl_26) rfl rfl rfl ?_
  refine RegC.m (OpV.boolF (op_lss rfl) (by omega)) rfl rfl rfl ?_
  refine RegC.done ⟨.inl rfl, ?_⟩
  refine WP.nrm 40 ?_
  refine WP.cond (t := false) rfl ?_
  refine WP.nrm 40 ?_
  refine WP.reg k_mixed fun nm3 hnm3 => ?_
  refine RegC.m (op_move rfl) rfl rfl rfl ?_
  refine RegC.m (op_sV01 (f := AVal.u8) (l := b) (4) rfl k_sl_26 (by first | omega | (simp only [List.length_append, List.length_map, List.length_cons, List.length_nil, List.length_replicate, List.length_take, List.length_drop, List.length_set]; omega) | (simp <;> omega) | simp_all) (by first | omega | (simp only [List.length_append, List.length_map, List.length_cons, List.length_nil, List.length_replicate, List.length_take, List.length_drop, List.length_set]; omega) | (simp <;> omega) | simp_all)) rfl rfl rfl ?_
  refine RegC.m (op_toStrV (l := (b).take (4)) rfl k_undSl_26 k_undI_5 k_undS_9 rfl) rfl rfl rfl ?_
  refine RegC.m (OpV.boolE (t := (!(((b).take (4) : List UInt8) == [75, 87, 84, 49]))) (u := false) (op_neqS rfl) (by simp [o.kwt])) rfl rfl rfl ?_
  refine RegC.done ⟨.inl rfl, ?_⟩
  refine WP.nrm 40 ?_
  refine WP.cond (t := false) rfl ?_
  refine WP.nrm 40 ?_
  refine WP.reg k_mixed fun nm4 hnm4 => ?_
  refine RegC.m (op_move rfl) rfl rfl rfl ?_
  refine RegC.m (op_sV11 (f := AVal.u8) (l := b) (20) (24) rfl k_sl_26 (by first | omega | (simp only [List.length_append, List.length_map, List.length_cons, List.length_nil, List.length_replicate, List.length_take, List.length_drop, List.length_set]; omega) | (simp <;> omega) | simp_all) (by first | omega | (simp only [List.length_append, List.length_map, List.length_cons, List.length_nil, List.length_replicate, List.length_take, List.length_drop, List.length_set]; omega) | (simp <;> omega) | simp_all) (by first | omega | (simp only [List.length_append, List.length_map, List.length_cons, List.length_nil, List.length_replicate, List.length_take, List.length_drop, List.length_set]; omega) | (simp <;> omega) | simp_all) (by first | omega | (simp only [List.length_append, List.length_map, List.length_cons, List.length_nil, List.length_replicate, List.length_take, List.length_drop, List.length_set]; omega) | (simp <;> omega) | simp_all)) rfl rfl rfl ?_
  refine RegC.m (op_call rfl k_call_101 (numberOf_calls false (((b).take (24)).drop (20)) (by first | omega | (simp only [List.length_append, List.length_map, List.length_cons, List.length_nil, List.length_replicate, List.length_take, List.length_drop, List.length_set]; omega) | (simp <;> omega) | simp_all))) rfl rfl rfl ?_
  refine RegC.m (op_assign rfl) rfl rfl rfl ?_
  refine RegC.done ⟨.inl rfl, ?_⟩
  refine WP.nrm 40 ?_
  refine WP.reg k_mixed fun nm5 hnm5 => ?_
  refine RegC.m (op_move rfl) rfl rfl rfl ?_
  refine RegC.m (OpV.boolE (t := (inS (((numS (((b).take (24)).drop (20)) : Nat) : Int)) (16) (65536))) (u := true) (op_call rfl k_call_30 (in_calls (((numS (((b).take (24)).drop (20)) : Nat) : Int)) (16) (65536))) (by simp [inS, blkN_num b (by omega)]; omega)) rfl rfl rfl ?_
  refine RegC.m (op_not rfl) rfl rfl rfl ?_
  refine RegC.done ⟨.inl rfl, ?_⟩
  refine WP.nrm 40 ?_
  refine WP.cond (t := false) rfl ?_
  refine WP.nrm 40 ?_
  refine WP.reg k_mixed fun nm6 hnm6 => ?_
  refine RegC.m (op_move rfl) rfl rfl rfl ?_
  refine RegC.m (op_sV11 (f := AVal.u8) (l := b) (24) (28) rfl k_sl_26 (by first | omega | (simp only [List.length_append, List.length_map, List.length_cons, List.length_nil, List.length_replicate, List.length_take, List.length_drop, List.length_set]; omega) | (simp <;> omega) | simp_all) (by first | omega | (simp only [List.length_append, List.length_map, List.length_cons, List.length_nil, List.length_replicate, List.length_take, List.length_drop, List.length_set]; omega) | (simp <;> omega) | simp_all) (by first | omega | (simp only [List.length_append, List.length_map, List.length_cons, List.length_nil, List.length_replicate, List.length_take, List.length_drop, List.length_set]; omega) | (simp <;> omega) | simp_all) (by first | omega | (simp only [List.length_append, List.length_map, List.length_cons, List.length_nil, List.length_replicate, List.length_take, List.length_drop, List.length_set]; omega) | (simp <;> omega) | simp_all)) rfl rfl rfl ?_
  refine RegC.m (op_lenV (f := AVal.u8) (l := ((b).take (28)).drop (24)) rfl k_sl_26) rfl rfl rfl ?_
  refine RegC.m (op_move rfl) rfl rfl rfl ?_
  refine RegC.done ⟨.inl rfl, ?_⟩
  refine WP.nrm 40 ?_
  refine WP.loop1 (fun (i : Int) => [(0, VS AVal.u8 full (b)), (5, .i (((numS (((b).take (24)).drop (20)) : Nat) : Int))), (25, VS AVal.u8 false (((b).take (28)).drop (24))), (26, .i (((((b).take (28)).drop (24)).length : Int))), (27, .i (i))]) (fun (i : Int) => []) (fun (i : Int) => ∃ j : Nat, i = j ∧ j ≤ 4) (fun (i : Int) => (4 - i).toNat) (0) (subE.cons rfl (subE.cons rfl (subE.cons rfl (subE.cons rfl (subE.cons rfl (subE.nil)))))) (by (try simp only [List.set_cons_zero, List.set_cons_succ, List.cons_append, List.nil_append]); exact (List.nil_sublist _)) ⟨0, rfl, by omega⟩ ?_
  intro i hI ih0
  obtain ⟨j, rfl, hj⟩ := hI
  have hl4 : ((b.take 28).drop 24).length = 4 := by simp only [List.length_drop, List.length_take]; omega
  refine WP.nrm 40 ?_
  refine WP.reg k_mixed fun nm7 hnm7 => ?_
  refine RegC.m (op_lss rfl) rfl rfl rfl ?_
  refine RegC.done ⟨.inl rfl, ?_⟩
  refine WP.nrm 40 ?_
  refine WP.condD rfl (fun h1 => ?_) (fun h1 => ?_)
  ·
    refine WP.nrm 40 ?_
    refine WP.reg k_mixed fun nm8 hnm8 => ?_
    refine RegC.m (op_iV (f := AVal.u8) (l := ((b).take (28)).drop (24)) (j) rfl k_sl_26 (by first | omega | (simp only [List.length_append, List.length_map, List.length_cons, List.length_nil, List.length_replicate, List.length_take, List.length_drop, List.length_set]; omega) | (simp <;> omega) | simp_all) (by first | omega | (simp only [List.length_append, List.length_map, List.length_cons, List.length_nil, List.length_replicate, List.length_take, List.length_drop, List.length_set]; omega) | (simp <;> omega) | simp_all)) rfl rfl rfl ?_
    refine RegC.m (op_loadVM (f := AVal.u8) (l := ((b).take (28)).drop (24)) (n := j) rfl k_scal_5 (by first | omega | (simp only [List.length_append, List.length_map, List.length_cons, List.length_nil, List.length_replicate, List.length_take, List.length_drop, List.length_set]; omega) | (simp <;> omega) | simp_all)) rfl rfl rfl ?_
    refine RegC.m (op_assign rfl) rfl rfl rfl ?_
    refine RegC.done ⟨.inl rfl, ?_⟩
    refine WP.nrm 40 ?_
    refine WP.reg k_mixed fun nm9 hnm9 => ?_
    refine RegC.m (op_move rfl) rfl rfl rfl ?_
    refine RegC.m (OpV.boolE (t := (((((((b).take (28)).drop (24))[j]!).toNat : Int) : Int) != 0)) (u := false) (op_neq rfl) (by rw [hz.1 j (by omega)]; rfl)) rfl rfl rfl ?_
    refine RegC.done ⟨.inl rfl, ?_⟩
    refine WP.nrm 40 ?_
    refine WP.cond (t := false) rfl ?_
    refine WP.nrm 40 ?_
    refine WP.reg k_mixed fun nm10 hnm10 => ?_
    refine RegC.m (op_addI rfl (by first | omega | (simp only [List.length_append, List.length_map, List.length_cons, List.length_nil, List.length_replicate, List.length_take, List.length_drop, List.length_set]; omega) | (simp <;> omega) | simp_all)) rfl rfl rfl ?_
    refine RegC.m (op_move rfl) rfl rfl rfl ?_
    refine RegC.done ⟨.inl rfl, ?_⟩
    refine WP.nrm 40 ?_
    refine WP.jump (subE.cons rfl (subE.cons rfl (subE.cons rfl (subE.cons rfl (subE.cons rfl (subE.nil)))))) (List.nil_sublist _) (ih0 _ ?_ ?_)
    · exact ⟨j + 1, by push_cast; rfl, by omega⟩
    · omega
  ·
    refine WP.nrm 40 ?_
    refine WP.reg k_mixed fun nm11 hnm11 => ?_
    refine RegC.m (op_move rfl) rfl rfl rfl ?_
    refine RegC.m (op_sV11 (f := AVal.u8) (l := b) (28) (32) rfl k_sl_26 (by first | omega | (simp only [List.length_append, List.length_map, List.length_cons, List.length_nil, List.length_replicate, List.length_take, List.length_drop, List.length_set]; omega) | (simp <;> omega) | simp_all) (by first | omega | (simp only [List.length_append, List.length_map, List.length_cons, List.length_nil, List.length_replicate, List.length_take, List.length_drop, List.length_set]; omega) | (simp <;> omega) | simp_all) (by first | omega | (simp only [List.length_append, List.length_map, List.length_cons, List.length_nil, List.length_replicate, List.length_take, List.length_drop, List.length_set]; omega) | (simp <;> omega) | simp_all) (by first | omega | (simp only [List.length_append, List.length_map, List.length_cons, List.length_nil, List.length_replicate, List.length_take, List.length_drop, List.length_set]; omega) | (simp <;> omega) | simp_all)) rfl rfl rfl ?_
    refine RegC.m (op_call rfl k_call_101 (numberOf_calls false (((b).take (32)).drop (28)) (by first | omega | (simp only [List.length_append, List.length_map, List.length_cons, List.length_nil, List.length_replicate, List.length_take, List.length_drop, List.length_set]; omega) | (simp <;> omega) | simp_all))) rfl rfl rfl ?_
    refine RegC.m (op_assign rfl) rfl rfl rfl ?_
    refine RegC.done ⟨.inl rfl, ?_⟩
    refine WP.nrm 40 ?_
    refine WP.reg k_mixed fun nm12 hnm12 => ?_
    refine RegC.m (op_move rfl) rfl rfl rfl ?_
    refine RegC.m (OpV.boolF (op_gtr rfl) (by omega)) rfl rfl rfl ?_
    refine RegC.done ⟨.inl rfl, ?_⟩
    refine WP.nrm 40 ?_
    refine WP.cond (t := false) rfl ?_
    refine WP.nrm 40 ?_
    refine WP.reg k_mixed fun nm13 hnm13 => ?_
    refine RegC.m (op_move rfl) rfl rfl rfl ?_
    refine RegC.m (op_move rfl) rfl rfl rfl ?_
    refine RegC.m (op_addI rfl (by first | omega | (simp only [List.length_append, List.length_map, List.length_cons, List.length_nil, List.length_replicate, List.length_take, List.length_drop, List.length_set]; omega) | (simp <;> omega) | simp_all)) rfl rfl rfl ?_
    refine RegC.m (op_subI rfl (by first | omega | (simp only [List.length_append, List.length_map, List.length_cons, List.length_nil, List.length_replicate, List.length_take, List.length_drop, List.length_set]; omega) | (simp <;> omega) | simp_all)) rfl rfl rfl ?_
    refine RegC.m (op_move rfl) rfl rfl rfl ?_
    refine RegC.m (op_quoI rfl (by first | omega | (simp only [List.length_append, List.length_map, List.length_cons, List.length_nil, List.length_replicate, List.length_take, List.length_drop, List.length_set]; omega) | (simp <;> omega) | simp_all)) rfl rfl rfl ?_
    refine RegC.m (op_assign rfl) rfl rfl rfl ?_
    refine RegC.done ⟨.inl rfl, ?_⟩
    refine WP.nrm 40 ?_
    refine WP.reg k_mixed fun nm14 hnm14 => ?_
    refine RegC.m (op_move rfl) rfl rfl rfl ?_
    refine RegC.m (op_addI rfl (by first | omega | (simp only [List.length_append, List.length_map, List.length_cons, List.length_nil, List.length_replicate, List.length_take, List.length_drop, List.length_set]; omega) | (simp <;> omega) | simp_all)) rfl rfl rfl ?_
    refine RegC.m (op_move rfl) rfl rfl rfl ?_
    refine RegC.m (op_mulI rfl (by first | omega | (simp only [List.length_append, List.length_map, List.length_cons, List.length_nil, List.length_replicate, List.length_take, List.length_drop, List.length_set]; omega) | (simp <;> omega) | simp_all)) rfl rfl rfl ?_
    refine RegC.m (op_addI rfl (by first | omega | (simp only [List.length_append, List.length_map, List.length_cons, List.length_nil, List.length_replicate, List.length_take, List.length_drop, List.length_set]; omega) | (simp <;> omega) | simp_all)) rfl rfl rfl ?_
    refine RegC.m (op_assign rfl) rfl rfl rfl ?_
    refine RegC.done ⟨.inl rfl, ?_⟩
    refine WP.nrm 40 ?_
    refine WP.reg k_mixed fun nm15 hnm15 => ?_
    refine RegC.m (op_move rfl) rfl rfl rfl ?_
    refine RegC.m (op_lenV (f := AVal.u8) (l := b) rfl k_sl_26) rfl rfl rfl ?_
    refine RegC.m (op_move rfl) rfl rfl rfl ?_
    refine RegC.m (OpV.boolF (op_lss rfl) (by omega)) rfl rfl rfl ?_
    refine RegC.done ⟨.inl rfl, ?_⟩
    refine WP.nrm 40 ?_
    refine WP.cond (t := false) rfl ?_
    refine WP.nrm 40 ?_
    refine WP.reg k_mixed fun nm16 hnm16 => ?_
    refine RegC.m (op_move rfl) rfl rfl rfl ?_
    refine RegC.m (op_lenV (f := AVal.u8) (l := b) rfl k_sl_26) rfl rfl rfl ?_
    refine RegC.m (op_move rfl) rfl rfl rfl ?_
    refine RegC.m (OpV.boolF (op_gtr rfl) (by omega)) rfl rfl rfl ?_
    refine RegC.done ⟨.inl rfl, ?_⟩
    refine WP.nrm 40 ?_
    refine WP.cond (t := false) rfl ?_
    refine WP.nrm 40 ?_
    refine WP.reg k_mixed fun nm17 hnm17 => ?_
    refine RegC.m (op_move rfl) rfl rfl rfl ?_
    refine RegC.m (op_move rfl) rfl rfl rfl ?_
    refine RegC.m (op_assign rfl) rfl rfl rfl ?_
    refine RegC.m (op_assign rfl) rfl rfl rfl ?_
    refine RegC.m (op_assign rfl) rfl rfl rfl ?_
    refine RegC.done ⟨.inl rfl, ?_⟩
    refine WP.nrm 40 ?_
    refine WP.retS (ResV.many rfl rfl (.cons (.tmp rfl) (.cons (.tmp rfl) (.cons (.tmp rfl) (RessOf.nil))))) (List.nil_sublist _) ?_
    exact ⟨by rw [← hmi, ← hM, hB], rfl⟩

theorem blocksOf_bad (full : Bool) (b : List UInt8) (hb : b.length ≤ 16777216) (hE : ¬ lookE b = 0) : ACalls Try.prog 65 [VS AVal.u8 full (b)] [] [] (.tup [.i 0, .i 0, .i (lookE b)]) [] := by
  refine ACalls.of_wp' (fn := Try.f65) (n := 60) Try.func65 rfl rfl ?_
  unfold Try.f65
  refine WP.nrm 40 ?_
  refine WP.reg k_mixed fun nm1 hnm1 => ?_
  refine RegC.m (op_assign rfl) rfl rfl rfl ?_
  refine RegC.m (op_assign rfl) rfl rfl rfl ?_
  refine RegC.m (op_assign rfl) rfl rfl rfl ?_
  refine RegC.done ⟨.inl rfl, ?_⟩
  refine WP.nrm 40 ?_
  refine WP.reg k_mixed fun nm2 hnm2 => ?_
  refine RegC.m (op_move rfl) rfl rfl rfl ?_
  refine RegC.m (op_lenV (f := AVal.u8) (l := b) rfl k_sl_26) rfl rfl rfl ?_
  refine RegC.m (op_lss rfl) rfl rfl rfl ?_
  refine RegC.done ⟨.inl rfl, ?_⟩
  refine WP.nrm 40 ?_
  refine WP.condD rfl (fun h1 => ?_) (fun h1 => ?_)
  ·
    refine WP.nrm 40 ?_
    refine WP.reg k_mixed fun nm3 hnm3 => ?_
    refine RegC.m (op_assign rfl) rfl rfl rfl ?_
    refine RegC.m (op_assign rfl) rfl rfl rfl ?_
    refine RegC.m (op_assign rfl) rfl rfl rfl ?_
    refine RegC.done ⟨.inl rfl, ?_⟩
    refine WP.nrm 40 ?_
    refine WP.retS (ResV.many rfl rfl (.cons (.tmp rfl) (.cons (.tmp rfl) (.cons (.tmp rfl) (RessOf.nil))))) (List.nil_sublist _) ?_
    have hL : lookE b = 1 := (by first | (exact look_1 b (by omega)) | (exact look_1b b (by omega) hk4 (by omega) (by omega) (by omega))); exact ⟨by rw [hL], rfl⟩
  ·
    refine WP.nrm 40 ?_
    refine WP.reg k_mixed fun nm4 hnm4 => ?_
    refine RegC.m (op_move rfl) rfl rfl rfl ?_
    refine RegC.m (op_sV01 (f := AVal.u8) (l := b) (4) rfl k_sl_26 (by first | omega | (simp only [List.length_append, List.length_map, List.length_cons, List.length_nil, List.length_replicate, List.length_take, List.length_drop, List.length_set]; omega) | (simp <;> omega) | simp_all) (by first | omega | (simp only [List.length_append, List.length_map, List.length_cons, List.length_nil, List.length_replicate, List.length_take, List.length_drop, List.length_set]; omega) | (simp <;> omega) | simp_all)) rfl rfl rfl ?_
    refine RegC.m (op_toStrV (l := (b).take (4)) rfl k_undSl_26 k_undI_5 k_undS_9 rfl) rfl rfl rfl ?_
    refine RegC.m (op_neqS rfl) rfl rfl rfl ?_
    refine RegC.done ⟨.inl rfl, ?_⟩
    refine WP.nrm 40 ?_
    refine WP.condB rfl (fun h2 => ?_) (fun h2 => ?_)
    ·
      have hk4 : ¬ b.take 4 = [75, 87, 84, 49] := by simpa using h2
      refine WP.nrm 40 ?_
      refine WP.reg k_mixed fun nm5 hnm5 => ?_
      refine RegC.m (op_assign rfl) rfl rfl rfl ?_
      refine RegC.m (op_assign rfl) rfl rfl rfl ?_
      refine RegC.m (op_assign rfl) rfl rfl rfl ?_
      refine RegC.done ⟨.inl rfl, ?_⟩
      refine WP.nrm 40 ?_
      refine WP.retS (ResV.many rfl rfl (.cons (.tmp rfl) (.cons (.tmp rfl) (.cons (.tmp rfl) (RessOf.nil))))) (List.nil_sublist _) ?_
      have hL : lookE b = 2 := (by first | (exact look_2 b (by omega) hk4) | (exact look_2b b (by omega) hk4 (by omega) (by omega) (by omega))); exact ⟨by rw [hL], rfl⟩
    ·
      have hk4 : b.take 4 = [75, 87, 84, 49] := by simpa using h2
      have hB := blkN_num b (by omega)
      refine WP.nrm 40 ?_
      refine WP.reg k_mixed fun nm6 hnm6 => ?_
      refine RegC.m (op_move rfl) rfl rfl rfl ?_
      refine RegC.m (op_sV11 (f := AVal.u8) (l := b) (20) (24) rfl k_sl_26 (by first | omega | (simp only [List.length_append, List.length_map, List.length_cons, List.length_nil, List.length_replicate, List.length_take, List.length_drop, List.length_set]; omega) | (simp <;> omega) | simp_all) (by first | omega | (simp only [List.length_append, List.length_map, List.length_cons, List.length_nil, List.length_replicate, List.length_take, List.length_drop, List.length_set]; omega) | (simp <;> omega) | simp_all) (by first | omega | (simp only [List.length_append, List.length_map, List.length_cons, List.length_nil, List.length_replicate, List.length_take, List.length_drop, List.length_set]; omega) | (simp <;> omega) | simp_all) (by first | omega | (simp only [List.length_append, List.length_map, List.length_cons, List.length_nil, List.length_replicate, List.length_take, List.length_drop, List.length_set]; omega) | (simp <;> omega) | simp_all)) rfl rfl rfl ?_
      refine RegC.m (op_call rfl k_call_101 (numberOf_calls false (((b).take (24)).drop (20)) (by first | omega | (simp only [List.length_append, List.length_map, List.length_cons, List.length_nil, List.length_replicate, List.length_take, List.length_drop, List.length_set]; omega) | (simp <;> omega) | simp_all))) rfl rfl rfl ?_
      refine RegC.m (op_assign rfl) rfl rfl rfl ?_
      refine RegC.done ⟨.inl rfl, ?_⟩
      refine WP.nrm 40 ?_
      refine WP.reg k_mixed fun nm7 hnm7 => ?_
      refine RegC.m (op_move rfl) rfl rfl rfl ?_
      refine RegC.m (op_call rfl k_call_30 (in_calls (((numS (((b).take (24)).drop (20)) : Nat) : Int)) (16) (65536))) rfl rfl rfl ?_
      refine RegC.m (op_not rfl) rfl rfl rfl ?_
      refine RegC.done ⟨.inl rfl, ?_⟩
      refine WP.nrm 40 ?_
      refine WP.condB rfl (fun h3 => ?_) (fun h3 => ?_)
      ·
        have hin : blkN b < 16 ∨ 65536 < blkN b := by have := h3; rw [hB] at this; simp [inS] at this; omega
        refine WP.nrm 40 ?_
        refine WP.reg k_mixed fun nm8 hnm8 => ?_
        refine RegC.m (op_assign rfl) rfl rfl rfl ?_
        refine RegC.m (op_assign rfl) rfl rfl rfl ?_
        refine RegC.m (op_assign rfl) rfl rfl rfl ?_
        refine RegC.done ⟨.inl rfl, ?_⟩
        refine WP.nrm 40 ?_
        refine WP.retS (ResV.many rfl rfl (.cons (.tmp rfl) (.cons (.tmp rfl) (.cons (.tmp rfl) (RessOf.nil))))) (List.nil_sublist _) ?_
        have hL : lookE b = 4 := look_4 b (by omega) hk4 (by omega); exact ⟨by rw [hL], rfl⟩
      ·
        have hin : 16 ≤ blkN b ∧ blkN b ≤ 65536 := by have := h3; rw [hB] at this; simp [inS] at this; omega
        refine WP.nrm 40 ?_
        refine WP.reg k_mixed fun nm9 hnm9 => ?_
        refine RegC.m (op_move rfl) rfl rfl rfl ?_
        refine RegC.m (op_sV11 (f := AVal.u8) (l := b) (24) (28) rfl k_sl_26 (by first | omega | (simp only [List.length_append, List.length_map, List.length_cons, List.length_nil, List.length_replicate, List.length_take, List.length_drop, List.length_set]; omega) | (simp <;> omega) | simp_all) (by first | omega | (simp only [List.length_append, List.length_map, List.length_cons, List.length_nil, List.length_replicate, List.length_take, List.length_drop, List.length_set]; omega) | (simp <;> omega) | simp_all) (by first | omega | (simp only [List.length_append, List.length_map, List.length_cons, List.length_nil, List.length_replicate, List.length_take, List.length_drop, List.length_set]; omega) | (simp <;> omega) | simp_all) (by first | omega | (simp only [List.length_append, List.length_map, List.length_cons, List.length_nil, List.length_replicate, List.length_take, List.length_drop, List.length_set]; omega) | (simp <;> omega) | simp_all)) rfl rfl rfl ?_
        refine RegC.m (op_lenV (f := AVal.u8) (l := ((b).take (28)).drop (24)) rfl k_sl_26) rfl rfl rfl ?_
        refine RegC.m (op_move rfl) rfl rfl rfl ?_
        refine RegC.done ⟨.inl rfl, ?_⟩
        refine WP.nrm 40 ?_
        refine WP.loop1 (fun (i : Int) => [(0, VS AVal.u8 full (b)), (5, .i (((numS (((b).take (24)).drop (20)) : Nat) : Int))), (25, VS AVal.u8 false (((b).take (28)).drop (24))), (26, .i (((((b).take (28)).drop (24)).length : Int))), (27, .i (i))]) (fun (i : Int) => []) (fun (i : Int) => ∃ j : Nat, i = j ∧ j ≤ 4 ∧ ∀ x < j, ((b.take 28).drop 24)[x]! = 0) (fun (i : Int) => (4 - i).toNat) (0) (subE.cons rfl (subE.cons rfl (subE.cons rfl (subE.cons rfl (subE.cons rfl (subE.nil)))))) (by (try simp only [List.set_cons_zero, List.set_cons_succ, List.cons_append, List.nil_append]); exact (List.nil_sublist _)) ⟨0, rfl, by omega, fun x hx => absurd hx (by omega)⟩ ?_
        intro i hI ih0
        obtain ⟨j, rfl, hj, hall⟩ := hI
        have hl4 : ((b.take 28).drop 24).length = 4 := by simp only [List.length_drop, List.length_take]; omega
        refine WP.nrm 40 ?_
        refine WP.reg k_mixed fun nm10 hnm10 => ?_
        refine RegC.m (op_lss rfl) rfl rfl rfl ?_
        refine RegC.done ⟨.inl rfl, ?_⟩
        refine WP.nrm 40 ?_
        refine WP.condD rfl (fun h4 => ?_) (fun h4 => ?_)
        ·
          refine WP.nrm 40 ?_
          refine WP.reg k_mixed fun nm11 hnm11 => ?_
          refine RegC.m (op_iV (f := AVal.u8) (l := ((b).take (28)).drop (24)) (j) rfl k_sl_26 (by first | omega | (simp only [List.length_append, List.length_map, List.length_cons, List.length_nil, List.length_replicate, List.length_take, List.length_drop, List.length_set]; omega) | (simp <;> omega) | simp_all) (by first | omega | (simp only [List.length_append, List.length_map, List.length_cons, List.length_nil, List.length_replicate, List.length_take, List.length_drop, List.length_set]; omega) | (simp <;> omega) | simp_all)) rfl rfl rfl ?_
          refine RegC.m (op_loadVM (f := AVal.u8) (l := ((b).take (28)).drop (24)) (n := j) rfl k_scal_5 (by first | omega | (simp only [List.length_append, List.length_map, List.length_cons, List.length_nil, List.length_replicate, List.length_take, List.length_drop, List.length_set]; omega) | (simp <;> omega) | simp_all)) rfl rfl rfl ?_
          refine RegC.m (op_assign rfl) rfl rfl rfl ?_
          refine RegC.done ⟨.inl rfl, ?_⟩
          refine WP.nrm 40 ?_
          refine WP.reg k_mixed fun nm12 hnm12 => ?_
          refine RegC.m (op_move rfl) rfl rfl rfl ?_
          refine RegC.m (op_neq rfl) rfl rfl rfl ?_
          refine RegC.done ⟨.inl rfl, ?_⟩
          refine WP.nrm 40 ?_
          refine WP.condB rfl (fun h5 => ?_) (fun h5 => ?_)
          ·
            have hz : ¬ ((b.take 28).drop 24)[j]! = 0 := by intro hq; rw [hq] at h5; simp at h5
            have h9 : 262144 < szN b := szN_big b (by omega) j (by omega) hz
            refine WP.nrm 40 ?_
            refine WP.reg k_mixed fun nm13 hnm13 => ?_
            refine RegC.m (op_assign rfl) rfl rfl rfl ?_
            refine RegC.m (op_assign rfl) rfl rfl rfl ?_
            refine RegC.m (op_assign rfl) rfl rfl rfl ?_
            refine RegC.done ⟨.inl rfl, ?_⟩
            refine WP.nrm 40 ?_
            refine WP.retS (ResV.many rfl rfl (.cons (.tmp rfl) (.cons (.tmp rfl) (.cons (.tmp rfl) (RessOf.nil))))) (List.nil_sublist _) ?_
            have hL : lookE b = 5 := look_5 b (by omega) hk4 (by omega) (by omega); exact ⟨by rw [hL], rfl⟩
          ·
            have hz : ((b.take 28).drop 24)[j]! = 0 := UInt8.toNat_inj.1 (by simpa using h5)
            refine WP.nrm 40 ?_
            refine WP.reg k_mixed fun nm14 hnm14 => ?_
            refine RegC.m (op_addI rfl (by first | omega | (simp only [List.length_append, List.length_map, List.length_cons, List.length_nil, List.length_replicate, List.length_take, List.length_drop, List.length_set]; omega) | (simp <;> omega) | simp_all)) rfl rfl rfl ?_
            refine RegC.m (op_move rfl) rfl rfl rfl ?_
            refine RegC.done ⟨.inl rfl, ?_⟩
            refine WP.nrm 40 ?_
            refine WP.jump (subE.cons rfl (subE.cons rfl (subE.cons rfl (subE.cons rfl (subE.cons rfl (subE.nil)))))) (List.nil_sublist _) (ih0 _ ?_ ?_)
            · exact ⟨j + 1, by push_cast; rfl, by omega, fun x hx => (by rcases Nat.lt_or_ge x j with hx2 | hx2; exact hall x hx2; rw [show x = j by omega]; exact hz)⟩
            · omega
        ·
          have hs : szN b = numS (((b).take (32)).drop (28)) := szN_small b (by omega) (fun x hx => hall x (by omega))
          refine WP.nrm 40 ?_
          refine WP.reg k_mixed fun nm15 hnm15 => ?_
          refine RegC.m (op_move rfl) rfl rfl rfl ?_
          refine RegC.m (op_sV11 (f := AVal.u8) (l := b) (28) (32) rfl k_sl_26 (by first | omega | (simp only [List.length_append, List.length_map, List.length_cons, List.length_nil, List.length_replicate, List.length_take, List.length_drop, List.length_set]; omega) | (simp <;> omega) | simp_all) (by first | omega | (simp only [List.length_append, List.length_map, List.length_cons, List.length_nil, List.length_replicate, List.length_take, List.length_drop, List.length_set]; omega) | (simp <;> omega) | simp_all) (by first | omega | (simp only [List.length_append, List.length_map, List.length_cons, List.length_nil, List.length_replicate, List.length_take, List.length_drop, List.length_set]; omega) | (simp <;> omega) | simp_all) (by first | omega | (simp only [List.length_append, List.length_map, List.length_cons, List.length_nil, List.length_replicate, List.length_take, List.length_drop, List.length_set]; omega) | (simp <;> omega) | simp_all)) rfl rfl rfl ?_
          refine RegC.m (op_call rfl k_call_101 (numberOf_calls false (((b).take (32)).drop (28)) (by first | omega | (simp only [List.length_append, List.length_map, List.length_cons, List.length_nil, List.length_replicate, List.length_take, List.length_drop, List.length_set]; omega) | (simp <;> omega) | simp_all))) rfl rfl rfl ?_
          refine RegC.m (op_assign rfl) rfl rfl rfl ?_
          refine RegC.done ⟨.inl rfl, ?_⟩
          refine WP.nrm 40 ?_
          refine WP.reg k_mixed fun nm16 hnm16 => ?_
          refine RegC.m (op_move rfl) rfl rfl rfl ?_
          refine RegC.m (op_gtr rfl) rfl rfl rfl ?_
          refine RegC.done ⟨.inl rfl, ?_⟩
          refine WP.nrm 40 ?_
          refine WP.condD rfl (fun h6 => ?_) (fun h6 => ?_)
          ·
            refine WP.nrm 40 ?_
            refine WP.reg k_mixed fun nm17 hnm17 => ?_
            refine RegC.m (op_assign rfl) rfl rfl rfl ?_
            refine RegC.m (op_assign rfl) rfl rfl rfl ?_
            refine RegC.m (op_assign rfl) rfl rfl rfl ?_
            refine RegC.done ⟨.inl rfl, ?_⟩
            refine WP.nrm 40 ?_
            refine WP.retS (ResV.many rfl rfl (.cons (.tmp rfl) (.cons (.tmp rfl) (.cons (.tmp rfl) (RessOf.nil))))) (List.nil_sublist _) ?_
            have hL : lookE b = 5 := look_5 b (by omega) hk4 (by omega) (by omega); exact ⟨by rw [hL], rfl⟩
          ·
            have hmi := many_int (numS (((b).take (32)).drop (28))) (numS (((b).take (24)).drop (20))) (by omega)
            have hM : manyN b = manyS (numS (((b).take (32)).drop (28))) (numS (((b).take (24)).drop (20))) := by unfold manyN; rw [hs, hB]
            have hml : manyN b ≤ 16384 := manyS_le (szN b) (blkN b) (by omega) (by omega)
            refine WP.nrm 40 ?_
            refine WP.reg k_mixed fun nm18 hnm18 => ?_
            refine RegC.m (op_move rfl) rfl rfl rfl ?_
            refine RegC.m (op_move rfl) rfl rfl rfl ?_
            refine RegC.m (op_addI rfl (by first | omega | (simp only [List.length_append, List.length_map, List.length_cons, List.length_nil, List.length_replicate, List.length_take, List.length_drop, List.length_set]; omega) | (simp <;> omega) | simp_all)) rfl rfl rfl ?_
            refine RegC.m (op_subI rfl (by first | omega | (simp only [List.length_append, List.length_map, List.length_cons, List.length_nil, List.length_replicate, List.length_take, List.length_drop, List.length_set]; omega) | (simp <;> omega) | simp_all)) rfl rfl rfl ?_
            refine RegC.m (op_move rfl) rfl rfl rfl ?_
            refine RegC.m (op_quoI rfl (by first | omega | (simp only [List.length_append, List.length_map, List.length_cons, List.length_nil, List.length_replicate, List.length_take, List.length_drop, List.length_set]; omega) | (simp <;> omega) | simp_all)) rfl rfl rfl ?_
            refine RegC.m (op_assign rfl) rfl rfl rfl ?_
            refine RegC.done ⟨.inl rfl, ?_⟩
            refine WP.nrm 40 ?_
            refine WP.reg k_mixed fun nm19 hnm19 => ?_
            refine RegC.m (op_move rfl) rfl rfl rfl ?_
            refine RegC.m (op_addI rfl (by first | omega | (simp only [List.length_append, List.length_map, List.length_cons, List.length_nil, List.length_replicate, List.length_take, List.length_drop, List.length_set]; omega) | (simp <;> omega) | simp_all)) rfl rfl rfl ?_
            refine RegC.m (op_move rfl) rfl rfl rfl ?_
            refine RegC.m (op_mulI rfl (by first | omega | (simp only [List.length_append, List.length_map, List.length_cons, List.length_nil, List.length_replicate, List.length_take, List.length_drop, List.length_set]; omega) | (simp <;> omega) | simp_all)) rfl rfl rfl ?_
            refine RegC.m (op_addI rfl (by first | omega | (simp only [List.length_append, List.length_map, List.length_cons, List.length_nil, List.length_replicate, List.length_take, List.length_drop, List.length_set]; omega) | (simp <;> omega) | simp_all)) rfl rfl rfl ?_
            refine RegC.m (op_assign rfl) rfl rfl rfl ?_
            refine RegC.done ⟨.inl rfl, ?_⟩
            refine WP.nrm 40 ?_
            refine WP.reg k_mixed fun nm20 hnm20 => ?_
            refine RegC.m (op_move rfl) rfl rfl rfl ?_
            refine RegC.m (op_lenV (f := AVal.u8) (l := b) rfl k_sl_26) rfl rfl rfl ?_
            refine RegC.m (op_move rfl) rfl rfl rfl ?_
            refine RegC.m (op_lss rfl) rfl rfl rfl ?_
            refine RegC.done ⟨.inl rfl, ?_⟩
            refine WP.nrm 40 ?_
            refine WP.condD rfl (fun h7 => ?_) (fun h7 => ?_)
            ·
              refine WP.nrm 40 ?_
              refine WP.reg k_mixed fun nm21 hnm21 => ?_
              refine RegC.m (op_assign rfl) rfl rfl rfl ?_
              refine RegC.m (op_assign rfl) rfl rfl rfl ?_
              refine RegC.m (op_assign rfl) rfl rfl rfl ?_
              refine RegC.done ⟨.inl rfl, ?_⟩
              refine WP.nrm 40 ?_
              refine WP.retS (ResV.many rfl rfl (.cons (.tmp rfl) (.cons (.tmp rfl) (.cons (.tmp rfl) (RessOf.nil))))) (List.nil_sublist _) ?_
              have hL : lookE b = 1 := (by first | (exact look_1 b (by omega)) | (exact look_1b b (by omega) hk4 (by omega) (by omega) (by omega))); exact ⟨by rw [hL], rfl⟩
            ·
              refine WP.nrm 40 ?_
              refine WP.reg k_mixed fun nm22 hnm22 => ?_
              refine RegC.m (op_move rfl) rfl rfl rfl ?_
              refine RegC.m (op_lenV (f := AVal.u8) (l := b) rfl k_sl_26) rfl rfl rfl ?_
              refine RegC.m (op_move rfl) rfl rfl rfl ?_
              refine RegC.m (op_gtr rfl) rfl rfl rfl ?_
              refine RegC.done ⟨.inl rfl, ?_⟩
              refine WP.nrm 40 ?_
              refine WP.condD rfl (fun h8 => ?_) (fun h8 => ?_)
              ·
                refine WP.nrm 40 ?_
                refine WP.reg k_mixed fun nm23 hnm23 => ?_
                refine RegC.m (op_assign rfl) rfl rfl rfl ?_
                refine RegC.m (op_assign rfl) rfl rfl rfl ?_
                refine RegC.m (op_assign rfl) rfl rfl rfl ?_
                refine RegC.done ⟨.inl rfl, ?_⟩
                refine WP.nrm 40 ?_
                refine WP.retS (ResV.many rfl rfl (.cons (.tmp rfl) (.cons (.tmp rfl) (.cons (.tmp rfl) (RessOf.nil))))) (List.nil_sublist _) ?_
                have hL : lookE b = 2 := (by first | (exact look_2 b (by omega) hk4) | (exact look_2b b (by omega) hk4 (by omega) (by omega) (by omega))); exact ⟨by rw [hL], rfl⟩
              ·
                exact absurd (look_0 b (by omega) hk4 (by omega) (by omega) (by omega)) hE
end Go.Proofs.Try
