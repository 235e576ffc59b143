import Derived.Test.YtdnccchcflaphaaK4
import Derived.Test.YtdnccchcflaphaaFF
import Derived.Test.YtdnccchcflaphaaS8
namespace Go.Proofs.Try
open Go Go.Kw
set_option linter.unusedVariables false
set_option linter.unusedSimpArgs false
set_option maxRecDepth 100000
set_option maxHeartbeats 400000
theorem k_call_124 : callable Try.prog 124 = true := by kernel_rfl

theorem room_calls (full : Bool) (b : List UInt8) (at0 many : Nat) (h : at0 + many ≤ b.length) (hb : b.length ≤ 140737488351232) : ACalls Try.prog 124 [VS AVal.u8 full (b), .i ((at0 : Int)), .i ((many : Int))] [] [] (.i 0) [] := by
  refine ACalls.of_wp' (fn := Try.f124) (n := 23) Try.func124 rfl rfl ?_
  unfold Try.f124
  refine WP.nrm 40 ?_
  refine WP.reg k_mixed fun nm1 hnm1 => ?_
  refine RegC.m (op_assign rfl) rfl rfl rfl ?_
  refine RegC.done ⟨.inl rfl, ?_⟩
  refine WP.nrm 40 ?_
  refine WP.reg k_mixed fun nm2 hnm2 => ?_
  refine RegC.m (op_move rfl) rfl rfl rfl ?_
  refine RegC.m (OpV.boolF (op_lss rfl) (by omega)) rfl rfl rfl ?_
  refine RegC.m (op_assign rfl) rfl rfl rfl ?_
  refine RegC.done ⟨.inl rfl, ?_⟩
  refine WP.nrm 40 ?_
  refine WP.cond (t := false) rfl ?_
  refine WP.nrm 40 ?_
  refine WP.reg k_mixed fun nm3 hnm3 => ?_
  refine RegC.m (op_move rfl) rfl rfl rfl ?_
  refine RegC.m (op_lenV (f := AVal.u8) (l := b) rfl k_sl_26) rfl rfl rfl ?_
  refine RegC.m (op_move rfl) rfl rfl rfl ?_
  refine RegC.m (OpV.boolF (op_lss rfl) (by omega)) rfl rfl rfl ?_
  refine RegC.m (op_move rfl) rfl rfl rfl ?_
  refine RegC.m (op_move rfl) rfl rfl rfl ?_
  refine RegC.m (op_move rfl) rfl rfl rfl ?_
  refine RegC.m (op_lenV (f := AVal.u8) (l := b) rfl k_sl_26) rfl rfl rfl ?_
  refine RegC.m (op_move rfl) rfl rfl rfl ?_
  refine RegC.m (op_subI rfl (by first | omega | (simp only [List.length_append, List.length_map, List.length_cons, List.length_nil, List.length_replicate, List.length_take, List.length_drop, List.length_set]; omega) | (simp <;> omega) | simp_all)) rfl rfl rfl ?_
  refine RegC.m (OpV.boolF (op_gtr rfl) (by omega)) rfl rfl rfl ?_
  refine RegC.m (op_pick rfl) rfl rfl rfl ?_
  refine RegC.m (op_assign rfl) rfl rfl rfl ?_
  refine RegC.done ⟨.inl rfl, ?_⟩
  refine WP.nrm 40 ?_
  refine WP.cond (t := false) rfl ?_
  refine WP.nrm 40 ?_
  refine WP.reg k_mixed fun nm4 hnm4 => ?_
  refine RegC.m (op_assign rfl) rfl rfl rfl ?_
  refine RegC.done ⟨.inl rfl, ?_⟩
  refine WP.nrm 40 ?_
  refine WP.retS (ResV.one rfl (.tmp rfl)) (List.nil_sublist _) ?_
  exact ⟨rfl, rfl⟩

theorem number_calls (full : Bool) (b : List UInt8) (at0 : Nat) (h : at0 + 4 ≤ b.length) (hb : b.length ≤ 140737488351232) : ACalls Try.prog 118 [VS AVal.u8 full (b), .i ((at0 : Int))] [] [] (.tup [.u32 (num4 b at0), .i 0]) [] := by
  refine ACalls.of_wp' (fn := Try.f118) (n := 21) Try.func118 rfl rfl ?_
  unfold Try.f118
  refine WP.nrm 40 ?_
  refine WP.reg k_mixed fun nm1 hnm1 => ?_
  refine RegC.m (op_assign rfl) rfl rfl rfl ?_
  refine RegC.m (op_assign rfl) rfl rfl rfl ?_
  refine RegC.done ⟨.inl rfl, ?_⟩
  refine WP.nrm 40 ?_
  refine WP.reg k_mixed fun nm2 hnm2 => ?_
  refine RegC.m (op_move rfl) rfl rfl rfl ?_
  refine RegC.m (op_move rfl) rfl rfl rfl ?_
  refine RegC.m (op_call rfl k_call_124 (room_calls full (b) (at0) (4) (by first | omega | (simp only [List.length_append, List.length_map, List.length_cons, List.length_nil, List.length_replicate, List.length_take, List.length_drop, List.length_set]; omega) | (simp <;> omega) | simp_all) (by first | omega | (simp only [List.length_append, List.length_map, List.length_cons, List.length_nil, List.length_replicate, List.length_take, List.length_drop, List.length_set]; omega) | (simp <;> omega) | simp_all))) rfl rfl rfl ?_
  refine RegC.m (op_assign rfl) rfl rfl rfl ?_
  refine RegC.done ⟨.inl rfl, ?_⟩
  refine WP.nrm 40 ?_
  refine WP.reg k_mixed fun nm3 hnm3 => ?_
  refine RegC.m (op_move rfl) rfl rfl rfl ?_
  refine RegC.m (op_neq rfl) rfl rfl rfl ?_
  refine RegC.done ⟨.inl rfl, ?_⟩
  refine WP.nrm 40 ?_
  refine WP.cond (t := false) rfl ?_
  refine WP.nrm 40 ?_
  refine WP.reg k_mixed fun nm4 hnm4 => ?_
  refine RegC.m (op_move rfl) rfl rfl rfl ?_
  refine RegC.m (op_move rfl) rfl rfl rfl ?_
  refine RegC.m (op_move rfl) rfl rfl rfl ?_
  refine RegC.m (op_addI rfl (by first | omega | (simp only [List.length_append, List.length_map, List.length_cons, List.length_nil, List.length_replicate, List.length_take, List.length_drop, List.length_set]; omega) | (simp <;> omega) | simp_all)) rfl rfl rfl ?_
  refine RegC.m (op_sV11 (f := AVal.u8) (l := b) (at0) ((at0 + 4)) rfl k_sl_26 (by first | omega | (simp only [List.length_append, List.length_map, List.length_cons, List.length_nil, List.length_replicate, List.length_take, List.length_drop, List.length_set]; omega) | (simp <;> omega) | simp_all) (by first | omega | (simp only [List.length_append, List.length_map, List.length_cons, List.length_nil, List.length_replicate, List.length_take, List.length_drop, List.length_set]; omega) | (simp <;> omega) | simp_all) (by first | omega | (simp only [List.length_append, List.length_map, List.length_cons, List.length_nil, List.length_replicate, List.length_take, List.length_drop, List.length_set]; omega) | (simp <;> omega) | simp_all) (by first | omega | (simp only [List.length_append, List.length_map, List.length_cons, List.length_nil, List.length_replicate, List.length_take, List.length_drop, List.length_set]; omega) | (simp <;> omega) | simp_all)) rfl rfl rfl ?_
  refine RegC.m (op_toArrM (f := AVal.u8) (l := ((b).take ((at0 + 4))).drop (at0)) rfl k_arr_133 (by first | omega | (simp only [List.length_append, List.length_map, List.length_cons, List.length_nil, List.length_replicate, List.length_take, List.length_drop, List.length_set]; omega) | (simp <;> omega) | simp_all) (by omega)) rfl rfl rfl ?_
  refine RegC.m (op_loadVP (f := AVal.u8) (l := ((b).take ((at0 + 4))).drop (at0)) (off := 0) rfl k_agg_133 (by first | omega | (simp only [List.length_append, List.length_map, List.length_cons, List.length_nil, List.length_replicate, List.length_take, List.length_drop, List.length_set]; omega) | (simp <;> omega) | simp_all)) rfl rfl rfl ?_
  refine RegC.m (op_call rfl k_call_120 (word_calls (((((b).take ((at0 + 4))).drop (at0)).drop (0)).take 4) (by first | omega | (simp only [List.length_append, List.length_map, List.length_cons, List.length_nil, List.length_replicate, List.length_take, List.length_drop, List.length_set]; omega) | (simp <;> omega) | simp_all))) rfl rfl rfl ?_
  refine RegC.m (op_assign rfl) rfl rfl rfl ?_
  refine RegC.m (op_assign rfl) rfl rfl rfl ?_
  refine RegC.done ⟨.inl rfl, ?_⟩
  refine WP.nrm 40 ?_
  refine WP.retS (ResV.many rfl rfl (.cons (.tmp rfl) (.cons (.tmp rfl) (RessOf.nil)))) (List.nil_sublist _) ?_
  exact ⟨rfl, rfl⟩

theorem long_ok (full : Bool) (b : List UInt8) (at0 : Nat) (h : at0 + 8 ≤ b.length) (hb : b.length ≤ 140737488351232) (hn : (num8 b at0).toNat ≤ 4611686018427387904) : ACalls Try.prog 119 [VS AVal.u8 full (b), .i ((at0 : Int))] [] [] (.tup [.i ((num8 b at0).toNat : Nat), .i 0]) [] := by
  refine ACalls.of_wp' (fn := Try.f119) (n := 39) Try.func119 rfl rfl ?_
  unfold Try.f119
  refine WP.nrm 40 ?_
  refine WP.reg k_mixed fun nm1 hnm1 => ?_
  refine RegC.m (op_assign rfl) rfl rfl rfl ?_
  refine RegC.m (op_assign rfl) rfl rfl rfl ?_
  refine RegC.done ⟨.inl rfl, ?_⟩
  refine WP.nrm 40 ?_
  refine WP.reg k_mixed fun nm2 hnm2 => ?_
  refine RegC.m (op_move rfl) rfl rfl rfl ?_
  refine RegC.m (op_move rfl) rfl rfl rfl ?_
  refine RegC.m (op_call rfl k_call_124 (room_calls full (b) (at0) (8) (by first | omega | (simp only [List.length_append, List.length_map, List.length_cons, List.length_nil, List.length_replicate, List.length_take, List.length_drop, List.length_set]; omega) | (simp <;> omega) | simp_all) (by first | omega | (simp only [List.length_append, List.length_map, List.length_cons, List.length_nil, List.length_replicate, List.length_take, List.length_drop, List.length_set]; omega) | (simp <;> omega) | simp_all))) rfl rfl rfl ?_
  refine RegC.m (op_assign rfl) rfl rfl rfl ?_
  refine RegC.done ⟨.inl rfl, ?_⟩
  refine WP.nrm 40 ?_
  refine WP.reg k_mixed fun nm3 hnm3 => ?_
  refine RegC.m (op_move rfl) rfl rfl rfl ?_
  refine RegC.m (op_neq rfl) rfl rfl rfl ?_
  refine RegC.done ⟨.inl rfl, ?_⟩
  refine WP.nrm 40 ?_
  refine WP.cond (t := false) rfl ?_
  refine WP.nrm 40 ?_
  refine WP.reg k_mixed fun nm4 hnm4 => ?_
  refine RegC.m (op_move rfl) rfl rfl rfl ?_
  refine RegC.m (op_move rfl) rfl rfl rfl ?_
  refine RegC.m (op_move rfl) rfl rfl rfl ?_
  refine RegC.m (op_addI rfl (by first | omega | (simp only [List.length_append, List.length_map, List.length_cons, List.length_nil, List.length_replicate, List.length_take, List.length_drop, List.length_set]; omega) | (simp <;> omega) | simp_all)) rfl rfl rfl ?_
  refine RegC.m (op_sV11 (f := AVal.u8) (l := b) (at0) ((at0 + 4)) rfl k_sl_26 (by first | omega | (simp only [List.length_append, List.length_map, List.length_cons, List.length_nil, List.length_replicate, List.length_take, List.length_drop, List.length_set]; omega) | (simp <;> omega) | simp_all) (by first | omega | (simp only [List.length_append, List.length_map, List.length_cons, List.length_nil, List.length_replicate, List.length_take, List.length_drop, List.length_set]; omega) | (simp <;> omega) | simp_all) (by first | omega | (simp only [List.length_append, List.length_map, List.length_cons, List.length_nil, List.length_replicate, List.length_take, List.length_drop, List.length_set]; omega) | (simp <;> omega) | simp_all) (by first | omega | (simp only [List.length_append, List.length_map, List.length_cons, List.length_nil, List.length_replicate, List.length_take, List.length_drop, List.length_set]; omega) | (simp <;> omega) | simp_all)) rfl rfl rfl ?_
  refine RegC.m (op_toArrM (f := AVal.u8) (l := ((b).take ((at0 + 4))).drop (at0)) rfl k_arr_133 (by first | omega | (simp only [List.length_append, List.length_map, List.length_cons, List.length_nil, List.length_replicate, List.length_take, List.length_drop, List.length_set]; omega) | (simp <;> omega) | simp_all) (by omega)) rfl rfl rfl ?_
  refine RegC.m (op_loadVP (f := AVal.u8) (l := ((b).take ((at0 + 4))).drop (at0)) (off := 0) rfl k_agg_133 (by first | omega | (simp only [List.length_append, List.length_map, List.length_cons, List.length_nil, List.length_replicate, List.length_take, List.length_drop, List.length_set]; omega) | (simp <;> omega) | simp_all)) rfl rfl rfl ?_
  refine RegC.m (op_call rfl k_call_120 (word_calls (((((b).take ((at0 + 4))).drop (at0)).drop (0)).take 4) (by first | omega | (simp only [List.length_append, List.length_map, List.length_cons, List.length_nil, List.length_replicate, List.length_take, List.length_drop, List.length_set]; omega) | (simp <;> omega) | simp_all))) rfl rfl rfl ?_
  refine RegC.m (op_cv rfl k_und_102 k_undI_78 cv_32_64) rfl rfl rfl ?_
  refine RegC.m (op_shl64 (32) rfl (by first | omega | (simp only [List.length_append, List.length_map, List.length_cons, List.length_nil, List.length_replicate, List.length_take, List.length_drop, List.length_set]; omega) | (simp <;> omega) | simp_all)) rfl rfl rfl ?_
  refine RegC.m (op_move rfl) rfl rfl rfl ?_
  refine RegC.m (op_move rfl) rfl rfl rfl ?_
  refine RegC.m (op_addI rfl (by first | omega | (simp only [List.length_append, List.length_map, List.length_cons, List.length_nil, List.length_replicate, List.length_take, List.length_drop, List.length_set]; omega) | (simp <;> omega) | simp_all)) rfl rfl rfl ?_
  refine RegC.m (op_move rfl) rfl rfl rfl ?_
  refine RegC.m (op_addI rfl (by first | omega | (simp only [List.length_append, List.length_map, List.length_cons, List.length_nil, List.length_replicate, List.length_take, List.length_drop, List.length_set]; omega) | (simp <;> omega) | simp_all)) rfl rfl rfl ?_
  refine RegC.m (op_sV11 (f := AVal.u8) (l := b) ((at0 + 4)) ((at0 + 8)) rfl k_sl_26 (by first | omega | (simp only [List.length_append, List.length_map, List.length_cons, List.length_nil, List.length_replicate, List.length_take, List.length_drop, List.length_set]; omega) | (simp <;> omega) | simp_all) (by first | omega | (simp only [List.length_append, List.length_map, List.length_cons, List.length_nil, List.length_replicate, List.length_take, List.length_drop, List.length_set]; omega) | (simp <;> omega) | simp_all) (by first | omega | (simp only [List.length_append, List.length_map, List.length_cons, List.length_nil, List.length_replicate, List.length_take, List.length_drop, List.length_set]; omega) | (simp <;> omega) | simp_all) (by first | omega | (simp only [List.length_append, List.length_map, List.length_cons, List.length_nil, List.length_replicate, List.length_take, List.length_drop, List.length_set]; omega) | (simp <;> omega) | simp_all)) rfl rfl rfl ?_
  refine RegC.m (op_toArrM (f := AVal.u8) (l := ((b).take ((at0 + 8))).drop ((at0 + 4))) rfl k_arr_133 (by first | omega | (simp only [List.length_append, List.length_map, List.length_cons, List.length_nil, List.length_replicate, List.length_take, List.length_drop, List.length_set]; omega) | (simp <;> omega) | simp_all) (by omega)) rfl rfl rfl ?_
  refine RegC.m (op_loadVP (f := AVal.u8) (l := ((b).take ((at0 + 8))).drop ((at0 + 4))) (off := 0) rfl k_agg_133 (by first | omega | (simp only [List.length_append, List.length_map, List.length_cons, List.length_nil, List.length_replicate, List.length_take, List.length_drop, List.length_set]; omega) | (simp <;> omega) | simp_all)) rfl rfl rfl ?_
  refine RegC.m (op_call rfl k_call_120 (word_calls (((((b).take ((at0 + 8))).drop ((at0 + 4))).drop (0)).take 4) (by first | omega | (simp only [List.length_append, List.length_map, List.length_cons, List.length_nil, List.length_replicate, List.length_take, List.length_drop, List.length_set]; omega) | (simp <;> omega) | simp_all))) rfl rfl rfl ?_
  refine RegC.m (op_cv rfl k_und_102 k_undI_78 cv_32_64) rfl rfl rfl ?_
  refine RegC.m (op_or64 rfl) rfl rfl rfl ?_
  refine RegC.m (op_assign rfl) rfl rfl rfl ?_
  refine RegC.done ⟨.inr rfl, ?_⟩
  refine WP.nrm 40 ?_
  refine WP.reg k_mixed fun nm5 hnm5 => ?_
  refine RegC.m (op_move rfl) rfl rfl rfl ?_
  refine RegC.m (OpV.boolF (op_gtr rfl) (by have h9 : (num8 b at0).toNat ≤ 4611686018427387904 := hn; unfold num8 num4 at h9; omega)) rfl rfl rfl ?_
  refine RegC.done ⟨.inl rfl, ?_⟩
  refine WP.nrm 40 ?_
  refine WP.cond (t := false) rfl ?_
  refine WP.nrm 40 ?_
  refine WP.reg k_mixed fun nm6 hnm6 => ?_
  refine RegC.m (op_move rfl) rfl rfl rfl ?_
  refine RegC.m (op_cv rfl k_und_78 k_undI_3 (cv_64_i (by have h9 : (num8 b at0).toNat ≤ 4611686018427387904 := hn; unfold num8 num4 at h9; omega))) rfl rfl rfl ?_
  refine RegC.m (op_assign rfl) rfl rfl rfl ?_
  refine RegC.m (op_assign rfl) rfl rfl rfl ?_
  refine RegC.done ⟨.inl rfl, ?_⟩
  refine WP.nrm 40 ?_
  refine WP.retS (ResV.many rfl rfl (.cons (.tmp rfl) (.cons (.tmp rfl) (RessOf.nil)))) (List.nil_sublist _) ?_
  exact ⟨rfl, rfl⟩

theorem long_large (full : Bool) (b : List UInt8) (at0 : Nat) (h : at0 + 8 ≤ b.length) (hb : b.length ≤ 140737488351232) (hn : 4611686018427387904 < (num8 b at0).toNat) : ACalls Try.prog 119 [VS AVal.u8 full (b), .i ((at0 : Int))] [] [] (.tup [.i 0, .i 4]) [] := by
  refine ACalls.of_wp' (fn := Try.f119) (n := 39) Try.func119 rfl rfl ?_
  unfold Try.f119
  refine WP.nrm 40 ?_
  refine WP.reg k_mixed fun nm1 hnm1 => ?_
  refine RegC.m (op_assign rfl) rfl rfl rfl ?_
  refine RegC.m (op_assign rfl) rfl rfl rfl ?_
  refine RegC.done ⟨.inl rfl, ?_⟩
  refine WP.nrm 40 ?_
  refine WP.reg k_mixed fun nm2 hnm2 => ?_
  refine RegC.m (op_move rfl) rfl rfl rfl ?_
  refine RegC.m (op_move rfl) rfl rfl rfl ?_
  refine RegC.m (op_call rfl k_call_124 (room_calls full (b) (at0) (8) (by first | omega | (simp only [List.length_append, List.length_map, List.length_cons, List.length_nil, List.length_replicate, List.length_take, List.length_drop, List.length_set]; omega) | (simp <;> omega) | simp_all) (by first | omega | (simp only [List.length_append, List.length_map, List.length_cons, List.length_nil, List.length_replicate, List.length_take, List.length_drop, List.length_set]; omega) | (simp <;> omega) | simp_all))) rfl rfl rfl ?_
  refine RegC.m (op_assign rfl) rfl rfl rfl ?_
  refine RegC.done ⟨.inl rfl, ?_⟩
  refine WP.nrm 40 ?_
  refine WP.reg k_mixed fun nm3 hnm3 => ?_
  refine RegC.m (op_move rfl) rfl rfl rfl ?_
  refine RegC.m (op_neq rfl) rfl rfl rfl ?_
  refine RegC.done ⟨.inl rfl, ?_⟩
  refine WP.nrm 40 ?_
  refine WP.cond (t := false) rfl ?_
  refine WP.nrm 40 ?_
  refine WP.reg k_mixed fun nm4 hnm4 => ?_
  refine RegC.m (op_move rfl) rfl rfl rfl ?_
  refine RegC.m (op_move rfl) rfl rfl rfl ?_
  refine RegC.m (op_move rfl) rfl rfl rfl ?_
  refine RegC.m (op_addI rfl (by first | omega | (simp only [List.length_append, List.length_map, List.length_cons, List.length_nil, List.length_replicate, List.length_take, List.length_drop, List.length_set]; omega) | (simp <;> omega) | simp_all)) rfl rfl rfl ?_
  refine RegC.m (op_sV11 (f := AVal.u8) (l := b) (at0) ((at0 + 4)) rfl k_sl_26 (by first | omega | (simp only [List.length_append, List.length_map, List.length_cons, List.length_nil, List.length_replicate, List.length_take, List.length_drop, List.length_set]; omega) | (simp <;> omega) | simp_all) (by first | omega | (simp only [List.length_append, List.length_map, List.length_cons, List.length_nil, List.length_replicate, List.length_take, List.length_drop, List.length_set]; omega) | (simp <;> omega) | simp_all) (by first | omega | (simp only [List.length_append, List.length_map, List.length_cons, List.length_nil, List.length_replicate, List.length_take, List.length_drop, List.length_set]; omega) | (simp <;> omega) | simp_all) (by first | omega | (simp only [List.length_append, List.length_map, List.length_cons, List.length_nil, List.length_replicate, List.length_take, List.length_drop, List.length_set]; omega) | (simp <;> omega) | simp_all)) rfl rfl rfl ?_
  refine RegC.m (op_toArrM (f := AVal.u8) (l := ((b).take ((at0 + 4))).drop (at0)) rfl k_arr_133 (by first | omega | (simp only [List.length_append, List.length_map, List.length_cons, List.length_nil, List.length_replicate, List.length_take, List.length_drop, List.length_set]; omega) | (simp <;> omega) | simp_all) (by omega)) rfl rfl rfl ?_
  refine RegC.m (op_loadVP (f := AVal.u8) (l := ((b).take ((at0 + 4))).drop (at0)) (off := 0) rfl k_agg_133 (by first | omega | (simp only [List.length_append, List.length_map, List.length_cons, List.length_nil, List.length_replicate, List.length_take, List.length_drop, List.length_set]; omega) | (simp <;> omega) | simp_all)) rfl rfl rfl ?_
  refine RegC.m (op_call rfl k_call_120 (word_calls (((((b).take ((at0 + 4))).drop (at0)).drop (0)).take 4) (by first | omega | (simp only [List.length_append, List.length_map, List.length_cons, List.length_nil, List.length_replicate, List.length_take, List.length_drop, List.length_set]; omega) | (simp <;> omega) | simp_all))) rfl rfl rfl ?_
  refine RegC.m (op_cv rfl k_und_102 k_undI_78 cv_32_64) rfl rfl rfl ?_
  refine RegC.m (op_shl64 (32) rfl (by first | omega | (simp only [List.length_append, List.length_map, List.length_cons, List.length_nil, List.length_replicate, List.length_take, List.length_drop, List.length_set]; omega) | (simp <;> omega) | simp_all)) rfl rfl rfl ?_
  refine RegC.m (op_move rfl) rfl rfl rfl ?_
  refine RegC.m (op_move rfl) rfl rfl rfl ?_
  refine RegC.m (op_addI rfl (by first | omega | (simp only [List.length_append, List.length_map, List.length_cons, List.length_nil, List.length_replicate, List.length_take, List.length_drop, List.length_set]; omega) | (simp <;> omega) | simp_all)) rfl rfl rfl ?_
  refine RegC.m (op_move rfl) rfl rfl rfl ?_
  refine RegC.m (op_addI rfl (by first | omega | (simp only [List.length_append, List.length_map, List.length_cons, List.length_nil, List.length_replicate, List.length_take, List.length_drop, List.length_set]; omega) | (simp <;> omega) | simp_all)) rfl rfl rfl ?_
  refine RegC.m (op_sV11 (f := AVal.u8) (l := b) ((at0 + 4)) ((at0 + 8)) rfl k_sl_26 (by first | omega | (simp only [List.length_append, List.length_map, List.length_cons, List.length_nil, List.length_replicate, List.length_take, List.length_drop, List.length_set]; omega) | (simp <;> omega) | simp_all) (by first | omega | (simp only [List.length_append, List.length_map, List.length_cons, List.length_nil, List.length_replicate, List.length_take, List.length_drop, List.length_set]; omega) | (simp <;> omega) | simp_all) (by first | omega | (simp only [List.length_append, List.length_map, List.length_cons, List.length_nil, List.length_replicate, List.length_take, List.length_drop, List.length_set]; omega) | (simp <;> omega) | simp_all) (by first | omega | (simp only [List.length_append, List.length_map, List.length_cons, List.length_nil, List.length_replicate, List.length_take, List.length_drop, List.length_set]; omega) | (simp <;> omega) | simp_all)) rfl rfl rfl ?_
  refine RegC.m (op_toArrM (f := AVal.u8) (l := ((b).take ((at0 + 8))).drop ((at0 + 4))) rfl k_arr_133 (by first | omega | (simp only [List.length_append, List.length_map, List.length_cons, List.length_nil, List.length_replicate, List.length_take, List.length_drop, List.length_set]; omega) | (simp <;> omega) | simp_all) (by omega)) rfl rfl rfl ?_
  refine RegC.m (op_loadVP (f := AVal.u8) (l := ((b).take ((at0 + 8))).drop ((at0 + 4))) (off := 0) rfl k_agg_133 (by first | omega | (simp only [List.length_append, List.length_map, List.length_cons, List.length_nil, List.length_replicate, List.length_take, List.length_drop, List.length_set]; omega) | (simp <;> omega) | simp_all)) rfl rfl rfl ?_
  refine RegC.m (op_call rfl k_call_120 (word_calls (((((b).take ((at0 + 8))).drop ((at0 + 4))).drop (0)).take 4) (by first | omega | (simp only [List.length_append, List.length_map, List.length_cons, List.length_nil, List.length_replicate, List.length_take, List.length_drop, List.length_set]; omega) | (simp <;> omega) | simp_all))) rfl rfl rfl ?_
  refine RegC.m (op_cv rfl k_und_102 k_undI_78 cv_32_64) rfl rfl rfl ?_
  refine RegC.m (op_or64 rfl) rfl rfl rfl ?_
  refine RegC.m (op_assign rfl) rfl rfl rfl ?_
  refine RegC.done ⟨.inr rfl, ?_⟩
  refine WP.nrm 40 ?_
  refine WP.reg k_mixed fun nm5 hnm5 => ?_
  refine RegC.m (op_move rfl) rfl rfl rfl ?_
  refine RegC.m (OpV.boolT (op_gtr rfl) (by have h9 : 4611686018427387904 < (num8 b at0).toNat := hn; unfold num8 num4 at h9; omega)) rfl rfl rfl ?_
  refine RegC.done ⟨.inl rfl, ?_⟩
  refine WP.nrm 40 ?_
  refine WP.cond (t := true) rfl ?_
  refine WP.nrm 40 ?_
  refine WP.reg k_mixed fun nm6 hnm6 => ?_
  refine RegC.m (op_assign rfl) rfl rfl rfl ?_
  refine RegC.m (op_assign rfl) rfl rfl rfl ?_
  refine RegC.done ⟨.inl rfl, ?_⟩
  refine WP.nrm 40 ?_
  refine WP.retS (ResV.many rfl rfl (.cons (.tmp rfl) (.cons (.tmp rfl) (RessOf.nil)))) (List.nil_sublist _) ?_
  exact ⟨rfl, rfl⟩

theorem octets_calls1 (b' : Nat) (n many : Nat) (hm : many ≤ 8) (hn : n ≤ 9223372036854775807) : ACalls Try.prog 96 [.i ((n : Int)), .i ((many : Int))] [] [b'] (.os b' 0 many 1 false) [(b', .vec 5 ((octs n many).map AVal.u8))] := by
  refine ACalls.of_wp' (fn := Try.f96) (n := 23) Try.func96 rfl rfl ?_
  unfold Try.f96
  refine WP.nrm 40 ?_
  refine WP.reg k_mixed fun nm1 hnm1 => ?_
  refine RegC.m (op_assign rfl) rfl rfl rfl ?_
  refine RegC.done ⟨.inl rfl, ?_⟩
  refine WP.nrm 40 ?_
  refine WP.reg k_mixed fun nm2 hnm2 => ?_
  refine RegC.m (op_move rfl) rfl rfl rfl ?_
  refine RegC.a (OpV.to (op_makeM (f := AVal.u8) (z := (0 : UInt8)) (m := many) (c := many) rfl k_sl_26 k_zeroE_5 (by first | omega | (simp only [List.length_append, List.length_map, List.length_cons, List.length_nil, List.length_replicate, List.length_take, List.length_drop, List.length_set]; omega) | (simp <;> omega) | simp_all) (by first | omega | (simp only [List.length_append, List.length_map, List.length_cons, List.length_nil, List.length_replicate, List.length_take, List.length_drop, List.length_set]; omega) | (simp <;> omega) | simp_all) (by first | omega | (simp only [List.length_append, List.length_map, List.length_cons, List.length_nil, List.length_replicate, List.length_take, List.length_drop, List.length_set]; omega) | (simp <;> omega) | simp_all) (by first | omega | (simp only [List.length_append, List.length_map, List.length_cons, List.length_nil, List.length_replicate, List.length_take, List.length_drop, List.length_set]; omega) | (simp <;> omega) | simp_all) (by first | omega | (simp only [List.length_append, List.length_map, List.length_cons, List.length_nil, List.length_replicate, List.length_take, List.length_drop, List.length_set]; omega) | (simp <;> omega) | simp_all)) (osN List.length_replicate)) rfl rfl rfl ?_
  refine RegC.m (op_assign rfl) rfl rfl rfl ?_
  refine RegC.done ⟨.inl rfl, ?_⟩
  refine WP.nrm 40 ?_
  refine WP.reg k_mixed fun nm3 hnm3 => ?_
  refine RegC.m (op_move rfl) rfl rfl rfl ?_
  refine RegC.m (op_subI rfl (by first | omega | (simp only [List.length_append, List.length_map, List.length_cons, List.length_nil, List.length_replicate, List.length_take, List.length_drop, List.length_set]; omega) | (simp <;> omega) | simp_all)) rfl rfl rfl ?_
  refine RegC.m (op_assign rfl) rfl rfl rfl ?_
  refine RegC.done ⟨.inl rfl, ?_⟩
  refine WP.nrm 40 ?_
  refine WP.loop3 (fun (i : Int) (m : Nat) (X : List UInt8) => [(0, .i ((m : Int))), (5, .os (nm2 0) (0) (many) 1 false), (6, .i (i))]) (fun (i : Int) (m : Nat) (X : List UInt8) => [(nm2 0, .vec 5 ((X).map AVal.u8))]) (fun (i : Int) (m : Nat) (X : List UInt8) => ∃ j : Nat, i = (many : Int) - 1 - j ∧ j ≤ many ∧ m = n / 2 ^ (8 * j) ∧ X.length = many ∧ loopS many (octF n many) j X = octs n many) (fun (i : Int) (m : Nat) (X : List UInt8) => (i + 1).toNat) ((many : Int) - 1) (n) (List.replicate many 0) (subE.cons rfl (subE.cons rfl (subE.cons rfl (subE.nil)))) (by (try simp only [List.set_cons_zero, List.set_cons_succ, List.cons_append, List.nil_append]); exact (.cons_cons _ (List.nil_sublist _))) ⟨0, by omega, by omega, by simp, by simp, rfl⟩ ?_
  intro i m X hI ih0
  obtain ⟨j, hi, hj, hmm, lX, qX⟩ := hI
  have hmn : m ≤ n := by rw [hmm]; exact Nat.div_le_self _ _
  refine WP.nrm 40 ?_
  refine WP.reg k_mixed fun nm4 hnm4 => ?_
  refine RegC.m (op_move rfl) rfl rfl rfl ?_
  refine RegC.m (op_geq rfl) rfl rfl rfl ?_
  refine RegC.done ⟨.inl rfl, ?_⟩
  refine WP.nrm 40 ?_
  refine WP.condD rfl (fun h1 => ?_) (fun h1 => ?_)
  ·
    refine WP.nrm 40 ?_
    refine WP.reg k_mixed fun nm5 hnm5 => ?_
    refine RegC.m (op_move rfl) rfl rfl rfl ?_
    refine RegC.m (op_move rfl) rfl rfl rfl ?_
    refine RegC.m (op_move rfl) rfl rfl rfl ?_
    refine RegC.m (op_cv rfl k_und_3 k_undI_5 (cv_i_8 (by first | exact Int.natCast_nonneg _ | omega))) rfl rfl rfl ?_
    refine RegC.m (op_iO ((Int.toNat (i))) rfl k_sl_26 (by first | omega | (simp only [List.length_append, List.length_map, List.length_cons, List.length_nil, List.length_replicate, List.length_take, List.length_drop, List.length_set]; omega) | (simp <;> omega) | simp_all) (by first | omega | (simp only [List.length_append, List.length_map, List.length_cons, List.length_nil, List.length_replicate, List.length_take, List.length_drop, List.length_set]; omega) | (simp <;> omega) | simp_all)) rfl rfl rfl ?_
    refine RegC.w (i := 0) (op_storeM (f := AVal.u8) (l := X) (n := (Int.toNat (i))) (v := UInt8.ofNat (m)) rfl k_scal_5 rfl (by first | omega | (simp only [List.length_append, List.length_map, List.length_cons, List.length_nil, List.length_replicate, List.length_take, List.length_drop, List.length_set]; omega) | (simp <;> omega) | simp_all)) rfl rfl rfl rfl ?_
    refine RegC.done ⟨.inl rfl, ?_⟩
    refine WP.nrm 40 ?_
    refine WP.reg k_mixed fun nm6 hnm6 => ?_
    refine RegC.m (op_move rfl) rfl rfl rfl ?_
    refine RegC.m (op_shrN (m := m) (8) rfl (by first | omega | (simp only [List.length_append, List.length_map, List.length_cons, List.length_nil, List.length_replicate, List.length_take, List.length_drop, List.length_set]; omega) | (simp <;> omega) | simp_all)) rfl rfl rfl ?_
    refine RegC.m (op_assign rfl) rfl rfl rfl ?_
    refine RegC.done ⟨.inl rfl, ?_⟩
    refine WP.nrm 40 ?_
    refine WP.reg k_mixed fun nm7 hnm7 => ?_
    refine RegC.m (op_move rfl) rfl rfl rfl ?_
    refine RegC.m (op_subI rfl (by first | omega | (simp only [List.length_append, List.length_map, List.length_cons, List.length_nil, List.length_replicate, List.length_take, List.length_drop, List.length_set]; omega) | (simp <;> omega) | simp_all)) rfl rfl rfl ?_
    refine RegC.m (op_assign rfl) rfl rfl rfl ?_
    refine RegC.done ⟨.inl rfl, ?_⟩
    refine WP.nrm 40 ?_
    refine WP.jump (subE.cons rfl (subE.cons rfl (subE.cons rfl (subE.nil)))) (.cons_cons _ (List.nil_sublist _)) (ih0 _ _ _ ?_ ?_)
    · exact ⟨j + 1, by omega, by omega, by rw [hmm, Nat.div_div_eq_div_mul, ← Nat.pow_add]; rfl, by simp [lX], by rw [← qX, loopS_next (by omega : j < many)]; unfold octF; rw [hmm, show many - 1 - j = i.toNat by omega]⟩
    · omega
  ·
    have ej : j = many := by omega
    rw [ej, loopS_end] at qX
    refine WP.nrm 40 ?_
    refine WP.reg k_mixed fun nm8 hnm8 => ?_
    refine RegC.m (op_move rfl) rfl rfl rfl ?_
    refine RegC.m (op_assign rfl) rfl rfl rfl ?_
    refine RegC.done ⟨.inl rfl, ?_⟩
    refine WP.nrm 40 ?_
    refine WP.ret1S (b' := b') (vf := fun q => .os q (0) (many) 1 false) 0 (ResV.one rfl (.tmp rfl)) rfl (by simp) os_named (.cons_cons _ (List.nil_sublist _)) ?_
    exact ⟨rfl, by rw [qX]⟩

theorem octets_d (n many : Nat) (hm : many ≤ 8) (hn : n ≤ 9223372036854775807) : ACalls Try.prog 96 [.i n, .i many] [] [] (VS AVal.u8 false (octs n many)) [] := cool1 (h := []) (fun b => octets_calls1 b n many hm hn) (by simp)

theorem numberOf_calls (full : Bool) (b : List UInt8) (h : b.length ≤ 4) : ACalls Try.prog 101 [VS AVal.u8 full (b)] [] [] (.i (numS b : Nat)) [] := by
  refine ACalls.of_wp' (fn := Try.f101) (n := 19) Try.func101 rfl rfl ?_
  unfold Try.f101
  refine WP.nrm 40 ?_
  refine WP.reg k_mixed fun nm1 hnm1 => ?_
  refine RegC.m (op_assign rfl) rfl rfl rfl ?_
  refine RegC.done ⟨.inl rfl, ?_⟩
  refine WP.nrm 40 ?_
  refine WP.reg k_mixed fun nm2 hnm2 => ?_
  refine RegC.m (op_assign rfl) rfl rfl rfl ?_
  refine RegC.done ⟨.inl rfl, ?_⟩
  refine WP.nrm 40 ?_
  refine WP.reg k_mixed fun nm3 hnm3 => ?_
  refine RegC.m (op_move rfl) rfl rfl rfl ?_
  refine RegC.m (op_lenV (f := AVal.u8) (l := b) rfl k_sl_26) rfl rfl rfl ?_
  refine RegC.m (op_move rfl) rfl rfl rfl ?_
  refine RegC.done ⟨.inl rfl, ?_⟩
  refine WP.nrm 40 ?_
  refine WP.loop2 (fun (i : Int) (n : Nat) => [(3, .i ((n : Int))), (6, VS AVal.u8 full (b)), (7, .i (((b).length : Int))), (8, .i (i))]) (fun (i : Int) (n : Nat) => []) (fun (i : Int) (n : Nat) => ∃ j : Nat, i = j ∧ j ≤ b.length ∧ n < 256 ^ j ∧ loopS b.length (numF b) j n = numS b) (fun (i : Int) (n : Nat) => (b.length - i).toNat) (0) (0) (subE.cons rfl (subE.cons rfl (subE.cons rfl (subE.cons rfl (subE.nil))))) (by (try simp only [List.set_cons_zero, List.set_cons_succ, List.cons_append, List.nil_append]); exact (List.nil_sublist _)) ⟨0, rfl, by omega, by decide, rfl⟩ ?_
  intro i n hI ih0
  obtain ⟨j, rfl, hj, hn, qn⟩ := hI
  have hn4 : n < 4294967296 := Nat.lt_of_lt_of_le hn (pow256_le j (by omega))
  refine WP.nrm 40 ?_
  refine WP.reg k_mixed fun nm4 hnm4 => ?_
  refine RegC.m (op_lss rfl) rfl rfl rfl ?_
  refine RegC.done ⟨.inl rfl, ?_⟩
  refine WP.nrm 40 ?_
  refine WP.condD rfl (fun h1 => ?_) (fun h1 => ?_)
  ·
    have hc8 := (b[j]!).toNat_lt
    refine WP.nrm 40 ?_
    refine WP.reg k_mixed fun nm5 hnm5 => ?_
    refine RegC.m (op_iV (f := AVal.u8) (l := b) (j) rfl k_sl_26 (by first | omega | (simp only [List.length_append, List.length_map, List.length_cons, List.length_nil, List.length_replicate, List.length_take, List.length_drop, List.length_set]; omega) | (simp <;> omega) | simp_all) (by first | omega | (simp only [List.length_append, List.length_map, List.length_cons, List.length_nil, List.length_replicate, List.length_take, List.length_drop, List.length_set]; omega) | (simp <;> omega) | simp_all)) rfl rfl rfl ?_
    refine RegC.m (op_loadVM (f := AVal.u8) (l := b) (n := j) rfl k_scal_5 (by first | omega | (simp only [List.length_append, List.length_map, List.length_cons, List.length_nil, List.length_replicate, List.length_take, List.length_drop, List.length_set]; omega) | (simp <;> omega) | simp_all)) rfl rfl rfl ?_
    refine RegC.m (op_assign rfl) rfl rfl rfl ?_
    refine RegC.done ⟨.inl rfl, ?_⟩
    refine WP.nrm 40 ?_
    refine WP.reg k_mixed fun nm6 hnm6 => ?_
    refine RegC.m (op_move rfl) rfl rfl rfl ?_
    refine RegC.m (op_shlI (8) rfl ⟨rfl, by omega⟩ (by first | omega | (simp only [List.length_append, List.length_map, List.length_cons, List.length_nil, List.length_replicate, List.length_take, List.length_drop, List.length_set]; omega) | (simp <;> omega) | simp_all)) rfl rfl rfl ?_
    refine RegC.m (op_move rfl) rfl rfl rfl ?_
    refine RegC.m (op_cv rfl k_und_5 k_undI_3 cv_8_i) rfl rfl rfl ?_
    refine RegC.m (op_addI rfl (by first | omega | (simp only [List.length_append, List.length_map, List.length_cons, List.length_nil, List.length_replicate, List.length_take, List.length_drop, List.length_set]; omega) | (simp <;> omega) | simp_all)) rfl rfl rfl ?_
    refine RegC.m (op_assign rfl) rfl rfl rfl ?_
    refine RegC.done ⟨.inl rfl, ?_⟩
    refine WP.nrm 40 ?_
    refine WP.reg k_mixed fun nm7 hnm7 => ?_
    refine RegC.m (op_addI rfl (by first | omega | (simp only [List.length_append, List.length_map, List.length_cons, List.length_nil, List.length_replicate, List.length_take, List.length_drop, List.length_set]; omega) | (simp <;> omega) | simp_all)) rfl rfl rfl ?_
    refine RegC.m (op_move rfl) rfl rfl rfl ?_
    refine RegC.done ⟨.inl rfl, ?_⟩
    refine WP.nrm 40 ?_
    refine WP.jump (subE.cons rfl (subE.cons rfl (subE.cons rfl (subE.cons rfl (subE.nil))))) (List.nil_sublist _) (ih0 _ _ ?_ ?_)
    · exact ⟨j + 1, by push_cast; rfl, by omega, num_next b n j hn, by rw [← qn, loopS_next (by omega : j < b.length)]; rfl⟩
    · omega
  ·
    have ej : j = b.length := by omega
    rw [ej, loopS_end] at qn
    refine WP.nrm 40 ?_
    refine WP.reg k_mixed fun nm8 hnm8 => ?_
    refine RegC.m (op_move rfl) rfl rfl rfl ?_
    refine RegC.m (op_assign rfl) rfl rfl rfl ?_
    refine RegC.done ⟨.inl rfl, ?_⟩
    refine WP.nrm 40 ?_
    refine WP.retS (ResV.one rfl (.tmp rfl)) (List.nil_sublist _) ?_
    exact ⟨by rw [qn], rfl⟩

theorem short1 (b' : Nat) (n : Nat) (hn : n ≤ 9223372036854775807) : ACalls Try.prog 117 [.i ((n : Int))] [] [b'] (.os b' 4 4 1 false) [(b', .vec 5 ((long1 n).map AVal.u8))] := by
  refine ACalls.of_wp' (fn := Try.f117) (n := 6) Try.func117 rfl rfl ?_
  unfold Try.f117
  refine WP.nrm 40 ?_
  refine WP.reg k_mixed fun nm1 hnm1 => ?_
  refine RegC.m (op_assign rfl) rfl rfl rfl ?_
  refine RegC.done ⟨.inl rfl, ?_⟩
  refine WP.nrm 40 ?_
  refine WP.reg k_mixed fun nm2 hnm2 => ?_
  refine RegC.m (op_move rfl) rfl rfl rfl ?_
  refine RegC.a (op_call rfl k_call_36 (long1_calls (nm2 0) (n) (by first | omega | (simp only [List.length_append, List.length_map, List.length_cons, List.length_nil, List.length_replicate, List.length_take, List.length_drop, List.length_set]; omega) | (simp <;> omega) | simp_all))) rfl rfl rfl ?_
  refine RegC.m (op_sO10 (r := (0 + 4)) (m := (8 - 4)) (4) rfl k_sl_26 (by first | omega | (simp only [List.length_append, List.length_map, List.length_cons, List.length_nil, List.length_replicate, List.length_take, List.length_drop, List.length_set]; omega) | (simp <;> omega) | simp_all) (by first | omega | (simp only [List.length_append, List.length_map, List.length_cons, List.length_nil, List.length_replicate, List.length_take, List.length_drop, List.length_set]; omega) | (simp <;> omega) | simp_all) (by first | omega | (simp only [List.length_append, List.length_map, List.length_cons, List.length_nil, List.length_replicate, List.length_take, List.length_drop, List.length_set]; omega) | (simp <;> omega) | simp_all) (by omega) (by omega)) rfl rfl rfl ?_
  refine RegC.m (op_assign rfl) rfl rfl rfl ?_
  refine RegC.done ⟨.inl rfl, ?_⟩
  refine WP.nrm 40 ?_
  refine WP.ret1S (b' := b') (vf := fun q => .os q ((0 + 4)) ((8 - 4)) 1 false) 0 (ResV.one rfl (.tmp rfl)) rfl (by simp) os_named (.cons_cons _ (List.nil_sublist _)) ?_
  exact ⟨rfl, rfl⟩

theorem short_d (n : Nat) (hn : n ≤ 9223372036854775807) : ACalls Try.prog 117 [.i n] [] [] (VS AVal.u8 false ((long1 n).drop 4)) [] := by
  have := ACalls.cool (h := []) (R := []) (fun b => short1 b n hn) (v' := VS AVal.u8 false (((long1 n).drop 4).take 4)) (fun b => frz_part (by simp))
  rwa [List.take_of_length_le (show ((long1 n).drop 4).length ≤ 4 by simp)] at this

theorem grow_pos (b' : Nat) (n : Nat) (h0 : 0 < n) (hn : n ≤ 140737488355328) : ACalls Try.prog 112 [VS AVal.u8 true (([] : List UInt8)), .i ((n : Int))] [] [b'] (.os b' 0 0 1 false) [(b', .vec 5 (([] : List UInt8).map AVal.u8))] := by
  refine ACalls.of_wp' (fn := Try.f112) (n := 27) Try.func112 rfl rfl ?_
  unfold Try.f112
  refine WP.nrm 40 ?_
  refine WP.reg k_mixed fun nm1 hnm1 => ?_
  refine RegC.m (op_assign rfl) rfl rfl rfl ?_
  refine RegC.done ⟨.inl rfl, ?_⟩
  refine WP.nrm 40 ?_
  refine WP.reg k_mixed fun nm2 hnm2 => ?_
  refine RegC.m (op_move rfl) rfl rfl rfl ?_
  refine RegC.m (OpV.boolF (op_lss rfl) (by omega)) rfl rfl rfl ?_
  refine RegC.done ⟨.inl rfl, ?_⟩
  refine WP.nrm 40 ?_
  refine WP.cond (t := false) rfl ?_
  refine WP.nrm 40 ?_
  refine WP.reg k_mixed fun nm3 hnm3 => ?_
  refine RegC.m (op_move rfl) rfl rfl rfl ?_
  refine RegC.m (op_move rfl) rfl rfl rfl ?_
  refine RegC.m (op_capNil rfl k_undSl_26) rfl rfl rfl ?_
  refine RegC.m (op_move rfl) rfl rfl rfl ?_
  refine RegC.m (op_lenV (f := AVal.u8) (l := ([] : List UInt8)) rfl k_sl_26) rfl rfl rfl ?_
  refine RegC.m (op_subI rfl (by first | omega | (simp only [List.length_append, List.length_map, List.length_cons, List.length_nil, List.length_replicate, List.length_take, List.length_drop, List.length_set]; omega) | (simp <;> omega) | simp_all)) rfl rfl rfl ?_
  refine RegC.m (op_subI rfl (by first | omega | (simp only [List.length_append, List.length_map, List.length_cons, List.length_nil, List.length_replicate, List.length_take, List.length_drop, List.length_set]; omega) | (simp <;> omega) | simp_all)) rfl rfl rfl ?_
  refine RegC.m (op_assign rfl) rfl rfl rfl ?_
  refine RegC.done ⟨.inl rfl, ?_⟩
  refine WP.nrm 40 ?_
  refine WP.reg k_mixed fun nm4 hnm4 => ?_
  refine RegC.m (op_move rfl) rfl rfl rfl ?_
  refine RegC.m (OpV.boolT (op_gtr rfl) (by simp; omega)) rfl rfl rfl ?_
  refine RegC.done ⟨.inl rfl, ?_⟩
  refine WP.nrm 40 ?_
  refine WP.cond (t := true) rfl ?_
  refine WP.nrm 40 ?_
  refine WP.reg k_mixed fun nm5 hnm5 => ?_
  refine RegC.m (op_move rfl) rfl rfl rfl ?_
  refine RegC.m (op_move rfl) rfl rfl rfl ?_
  refine RegC.m (op_capNil rfl k_undSl_26) rfl rfl rfl ?_
  refine RegC.m (op_sV01F (f := AVal.u8) (l := ([] : List UInt8)) rfl k_sl_26 rfl) rfl rfl rfl ?_
  refine RegC.m (op_move rfl) rfl rfl rfl ?_
  refine RegC.a (OpV.cast2 (op_appVZ (tS := 9) (n) rfl k_app_26_9 k_undS_9 k_undI_3 k_zero1_5 (by first | omega | (simp only [List.length_append, List.length_map, List.length_cons, List.length_nil, List.length_replicate, List.length_take, List.length_drop, List.length_set]; omega) | (simp <;> omega) | simp_all) (by first | omega | (simp only [List.length_append, List.length_map, List.length_cons, List.length_nil, List.length_replicate, List.length_take, List.length_drop, List.length_set]; omega) | (simp <;> omega) | simp_all)) (congrArg AVal.i (show ((n : Nat) : Int) = ((n : Int) - (0 - ((([] : List UInt8)).length : Int))) from (by simp))) (osN (n' := n) (by omega))) rfl rfl rfl ?_
  refine RegC.m (op_move rfl) rfl rfl rfl ?_
  refine RegC.m (op_lenV (f := AVal.u8) (l := ([] : List UInt8)) rfl k_sl_26) rfl rfl rfl ?_
  refine RegC.m (op_sO01 ((([] : List UInt8)).length) rfl k_sl_26 (by first | omega | (simp only [List.length_append, List.length_map, List.length_cons, List.length_nil, List.length_replicate, List.length_take, List.length_drop, List.length_set]; omega) | (simp <;> omega) | simp_all) (by first | omega | (simp only [List.length_append, List.length_map, List.length_cons, List.length_nil, List.length_replicate, List.length_take, List.length_drop, List.length_set]; omega) | (simp <;> omega) | simp_all) (by first | omega | (simp only [List.length_append, List.length_map, List.length_cons, List.length_nil, List.length_replicate, List.length_take, List.length_drop, List.length_set]; omega) | (simp <;> omega) | simp_all)) rfl rfl rfl ?_
  refine RegC.m (op_assign rfl) rfl rfl rfl ?_
  refine RegC.done ⟨.inl rfl, ?_⟩
  refine WP.nrm 40 ?_
  refine WP.reg k_mixed fun nm6 hnm6 => ?_
  refine RegC.m (op_move rfl) rfl rfl rfl ?_
  refine RegC.m (op_assign rfl) rfl rfl rfl ?_
  refine RegC.done ⟨.inl rfl, ?_⟩
  refine WP.nrm 40 ?_
  refine WP.trim (b := nm5 0) 0 0 rfl ?_
  refine WP.ret1S (b' := b') (vf := fun q => .os q (0) ((([] : List UInt8)).length) 1 false) 0 (ResV.one rfl (.tmp rfl)) rfl (by simp) os_named (.cons_cons _ (List.nil_sublist _)) ?_
  exact ⟨rfl, rfl⟩

theorem grow_zero (b' : Nat) : ACalls Try.prog 112 [VS AVal.u8 true (([] : List UInt8)), .i (0)] [] [b'] (.os b' 0 0 1 false) [(b', .vec 5 (([] : List UInt8).map AVal.u8))] := by
  refine ACalls.of_wp' (fn := Try.f112) (n := 27) Try.func112 rfl rfl ?_
  unfold Try.f112
  refine WP.nrm 40 ?_
  refine WP.reg k_mixed fun nm1 hnm1 => ?_
  refine RegC.m (op_assign rfl) rfl rfl rfl ?_
  refine RegC.done ⟨.inl rfl, ?_⟩
  refine WP.nrm 40 ?_
  refine WP.reg k_mixed fun nm2 hnm2 => ?_
  refine RegC.m (op_move rfl) rfl rfl rfl ?_
  refine RegC.m (op_lss rfl) rfl rfl rfl ?_
  refine RegC.done ⟨.inl rfl, ?_⟩
  refine WP.nrm 40 ?_
  refine WP.cond (t := false) rfl ?_
  refine WP.nrm 40 ?_
  refine WP.reg k_mixed fun nm3 hnm3 => ?_
  refine RegC.m (op_move rfl) rfl rfl rfl ?_
  refine RegC.m (op_move rfl) rfl rfl rfl ?_
  refine RegC.m (op_capNil rfl k_undSl_26) rfl rfl rfl ?_
  refine RegC.m (op_move rfl) rfl rfl rfl ?_
  refine RegC.m (op_lenV (f := AVal.u8) (l := ([] : List UInt8)) rfl k_sl_26) rfl rfl rfl ?_
  refine RegC.m (op_subI rfl (by first | omega | (simp only [List.length_append, List.length_map, List.length_cons, List.length_nil, List.length_replicate, List.length_take, List.length_drop, List.length_set]; omega) | (simp <;> omega) | simp_all)) rfl rfl rfl ?_
  refine RegC.m (op_subI rfl (by first | omega | (simp only [List.length_append, List.length_map, List.length_cons, List.length_nil, List.length_replicate, List.length_take, List.length_drop, List.length_set]; omega) | (simp <;> omega) | simp_all)) rfl rfl rfl ?_
  refine RegC.m (op_assign rfl) rfl rfl rfl ?_
  refine RegC.done ⟨.inl rfl, ?_⟩
  refine WP.nrm 40 ?_
  refine WP.reg k_mixed fun nm4 hnm4 => ?_
  refine RegC.m (op_move rfl) rfl rfl rfl ?_
  refine RegC.m (OpV.boolF (op_gtr rfl) (by simp)) rfl rfl rfl ?_
  refine RegC.done ⟨.inl rfl, ?_⟩
  refine WP.nrm 40 ?_
  refine WP.cond (t := false) rfl ?_
  refine WP.nrm 40 ?_
  refine WP.reg k_mixed fun nm5 hnm5 => ?_
  refine RegC.m (op_move rfl) rfl rfl rfl ?_
  refine RegC.m (op_assign rfl) rfl rfl rfl ?_
  refine RegC.done ⟨.inl rfl, ?_⟩
  refine WP.nrm 40 ?_
  refine WP.own 4 5 1 rfl (fun q4 => ?_)
  refine WP.ret1S (b' := b') (vf := fun q => .os q (0) (0) 1 false) 0 (ResV.one rfl (.tmp rfl)) rfl (by simp) os_named (.cons_cons _ (List.nil_sublist _)) ?_
  exact ⟨rfl, rfl⟩

theorem grow_calls (b' n : Nat) (hn : n ≤ 140737488355328) : ACalls Try.prog 112 [VS AVal.u8 true ([] : List UInt8), .i n] [] [b'] (.os b' 0 0 1 false) [(b', .vec 5 (([] : List UInt8).map AVal.u8))] := by
  rcases Nat.eq_zero_or_pos n with h | h
  · subst h; exact grow_zero b'
  · exact grow_pos b' n h hn
end Go.Proofs.Try
