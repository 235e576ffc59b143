import Derived.Test.YtdnccchcflaphaaK15
import Derived.Test.YtdnccchcflaphaaFF
import Derived.Test.YtdnccchcflaphaaS13
namespace Go.Proofs.Try
open Go Go.Kw
set_option linter.unusedVariables false
set_option linter.unusedSimpArgs false
set_option maxRecDepth 100000
set_option maxHeartbeats 400000
theorem k_call_27 : callable Try.prog 27 = true := by kernel_rfl
theorem k_call_31 : callable Try.prog 31 = true := by kernel_rfl
theorem k_call_32 : callable Try.prog 32 = true := by kernel_rfl
theorem k_und_60 : (Try.prog.underlying 60).isSome = true := by kernel_rfl
theorem k_sl_72 : slT Try.prog 72 = some (23, 32, 32) := by kernel_rfl
theorem k_call_33 : callable Try.prog 33 = true := by kernel_rfl

theorem law6_range (k : List UInt8) (hk : k.length = 32) (other : List UInt8) (ho : other.length = 32) (n : List UInt8) (hn : n.length = 16) (f1 f2 : Bool) (head text : List UInt8) (block : Int) (hb : block < 16 ∨ 65536 < block) (i at0 : Int) (by0 : UInt8) (cut : Int) : ACalls Try.prog 6 [.agg ((k).map AVal.u8), .agg ((other).map AVal.u8), .agg ((n).map AVal.u8), VS AVal.u8 f1 (head), VS AVal.u8 f2 (text), .i (block), .i (i), .i (at0), .u8 (by0), .i (cut)] [] [] (.bool true) [] := by
  refine ACalls.of_wp' (fn := Try.f6) (n := 145) Try.func6 rfl rfl ?_
  unfold Try.f6
  refine WP.nrm 40 ?_
  refine WP.reg k_mixed fun nm1 hnm1 => ?_
  refine RegC.m (op_boxD rfl) rfl rfl rfl ?_
  refine RegC.m (op_boxD rfl) rfl rfl rfl ?_
  refine RegC.m (op_boxD rfl) rfl rfl rfl ?_
  refine RegC.m (op_assign rfl) rfl rfl rfl ?_
  refine RegC.done ⟨.inl rfl, ?_⟩
  refine WP.nrm 40 ?_
  refine WP.reg k_mixed fun nm2 hnm2 => ?_
  refine RegC.m (op_loadVG (cells := (k).map AVal.u8) rfl k_agg_23 (by first | omega | (simp only [List.length_append, List.length_map, List.length_cons, List.length_nil, List.length_replicate, List.length_take, List.length_drop, List.length_set]; omega) | (simp <;> omega) | simp_all | rfl) (prW (by first | omega | (simp only [List.length_append, List.length_map, List.length_cons, List.length_nil, List.length_replicate, List.length_take, List.length_drop, List.length_set]; omega) | (simp <;> omega) | simp_all | rfl))) rfl rfl rfl ?_
  refine RegC.m (op_loadVG (cells := (n).map AVal.u8) rfl k_agg_25 (by first | omega | (simp only [List.length_append, List.length_map, List.length_cons, List.length_nil, List.length_replicate, List.length_take, List.length_drop, List.length_set]; omega) | (simp <;> omega) | simp_all | rfl) (prW (by first | omega | (simp only [List.length_append, List.length_map, List.length_cons, List.length_nil, List.length_replicate, List.length_take, List.length_drop, List.length_set]; omega) | (simp <;> omega) | simp_all | rfl))) rfl rfl rfl ?_
  refine RegC.m (op_move rfl) rfl rfl rfl ?_
  refine RegC.m (op_move rfl) rfl rfl rfl ?_
  refine RegC.m (op_move rfl) rfl rfl rfl ?_
  refine RegC.m (op_call rfl k_call_27 (seal_range (k) (by first | omega | (simp only [List.length_append, List.length_map, List.length_cons, List.length_nil, List.length_replicate, List.length_take, List.length_drop, List.length_set]; omega) | (simp <;> omega) | simp_all | rfl) (n) (by first | omega | (simp only [List.length_append, List.length_map, List.length_cons, List.length_nil, List.length_replicate, List.length_take, List.length_drop, List.length_set]; omega) | (simp <;> omega) | simp_all | rfl) f1 f2 (head) (text) (block) hb)) rfl rfl rfl ?_
  refine RegC.m (op_move rfl) rfl rfl rfl ?_
  refine RegC.m (op_extract rfl rfl) rfl rfl rfl ?_
  refine RegC.m (op_extract rfl rfl) rfl rfl rfl ?_
  refine RegC.m (op_assign rfl) rfl rfl rfl ?_
  refine RegC.m (op_assign rfl) rfl rfl rfl ?_
  refine RegC.done ⟨.inl rfl, ?_⟩
  refine WP.nrm 40 ?_
  refine WP.reg k_mixed fun nm3 hnm3 => ?_
  refine RegC.m (op_move rfl) rfl rfl rfl ?_
  refine RegC.m (OpV.boolE (t := (inS (block) (16) (65536))) (u := false) (op_call rfl k_call_30 (in_calls (block) (16) (65536))) (by simp [inS]; omega)) rfl rfl rfl ?_
  refine RegC.m (op_not rfl) rfl rfl rfl ?_
  refine RegC.m (op_call rfl k_call_29 (when_calls (true) (4))) rfl rfl rfl ?_
  refine RegC.m (op_move rfl) rfl rfl rfl ?_
  refine RegC.m (op_lenV (f := AVal.u8) (l := head) rfl k_sl_26) rfl rfl rfl ?_
  rcases Decidable.em ((((head).length : Int) : Int) > 4096) with h1 | h1
  ·
    refine RegC.m (OpV.boolT (op_gtr rfl) h1) rfl rfl rfl ?_
    refine RegC.m (op_move rfl) rfl rfl rfl ?_
    refine RegC.skip rfl rfl ?_
    refine RegC.skip rfl rfl ?_
    refine RegC.skip rfl rfl ?_
    refine RegC.m (op_pick rfl) rfl rfl rfl ?_
    refine RegC.m (op_call rfl k_call_29 (when_calls (true) (5))) rfl rfl rfl ?_
    refine RegC.m (OpV.weakR (op_buildSlD (vs := List.map AVal.i [(whenS (true) (4)), (whenS (true) (5))]) rfl k_sl_106 k_zeroE_28 rfl rfl rfl (by omega))) rfl rfl rfl ?_
    refine RegC.m (op_call rfl k_call_28 (first_calls false ([(whenS (true) (4)), (whenS (true) (5))]) (by simp))) rfl rfl rfl ?_
    refine RegC.m (op_assign rfl) rfl rfl rfl ?_
    refine RegC.done ⟨.inl rfl, ?_⟩
    refine WP.nrm 40 ?_
    refine WP.reg k_mixed fun nm4 hnm4 => ?_
    refine RegC.m (op_call rfl k_call_31 (wraps_calls )) rfl rfl rfl ?_
    refine RegC.m (op_not rfl) rfl rfl rfl ?_
    refine RegC.m (op_move rfl) rfl rfl rfl ?_
    refine RegC.m (op_move rfl) rfl rfl rfl ?_
    refine RegC.m (OpV.boolE (t := (((firstS ([(whenS (true) (4)), (whenS (true) (5))])) : Int) != 0)) (u := true) (op_neq rfl) (by simp [firstS, whenS, *])) rfl rfl rfl ?_
    refine RegC.m (op_pick rfl) rfl rfl rfl ?_
    refine RegC.done ⟨.inl rfl, ?_⟩
    refine WP.nrm 40 ?_
    refine WP.cond (t := true) rfl ?_
    refine WP.nrm 40 ?_
    refine WP.reg k_mixed fun nm5 hnm5 => ?_
    refine RegC.m (op_call rfl k_call_31 (wraps_calls )) rfl rfl rfl ?_
    refine RegC.m (op_move rfl) rfl rfl rfl ?_
    refine RegC.m (op_move rfl) rfl rfl rfl ?_
    refine RegC.m (op_lenV (f := AVal.u8) (l := ([] : List UInt8)) rfl k_sl_26) rfl rfl rfl ?_
    refine RegC.m (OpV.boolE (t := ((((([] : List UInt8)).length : Int) : Int) == 0)) (u := true) (op_eql rfl) (by simp)) rfl rfl rfl ?_
    refine RegC.m (op_pick rfl) rfl rfl rfl ?_
    refine RegC.m (op_move rfl) rfl rfl rfl ?_
    refine RegC.m (op_move rfl) rfl rfl rfl ?_
    refine RegC.m (op_move rfl) rfl rfl rfl ?_
    refine RegC.m (OpV.boolE (t := ((4 : Int) == (firstS ([(whenS (true) (4)), (whenS (true) (5))])))) (u := true) (op_eql rfl) (by simp [firstS, whenS, *])) rfl rfl rfl ?_
    refine RegC.m (op_pick rfl) rfl rfl rfl ?_
    refine RegC.m (op_assign rfl) rfl rfl rfl ?_
    refine RegC.done ⟨.inl rfl, ?_⟩
    refine WP.nrm 40 ?_
    refine WP.retS (ResV.one rfl (.tmp rfl)) (List.nil_sublist _) ?_
    exact ⟨rfl, rfl⟩
  ·
    refine RegC.m (OpV.boolF (op_gtr rfl) h1) rfl rfl rfl ?_
    refine RegC.m (op_move rfl) rfl rfl rfl ?_
    refine RegC.m (op_move rfl) rfl rfl rfl ?_
    refine RegC.m (op_lenV (f := AVal.u8) (l := text) rfl k_sl_26) rfl rfl rfl ?_
    refine RegC.m (op_gtr rfl) rfl rfl rfl ?_
    refine RegC.m (op_pick rfl) rfl rfl rfl ?_
    refine RegC.m (op_call rfl k_call_29 (when_calls (decide ((((text).length : Int) : Int) > 262144)) (5))) rfl rfl rfl ?_
    refine RegC.m (OpV.weakR (op_buildSlD (vs := List.map AVal.i [(whenS (true) (4)), (whenS (decide ((((text).length : Int) : Int) > 262144)) (5))]) rfl k_sl_106 k_zeroE_28 rfl rfl rfl (by omega))) rfl rfl rfl ?_
    refine RegC.m (op_call rfl k_call_28 (first_calls false ([(whenS (true) (4)), (whenS (decide ((((text).length : Int) : Int) > 262144)) (5))]) (by simp))) rfl rfl rfl ?_
    refine RegC.m (op_assign rfl) rfl rfl rfl ?_
    refine RegC.done ⟨.inl rfl, ?_⟩
    refine WP.nrm 40 ?_
    refine WP.reg k_mixed fun nm6 hnm6 => ?_
    refine RegC.m (op_call rfl k_call_31 (wraps_calls )) rfl rfl rfl ?_
    refine RegC.m (op_not rfl) rfl rfl rfl ?_
    refine RegC.m (op_move rfl) rfl rfl rfl ?_
    refine RegC.m (op_move rfl) rfl rfl rfl ?_
    refine RegC.m (OpV.boolE (t := (((firstS ([(whenS (true) (4)), (whenS (decide ((((text).length : Int) : Int) > 262144)) (5))])) : Int) != 0)) (u := true) (op_neq rfl) (by simp [firstS, whenS, *])) rfl rfl rfl ?_
    refine RegC.m (op_pick rfl) rfl rfl rfl ?_
    refine RegC.done ⟨.inl rfl, ?_⟩
    refine WP.nrm 40 ?_
    refine WP.cond (t := true) rfl ?_
    refine WP.nrm 40 ?_
    refine WP.reg k_mixed fun nm7 hnm7 => ?_
    refine RegC.m (op_call rfl k_call_31 (wraps_calls )) rfl rfl rfl ?_
    refine RegC.m (op_move rfl) rfl rfl rfl ?_
    refine RegC.m (op_move rfl) rfl rfl rfl ?_
    refine RegC.m (op_lenV (f := AVal.u8) (l := ([] : List UInt8)) rfl k_sl_26) rfl rfl rfl ?_
    refine RegC.m (OpV.boolE (t := ((((([] : List UInt8)).length : Int) : Int) == 0)) (u := true) (op_eql rfl) (by simp)) rfl rfl rfl ?_
    refine RegC.m (op_pick rfl) rfl rfl rfl ?_
    refine RegC.m (op_move rfl) rfl rfl rfl ?_
    refine RegC.m (op_move rfl) rfl rfl rfl ?_
    refine RegC.m (op_move rfl) rfl rfl rfl ?_
    refine RegC.m (OpV.boolE (t := ((4 : Int) == (firstS ([(whenS (true) (4)), (whenS (decide ((((text).length : Int) : Int) > 262144)) (5))])))) (u := true) (op_eql rfl) (by simp [firstS, whenS, *])) rfl rfl rfl ?_
    refine RegC.m (op_pick rfl) rfl rfl rfl ?_
    refine RegC.m (op_assign rfl) rfl rfl rfl ?_
    refine RegC.done ⟨.inl rfl, ?_⟩
    refine WP.nrm 40 ?_
    refine WP.retS (ResV.one rfl (.tmp rfl)) (List.nil_sublist _) ?_
    exact ⟨rfl, rfl⟩

theorem law6_large (k : List UInt8) (hk : k.length = 32) (other : List UInt8) (ho : other.length = 32) (n : List UInt8) (hn : n.length = 16) (f1 f2 : Bool) (head text : List UInt8) (block : Nat) (hb1 : 16 ≤ block) (hb2 : block ≤ 65536) (hl : 4096 < head.length ∨ 262144 < text.length) (i at0 : Int) (by0 : UInt8) (cut : Int) : ACalls Try.prog 6 [.agg ((k).map AVal.u8), .agg ((other).map AVal.u8), .agg ((n).map AVal.u8), VS AVal.u8 f1 (head), VS AVal.u8 f2 (text), .i ((block : Int)), .i (i), .i (at0), .u8 (by0), .i (cut)] [] [] (.bool true) [] := by
  refine ACalls.of_wp' (fn := Try.f6) (n := 145) Try.func6 rfl rfl ?_
  unfold Try.f6
  refine WP.nrm 40 ?_
  refine WP.reg k_mixed fun nm1 hnm1 => ?_
  refine RegC.m (op_boxD rfl) rfl rfl rfl ?_
  refine RegC.m (op_boxD rfl) rfl rfl rfl ?_
  refine RegC.m (op_boxD rfl) rfl rfl rfl ?_
  refine RegC.m (op_assign rfl) rfl rfl rfl ?_
  refine RegC.done ⟨.inl rfl, ?_⟩
  refine WP.nrm 40 ?_
  refine WP.reg k_mixed fun nm2 hnm2 => ?_
  refine RegC.m (op_loadVG (cells := (k).map AVal.u8) rfl k_agg_23 (by first | omega | (simp only [List.length_append, List.length_map, List.length_cons, List.length_nil, List.length_replicate, List.length_take, List.length_drop, List.length_set]; omega) | (simp <;> omega) | simp_all | rfl) (prW (by first | omega | (simp only [List.length_append, List.length_map, List.length_cons, List.length_nil, List.length_replicate, List.length_take, List.length_drop, List.length_set]; omega) | (simp <;> omega) | simp_all | rfl))) rfl rfl rfl ?_
  refine RegC.m (op_loadVG (cells := (n).map AVal.u8) rfl k_agg_25 (by first | omega | (simp only [List.length_append, List.length_map, List.length_cons, List.length_nil, List.length_replicate, List.length_take, List.length_drop, List.length_set]; omega) | (simp <;> omega) | simp_all | rfl) (prW (by first | omega | (simp only [List.length_append, List.length_map, List.length_cons, List.length_nil, List.length_replicate, List.length_take, List.length_drop, List.length_set]; omega) | (simp <;> omega) | simp_all | rfl))) rfl rfl rfl ?_
  refine RegC.m (op_move rfl) rfl rfl rfl ?_
  refine RegC.m (op_move rfl) rfl rfl rfl ?_
  refine RegC.m (op_move rfl) rfl rfl rfl ?_
  refine RegC.m (op_call rfl k_call_27 (seal_large (k) (by first | omega | (simp only [List.length_append, List.length_map, List.length_cons, List.length_nil, List.length_replicate, List.length_take, List.length_drop, List.length_set]; omega) | (simp <;> omega) | simp_all | rfl) (n) (by first | omega | (simp only [List.length_append, List.length_map, List.length_cons, List.length_nil, List.length_replicate, List.length_take, List.length_drop, List.length_set]; omega) | (simp <;> omega) | simp_all | rfl) f1 f2 (head) (text) (block) hb1 hb2 hl)) rfl rfl rfl ?_
  refine RegC.m (op_move rfl) rfl rfl rfl ?_
  refine RegC.m (op_extract rfl rfl) rfl rfl rfl ?_
  refine RegC.m (op_extract rfl rfl) rfl rfl rfl ?_
  refine RegC.m (op_assign rfl) rfl rfl rfl ?_
  refine RegC.m (op_assign rfl) rfl rfl rfl ?_
  refine RegC.done ⟨.inl rfl, ?_⟩
  refine WP.nrm 40 ?_
  refine WP.reg k_mixed fun nm3 hnm3 => ?_
  refine RegC.m (op_move rfl) rfl rfl rfl ?_
  refine RegC.m (OpV.boolE (t := (inS ((block : Int)) (16) (65536))) (u := true) (op_call rfl k_call_30 (in_calls ((block : Int)) (16) (65536))) (by simp [inS]; omega)) rfl rfl rfl ?_
  refine RegC.m (op_not rfl) rfl rfl rfl ?_
  refine RegC.m (op_call rfl k_call_29 (when_calls (false) (4))) rfl rfl rfl ?_
  refine RegC.m (op_move rfl) rfl rfl rfl ?_
  refine RegC.m (op_lenV (f := AVal.u8) (l := head) rfl k_sl_26) rfl rfl rfl ?_
  rcases Decidable.em ((((head).length : Int) : Int) > 4096) with h1 | h1
  ·
    refine RegC.m (OpV.boolT (op_gtr rfl) h1) rfl rfl rfl ?_
    refine RegC.m (op_move rfl) rfl rfl rfl ?_
    refine RegC.skip rfl rfl ?_
    refine RegC.skip rfl rfl ?_
    refine RegC.skip rfl rfl ?_
    refine RegC.m (op_pick rfl) rfl rfl rfl ?_
    refine RegC.m (op_call rfl k_call_29 (when_calls (true) (5))) rfl rfl rfl ?_
    refine RegC.m (OpV.weakR (op_buildSlD (vs := List.map AVal.i [(whenS (false) (4)), (whenS (true) (5))]) rfl k_sl_106 k_zeroE_28 rfl rfl rfl (by omega))) rfl rfl rfl ?_
    refine RegC.m (op_call rfl k_call_28 (first_calls false ([(whenS (false) (4)), (whenS (true) (5))]) (by simp))) rfl rfl rfl ?_
    refine RegC.m (op_assign rfl) rfl rfl rfl ?_
    refine RegC.done ⟨.inl rfl, ?_⟩
    refine WP.nrm 40 ?_
    refine WP.reg k_mixed fun nm4 hnm4 => ?_
    refine RegC.m (op_call rfl k_call_31 (wraps_calls )) rfl rfl rfl ?_
    refine RegC.m (op_not rfl) rfl rfl rfl ?_
    refine RegC.m (op_move rfl) rfl rfl rfl ?_
    refine RegC.m (op_move rfl) rfl rfl rfl ?_
    refine RegC.m (OpV.boolE (t := (((firstS ([(whenS (false) (4)), (whenS (true) (5))])) : Int) != 0)) (u := true) (op_neq rfl) (by simp [firstS, whenS, *])) rfl rfl rfl ?_
    refine RegC.m (op_pick rfl) rfl rfl rfl ?_
    refine RegC.done ⟨.inl rfl, ?_⟩
    refine WP.nrm 40 ?_
    refine WP.cond (t := true) rfl ?_
    refine WP.nrm 40 ?_
    refine WP.reg k_mixed fun nm5 hnm5 => ?_
    refine RegC.m (op_call rfl k_call_31 (wraps_calls )) rfl rfl rfl ?_
    refine RegC.m (op_move rfl) rfl rfl rfl ?_
    refine RegC.m (op_move rfl) rfl rfl rfl ?_
    refine RegC.m (op_lenV (f := AVal.u8) (l := ([] : List UInt8)) rfl k_sl_26) rfl rfl rfl ?_
    refine RegC.m (OpV.boolE (t := ((((([] : List UInt8)).length : Int) : Int) == 0)) (u := true) (op_eql rfl) (by simp)) rfl rfl rfl ?_
    refine RegC.m (op_pick rfl) rfl rfl rfl ?_
    refine RegC.m (op_move rfl) rfl rfl rfl ?_
    refine RegC.m (op_move rfl) rfl rfl rfl ?_
    refine RegC.m (op_move rfl) rfl rfl rfl ?_
    refine RegC.m (OpV.boolE (t := ((5 : Int) == (firstS ([(whenS (false) (4)), (whenS (true) (5))])))) (u := true) (op_eql rfl) (by simp [firstS, whenS, *])) rfl rfl rfl ?_
    refine RegC.m (op_pick rfl) rfl rfl rfl ?_
    refine RegC.m (op_assign rfl) rfl rfl rfl ?_
    refine RegC.done ⟨.inl rfl, ?_⟩
    refine WP.nrm 40 ?_
    refine WP.retS (ResV.one rfl (.tmp rfl)) (List.nil_sublist _) ?_
    exact ⟨rfl, rfl⟩
  ·
    have hl2 : 262144 < text.length := by omega
    have hl3 : (262144 : Int) < (text.length : Int) := by omega
    have hl4 : ¬ ((text.length : Int) ≤ 262144) := by omega
    refine RegC.m (OpV.boolF (op_gtr rfl) h1) rfl rfl rfl ?_
    refine RegC.m (op_move rfl) rfl rfl rfl ?_
    refine RegC.m (op_move rfl) rfl rfl rfl ?_
    refine RegC.m (op_lenV (f := AVal.u8) (l := text) rfl k_sl_26) rfl rfl rfl ?_
    refine RegC.m (op_gtr rfl) rfl rfl rfl ?_
    refine RegC.m (op_pick rfl) rfl rfl rfl ?_
    refine RegC.m (op_call rfl k_call_29 (when_calls (decide ((((text).length : Int) : Int) > 262144)) (5))) rfl rfl rfl ?_
    refine RegC.m (OpV.weakR (op_buildSlD (vs := List.map AVal.i [(whenS (false) (4)), (whenS (decide ((((text).length : Int) : Int) > 262144)) (5))]) rfl k_sl_106 k_zeroE_28 rfl rfl rfl (by omega))) rfl rfl rfl ?_
    refine RegC.m (op_call rfl k_call_28 (first_calls false ([(whenS (false) (4)), (whenS (decide ((((text).length : Int) : Int) > 262144)) (5))]) (by simp))) rfl rfl rfl ?_
    refine RegC.m (op_assign rfl) rfl rfl rfl ?_
    refine RegC.done ⟨.inl rfl, ?_⟩
    refine WP.nrm 40 ?_
    refine WP.reg k_mixed fun nm6 hnm6 => ?_
    refine RegC.m (op_call rfl k_call_31 (wraps_calls )) rfl rfl rfl ?_
    refine RegC.m (op_not rfl) rfl rfl rfl ?_
    refine RegC.m (op_move rfl) rfl rfl rfl ?_
    refine RegC.m (op_move rfl) rfl rfl rfl ?_
    refine RegC.m (OpV.boolE (t := (((firstS ([(whenS (false) (4)), (whenS (decide ((((text).length : Int) : Int) > 262144)) (5))])) : Int) != 0)) (u := true) (op_neq rfl) (by simp [firstS, whenS, *])) rfl rfl rfl ?_
    refine RegC.m (op_pick rfl) rfl rfl rfl ?_
    refine RegC.done ⟨.inl rfl, ?_⟩
    refine WP.nrm 40 ?_
    refine WP.cond (t := true) rfl ?_
    refine WP.nrm 40 ?_
    refine WP.reg k_mixed fun nm7 hnm7 => ?_
    refine RegC.m (op_call rfl k_call_31 (wraps_calls )) rfl rfl rfl ?_
    refine RegC.m (op_move rfl) rfl rfl rfl ?_
    refine RegC.m (op_move rfl) rfl rfl rfl ?_
    refine RegC.m (op_lenV (f := AVal.u8) (l := ([] : List UInt8)) rfl k_sl_26) rfl rfl rfl ?_
    refine RegC.m (OpV.boolE (t := ((((([] : List UInt8)).length : Int) : Int) == 0)) (u := true) (op_eql rfl) (by simp)) rfl rfl rfl ?_
    refine RegC.m (op_pick rfl) rfl rfl rfl ?_
    refine RegC.m (op_move rfl) rfl rfl rfl ?_
    refine RegC.m (op_move rfl) rfl rfl rfl ?_
    refine RegC.m (op_move rfl) rfl rfl rfl ?_
    refine RegC.m (OpV.boolE (t := ((5 : Int) == (firstS ([(whenS (false) (4)), (whenS (decide ((((text).length : Int) : Int) > 262144)) (5))])))) (u := true) (op_eql rfl) (by simp [firstS, whenS, *])) rfl rfl rfl ?_
    refine RegC.m (op_pick rfl) rfl rfl rfl ?_
    refine RegC.m (op_assign rfl) rfl rfl rfl ?_
    refine RegC.done ⟨.inl rfl, ?_⟩
    refine WP.nrm 40 ?_
    refine WP.retS (ResV.one rfl (.tmp rfl)) (List.nil_sublist _) ?_
    exact ⟨rfl, rfl⟩

theorem law6_ok (k : List UInt8) (hk : k.length = 32) (other : List UInt8) (ho : other.length = 32) (n : List UInt8) (hn : n.length = 16) (f1 f2 : Bool) (head text : List UInt8) (block : Nat) (hh : head.length ≤ 4096) (ht : text.length ≤ 262144) (hb1 : 16 ≤ block) (hb2 : block ≤ 65536) (i at0 : Int) (by0 : UInt8) (cut : Int) : ACalls Try.prog 6 [.agg ((k).map AVal.u8), .agg ((other).map AVal.u8), .agg ((n).map AVal.u8), VS AVal.u8 f1 (head), VS AVal.u8 f2 (text), .i ((block : Int)), .i (i), .i (at0), .u8 (by0), .i (cut)] [] [] (.bool true) [] := by
  have hsl := sealS_len k n head text block hn ht hb1 hb2
  have hix := idx_lt (U6 at0) (sealS (k) (n) (head) (text) (block)).length (by omega) (by omega)
  have hcx := idx_lt (U6 cut) ((sealS (k) (n) (head) (text) (block)).length + 1) (by omega) (by omega)
  refine ACalls.of_wp' (fn := Try.f6) (n := 145) Try.func6 rfl rfl ?_
  unfold Try.f6
  refine WP.nrm 40 ?_
  refine WP.reg k_mixed fun nm1 hnm1 => ?_
  refine RegC.m (op_boxD rfl) rfl rfl rfl ?_
  refine RegC.m (op_boxD rfl) rfl rfl rfl ?_
  refine RegC.m (op_boxD rfl) rfl rfl rfl ?_
  refine RegC.m (op_assign rfl) rfl rfl rfl ?_
  refine RegC.done ⟨.inl rfl, ?_⟩
  refine WP.nrm 40 ?_
  refine WP.reg k_mixed fun nm2 hnm2 => ?_
  refine RegC.m (op_loadVG (cells := (k).map AVal.u8) rfl k_agg_23 (by first | omega | (simp only [List.length_append, List.length_map, List.length_cons, List.length_nil, List.length_replicate, List.length_take, List.length_drop, List.length_set]; omega) | (simp <;> omega) | simp_all | rfl) (prW (by first | omega | (simp only [List.length_append, List.length_map, List.length_cons, List.length_nil, List.length_replicate, List.length_take, List.length_drop, List.length_set]; omega) | (simp <;> omega) | simp_all | rfl))) rfl rfl rfl ?_
  refine RegC.m (op_loadVG (cells := (n).map AVal.u8) rfl k_agg_25 (by first | omega | (simp only [List.length_append, List.length_map, List.length_cons, List.length_nil, List.length_replicate, List.length_take, List.length_drop, List.length_set]; omega) | (simp <;> omega) | simp_all | rfl) (prW (by first | omega | (simp only [List.length_append, List.length_map, List.length_cons, List.length_nil, List.length_replicate, List.length_take, List.length_drop, List.length_set]; omega) | (simp <;> omega) | simp_all | rfl))) rfl rfl rfl ?_
  refine RegC.m (op_move rfl) rfl rfl rfl ?_
  refine RegC.m (op_move rfl) rfl rfl rfl ?_
  refine RegC.m (op_move rfl) rfl rfl rfl ?_
  refine RegC.m (op_call rfl k_call_27 (seal_d (k) (by first | omega | (simp only [List.length_append, List.length_map, List.length_cons, List.length_nil, List.length_replicate, List.length_take, List.length_drop, List.length_set]; omega) | (simp <;> omega) | simp_all | rfl) (n) (by first | omega | (simp only [List.length_append, List.length_map, List.length_cons, List.length_nil, List.length_replicate, List.length_take, List.length_drop, List.length_set]; omega) | (simp <;> omega) | simp_all | rfl) f1 f2 (head) (text) (block) (by first | omega | (simp only [List.length_append, List.length_map, List.length_cons, List.length_nil, List.length_replicate, List.length_take, List.length_drop, List.length_set]; omega) | (simp <;> omega) | simp_all) (by first | omega | (simp only [List.length_append, List.length_map, List.length_cons, List.length_nil, List.length_replicate, List.length_take, List.length_drop, List.length_set]; omega) | (simp <;> omega) | simp_all) (by first | omega | (simp only [List.length_append, List.length_map, List.length_cons, List.length_nil, List.length_replicate, List.length_take, List.length_drop, List.length_set]; omega) | (simp <;> omega) | simp_all) (by first | omega | (simp only [List.length_append, List.length_map, List.length_cons, List.length_nil, List.length_replicate, List.length_take, List.length_drop, List.length_set]; omega) | (simp <;> omega) | simp_all))) rfl rfl rfl ?_
  refine RegC.m (op_move rfl) rfl rfl rfl ?_
  refine RegC.m (op_extract rfl rfl) rfl rfl rfl ?_
  refine RegC.m (op_extract rfl rfl) rfl rfl rfl ?_
  refine RegC.m (op_assign rfl) rfl rfl rfl ?_
  refine RegC.m (op_assign rfl) rfl rfl rfl ?_
  refine RegC.done ⟨.inl rfl, ?_⟩
  refine WP.nrm 40 ?_
  refine WP.reg k_mixed fun nm3 hnm3 => ?_
  refine RegC.m (op_move rfl) rfl rfl rfl ?_
  refine RegC.m (OpV.boolE (t := (inS ((block : Int)) (16) (65536))) (u := true) (op_call rfl k_call_30 (in_calls ((block : Int)) (16) (65536))) (by simp [inS]; omega)) rfl rfl rfl ?_
  refine RegC.m (op_not rfl) rfl rfl rfl ?_
  refine RegC.m (op_call rfl k_call_29 (when_calls (false) (4))) rfl rfl rfl ?_
  refine RegC.m (op_move rfl) rfl rfl rfl ?_
  refine RegC.m (op_lenV (f := AVal.u8) (l := head) rfl k_sl_26) rfl rfl rfl ?_
  refine RegC.m (OpV.boolF (op_gtr rfl) (by omega)) rfl rfl rfl ?_
  refine RegC.m (op_move rfl) rfl rfl rfl ?_
  refine RegC.m (op_move rfl) rfl rfl rfl ?_
  refine RegC.m (op_lenV (f := AVal.u8) (l := text) rfl k_sl_26) rfl rfl rfl ?_
  refine RegC.m (OpV.boolF (op_gtr rfl) (by omega)) rfl rfl rfl ?_
  refine RegC.m (op_pick rfl) rfl rfl rfl ?_
  refine RegC.m (op_call rfl k_call_29 (when_calls (false) (5))) rfl rfl rfl ?_
  refine RegC.m (OpV.weakR (op_buildSlD (vs := List.map AVal.i [(whenS (false) (4)), (whenS (false) (5))]) rfl k_sl_106 k_zeroE_28 rfl rfl rfl (by omega))) rfl rfl rfl ?_
  refine RegC.m (op_call rfl k_call_28 (first_calls false ([(whenS (false) (4)), (whenS (false) (5))]) (by simp))) rfl rfl rfl ?_
  refine RegC.m (op_assign rfl) rfl rfl rfl ?_
  refine RegC.done ⟨.inl rfl, ?_⟩
  refine WP.nrm 40 ?_
  refine WP.reg k_mixed fun nm4 hnm4 => ?_
  refine RegC.m (op_call rfl k_call_31 (wraps_calls )) rfl rfl rfl ?_
  refine RegC.m (op_not rfl) rfl rfl rfl ?_
  refine RegC.m (op_move rfl) rfl rfl rfl ?_
  refine RegC.m (op_move rfl) rfl rfl rfl ?_
  refine RegC.m (OpV.boolE (t := (((firstS ([(whenS (false) (4)), (whenS (false) (5))])) : Int) != 0)) (u := false) (op_neq rfl) (by simp [firstS, whenS])) rfl rfl rfl ?_
  refine RegC.m (op_pick rfl) rfl rfl rfl ?_
  refine RegC.done ⟨.inl rfl, ?_⟩
  refine WP.nrm 40 ?_
  refine WP.cond (t := false) rfl ?_
  refine WP.nrm 40 ?_
  refine WP.reg k_mixed fun nm5 hnm5 => ?_
  refine RegC.m (op_move rfl) rfl rfl rfl ?_
  refine RegC.m (op_neq rfl) rfl rfl rfl ?_
  refine RegC.m (op_move rfl) rfl rfl rfl ?_
  refine RegC.m (op_move rfl) rfl rfl rfl ?_
  refine RegC.m (op_loadVG (cells := (k).map AVal.u8) rfl k_agg_23 (by first | omega | (simp only [List.length_append, List.length_map, List.length_cons, List.length_nil, List.length_replicate, List.length_take, List.length_drop, List.length_set]; omega) | (simp <;> omega) | simp_all | rfl) (prW (by first | omega | (simp only [List.length_append, List.length_map, List.length_cons, List.length_nil, List.length_replicate, List.length_take, List.length_drop, List.length_set]; omega) | (simp <;> omega) | simp_all | rfl))) rfl rfl rfl ?_
  refine RegC.m (op_loadVG (cells := (n).map AVal.u8) rfl k_agg_25 (by first | omega | (simp only [List.length_append, List.length_map, List.length_cons, List.length_nil, List.length_replicate, List.length_take, List.length_drop, List.length_set]; omega) | (simp <;> omega) | simp_all | rfl) (prW (by first | omega | (simp only [List.length_append, List.length_map, List.length_cons, List.length_nil, List.length_replicate, List.length_take, List.length_drop, List.length_set]; omega) | (simp <;> omega) | simp_all | rfl))) rfl rfl rfl ?_
  refine RegC.m (op_move rfl) rfl rfl rfl ?_
  refine RegC.m (op_move rfl) rfl rfl rfl ?_
  refine RegC.m (op_move rfl) rfl rfl rfl ?_
  refine RegC.m (op_call rfl k_call_32 (sealedText_d (k) (by first | omega | (simp only [List.length_append, List.length_map, List.length_cons, List.length_nil, List.length_replicate, List.length_take, List.length_drop, List.length_set]; omega) | (simp <;> omega) | simp_all | rfl) (n) (by first | omega | (simp only [List.length_append, List.length_map, List.length_cons, List.length_nil, List.length_replicate, List.length_take, List.length_drop, List.length_set]; omega) | (simp <;> omega) | simp_all | rfl) f1 f2 (head) (text) (block) (by first | omega | (simp only [List.length_append, List.length_map, List.length_cons, List.length_nil, List.length_replicate, List.length_take, List.length_drop, List.length_set]; omega) | (simp <;> omega) | simp_all) (by first | omega | (simp only [List.length_append, List.length_map, List.length_cons, List.length_nil, List.length_replicate, List.length_take, List.length_drop, List.length_set]; omega) | (simp <;> omega) | simp_all) (by first | omega | (simp only [List.length_append, List.length_map, List.length_cons, List.length_nil, List.length_replicate, List.length_take, List.length_drop, List.length_set]; omega) | (simp <;> omega) | simp_all) (by first | omega | (simp only [List.length_append, List.length_map, List.length_cons, List.length_nil, List.length_replicate, List.length_take, List.length_drop, List.length_set]; omega) | (simp <;> omega) | simp_all))) rfl rfl rfl ?_
  refine RegC.m (OpV.boolE (t := ((sealS (k) (n) (head) (text) (block) : List UInt8) == sealS (k) (n) (head) (text) (block))) (u := true) (op_call rfl k_call_9 (equal_calls false false (sealS (k) (n) (head) (text) (block)) (sealS (k) (n) (head) (text) (block)))) (by simp)) rfl rfl rfl ?_
  refine RegC.m (op_not rfl) rfl rfl rfl ?_
  refine RegC.m (op_pick rfl) rfl rfl rfl ?_
  refine RegC.done ⟨.inl rfl, ?_⟩
  refine WP.nrm 40 ?_
  refine WP.cond (t := false) rfl ?_
  refine WP.nrm 40 ?_
  refine WP.reg k_mixed fun nm6 hnm6 => ?_
  refine RegC.m (op_move rfl) rfl rfl rfl ?_
  refine RegC.a (op_call rfl k_call_15 (clone_calls (nm6 0) false (sealS (k) (n) (head) (text) (block)) (by first | omega | (simp only [List.length_append, List.length_map, List.length_cons, List.length_nil, List.length_replicate, List.length_take, List.length_drop, List.length_set]; omega) | (simp <;> omega) | simp_all))) rfl rfl rfl ?_
  refine RegC.m (op_assign rfl) rfl rfl rfl ?_
  refine RegC.done ⟨.inl rfl, ?_⟩
  refine WP.nrm 40 ?_
  refine WP.reg k_mixed fun nm7 hnm7 => ?_
  refine RegC.m (op_move rfl) rfl rfl rfl ?_
  refine RegC.m (op_move rfl) rfl rfl rfl ?_
  refine RegC.m (op_cv rfl k_und_3 k_undI_60 cv_i_64w) rfl rfl rfl ?_
  refine RegC.m (op_move rfl) rfl rfl rfl ?_
  refine RegC.m (op_lenO rfl k_sl_26) rfl rfl rfl ?_
  refine RegC.m (op_cv rfl k_und_3 k_undI_60 (cv_i_64 (by first | exact Int.natCast_nonneg _ | omega))) rfl rfl rfl ?_
  refine RegC.m (OpV.to (op_rem64 rfl (by simp only [UInt64.toNat_ofNat']; omega)) (show _ = AVal.u64 ((U6 (at0)) % UInt64.ofNat (((sealS (k) (n) (head) (text) (block)).length))) from rfl)) rfl rfl rfl ?_
  refine RegC.m (op_cv rfl k_und_60 k_undI_3 (cv_64_i (by first | omega | (simp only [List.length_append, List.length_map, List.length_cons, List.length_nil, List.length_replicate, List.length_take, List.length_drop, List.length_set]; omega) | (simp <;> omega) | simp_all))) rfl rfl rfl ?_
  refine RegC.m (op_iO ((((U6 (at0)) % UInt64.ofNat (((sealS (k) (n) (head) (text) (block)).length)))).toNat) rfl k_sl_26 (by first | omega | (simp only [List.length_append, List.length_map, List.length_cons, List.length_nil, List.length_replicate, List.length_take, List.length_drop, List.length_set]; omega) | (simp <;> omega) | simp_all) (by first | omega | (simp only [List.length_append, List.length_map, List.length_cons, List.length_nil, List.length_replicate, List.length_take, List.length_drop, List.length_set]; omega) | (simp <;> omega) | simp_all)) rfl rfl rfl ?_
  refine RegC.q (i := 0) (op_loadM (f := AVal.u8) (l := sealS (k) (n) (head) (text) (block)) (n := (((U6 (at0)) % UInt64.ofNat (((sealS (k) (n) (head) (text) (block)).length)))).toNat) rfl k_scal_5 (by first | omega | (simp only [List.length_append, List.length_map, List.length_cons, List.length_nil, List.length_replicate, List.length_take, List.length_drop, List.length_set]; omega) | (simp <;> omega) | simp_all)) rfl rfl rfl rfl ?_
  refine RegC.m (op_move rfl) rfl rfl rfl ?_
  refine RegC.m (op_xor8 rfl) rfl rfl rfl ?_
  refine RegC.m (op_iO ((((U6 (at0)) % UInt64.ofNat (((sealS (k) (n) (head) (text) (block)).length)))).toNat) rfl k_sl_26 (by first | omega | (simp only [List.length_append, List.length_map, List.length_cons, List.length_nil, List.length_replicate, List.length_take, List.length_drop, List.length_set]; omega) | (simp <;> omega) | simp_all) (by first | omega | (simp only [List.length_append, List.length_map, List.length_cons, List.length_nil, List.length_replicate, List.length_take, List.length_drop, List.length_set]; omega) | (simp <;> omega) | simp_all)) rfl rfl rfl ?_
  refine RegC.w (i := 0) (op_storeM (f := AVal.u8) (l := sealS (k) (n) (head) (text) (block)) (n := (((U6 (at0)) % UInt64.ofNat (((sealS (k) (n) (head) (text) (block)).length)))).toNat) (v := ((sealS (k) (n) (head) (text) (block))[(((U6 (at0)) % UInt64.ofNat (((sealS (k) (n) (head) (text) (block)).length)))).toNat]! ^^^ by0)) rfl k_scal_5 rfl (by first | omega | (simp only [List.length_append, List.length_map, List.length_cons, List.length_nil, List.length_replicate, List.length_take, List.length_drop, List.length_set]; omega) | (simp <;> omega) | simp_all)) rfl rfl rfl rfl ?_
  refine RegC.done ⟨.inl rfl, ?_⟩
  refine WP.cold (b := nm6 0) 0 [(24, VS AVal.u8 false ((sealS (k) (n) (head) (text) (block)).set ((((U6 (at0)) % UInt64.ofNat (((sealS (k) (n) (head) (text) (block)).length)))).toNat) (((sealS (k) (n) (head) (text) (block))[(((U6 (at0)) % UInt64.ofNat (((sealS (k) (n) (head) (text) (block)).length)))).toNat]! ^^^ by0))))] rfl (frzE.cons rfl (frz_os (by first | omega | (simp only [List.length_append, List.length_map, List.length_cons, List.length_nil, List.length_replicate, List.length_take, List.length_drop, List.length_set]; omega) | (simp <;> omega) | simp_all)) frzE.nil) ?_
  refine WP.nrm 40 ?_
  refine WP.reg k_mixed fun nm8 hnm8 => ?_
  refine RegC.m (op_move rfl) rfl rfl rfl ?_
  refine RegC.m (op_move rfl) rfl rfl rfl ?_
  refine RegC.m (op_move rfl) rfl rfl rfl ?_
  refine RegC.m (op_move rfl) rfl rfl rfl ?_
  refine RegC.m (op_cv rfl k_und_3 k_undI_60 cv_i_64w) rfl rfl rfl ?_
  refine RegC.m (op_move rfl) rfl rfl rfl ?_
  refine RegC.m (op_lenV (f := AVal.u8) (l := sealS (k) (n) (head) (text) (block)) rfl k_sl_26) rfl rfl rfl ?_
  refine RegC.m (op_addI rfl (by first | omega | (simp only [List.length_append, List.length_map, List.length_cons, List.length_nil, List.length_replicate, List.length_take, List.length_drop, List.length_set]; omega) | (simp <;> omega) | simp_all)) rfl rfl rfl ?_
  refine RegC.m (op_cv rfl k_und_3 k_undI_60 (cv_i_64 (by first | exact Int.natCast_nonneg _ | omega))) rfl rfl rfl ?_
  refine RegC.m (OpV.to (op_rem64 rfl (by simp only [UInt64.toNat_ofNat']; omega)) (show _ = AVal.u64 ((U6 (cut)) % UInt64.ofNat (((sealS (k) (n) (head) (text) (block)).length + 1))) from rfl)) rfl rfl rfl ?_
  refine RegC.m (op_cv rfl k_und_60 k_undI_3 (cv_64_i (by first | omega | (simp only [List.length_append, List.length_map, List.length_cons, List.length_nil, List.length_replicate, List.length_take, List.length_drop, List.length_set]; omega) | (simp <;> omega) | simp_all))) rfl rfl rfl ?_
  refine RegC.m (op_sV01 (f := AVal.u8) (l := sealS (k) (n) (head) (text) (block)) ((((U6 (cut)) % UInt64.ofNat (((sealS (k) (n) (head) (text) (block)).length + 1)))).toNat) rfl k_sl_26 (by first | omega | (simp only [List.length_append, List.length_map, List.length_cons, List.length_nil, List.length_replicate, List.length_take, List.length_drop, List.length_set]; omega) | (simp <;> omega) | simp_all) (by first | omega | (simp only [List.length_append, List.length_map, List.length_cons, List.length_nil, List.length_replicate, List.length_take, List.length_drop, List.length_set]; omega) | (simp <;> omega) | simp_all)) rfl rfl rfl ?_
  refine RegC.m (op_move rfl) rfl rfl rfl ?_
  refine RegC.a (op_call rfl k_call_15 (clone_calls (nm8 0) false (sealS (k) (n) (head) (text) (block)) (by first | omega | (simp only [List.length_append, List.length_map, List.length_cons, List.length_nil, List.length_replicate, List.length_take, List.length_drop, List.length_set]; omega) | (simp <;> omega) | simp_all))) rfl rfl rfl ?_
  refine RegC.m (OpV.weakR (op_buildSlD (vs := List.map AVal.u8 [(0 : UInt8)]) rfl k_sl_26 k_zeroE_5 rfl rfl rfl (by omega))) rfl rfl rfl ?_
  refine RegC.wa (i := 0) (op_appL (f := AVal.u8) (l := sealS (k) (n) (head) (text) (block)) (l2 := [(0 : UInt8)]) (fun _ => rfl) rfl k_app_26_26 (by first | omega | (simp only [List.length_append, List.length_map, List.length_cons, List.length_nil, List.length_replicate, List.length_take, List.length_drop, List.length_set]; omega) | (simp <;> omega) | simp_all) (by first | omega | (simp only [List.length_append, List.length_map, List.length_cons, List.length_nil, List.length_replicate, List.length_take, List.length_drop, List.length_set]; omega) | (simp <;> omega) | simp_all)) rfl rfl rfl rfl ?_
  refine RegC.wa (i := 0) (OpV.frz (b := nm8 1) (op_buildSlD (zv := .vs 0 true []) (vs := List.map PB [sealS (k) (n) (head) (text) (block), (sealS (k) (n) (head) (text) (block)).set ((((U6 (at0)) % UInt64.ofNat (((sealS (k) (n) (head) (text) (block)).length)))).toNat) (((sealS (k) (n) (head) (text) (block))[(((U6 (at0)) % UInt64.ofNat (((sealS (k) (n) (head) (text) (block)).length)))).toNat]! ^^^ by0)), (sealS (k) (n) (head) (text) (block)).take ((((U6 (cut)) % UInt64.ofNat (((sealS (k) (n) (head) (text) (block)).length + 1)))).toNat), sealS (k) (n) (head) (text) (block) ++ [(0 : UInt8)]]) rfl k_sl_36 k_zeroV_26 rfl rfl rfl (by omega)) (Frzs.cons (.refl _) (Frzs.cons (.refl _) (Frzs.cons (.refl _) (Frzs.cons (frz_os (by first | omega | (simp only [List.length_append, List.length_map, List.length_cons, List.length_nil, List.length_replicate, List.length_take, List.length_drop, List.length_set]; omega) | (simp <;> omega) | simp_all)) Frzs.nil))))) rfl rfl rfl rfl ?_
  refine RegC.m (op_lenV (f := PB) (l := [sealS (k) (n) (head) (text) (block), (sealS (k) (n) (head) (text) (block)).set ((((U6 (at0)) % UInt64.ofNat (((sealS (k) (n) (head) (text) (block)).length)))).toNat) (((sealS (k) (n) (head) (text) (block))[(((U6 (at0)) % UInt64.ofNat (((sealS (k) (n) (head) (text) (block)).length)))).toNat]! ^^^ by0)), (sealS (k) (n) (head) (text) (block)).take ((((U6 (cut)) % UInt64.ofNat (((sealS (k) (n) (head) (text) (block)).length + 1)))).toNat), sealS (k) (n) (head) (text) (block) ++ [(0 : UInt8)]]) rfl k_sl_36) rfl rfl rfl ?_
  refine RegC.m (op_move rfl) rfl rfl rfl ?_
  refine RegC.done ⟨.inr rfl, ?_⟩
  refine WP.nrm 40 ?_
  refine WP.loop1 (fun (i1 : Int) => [(3, VS AVal.u8 f1 (head)), (4, VS AVal.u8 f2 (text)), (6, .i (i)), (10, .vptr ((k).map AVal.u8) (0)), (11, .vptr ((other).map AVal.u8) (0)), (21, VS AVal.u8 false (sealS (k) (n) (head) (text) (block))), (114, VS PB true ([sealS (k) (n) (head) (text) (block), (sealS (k) (n) (head) (text) (block)).set ((((U6 (at0)) % UInt64.ofNat (((sealS (k) (n) (head) (text) (block)).length)))).toNat) (((sealS (k) (n) (head) (text) (block))[(((U6 (at0)) % UInt64.ofNat (((sealS (k) (n) (head) (text) (block)).length)))).toNat]! ^^^ by0)), (sealS (k) (n) (head) (text) (block)).take ((((U6 (cut)) % UInt64.ofNat (((sealS (k) (n) (head) (text) (block)).length + 1)))).toNat), sealS (k) (n) (head) (text) (block) ++ [(0 : UInt8)]])), (115, .i ((([sealS (k) (n) (head) (text) (block), (sealS (k) (n) (head) (text) (block)).set ((((U6 (at0)) % UInt64.ofNat (((sealS (k) (n) (head) (text) (block)).length)))).toNat) (((sealS (k) (n) (head) (text) (block))[(((U6 (at0)) % UInt64.ofNat (((sealS (k) (n) (head) (text) (block)).length)))).toNat]! ^^^ by0)), (sealS (k) (n) (head) (text) (block)).take ((((U6 (cut)) % UInt64.ofNat (((sealS (k) (n) (head) (text) (block)).length + 1)))).toNat), sealS (k) (n) (head) (text) (block) ++ [(0 : UInt8)]]).length : Int))), (116, .i (i1))]) (fun (i1 : Int) => [(nm8 2, .vec 5 ((([] : List UInt8)).map AVal.u8))]) (fun (i1 : Int) => ∃ j : Nat, i1 = j ∧ j ≤ 4) (fun (i1 : Int) => (4 - i1).toNat) (0) (subE.cons rfl (subE.cons rfl (subE.cons rfl (subE.cons rfl (subE.cons rfl (subE.cons rfl (subE.cons rfl (subE.cons rfl (subE.cons rfl (subE.nil)))))))))) (by (try simp only [List.set_cons_zero, List.set_cons_succ, List.cons_append, List.nil_append]); exact (.cons_cons _ (List.nil_sublist _))) ⟨0, rfl, by omega⟩ ?_
  intro i1 hI ih0
  obtain ⟨j1, rfl, hj1⟩ := hI
  have htl : (([sealS (k) (n) (head) (text) (block), (sealS (k) (n) (head) (text) (block)).set ((((U6 (at0)) % UInt64.ofNat (((sealS (k) (n) (head) (text) (block)).length)))).toNat) (((sealS (k) (n) (head) (text) (block))[(((U6 (at0)) % UInt64.ofNat (((sealS (k) (n) (head) (text) (block)).length)))).toNat]! ^^^ by0)), (sealS (k) (n) (head) (text) (block)).take ((((U6 (cut)) % UInt64.ofNat (((sealS (k) (n) (head) (text) (block)).length + 1)))).toNat), sealS (k) (n) (head) (text) (block) ++ [(0 : UInt8)]] : List (List UInt8))[j1]!).length ≤ 16777216 := getBang_le _ _ (texts_le _ hsl.1 _ _ _) j1
  refine WP.nrm 40 ?_
  refine WP.reg k_mixed fun nm9 hnm9 => ?_
  refine RegC.m (op_lss rfl) rfl rfl rfl ?_
  refine RegC.done ⟨.inl rfl, ?_⟩
  refine WP.nrm 40 ?_
  refine WP.condD rfl (fun h1 => ?_) (fun h1 => ?_)
  ·
    refine WP.nrm 40 ?_
    refine WP.reg k_mixed fun nm10 hnm10 => ?_
    refine RegC.m (op_iV (f := PB) (l := [sealS (k) (n) (head) (text) (block), (sealS (k) (n) (head) (text) (block)).set ((((U6 (at0)) % UInt64.ofNat (((sealS (k) (n) (head) (text) (block)).length)))).toNat) (((sealS (k) (n) (head) (text) (block))[(((U6 (at0)) % UInt64.ofNat (((sealS (k) (n) (head) (text) (block)).length)))).toNat]! ^^^ by0)), (sealS (k) (n) (head) (text) (block)).take ((((U6 (cut)) % UInt64.ofNat (((sealS (k) (n) (head) (text) (block)).length + 1)))).toNat), sealS (k) (n) (head) (text) (block) ++ [(0 : UInt8)]]) (j1) rfl k_sl_36 (by first | omega | (simp only [List.length_append, List.length_map, List.length_cons, List.length_nil, List.length_replicate, List.length_take, List.length_drop, List.length_set]; omega) | (simp <;> omega) | simp_all) (by first | omega | (simp only [List.length_append, List.length_map, List.length_cons, List.length_nil, List.length_replicate, List.length_take, List.length_drop, List.length_set]; omega) | (simp <;> omega) | simp_all)) rfl rfl rfl ?_
    refine RegC.m (op_loadVM (f := PB) (l := [sealS (k) (n) (head) (text) (block), (sealS (k) (n) (head) (text) (block)).set ((((U6 (at0)) % UInt64.ofNat (((sealS (k) (n) (head) (text) (block)).length)))).toNat) (((sealS (k) (n) (head) (text) (block))[(((U6 (at0)) % UInt64.ofNat (((sealS (k) (n) (head) (text) (block)).length)))).toNat]! ^^^ by0)), (sealS (k) (n) (head) (text) (block)).take ((((U6 (cut)) % UInt64.ofNat (((sealS (k) (n) (head) (text) (block)).length + 1)))).toNat), sealS (k) (n) (head) (text) (block) ++ [(0 : UInt8)]]) (n := j1) rfl k_scal_26 (by first | omega | (simp only [List.length_append, List.length_map, List.length_cons, List.length_nil, List.length_replicate, List.length_take, List.length_drop, List.length_set]; omega) | (simp <;> omega) | simp_all)) rfl rfl rfl ?_
    refine RegC.m (op_assign rfl) rfl rfl rfl ?_
    refine RegC.done ⟨.inl rfl, ?_⟩
    refine WP.nrm 40 ?_
    refine WP.reg k_mixed fun nm11 hnm11 => ?_
    refine RegC.m (op_loadVG (cells := (k).map AVal.u8) rfl k_agg_23 (by first | omega | (simp only [List.length_append, List.length_map, List.length_cons, List.length_nil, List.length_replicate, List.length_take, List.length_drop, List.length_set]; omega) | (simp <;> omega) | simp_all | rfl) (prW (by first | omega | (simp only [List.length_append, List.length_map, List.length_cons, List.length_nil, List.length_replicate, List.length_take, List.length_drop, List.length_set]; omega) | (simp <;> omega) | simp_all | rfl))) rfl rfl rfl ?_
    refine RegC.m (op_loadVG (cells := (other).map AVal.u8) rfl k_agg_23 (by first | omega | (simp only [List.length_append, List.length_map, List.length_cons, List.length_nil, List.length_replicate, List.length_take, List.length_drop, List.length_set]; omega) | (simp <;> omega) | simp_all | rfl) (prW (by first | omega | (simp only [List.length_append, List.length_map, List.length_cons, List.length_nil, List.length_replicate, List.length_take, List.length_drop, List.length_set]; omega) | (simp <;> omega) | simp_all | rfl))) rfl rfl rfl ?_
    refine RegC.m (op_buildSl2 rfl k_sl_72 k_zero_23 rfl (by first | omega | (simp only [List.length_append, List.length_map, List.length_cons, List.length_nil, List.length_replicate, List.length_take, List.length_drop, List.length_set]; omega) | (simp <;> omega) | simp_all | rfl) (by first | omega | (simp only [List.length_append, List.length_map, List.length_cons, List.length_nil, List.length_replicate, List.length_take, List.length_drop, List.length_set]; omega) | (simp <;> omega) | simp_all | rfl)) rfl rfl rfl ?_
    refine RegC.m (op_len_v rfl k_sl_72) rfl rfl rfl ?_
    refine RegC.m (op_move rfl) rfl rfl rfl ?_
    refine RegC.done ⟨.inl rfl, ?_⟩
    refine WP.nrm 40 ?_
    refine WP.loop1 (fun (i2 : Int) => [(3, VS AVal.u8 f1 (head)), (4, VS AVal.u8 f2 (text)), (6, .i (i)), (10, .vptr ((k).map AVal.u8) (0)), (11, .vptr ((other).map AVal.u8) (0)), (21, VS AVal.u8 false (sealS (k) (n) (head) (text) (block))), (26, VS AVal.u8 false (([sealS (k) (n) (head) (text) (block), (sealS (k) (n) (head) (text) (block)).set ((((U6 (at0)) % UInt64.ofNat (((sealS (k) (n) (head) (text) (block)).length)))).toNat) (((sealS (k) (n) (head) (text) (block))[(((U6 (at0)) % UInt64.ofNat (((sealS (k) (n) (head) (text) (block)).length)))).toNat]! ^^^ by0)), (sealS (k) (n) (head) (text) (block)).take ((((U6 (cut)) % UInt64.ofNat (((sealS (k) (n) (head) (text) (block)).length + 1)))).toNat), sealS (k) (n) (head) (text) (block) ++ [(0 : UInt8)]])[j1]!)), (114, VS PB true ([sealS (k) (n) (head) (text) (block), (sealS (k) (n) (head) (text) (block)).set ((((U6 (at0)) % UInt64.ofNat (((sealS (k) (n) (head) (text) (block)).length)))).toNat) (((sealS (k) (n) (head) (text) (block))[(((U6 (at0)) % UInt64.ofNat (((sealS (k) (n) (head) (text) (block)).length)))).toNat]! ^^^ by0)), (sealS (k) (n) (head) (text) (block)).take ((((U6 (cut)) % UInt64.ofNat (((sealS (k) (n) (head) (text) (block)).length + 1)))).toNat), sealS (k) (n) (head) (text) (block) ++ [(0 : UInt8)]])), (115, .i ((([sealS (k) (n) (head) (text) (block), (sealS (k) (n) (head) (text) (block)).set ((((U6 (at0)) % UInt64.ofNat (((sealS (k) (n) (head) (text) (block)).length)))).toNat) (((sealS (k) (n) (head) (text) (block))[(((U6 (at0)) % UInt64.ofNat (((sealS (k) (n) (head) (text) (block)).length)))).toNat]! ^^^ by0)), (sealS (k) (n) (head) (text) (block)).take ((((U6 (cut)) % UInt64.ofNat (((sealS (k) (n) (head) (text) (block)).length + 1)))).toNat), sealS (k) (n) (head) (text) (block) ++ [(0 : UInt8)]]).length : Int))), (116, .i ((j1 : Int))), (122, .vs 2 true ((k ++ other).map AVal.u8)), (123, .i (((2 : Nat) : Int))), (124, .i (i2))]) (fun (i2 : Int) => [(nm8 2, .vec 5 ((([] : List UInt8)).map AVal.u8))]) (fun (i2 : Int) => ∃ j : Nat, i2 = j ∧ j ≤ 2) (fun (i2 : Int) => (2 - i2).toNat) (0) (subE.cons rfl (subE.cons rfl (subE.cons rfl (subE.cons rfl (subE.cons rfl (subE.cons rfl (subE.cons rfl (subE.cons rfl (subE.cons rfl (subE.cons rfl (subE.cons rfl (subE.cons rfl (subE.cons rfl (subE.nil)))))))))))))) (by (try simp only [List.set_cons_zero, List.set_cons_succ, List.cons_append, List.nil_append]); exact (.cons_cons _ (List.nil_sublist _))) ⟨0, rfl, by omega⟩ ?_
    intro i2 hI ih1
    obtain ⟨j2, rfl, hj2⟩ := hI
    refine WP.nrm 40 ?_
    refine WP.reg k_mixed fun nm12 hnm12 => ?_
    refine RegC.m (op_lss rfl) rfl rfl rfl ?_
    refine RegC.done ⟨.inl rfl, ?_⟩
    refine WP.nrm 40 ?_
    refine WP.condD rfl (fun h2 => ?_) (fun h2 => ?_)
    ·
      refine WP.nrm 40 ?_
      refine WP.reg k_mixed fun nm13 hnm13 => ?_
      refine RegC.m (OpV.to (op_idxV rfl k_sl_72 (by omega) (by omega) (by intro hq; have := congrArg List.length hq; simp [hk, ho] at this)) (by rw [Int.toNat_natCast])) rfl rfl rfl ?_
      refine RegC.m (op_loadVP (f := AVal.u8) (l := k ++ other) (off := j2 * 32) rfl k_agg_23 (by first | omega | (simp only [List.length_append, List.length_map, List.length_cons, List.length_nil, List.length_replicate, List.length_take, List.length_drop, List.length_set]; omega) | (simp <;> omega) | simp_all)) rfl rfl rfl ?_
      refine RegC.a (op_alloc rfl k_zero_23) rfl rfl rfl ?_
      refine RegC.w (i := 1) (op_storeW rfl k_agg_23 (by first | omega | (simp only [List.length_append, List.length_map, List.length_cons, List.length_nil, List.length_replicate, List.length_take, List.length_drop, List.length_set]; omega) | (simp <;> omega) | simp_all) (by first | omega | (simp only [List.length_append, List.length_map, List.length_cons, List.length_nil, List.length_replicate, List.length_take, List.length_drop, List.length_set]; omega) | (simp <;> omega) | simp_all) (by first | exact allS (fun _ => rfl) | simp [AVal.scalar])) rfl rfl rfl rfl ?_
      refine RegC.done ⟨.inl rfl, ?_⟩
      have hkl := key_len k other hk ho j2 (by omega)
      refine WP.nrm 40 ?_
      refine WP.reg k_mixed fun nm14 hnm14 => ?_
      refine RegC.q (i := 1) (op_loadW rfl k_agg_23 (by first | omega | (simp only [List.length_append, List.length_map, List.length_cons, List.length_nil, List.length_replicate, List.length_take, List.length_drop, List.length_set]; omega) | (simp <;> omega) | simp_all)) rfl rfl rfl rfl ?_
      refine RegC.m (op_move rfl) rfl rfl rfl ?_
      refine RegC.m (op_move rfl) rfl rfl rfl ?_
      refine RegC.m (op_move rfl) rfl rfl rfl ?_
      refine RegC.m (op_call rfl k_call_33 (opened_calls (((k ++ other).drop (j2 * 32)).take 32) (by first | omega | (simp only [List.length_append, List.length_map, List.length_cons, List.length_nil, List.length_replicate, List.length_take, List.length_drop, List.length_set]; omega) | (simp <;> omega) | simp_all | rfl) f1 false (head) (([sealS (k) (n) (head) (text) (block), (sealS (k) (n) (head) (text) (block)).set ((((U6 (at0)) % UInt64.ofNat (((sealS (k) (n) (head) (text) (block)).length)))).toNat) (((sealS (k) (n) (head) (text) (block))[(((U6 (at0)) % UInt64.ofNat (((sealS (k) (n) (head) (text) (block)).length)))).toNat]! ^^^ by0)), (sealS (k) (n) (head) (text) (block)).take ((((U6 (cut)) % UInt64.ofNat (((sealS (k) (n) (head) (text) (block)).length + 1)))).toNat), sealS (k) (n) (head) (text) (block) ++ [(0 : UInt8)]])[j1]!) (by first | omega | (simp only [List.length_append, List.length_map, List.length_cons, List.length_nil, List.length_replicate, List.length_take, List.length_drop, List.length_set]; omega) | (simp <;> omega) | simp_all) (by first | omega | (simp only [List.length_append, List.length_map, List.length_cons, List.length_nil, List.length_replicate, List.length_take, List.length_drop, List.length_set]; omega) | (simp <;> omega) | simp_all) (i))) rfl rfl rfl ?_
      refine RegC.m (op_not rfl) rfl rfl rfl ?_
      refine RegC.done ⟨.inl rfl, ?_⟩
      refine WP.nrm 40 ?_
      refine WP.cond (t := false) rfl ?_
      refine WP.nrm 40 ?_
      refine WP.reg k_mixed fun nm15 hnm15 => ?_
      refine RegC.m (op_addI rfl (by first | omega | (simp only [List.length_append, List.length_map, List.length_cons, List.length_nil, List.length_replicate, List.length_take, List.length_drop, List.length_set]; omega) | (simp <;> omega) | simp_all)) rfl rfl rfl ?_
      refine RegC.m (op_move rfl) rfl rfl rfl ?_
      refine RegC.done ⟨.inl rfl, ?_⟩
      refine WP.nrm 40 ?_
      refine WP.jump (subE.cons rfl (subE.cons rfl (subE.cons rfl (subE.cons rfl (subE.cons rfl (subE.cons rfl (subE.cons rfl (subE.cons rfl (subE.cons rfl (subE.cons rfl (subE.cons rfl (subE.cons rfl (subE.cons rfl (subE.nil)))))))))))))) (.cons_cons _ (List.nil_sublist _)) (ih1 _ ?_ ?_)
      · exact ⟨j2 + 1, by push_cast; rfl, by omega⟩
      · omega
    ·
      refine WP.nrm 40 ?_
      refine WP.reg k_mixed fun nm16 hnm16 => ?_
      refine RegC.m (op_addI rfl (by first | omega | (simp only [List.length_append, List.length_map, List.length_cons, List.length_nil, List.length_replicate, List.length_take, List.length_drop, List.length_set]; omega) | (simp <;> omega) | simp_all)) rfl rfl rfl ?_
      refine RegC.m (op_move rfl) rfl rfl rfl ?_
      refine RegC.done ⟨.inl rfl, ?_⟩
      refine WP.nrm 40 ?_
      refine WP.jump (subE.cons rfl (subE.cons rfl (subE.cons rfl (subE.cons rfl (subE.cons rfl (subE.cons rfl (subE.cons rfl (subE.cons rfl (subE.cons rfl (subE.nil)))))))))) (.cons_cons _ (List.nil_sublist _)) (ih0 _ ?_ ?_)
      · exact ⟨j1 + 1, by push_cast; rfl, by simp at *; omega⟩
      · simp at *; omega
  ·
    refine WP.nrm 40 ?_
    refine WP.reg k_mixed fun nm17 hnm17 => ?_
    refine RegC.m (op_loadVG (cells := (k).map AVal.u8) rfl k_agg_23 (by first | omega | (simp only [List.length_append, List.length_map, List.length_cons, List.length_nil, List.length_replicate, List.length_take, List.length_drop, List.length_set]; omega) | (simp <;> omega) | simp_all | rfl) (prW (by first | omega | (simp only [List.length_append, List.length_map, List.length_cons, List.length_nil, List.length_replicate, List.length_take, List.length_drop, List.length_set]; omega) | (simp <;> omega) | simp_all | rfl))) rfl rfl rfl ?_
    refine RegC.m (op_move rfl) rfl rfl rfl ?_
    refine RegC.m (op_move rfl) rfl rfl rfl ?_
    refine RegC.m (op_lenV (f := AVal.u8) (l := text) rfl k_sl_26) rfl rfl rfl ?_
    refine RegC.m (op_min rfl) rfl rfl rfl ?_
    refine RegC.m (op_sV01 (f := AVal.u8) (l := text) ((min (text).length 9)) rfl k_sl_26 (by first | omega | (simp only [List.length_append, List.length_map, List.length_cons, List.length_nil, List.length_replicate, List.length_take, List.length_drop, List.length_set]; omega) | (simp <;> omega) | simp_all) (by first | omega | (simp only [List.length_append, List.length_map, List.length_cons, List.length_nil, List.length_replicate, List.length_take, List.length_drop, List.length_set]; omega) | (simp <;> omega) | simp_all)) rfl rfl rfl ?_
    refine RegC.m (op_move rfl) rfl rfl rfl ?_
    refine RegC.m (op_move rfl) rfl rfl rfl ?_
    refine RegC.m (op_call rfl k_call_33 (opened_calls (k) (by first | omega | (simp only [List.length_append, List.length_map, List.length_cons, List.length_nil, List.length_replicate, List.length_take, List.length_drop, List.length_set]; omega) | (simp <;> omega) | simp_all | rfl) false false ((text).take ((min (text).length 9))) (sealS (k) (n) (head) (text) (block)) (by first | omega | (simp only [List.length_append, List.length_map, List.length_cons, List.length_nil, List.length_replicate, List.length_take, List.length_drop, List.length_set]; omega) | (simp <;> omega) | simp_all) (by first | omega | (simp only [List.length_append, List.length_map, List.length_cons, List.length_nil, List.length_replicate, List.length_take, List.length_drop, List.length_set]; omega) | (simp <;> omega) | simp_all) (i))) rfl rfl rfl ?_
    refine RegC.m (op_assign rfl) rfl rfl rfl ?_
    refine RegC.done ⟨.inr rfl, ?_⟩
    refine WP.nrm 40 ?_
    refine WP.retS (ResV.one rfl (.tmp rfl)) (List.nil_sublist _) ?_
    exact ⟨rfl, rfl⟩
end Go.Proofs.Try
