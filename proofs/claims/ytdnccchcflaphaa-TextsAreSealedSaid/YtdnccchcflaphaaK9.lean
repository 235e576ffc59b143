import Derived.Test.YtdnccchcflaphaaK8
import Derived.Test.YtdnccchcflaphaaFF
import Derived.Test.YtdnccchcflaphaaS9
namespace Go.Proofs.Try
open Go Go.Kw
set_option linter.unusedVariables false
set_option linter.unusedSimpArgs false
set_option maxRecDepth 100000
set_option maxHeartbeats 400000
theorem k_zero_23 : zeroT Try.prog 23 = some ((List.replicate 32 (0 : UInt8)).map AVal.u8) := by kernel_rfl
theorem k_call_123 : callable Try.prog 123 = true := by kernel_rfl
theorem k_call_115 : callable Try.prog 115 = true := by kernel_rfl
theorem k_agg_22 : aggT Try.prog 22 = some 32 := by kernel_rfl
theorem k_fld_142_0 : fieldT Try.prog 142 0 = some 0 := by kernel_rfl
theorem k_fld_142_1 : fieldT Try.prog 142 1 = some 1 := by kernel_rfl
theorem k_call_57 : callable Try.prog 57 = true := by kernel_rfl
theorem k_fld_142_2 : fieldT Try.prog 142 2 = some 2 := by kernel_rfl
theorem k_fld_142_4 : fieldT Try.prog 142 4 = some 34 := by kernel_rfl
theorem k_fld_142_6 : fieldT Try.prog 142 6 = some 82 := by kernel_rfl
theorem k_call_90 : callable Try.prog 90 = true := by kernel_rfl
theorem k_fld_142_3 : fieldT Try.prog 142 3 = some 18 := by kernel_rfl
theorem k_plA_54 : placesT Try.prog 54 = some (fun i => some (i * 1, 1)) := by kernel_rfl
theorem k_arr8_54 : arr8T Try.prog 54 16 = true := by kernel_rfl
theorem k_fld_142_5 : fieldT Try.prog 142 5 = some 50 := by kernel_rfl
theorem k_plA_43 : placesT Try.prog 43 = some (fun i => some (i * 1, 1)) := by kernel_rfl
theorem k_agg_142 : aggT Try.prog 142 = some 130 := by kernel_rfl
theorem k_call_116 : callable Try.prog 116 = true := by kernel_rfl
theorem k_fld_142_7 : fieldT Try.prog 142 7 = some 114 := by kernel_rfl
theorem k_call_89 : callable Try.prog 89 = true := by kernel_rfl
theorem k_call_91 : callable Try.prog 91 = true := by kernel_rfl
theorem k_pl_142 : placesT Try.prog 142 = some (fun i => (#[(0, 1), (1, 1), (2, 16), (18, 16), (34, 16), (50, 32), (82, 32), (114, 16)] : Array (Nat × Nat))[i]?) := by kernel_rfl
theorem k_zeroS_142 : zeroT Try.prog 142 = some ([.i (0)] ++ ([.i (0)] ++ (((List.replicate 16 (0 : UInt8)).map AVal.u8) ++ (((List.replicate 16 (0 : UInt8)).map AVal.u8) ++ (((List.replicate 16 (0 : UInt8)).map AVal.u8) ++ (((List.replicate 32 (0 : UInt8)).map AVal.u8) ++ (((List.replicate 32 (0 : UInt8)).map AVal.u8) ++ ((List.replicate 16 (0 : UInt8)).map AVal.u8)))))))) := by kernel_rfl
theorem k_call_93 : callable Try.prog 93 = true := by kernel_rfl
theorem k_call_94 : callable Try.prog 94 = true := by kernel_rfl
theorem k_call_95 : callable Try.prog 95 = true := by kernel_rfl
theorem k_plA_23 : placesT Try.prog 23 = some (fun i => some (i * 1, 1)) := by kernel_rfl
theorem k_plA_25 : placesT Try.prog 25 = some (fun i => some (i * 1, 1)) := by kernel_rfl
theorem k_zero_25 : zeroT Try.prog 25 = some ((List.replicate 16 (0 : UInt8)).map AVal.u8) := by kernel_rfl
theorem k_call_60 : callable Try.prog 60 = true := by kernel_rfl

theorem isName_wrap  : ACalls Try.prog 123 [.str ([119, 114, 97, 112])] [] [] (.bool true) [] := by
  refine ACalls.of_wp' (fn := Try.f123) (n := 48) Try.func123 rfl rfl ?_
  unfold Try.f123
  refine WP.nrm 40 ?_
  refine WP.reg k_mixed fun nm1 hnm1 => ?_
  refine RegC.m (op_assign rfl) rfl rfl rfl ?_
  refine RegC.done ⟨.inl rfl, ?_⟩
  refine WP.nrm 40 ?_
  refine WP.reg k_mixed fun nm2 hnm2 => ?_
  refine RegC.m (op_assign rfl) rfl rfl rfl ?_
  refine RegC.done ⟨.inl rfl, ?_⟩
  refine WP.nrm 40 ?_
  refine WP.loop ?_
  refine WP.nrm 40 ?_
  refine WP.reg k_mixed fun nm3 hnm3 => ?_
  refine RegC.m (op_move rfl) rfl rfl rfl ?_
  refine RegC.m (op_move rfl) rfl rfl rfl ?_
  refine RegC.m (op_len_str rfl k_undS_9) rfl rfl rfl ?_
  refine RegC.m (op_lss rfl) rfl rfl rfl ?_
  refine RegC.done ⟨.inl rfl, ?_⟩
  refine WP.nrm 40 ?_
  refine WP.cond (t := true) rfl ?_
  refine WP.nrm 40 ?_
  refine WP.reg k_mixed fun nm4 hnm4 => ?_
  refine RegC.m (op_move rfl) rfl rfl rfl ?_
  refine RegC.m (op_move rfl) rfl rfl rfl ?_
  refine RegC.m (op_xS (l := [119, 114, 97, 112]) (0) rfl k_undS_9 rfl (by decide)) rfl rfl rfl ?_
  refine RegC.m (op_assign rfl) rfl rfl rfl ?_
  refine RegC.done ⟨.inl rfl, ?_⟩
  refine WP.nrm 40 ?_
  refine WP.reg k_mixed fun nm5 hnm5 => ?_
  refine RegC.m (op_move rfl) rfl rfl rfl ?_
  refine RegC.m (op_geq rfl) rfl rfl rfl ?_
  refine RegC.m (op_move rfl) rfl rfl rfl ?_
  refine RegC.m (op_move rfl) rfl rfl rfl ?_
  refine RegC.m (op_leq rfl) rfl rfl rfl ?_
  refine RegC.m (op_pick rfl) rfl rfl rfl ?_
  refine RegC.m (op_move rfl) rfl rfl rfl ?_
  refine RegC.skip rfl rfl ?_
  refine RegC.skip rfl rfl ?_
  refine RegC.skip rfl rfl ?_
  refine RegC.skip rfl rfl ?_
  refine RegC.skip rfl rfl ?_
  refine RegC.skip rfl rfl ?_
  refine RegC.m (op_pick rfl) rfl rfl rfl ?_
  refine RegC.m (op_move rfl) rfl rfl rfl ?_
  refine RegC.skip rfl rfl ?_
  refine RegC.skip rfl rfl ?_
  refine RegC.m (op_pick rfl) rfl rfl rfl ?_
  refine RegC.m (op_move rfl) rfl rfl rfl ?_
  refine RegC.skip rfl rfl ?_
  refine RegC.skip rfl rfl ?_
  refine RegC.m (op_pick rfl) rfl rfl rfl ?_
  refine RegC.m (op_move rfl) rfl rfl rfl ?_
  refine RegC.skip rfl rfl ?_
  refine RegC.skip rfl rfl ?_
  refine RegC.m (op_pick rfl) rfl rfl rfl ?_
  refine RegC.m (op_not rfl) rfl rfl rfl ?_
  refine RegC.done ⟨.inl rfl, ?_⟩
  refine WP.nrm 40 ?_
  refine WP.cond (t := false) rfl ?_
  refine WP.nrm 40 ?_
  refine WP.reg k_mixed fun nm6 hnm6 => ?_
  refine RegC.m (op_move rfl) rfl rfl rfl ?_
  refine RegC.m (op_addI rfl (by omega)) rfl rfl rfl ?_
  refine RegC.m (op_assign rfl) rfl rfl rfl ?_
  refine RegC.done ⟨.inl rfl, ?_⟩
  refine WP.nrm 40 ?_
  refine WP.inLoop ?_
  refine WP.nrm 40 ?_
  refine WP.reg k_mixed fun nm7 hnm7 => ?_
  refine RegC.m (op_move rfl) rfl rfl rfl ?_
  refine RegC.m (op_move rfl) rfl rfl rfl ?_
  refine RegC.m (op_len_str rfl k_undS_9) rfl rfl rfl ?_
  refine RegC.m (op_lss rfl) rfl rfl rfl ?_
  refine RegC.done ⟨.inl rfl, ?_⟩
  refine WP.nrm 40 ?_
  refine WP.cond (t := true) rfl ?_
  refine WP.nrm 40 ?_
  refine WP.reg k_mixed fun nm8 hnm8 => ?_
  refine RegC.m (op_move rfl) rfl rfl rfl ?_
  refine RegC.m (op_move rfl) rfl rfl rfl ?_
  refine RegC.m (op_xS (l := [119, 114, 97, 112]) (1) rfl k_undS_9 rfl (by decide)) rfl rfl rfl ?_
  refine RegC.m (op_assign rfl) rfl rfl rfl ?_
  refine RegC.done ⟨.inl rfl, ?_⟩
  refine WP.nrm 40 ?_
  refine WP.reg k_mixed fun nm9 hnm9 => ?_
  refine RegC.m (op_move rfl) rfl rfl rfl ?_
  refine RegC.m (op_geq rfl) rfl rfl rfl ?_
  refine RegC.m (op_move rfl) rfl rfl rfl ?_
  refine RegC.m (op_move rfl) rfl rfl rfl ?_
  refine RegC.m (op_leq rfl) rfl rfl rfl ?_
  refine RegC.m (op_pick rfl) rfl rfl rfl ?_
  refine RegC.m (op_move rfl) rfl rfl rfl ?_
  refine RegC.skip rfl rfl ?_
  refine RegC.skip rfl rfl ?_
  refine RegC.skip rfl rfl ?_
  refine RegC.skip rfl rfl ?_
  refine RegC.skip rfl rfl ?_
  refine RegC.skip rfl rfl ?_
  refine RegC.m (op_pick rfl) rfl rfl rfl ?_
  refine RegC.m (op_move rfl) rfl rfl rfl ?_
  refine RegC.skip rfl rfl ?_
  refine RegC.skip rfl rfl ?_
  refine RegC.m (op_pick rfl) rfl rfl rfl ?_
  refine RegC.m (op_move rfl) rfl rfl rfl ?_
  refine RegC.skip rfl rfl ?_
  refine RegC.skip rfl rfl ?_
  refine RegC.m (op_pick rfl) rfl rfl rfl ?_
  refine RegC.m (op_move rfl) rfl rfl rfl ?_
  refine RegC.skip rfl rfl ?_
  refine RegC.skip rfl rfl ?_
  refine RegC.m (op_pick rfl) rfl rfl rfl ?_
  refine RegC.m (op_not rfl) rfl rfl rfl ?_
  refine RegC.done ⟨.inl rfl, ?_⟩
  refine WP.nrm 40 ?_
  refine WP.cond (t := false) rfl ?_
  refine WP.nrm 40 ?_
  refine WP.reg k_mixed fun nm10 hnm10 => ?_
  refine RegC.m (op_move rfl) rfl rfl rfl ?_
  refine RegC.m (op_addI rfl (by omega)) rfl rfl rfl ?_
  refine RegC.m (op_assign rfl) rfl rfl rfl ?_
  refine RegC.done ⟨.inl rfl, ?_⟩
  refine WP.nrm 40 ?_
  refine WP.inLoop ?_
  refine WP.nrm 40 ?_
  refine WP.reg k_mixed fun nm11 hnm11 => ?_
  refine RegC.m (op_move rfl) rfl rfl rfl ?_
  refine RegC.m (op_move rfl) rfl rfl rfl ?_
  refine RegC.m (op_len_str rfl k_undS_9) rfl rfl rfl ?_
  refine RegC.m (op_lss rfl) rfl rfl rfl ?_
  refine RegC.done ⟨.inl rfl, ?_⟩
  refine WP.nrm 40 ?_
  refine WP.cond (t := true) rfl ?_
  refine WP.nrm 40 ?_
  refine WP.reg k_mixed fun nm12 hnm12 => ?_
  refine RegC.m (op_move rfl) rfl rfl rfl ?_
  refine RegC.m (op_move rfl) rfl rfl rfl ?_
  refine RegC.m (op_xS (l := [119, 114, 97, 112]) (2) rfl k_undS_9 rfl (by decide)) rfl rfl rfl ?_
  refine RegC.m (op_assign rfl) rfl rfl rfl ?_
  refine RegC.done ⟨.inl rfl, ?_⟩
  refine WP.nrm 40 ?_
  refine WP.reg k_mixed fun nm13 hnm13 => ?_
  refine RegC.m (op_move rfl) rfl rfl rfl ?_
  refine RegC.m (op_geq rfl) rfl rfl rfl ?_
  refine RegC.m (op_move rfl) rfl rfl rfl ?_
  refine RegC.m (op_move rfl) rfl rfl rfl ?_
  refine RegC.m (op_leq rfl) rfl rfl rfl ?_
  refine RegC.m (op_pick rfl) rfl rfl rfl ?_
  refine RegC.m (op_move rfl) rfl rfl rfl ?_
  refine RegC.skip rfl rfl ?_
  refine RegC.skip rfl rfl ?_
  refine RegC.skip rfl rfl ?_
  refine RegC.skip rfl rfl ?_
  refine RegC.skip rfl rfl ?_
  refine RegC.skip rfl rfl ?_
  refine RegC.m (op_pick rfl) rfl rfl rfl ?_
  refine RegC.m (op_move rfl) rfl rfl rfl ?_
  refine RegC.skip rfl rfl ?_
  refine RegC.skip rfl rfl ?_
  refine RegC.m (op_pick rfl) rfl rfl rfl ?_
  refine RegC.m (op_move rfl) rfl rfl rfl ?_
  refine RegC.skip rfl rfl ?_
  refine RegC.skip rfl rfl ?_
  refine RegC.m (op_pick rfl) rfl rfl rfl ?_
  refine RegC.m (op_move rfl) rfl rfl rfl ?_
  refine RegC.skip rfl rfl ?_
  refine RegC.skip rfl rfl ?_
  refine RegC.m (op_pick rfl) rfl rfl rfl ?_
  refine RegC.m (op_not rfl) rfl rfl rfl ?_
  refine RegC.done ⟨.inl rfl, ?_⟩
  refine WP.nrm 40 ?_
  refine WP.cond (t := false) rfl ?_
  refine WP.nrm 40 ?_
  refine WP.reg k_mixed fun nm14 hnm14 => ?_
  refine RegC.m (op_move rfl) rfl rfl rfl ?_
  refine RegC.m (op_addI rfl (by omega)) rfl rfl rfl ?_
  refine RegC.m (op_assign rfl) rfl rfl rfl ?_
  refine RegC.done ⟨.inl rfl, ?_⟩
  refine WP.nrm 40 ?_
  refine WP.inLoop ?_
  refine WP.nrm 40 ?_
  refine WP.reg k_mixed fun nm15 hnm15 => ?_
  refine RegC.m (op_move rfl) rfl rfl rfl ?_
  refine RegC.m (op_move rfl) rfl rfl rfl ?_
  refine RegC.m (op_len_str rfl k_undS_9) rfl rfl rfl ?_
  refine RegC.m (op_lss rfl) rfl rfl rfl ?_
  refine RegC.done ⟨.inl rfl, ?_⟩
  refine WP.nrm 40 ?_
  refine WP.cond (t := true) rfl ?_
  refine WP.nrm 40 ?_
  refine WP.reg k_mixed fun nm16 hnm16 => ?_
  refine RegC.m (op_move rfl) rfl rfl rfl ?_
  refine RegC.m (op_move rfl) rfl rfl rfl ?_
  refine RegC.m (op_xS (l := [119, 114, 97, 112]) (3) rfl k_undS_9 rfl (by decide)) rfl rfl rfl ?_
  refine RegC.m (op_assign rfl) rfl rfl rfl ?_
  refine RegC.done ⟨.inl rfl, ?_⟩
  refine WP.nrm 40 ?_
  refine WP.reg k_mixed fun nm17 hnm17 => ?_
  refine RegC.m (op_move rfl) rfl rfl rfl ?_
  refine RegC.m (op_geq rfl) rfl rfl rfl ?_
  refine RegC.m (op_move rfl) rfl rfl rfl ?_
  refine RegC.m (op_move rfl) rfl rfl rfl ?_
  refine RegC.m (op_leq rfl) rfl rfl rfl ?_
  refine RegC.m (op_pick rfl) rfl rfl rfl ?_
  refine RegC.m (op_move rfl) rfl rfl rfl ?_
  refine RegC.skip rfl rfl ?_
  refine RegC.skip rfl rfl ?_
  refine RegC.skip rfl rfl ?_
  refine RegC.skip rfl rfl ?_
  refine RegC.skip rfl rfl ?_
  refine RegC.skip rfl rfl ?_
  refine RegC.m (op_pick rfl) rfl rfl rfl ?_
  refine RegC.m (op_move rfl) rfl rfl rfl ?_
  refine RegC.skip rfl rfl ?_
  refine RegC.skip rfl rfl ?_
  refine RegC.m (op_pick rfl) rfl rfl rfl ?_
  refine RegC.m (op_move rfl) rfl rfl rfl ?_
  refine RegC.skip rfl rfl ?_
  refine RegC.skip rfl rfl ?_
  refine RegC.m (op_pick rfl) rfl rfl rfl ?_
  refine RegC.m (op_move rfl) rfl rfl rfl ?_
  refine RegC.skip rfl rfl ?_
  refine RegC.skip rfl rfl ?_
  refine RegC.m (op_pick rfl) rfl rfl rfl ?_
  refine RegC.m (op_not rfl) rfl rfl rfl ?_
  refine RegC.done ⟨.inl rfl, ?_⟩
  refine WP.nrm 40 ?_
  refine WP.cond (t := false) rfl ?_
  refine WP.nrm 40 ?_
  refine WP.reg k_mixed fun nm18 hnm18 => ?_
  refine RegC.m (op_move rfl) rfl rfl rfl ?_
  refine RegC.m (op_addI rfl (by omega)) rfl rfl rfl ?_
  refine RegC.m (op_assign rfl) rfl rfl rfl ?_
  refine RegC.done ⟨.inl rfl, ?_⟩
  refine WP.nrm 40 ?_
  refine WP.inLoop ?_
  refine WP.nrm 40 ?_
  refine WP.reg k_mixed fun nm19 hnm19 => ?_
  refine RegC.m (op_move rfl) rfl rfl rfl ?_
  refine RegC.m (op_move rfl) rfl rfl rfl ?_
  refine RegC.m (op_len_str rfl k_undS_9) rfl rfl rfl ?_
  refine RegC.m (op_lss rfl) rfl rfl rfl ?_
  refine RegC.done ⟨.inl rfl, ?_⟩
  refine WP.nrm 40 ?_
  refine WP.cond (t := false) rfl ?_
  refine WP.nrm 40 ?_
  refine WP.reg k_mixed fun nm20 hnm20 => ?_
  refine RegC.m (op_move rfl) rfl rfl rfl ?_
  refine RegC.m (OpV.boolE (t := (!(([119, 114, 97, 112] : List UInt8) == []))) (u := true) (op_neqS rfl) rfl) rfl rfl rfl ?_
  refine RegC.m (op_move rfl) rfl rfl rfl ?_
  refine RegC.m (op_move rfl) rfl rfl rfl ?_
  refine RegC.m (op_len_str rfl k_undS_9) rfl rfl rfl ?_
  refine RegC.m (op_leq rfl) rfl rfl rfl ?_
  refine RegC.m (op_pick rfl) rfl rfl rfl ?_
  refine RegC.m (op_assign rfl) rfl rfl rfl ?_
  refine RegC.done ⟨.inl rfl, ?_⟩
  refine WP.nrm 40 ?_
  refine WP.retS (ResV.one rfl (.tmp rfl)) (List.nil_sublist _) ?_
  exact ⟨rfl, rfl⟩

theorem isName_tag  : ACalls Try.prog 123 [.str ([116, 97, 103])] [] [] (.bool true) [] := by
  refine ACalls.of_wp' (fn := Try.f123) (n := 48) Try.func123 rfl rfl ?_
  unfold Try.f123
  refine WP.nrm 40 ?_
  refine WP.reg k_mixed fun nm1 hnm1 => ?_
  refine RegC.m (op_assign rfl) rfl rfl rfl ?_
  refine RegC.done ⟨.inl rfl, ?_⟩
  refine WP.nrm 40 ?_
  refine WP.reg k_mixed fun nm2 hnm2 => ?_
  refine RegC.m (op_assign rfl) rfl rfl rfl ?_
  refine RegC.done ⟨.inl rfl, ?_⟩
  refine WP.nrm 40 ?_
  refine WP.loop ?_
  refine WP.nrm 40 ?_
  refine WP.reg k_mixed fun nm3 hnm3 => ?_
  refine RegC.m (op_move rfl) rfl rfl rfl ?_
  refine RegC.m (op_move rfl) rfl rfl rfl ?_
  refine RegC.m (op_len_str rfl k_undS_9) rfl rfl rfl ?_
  refine RegC.m (op_lss rfl) rfl rfl rfl ?_
  refine RegC.done ⟨.inl rfl, ?_⟩
  refine WP.nrm 40 ?_
  refine WP.cond (t := true) rfl ?_
  refine WP.nrm 40 ?_
  refine WP.reg k_mixed fun nm4 hnm4 => ?_
  refine RegC.m (op_move rfl) rfl rfl rfl ?_
  refine RegC.m (op_move rfl) rfl rfl rfl ?_
  refine RegC.m (op_xS (l := [116, 97, 103]) (0) rfl k_undS_9 rfl (by decide)) rfl rfl rfl ?_
  refine RegC.m (op_assign rfl) rfl rfl rfl ?_
  refine RegC.done ⟨.inl rfl, ?_⟩
  refine WP.nrm 40 ?_
  refine WP.reg k_mixed fun nm5 hnm5 => ?_
  refine RegC.m (op_move rfl) rfl rfl rfl ?_
  refine RegC.m (op_geq rfl) rfl rfl rfl ?_
  refine RegC.m (op_move rfl) rfl rfl rfl ?_
  refine RegC.m (op_move rfl) rfl rfl rfl ?_
  refine RegC.m (op_leq rfl) rfl rfl rfl ?_
  refine RegC.m (op_pick rfl) rfl rfl rfl ?_
  refine RegC.m (op_move rfl) rfl rfl rfl ?_
  refine RegC.skip rfl rfl ?_
  refine RegC.skip rfl rfl ?_
  refine RegC.skip rfl rfl ?_
  refine RegC.skip rfl rfl ?_
  refine RegC.skip rfl rfl ?_
  refine RegC.skip rfl rfl ?_
  refine RegC.m (op_pick rfl) rfl rfl rfl ?_
  refine RegC.m (op_move rfl) rfl rfl rfl ?_
  refine RegC.skip rfl rfl ?_
  refine RegC.skip rfl rfl ?_
  refine RegC.m (op_pick rfl) rfl rfl rfl ?_
  refine RegC.m (op_move rfl) rfl rfl rfl ?_
  refine RegC.skip rfl rfl ?_
  refine RegC.skip rfl rfl ?_
  refine RegC.m (op_pick rfl) rfl rfl rfl ?_
  refine RegC.m (op_move rfl) rfl rfl rfl ?_
  refine RegC.skip rfl rfl ?_
  refine RegC.skip rfl rfl ?_
  refine RegC.m (op_pick rfl) rfl rfl rfl ?_
  refine RegC.m (op_not rfl) rfl rfl rfl ?_
  refine RegC.done ⟨.inl rfl, ?_⟩
  refine WP.nrm 40 ?_
  refine WP.cond (t := false) rfl ?_
  refine WP.nrm 40 ?_
  refine WP.reg k_mixed fun nm6 hnm6 => ?_
  refine RegC.m (op_move rfl) rfl rfl rfl ?_
  refine RegC.m (op_addI rfl (by omega)) rfl rfl rfl ?_
  refine RegC.m (op_assign rfl) rfl rfl rfl ?_
  refine RegC.done ⟨.inl rfl, ?_⟩
  refine WP.nrm 40 ?_
  refine WP.inLoop ?_
  refine WP.nrm 40 ?_
  refine WP.reg k_mixed fun nm7 hnm7 => ?_
  refine RegC.m (op_move rfl) rfl rfl rfl ?_
  refine RegC.m (op_move rfl) rfl rfl rfl ?_
  refine RegC.m (op_len_str rfl k_undS_9) rfl rfl rfl ?_
  refine RegC.m (op_lss rfl) rfl rfl rfl ?_
  refine RegC.done ⟨.inl rfl, ?_⟩
  refine WP.nrm 40 ?_
  refine WP.cond (t := true) rfl ?_
  refine WP.nrm 40 ?_
  refine WP.reg k_mixed fun nm8 hnm8 => ?_
  refine RegC.m (op_move rfl) rfl rfl rfl ?_
  refine RegC.m (op_move rfl) rfl rfl rfl ?_
  refine RegC.m (op_xS (l := [116, 97, 103]) (1) rfl k_undS_9 rfl (by decide)) rfl rfl rfl ?_
  refine RegC.m (op_assign rfl) rfl rfl rfl ?_
  refine RegC.done ⟨.inl rfl, ?_⟩
  refine WP.nrm 40 ?_
  refine WP.reg k_mixed fun nm9 hnm9 => ?_
  refine RegC.m (op_move rfl) rfl rfl rfl ?_
  refine RegC.m (op_geq rfl) rfl rfl rfl ?_
  refine RegC.m (op_move rfl) rfl rfl rfl ?_
  refine RegC.m (op_move rfl) rfl rfl rfl ?_
  refine RegC.m (op_leq rfl) rfl rfl rfl ?_
  refine RegC.m (op_pick rfl) rfl rfl rfl ?_
  refine RegC.m (op_move rfl) rfl rfl rfl ?_
  refine RegC.skip rfl rfl ?_
  refine RegC.skip rfl rfl ?_
  refine RegC.skip rfl rfl ?_
  refine RegC.skip rfl rfl ?_
  refine RegC.skip rfl rfl ?_
  refine RegC.skip rfl rfl ?_
  refine RegC.m (op_pick rfl) rfl rfl rfl ?_
  refine RegC.m (op_move rfl) rfl rfl rfl ?_
  refine RegC.skip rfl rfl ?_
  refine RegC.skip rfl rfl ?_
  refine RegC.m (op_pick rfl) rfl rfl rfl ?_
  refine RegC.m (op_move rfl) rfl rfl rfl ?_
  refine RegC.skip rfl rfl ?_
  refine RegC.skip rfl rfl ?_
  refine RegC.m (op_pick rfl) rfl rfl rfl ?_
  refine RegC.m (op_move rfl) rfl rfl rfl ?_
  refine RegC.skip rfl rfl ?_
  refine RegC.skip rfl rfl ?_
  refine RegC.m (op_pick rfl) rfl rfl rfl ?_
  refine RegC.m (op_not rfl) rfl rfl rfl ?_
  refine RegC.done ⟨.inl rfl, ?_⟩
  refine WP.nrm 40 ?_
  refine WP.cond (t := false) rfl ?_
  refine WP.nrm 40 ?_
  refine WP.reg k_mixed fun nm10 hnm10 => ?_
  refine RegC.m (op_move rfl) rfl rfl rfl ?_
  refine RegC.m (op_addI rfl (by omega)) rfl rfl rfl ?_
  refine RegC.m (op_assign rfl) rfl rfl rfl ?_
  refine RegC.done ⟨.inl rfl, ?_⟩
  refine WP.nrm 40 ?_
  refine WP.inLoop ?_
  refine WP.nrm 40 ?_
  refine WP.reg k_mixed fun nm11 hnm11 => ?_
  refine RegC.m (op_move rfl) rfl rfl rfl ?_
  refine RegC.m (op_move rfl) rfl rfl rfl ?_
  refine RegC.m (op_len_str rfl k_undS_9) rfl rfl rfl ?_
  refine RegC.m (op_lss rfl) rfl rfl rfl ?_
  refine RegC.done ⟨.inl rfl, ?_⟩
  refine WP.nrm 40 ?_
  refine WP.cond (t := true) rfl ?_
  refine WP.nrm 40 ?_
  refine WP.reg k_mixed fun nm12 hnm12 => ?_
  refine RegC.m (op_move rfl) rfl rfl rfl ?_
  refine RegC.m (op_move rfl) rfl rfl rfl ?_
  refine RegC.m (op_xS (l := [116, 97, 103]) (2) rfl k_undS_9 rfl (by decide)) rfl rfl rfl ?_
  refine RegC.m (op_assign rfl) rfl rfl rfl ?_
  refine RegC.done ⟨.inl rfl, ?_⟩
  refine WP.nrm 40 ?_
  refine WP.reg k_mixed fun nm13 hnm13 => ?_
  refine RegC.m (op_move rfl) rfl rfl rfl ?_
  refine RegC.m (op_geq rfl) rfl rfl rfl ?_
  refine RegC.m (op_move rfl) rfl rfl rfl ?_
  refine RegC.m (op_move rfl) rfl rfl rfl ?_
  refine RegC.m (op_leq rfl) rfl rfl rfl ?_
  refine RegC.m (op_pick rfl) rfl rfl rfl ?_
  refine RegC.m (op_move rfl) rfl rfl rfl ?_
  refine RegC.skip rfl rfl ?_
  refine RegC.skip rfl rfl ?_
  refine RegC.skip rfl rfl ?_
  refine RegC.skip rfl rfl ?_
  refine RegC.skip rfl rfl ?_
  refine RegC.skip rfl rfl ?_
  refine RegC.m (op_pick rfl) rfl rfl rfl ?_
  refine RegC.m (op_move rfl) rfl rfl rfl ?_
  refine RegC.skip rfl rfl ?_
  refine RegC.skip rfl rfl ?_
  refine RegC.m (op_pick rfl) rfl rfl rfl ?_
  refine RegC.m (op_move rfl) rfl rfl rfl ?_
  refine RegC.skip rfl rfl ?_
  refine RegC.skip rfl rfl ?_
  refine RegC.m (op_pick rfl) rfl rfl rfl ?_
  refine RegC.m (op_move rfl) rfl rfl rfl ?_
  refine RegC.skip rfl rfl ?_
  refine RegC.skip rfl rfl ?_
  refine RegC.m (op_pick rfl) rfl rfl rfl ?_
  refine RegC.m (op_not rfl) rfl rfl rfl ?_
  refine RegC.done ⟨.inl rfl, ?_⟩
  refine WP.nrm 40 ?_
  refine WP.cond (t := false) rfl ?_
  refine WP.nrm 40 ?_
  refine WP.reg k_mixed fun nm14 hnm14 => ?_
  refine RegC.m (op_move rfl) rfl rfl rfl ?_
  refine RegC.m (op_addI rfl (by omega)) rfl rfl rfl ?_
  refine RegC.m (op_assign rfl) rfl rfl rfl ?_
  refine RegC.done ⟨.inl rfl, ?_⟩
  refine WP.nrm 40 ?_
  refine WP.inLoop ?_
  refine WP.nrm 40 ?_
  refine WP.reg k_mixed fun nm15 hnm15 => ?_
  refine RegC.m (op_move rfl) rfl rfl rfl ?_
  refine RegC.m (op_move rfl) rfl rfl rfl ?_
  refine RegC.m (op_len_str rfl k_undS_9) rfl rfl rfl ?_
  refine RegC.m (op_lss rfl) rfl rfl rfl ?_
  refine RegC.done ⟨.inl rfl, ?_⟩
  refine WP.nrm 40 ?_
  refine WP.cond (t := false) rfl ?_
  refine WP.nrm 40 ?_
  refine WP.reg k_mixed fun nm16 hnm16 => ?_
  refine RegC.m (op_move rfl) rfl rfl rfl ?_
  refine RegC.m (OpV.boolE (t := (!(([116, 97, 103] : List UInt8) == []))) (u := true) (op_neqS rfl) rfl) rfl rfl rfl ?_
  refine RegC.m (op_move rfl) rfl rfl rfl ?_
  refine RegC.m (op_move rfl) rfl rfl rfl ?_
  refine RegC.m (op_len_str rfl k_undS_9) rfl rfl rfl ?_
  refine RegC.m (op_leq rfl) rfl rfl rfl ?_
  refine RegC.m (op_pick rfl) rfl rfl rfl ?_
  refine RegC.m (op_assign rfl) rfl rfl rfl ?_
  refine RegC.done ⟨.inl rfl, ?_⟩
  refine WP.nrm 40 ?_
  refine WP.retS (ResV.one rfl (.tmp rfl)) (List.nil_sublist _) ?_
  exact ⟨rfl, rfl⟩

theorem derive_wrap (k : List UInt8) (hk : k.length = 32) (ep : Nat) (he : ep ≤ 4294967295) : ACalls Try.prog 115 [.agg ((k).map AVal.u8), .str ([119, 114, 97, 112]), .i ((ep : Int))] [] [] (.tup [.agg ((derS k [119, 114, 97, 112] ep).map AVal.u8), .i 0]) [] := by
  refine ACalls.of_wp' (fn := Try.f115) (n := 41) Try.func115 rfl rfl ?_
  unfold Try.f115
  refine WP.nrm 40 ?_
  refine WP.reg k_mixed fun nm1 hnm1 => ?_
  refine RegC.m (op_boxD rfl) rfl rfl rfl ?_
  refine RegC.a (op_alloc rfl k_zero_23) rfl rfl rfl ?_
  refine RegC.m (op_assign rfl) rfl rfl rfl ?_
  refine RegC.done ⟨.inl rfl, ?_⟩
  refine WP.nrm 40 ?_
  refine WP.reg k_mixed fun nm2 hnm2 => ?_
  refine RegC.m (op_move rfl) rfl rfl rfl ?_
  refine RegC.m (op_call rfl k_call_123 isName_wrap) rfl rfl rfl ?_
  refine RegC.m (op_not rfl) rfl rfl rfl ?_
  refine RegC.done ⟨.inl rfl, ?_⟩
  refine WP.nrm 40 ?_
  refine WP.cond (t := false) rfl ?_
  refine WP.nrm 40 ?_
  refine WP.reg k_mixed fun nm3 hnm3 => ?_
  refine RegC.m (op_move rfl) rfl rfl rfl ?_
  refine RegC.m (OpV.boolF (op_lss rfl) (by omega)) rfl rfl rfl ?_
  refine RegC.m (op_move rfl) rfl rfl rfl ?_
  refine RegC.m (op_move rfl) rfl rfl rfl ?_
  refine RegC.m (OpV.boolF (op_gtr rfl) (by omega)) rfl rfl rfl ?_
  refine RegC.m (op_pick rfl) rfl rfl rfl ?_
  refine RegC.done ⟨.inl rfl, ?_⟩
  refine WP.nrm 40 ?_
  refine WP.cond (t := false) rfl ?_
  refine WP.nrm 40 ?_
  refine WP.reg k_mixed fun nm4 hnm4 => ?_
  refine RegC.m (op_move rfl) rfl rfl rfl ?_
  refine RegC.m (op_cv rfl k_und_3 k_undI_78 (cv_i_64 (by first | exact Int.natCast_nonneg _ | omega))) rfl rfl rfl ?_
  refine RegC.m (op_call rfl k_call_69 (longOctets_calls (UInt64.ofNat (ep)))) rfl rfl rfl ?_
  refine RegC.a (op_alloc rfl k_zero_114) rfl rfl rfl ?_
  refine RegC.w (i := 1) (op_storeW rfl k_agg_114 (by first | omega | (simp only [List.length_append, List.length_map, List.length_cons, List.length_nil, List.length_replicate, List.length_take, List.length_drop, List.length_set]; omega) | (simp <;> omega) | simp_all) (by first | omega | (simp only [List.length_append, List.length_map, List.length_cons, List.length_nil, List.length_replicate, List.length_take, List.length_drop, List.length_set]; omega) | (simp <;> omega) | simp_all) (by first | exact allS (fun _ => rfl) | simp [AVal.scalar])) rfl rfl rfl rfl ?_
  refine RegC.done ⟨.inl rfl, ?_⟩
  refine WP.cold (b := nm4 0) 1 [(8, .vptr ((longS (UInt64.ofNat (ep))).map AVal.u8) (0))] rfl (frzE.cons rfl (.ptr 0) frzE.nil) ?_
  refine WP.nrm 40 ?_
  refine WP.reg k_mixed fun nm5 hnm5 => ?_
  refine RegC.m (op_sVA00f (f := AVal.u8) (l := k) rfl k_arr_23 (by first | omega | (simp only [List.length_append, List.length_map, List.length_cons, List.length_nil, List.length_replicate, List.length_take, List.length_drop, List.length_set]; omega) | (simp <;> omega) | simp_all | rfl)) rfl rfl rfl ?_
  refine RegC.m (op_move rfl) rfl rfl rfl ?_
  refine RegC.m (op_cvStrD (l := [119, 114, 97, 112]) rfl k_undS_9 k_undSl_26 k_undI_5) rfl rfl rfl ?_
  refine RegC.m (OpV.weakR (op_buildSlD (vs := List.map AVal.u8 [(0 : UInt8)]) rfl k_sl_26 k_zeroE_5 rfl rfl rfl (by omega))) rfl rfl rfl ?_
  refine RegC.m (op_sVA00f (f := AVal.u8) (l := longS (UInt64.ofNat (ep))) rfl k_arr_114 (by first | omega | (simp only [List.length_append, List.length_map, List.length_cons, List.length_nil, List.length_replicate, List.length_take, List.length_drop, List.length_set]; omega) | (simp <;> omega) | simp_all | rfl)) rfl rfl rfl ?_
  refine RegC.m (op_buildSlD (zv := .vs 0 true []) (vs := List.map PB [k, [119, 114, 97, 112], [(0 : UInt8)], longS (UInt64.ofNat (ep))]) rfl k_sl_36 k_zeroV_26 rfl rfl rfl (by omega)) rfl rfl rfl ?_
  refine RegC.a (op_call rfl k_call_113 (summed_calls (nm5 0) (7) (by omega) true ([k, [119, 114, 97, 112], [(0 : UInt8)], longS (UInt64.ofNat (ep))]) (by simp [cat] <;> omega) (by simp))) rfl rfl rfl ?_
  refine RegC.m (op_move rfl) rfl rfl rfl ?_
  refine RegC.m (op_extract rfl rfl) rfl rfl rfl ?_
  refine RegC.m (op_extract rfl rfl) rfl rfl rfl ?_
  refine RegC.m (op_assign rfl) rfl rfl rfl ?_
  refine RegC.m (op_assign rfl) rfl rfl rfl ?_
  refine RegC.done ⟨.inr rfl, ?_⟩
  refine WP.nrm 40 ?_
  refine WP.reg k_mixed fun nm6 hnm6 => ?_
  refine RegC.m (op_move rfl) rfl rfl rfl ?_
  refine RegC.m (op_neq rfl) rfl rfl rfl ?_
  refine RegC.done ⟨.inl rfl, ?_⟩
  refine WP.nrm 40 ?_
  refine WP.cond (t := false) rfl ?_
  have hca := canon_all 7 [k, [119, 114, 97, 112], [0], longS (UInt64.ofNat ep)]
  have hsum := sums_same hca
  have hzok := hca.ok
  refine WP.nrm 40 ?_
  refine WP.reg k_mixed fun nm7 hnm7 => ?_
  refine RegC.m (op_move rfl) rfl rfl rfl ?_
  refine RegC.q (i := 1) (op_call rfl k_call_17 (sum_calls (nm5 0) (sumAll (7) ([k, [119, 114, 97, 112], [(0 : UInt8)], longS (UInt64.ofNat (ep))])) ((cat ([k, [119, 114, 97, 112], [(0 : UInt8)], longS (UInt64.ofNat (ep))])).length) (by first | (with_reducible assumption) | exact takeS_ok _ (by assumption)))) rfl rfl rfl rfl ?_
  refine RegC.w (i := 0) (op_storeW rfl k_agg_23 (by first | omega | (simp only [List.length_append, List.length_map, List.length_cons, List.length_nil, List.length_replicate, List.length_take, List.length_drop, List.length_set]; omega) | (simp <;> omega) | simp_all) (by first | omega | (simp only [List.length_append, List.length_map, List.length_cons, List.length_nil, List.length_replicate, List.length_take, List.length_drop, List.length_set]; omega) | (simp <;> omega) | simp_all) (by first | exact allS (fun _ => rfl) | simp [AVal.scalar])) rfl rfl rfl rfl ?_
  refine RegC.m (op_assign rfl) rfl rfl rfl ?_
  refine RegC.done ⟨.inl rfl, ?_⟩
  refine WP.nrm 40 ?_
  refine WP.retS (ResV.many rfl rfl (.cons (.cellW 0 rfl rfl k_agg_23 (by first | omega | (simp only [List.length_append, List.length_map, List.length_cons, List.length_nil, List.length_replicate, List.length_take, List.length_drop, List.length_set]; omega) | (simp <;> omega) | simp_all)) (.cons (.tmp rfl) (RessOf.nil)))) (List.nil_sublist _) ?_
  exact ⟨by rw [hsum, cat4]; rfl, rfl⟩

theorem derive_tag (k : List UInt8) (hk : k.length = 32) (ep : Nat) (he : ep ≤ 4294967295) : ACalls Try.prog 115 [.agg ((k).map AVal.u8), .str ([116, 97, 103]), .i ((ep : Int))] [] [] (.tup [.agg ((derS k [116, 97, 103] ep).map AVal.u8), .i 0]) [] := by
  refine ACalls.of_wp' (fn := Try.f115) (n := 41) Try.func115 rfl rfl ?_
  unfold Try.f115
  refine WP.nrm 40 ?_
  refine WP.reg k_mixed fun nm1 hnm1 => ?_
  refine RegC.m (op_boxD rfl) rfl rfl rfl ?_
  refine RegC.a (op_alloc rfl k_zero_23) rfl rfl rfl ?_
  refine RegC.m (op_assign rfl) rfl rfl rfl ?_
  refine RegC.done ⟨.inl rfl, ?_⟩
  refine WP.nrm 40 ?_
  refine WP.reg k_mixed fun nm2 hnm2 => ?_
  refine RegC.m (op_move rfl) rfl rfl rfl ?_
  refine RegC.m (op_call rfl k_call_123 isName_tag) rfl rfl rfl ?_
  refine RegC.m (op_not rfl) rfl rfl rfl ?_
  refine RegC.done ⟨.inl rfl, ?_⟩
  refine WP.nrm 40 ?_
  refine WP.cond (t := false) rfl ?_
  refine WP.nrm 40 ?_
  refine WP.reg k_mixed fun nm3 hnm3 => ?_
  refine RegC.m (op_move rfl) rfl rfl rfl ?_
  refine RegC.m (OpV.boolF (op_lss rfl) (by omega)) rfl rfl rfl ?_
  refine RegC.m (op_move rfl) rfl rfl rfl ?_
  refine RegC.m (op_move rfl) rfl rfl rfl ?_
  refine RegC.m (OpV.boolF (op_gtr rfl) (by omega)) rfl rfl rfl ?_
  refine RegC.m (op_pick rfl) rfl rfl rfl ?_
  refine RegC.done ⟨.inl rfl, ?_⟩
  refine WP.nrm 40 ?_
  refine WP.cond (t := false) rfl ?_
  refine WP.nrm 40 ?_
  refine WP.reg k_mixed fun nm4 hnm4 => ?_
  refine RegC.m (op_move rfl) rfl rfl rfl ?_
  refine RegC.m (op_cv rfl k_und_3 k_undI_78 (cv_i_64 (by first | exact Int.natCast_nonneg _ | omega))) rfl rfl rfl ?_
  refine RegC.m (op_call rfl k_call_69 (longOctets_calls (UInt64.ofNat (ep)))) rfl rfl rfl ?_
  refine RegC.a (op_alloc rfl k_zero_114) rfl rfl rfl ?_
  refine RegC.w (i := 1) (op_storeW rfl k_agg_114 (by first | omega | (simp only [List.length_append, List.length_map, List.length_cons, List.length_nil, List.length_replicate, List.length_take, List.length_drop, List.length_set]; omega) | (simp <;> omega) | simp_all) (by first | omega | (simp only [List.length_append, List.length_map, List.length_cons, List.length_nil, List.length_replicate, List.length_take, List.length_drop, List.length_set]; omega) | (simp <;> omega) | simp_all) (by first | exact allS (fun _ => rfl) | simp [AVal.scalar])) rfl rfl rfl rfl ?_
  refine RegC.done ⟨.inl rfl, ?_⟩
  refine WP.cold (b := nm4 0) 1 [(8, .vptr ((longS (UInt64.ofNat (ep))).map AVal.u8) (0))] rfl (frzE.cons rfl (.ptr 0) frzE.nil) ?_
  refine WP.nrm 40 ?_
  refine WP.reg k_mixed fun nm5 hnm5 => ?_
  refine RegC.m (op_sVA00f (f := AVal.u8) (l := k) rfl k_arr_23 (by first | omega | (simp only [List.length_append, List.length_map, List.length_cons, List.length_nil, List.length_replicate, List.length_take, List.length_drop, List.length_set]; omega) | (simp <;> omega) | simp_all | rfl)) rfl rfl rfl ?_
  refine RegC.m (op_move rfl) rfl rfl rfl ?_
  refine RegC.m (op_cvStrD (l := [116, 97, 103]) rfl k_undS_9 k_undSl_26 k_undI_5) rfl rfl rfl ?_
  refine RegC.m (OpV.weakR (op_buildSlD (vs := List.map AVal.u8 [(0 : UInt8)]) rfl k_sl_26 k_zeroE_5 rfl rfl rfl (by omega))) rfl rfl rfl ?_
  refine RegC.m (op_sVA00f (f := AVal.u8) (l := longS (UInt64.ofNat (ep))) rfl k_arr_114 (by first | omega | (simp only [List.length_append, List.length_map, List.length_cons, List.length_nil, List.length_replicate, List.length_take, List.length_drop, List.length_set]; omega) | (simp <;> omega) | simp_all | rfl)) rfl rfl rfl ?_
  refine RegC.m (op_buildSlD (zv := .vs 0 true []) (vs := List.map PB [k, [116, 97, 103], [(0 : UInt8)], longS (UInt64.ofNat (ep))]) rfl k_sl_36 k_zeroV_26 rfl rfl rfl (by omega)) rfl rfl rfl ?_
  refine RegC.a (op_call rfl k_call_113 (summed_calls (nm5 0) (7) (by omega) true ([k, [116, 97, 103], [(0 : UInt8)], longS (UInt64.ofNat (ep))]) (by simp [cat] <;> omega) (by simp))) rfl rfl rfl ?_
  refine RegC.m (op_move rfl) rfl rfl rfl ?_
  refine RegC.m (op_extract rfl rfl) rfl rfl rfl ?_
  refine RegC.m (op_extract rfl rfl) rfl rfl rfl ?_
  refine RegC.m (op_assign rfl) rfl rfl rfl ?_
  refine RegC.m (op_assign rfl) rfl rfl rfl ?_
  refine RegC.done ⟨.inr rfl, ?_⟩
  refine WP.nrm 40 ?_
  refine WP.reg k_mixed fun nm6 hnm6 => ?_
  refine RegC.m (op_move rfl) rfl rfl rfl ?_
  refine RegC.m (op_neq rfl) rfl rfl rfl ?_
  refine RegC.done ⟨.inl rfl, ?_⟩
  refine WP.nrm 40 ?_
  refine WP.cond (t := false) rfl ?_
  have hca := canon_all 7 [k, [116, 97, 103], [0], longS (UInt64.ofNat ep)]
  have hsum := sums_same hca
  have hzok := hca.ok
  refine WP.nrm 40 ?_
  refine WP.reg k_mixed fun nm7 hnm7 => ?_
  refine RegC.m (op_move rfl) rfl rfl rfl ?_
  refine RegC.q (i := 1) (op_call rfl k_call_17 (sum_calls (nm5 0) (sumAll (7) ([k, [116, 97, 103], [(0 : UInt8)], longS (UInt64.ofNat (ep))])) ((cat ([k, [116, 97, 103], [(0 : UInt8)], longS (UInt64.ofNat (ep))])).length) (by first | (with_reducible assumption) | exact takeS_ok _ (by assumption)))) rfl rfl rfl rfl ?_
  refine RegC.w (i := 0) (op_storeW rfl k_agg_23 (by first | omega | (simp only [List.length_append, List.length_map, List.length_cons, List.length_nil, List.length_replicate, List.length_take, List.length_drop, List.length_set]; omega) | (simp <;> omega) | simp_all) (by first | omega | (simp only [List.length_append, List.length_map, List.length_cons, List.length_nil, List.length_replicate, List.length_take, List.length_drop, List.length_set]; omega) | (simp <;> omega) | simp_all) (by first | exact allS (fun _ => rfl) | simp [AVal.scalar])) rfl rfl rfl rfl ?_
  refine RegC.m (op_assign rfl) rfl rfl rfl ?_
  refine RegC.done ⟨.inl rfl, ?_⟩
  refine WP.nrm 40 ?_
  refine WP.retS (ResV.many rfl rfl (.cons (.cellW 0 rfl rfl k_agg_23 (by first | omega | (simp only [List.length_append, List.length_map, List.length_cons, List.length_nil, List.length_replicate, List.length_take, List.length_drop, List.length_set]; omega) | (simp <;> omega) | simp_all)) (.cons (.tmp rfl) (RessOf.nil)))) (List.nil_sublist _) ?_
  exact ⟨by rw [hsum, cat4]; rfl, rfl⟩

theorem badEpoch_calls (n : Nat) (hn : n ≤ 4294967295) : ACalls Try.prog 90 [.i ((n : Int))] [] [] (.bool false) [] := by
  refine ACalls.of_wp' (fn := Try.f90) (n := 9) Try.func90 rfl rfl ?_
  unfold Try.f90
  refine WP.nrm 40 ?_
  refine WP.reg k_mixed fun nm1 hnm1 => ?_
  refine RegC.m (op_assign rfl) rfl rfl rfl ?_
  refine RegC.done ⟨.inl rfl, ?_⟩
  refine WP.nrm 40 ?_
  refine WP.reg k_mixed fun nm2 hnm2 => ?_
  refine RegC.m (op_move rfl) rfl rfl rfl ?_
  refine RegC.m (OpV.boolF (op_lss rfl) (by omega)) rfl rfl rfl ?_
  refine RegC.m (op_move rfl) rfl rfl rfl ?_
  refine RegC.m (op_move rfl) rfl rfl rfl ?_
  refine RegC.m (OpV.boolF (op_gtr rfl) (by omega)) rfl rfl rfl ?_
  refine RegC.m (op_pick rfl) rfl rfl rfl ?_
  refine RegC.m (op_assign rfl) rfl rfl rfl ?_
  refine RegC.done ⟨.inl rfl, ?_⟩
  refine WP.nrm 40 ?_
  refine WP.retS (ResV.one rfl (.tmp rfl)) (List.nil_sublist _) ?_
  exact ⟨rfl, rfl⟩

theorem wcover_calls (k : List UInt8) (hk : k.length = 32) (ep : Nat) (he : ep ≤ 4294967295) (n : List UInt8) (hn : n.length = 16) (sc : List UInt8) (hsc : sc.length = 32) : ACalls Try.prog 93 [.agg ((k).map AVal.u8), .i ((ep : Int)), .agg ((n).map AVal.u8), .agg ((sc).map AVal.u8)] [] [] (.agg ((coverS (derS k [119, 114, 97, 112] ep) n sc).map AVal.u8)) [] := by
  refine ACalls.of_wp' (fn := Try.f93) (n := 29) Try.func93 rfl rfl ?_
  unfold Try.f93
  refine WP.nrm 40 ?_
  refine WP.reg k_mixed fun nm1 hnm1 => ?_
  refine RegC.m (op_boxD rfl) rfl rfl rfl ?_
  refine RegC.m (op_boxD rfl) rfl rfl rfl ?_
  refine RegC.m (op_boxD rfl) rfl rfl rfl ?_
  refine RegC.a (op_alloc rfl k_zero_22) rfl rfl rfl ?_
  refine RegC.done ⟨.inl rfl, ?_⟩
  refine WP.nrm 40 ?_
  refine WP.reg k_mixed fun nm2 hnm2 => ?_
  refine RegC.m (op_loadVG (cells := (k).map AVal.u8) rfl k_agg_23 (by first | omega | (simp only [List.length_append, List.length_map, List.length_cons, List.length_nil, List.length_replicate, List.length_take, List.length_drop, List.length_set]; omega) | (simp <;> omega) | simp_all | rfl) (prW (by first | omega | (simp only [List.length_append, List.length_map, List.length_cons, List.length_nil, List.length_replicate, List.length_take, List.length_drop, List.length_set]; omega) | (simp <;> omega) | simp_all | rfl))) rfl rfl rfl ?_
  refine RegC.m (op_move rfl) rfl rfl rfl ?_
  refine RegC.m (op_call rfl k_call_115 (derive_wrap (k) (by first | omega | (simp only [List.length_append, List.length_map, List.length_cons, List.length_nil, List.length_replicate, List.length_take, List.length_drop, List.length_set]; omega) | (simp <;> omega) | simp_all) (ep) (by first | omega | (simp only [List.length_append, List.length_map, List.length_cons, List.length_nil, List.length_replicate, List.length_take, List.length_drop, List.length_set]; omega) | (simp <;> omega) | simp_all))) rfl rfl rfl ?_
  refine RegC.m (op_move rfl) rfl rfl rfl ?_
  refine RegC.m (op_extract rfl rfl) rfl rfl rfl ?_
  refine RegC.m (op_extract rfl rfl) rfl rfl rfl ?_
  refine RegC.a (op_alloc rfl k_zero_23) rfl rfl rfl ?_
  refine RegC.w (i := 1) (op_storeW rfl k_agg_23 (by first | omega | (simp only [List.length_append, List.length_map, List.length_cons, List.length_nil, List.length_replicate, List.length_take, List.length_drop, List.length_set]; omega) | (simp <;> omega) | simp_all) (by first | omega | (simp only [List.length_append, List.length_map, List.length_cons, List.length_nil, List.length_replicate, List.length_take, List.length_drop, List.length_set]; omega) | (simp <;> omega) | simp_all) (by first | exact allS (fun _ => rfl) | simp [AVal.scalar])) rfl rfl rfl rfl ?_
  refine RegC.m (op_assign rfl) rfl rfl rfl ?_
  refine RegC.done ⟨.inl rfl, ?_⟩
  refine WP.cold (b := nm2 0) 1 [(9, .vptr ((derS (k) [119, 114, 97, 112] (ep)).map AVal.u8) (0))] rfl (frzE.cons rfl (.ptr 0) frzE.nil) ?_
  refine WP.nrm 40 ?_
  refine WP.reg k_mixed fun nm3 hnm3 => ?_
  refine RegC.m (op_loadVG (cells := (derS (k) [119, 114, 97, 112] (ep)).map AVal.u8) rfl k_agg_23 (by first | omega | (simp only [List.length_append, List.length_map, List.length_cons, List.length_nil, List.length_replicate, List.length_take, List.length_drop, List.length_set]; omega) | (simp <;> omega) | simp_all | rfl) (prW (by first | omega | (simp only [List.length_append, List.length_map, List.length_cons, List.length_nil, List.length_replicate, List.length_take, List.length_drop, List.length_set]; omega) | (simp <;> omega) | simp_all | rfl))) rfl rfl rfl ?_
  refine RegC.m (op_loadVG (cells := (n).map AVal.u8) rfl k_agg_25 (by first | omega | (simp only [List.length_append, List.length_map, List.length_cons, List.length_nil, List.length_replicate, List.length_take, List.length_drop, List.length_set]; omega) | (simp <;> omega) | simp_all | rfl) (prW (by first | omega | (simp only [List.length_append, List.length_map, List.length_cons, List.length_nil, List.length_replicate, List.length_take, List.length_drop, List.length_set]; omega) | (simp <;> omega) | simp_all | rfl))) rfl rfl rfl ?_
  refine RegC.m (op_sVA00f (f := AVal.u8) (l := sc) rfl k_arr_22 (by first | omega | (simp only [List.length_append, List.length_map, List.length_cons, List.length_nil, List.length_replicate, List.length_take, List.length_drop, List.length_set]; omega) | (simp <;> omega) | simp_all | rfl)) rfl rfl rfl ?_
  refine RegC.m (op_call rfl k_call_11 (cool2 (h := []) (fun b9 => cover_calls b9 false (sc) (derS (k) [119, 114, 97, 112] (ep)) (n) (by first | omega | (simp only [List.length_append, List.length_map, List.length_cons, List.length_nil, List.length_replicate, List.length_take, List.length_drop, List.length_set]; omega) | (simp <;> omega) | simp_all) (by first | omega | (simp only [List.length_append, List.length_map, List.length_cons, List.length_nil, List.length_replicate, List.length_take, List.length_drop, List.length_set]; omega) | (simp <;> omega) | simp_all) (by first | omega | (simp only [List.length_append, List.length_map, List.length_cons, List.length_nil, List.length_replicate, List.length_take, List.length_drop, List.length_set]; omega) | (simp <;> omega) | simp_all)) (by simp))) rfl rfl rfl ?_
  refine RegC.m (op_move rfl) rfl rfl rfl ?_
  refine RegC.m (op_extract rfl rfl) rfl rfl rfl ?_
  refine RegC.m (op_extract rfl rfl) rfl rfl rfl ?_
  refine RegC.m (op_assign rfl) rfl rfl rfl ?_
  refine RegC.m (op_assign rfl) rfl rfl rfl ?_
  refine RegC.done ⟨.inr rfl, ?_⟩
  refine WP.nrm 40 ?_
  refine WP.reg k_mixed fun nm4 hnm4 => ?_
  refine RegC.m (op_move rfl) rfl rfl rfl ?_
  refine RegC.m (op_toArrM (f := AVal.u8) (l := coverS (derS (k) [119, 114, 97, 112] (ep)) (n) (sc)) rfl k_arr_22 (by first | omega | (simp only [List.length_append, List.length_map, List.length_cons, List.length_nil, List.length_replicate, List.length_take, List.length_drop, List.length_set]; omega) | (simp <;> omega) | simp_all) (by omega)) rfl rfl rfl ?_
  refine RegC.m (op_loadVP (f := AVal.u8) (l := coverS (derS (k) [119, 114, 97, 112] (ep)) (n) (sc)) (off := 0) rfl k_agg_22 (by first | omega | (simp only [List.length_append, List.length_map, List.length_cons, List.length_nil, List.length_replicate, List.length_take, List.length_drop, List.length_set]; omega) | (simp <;> omega) | simp_all)) rfl rfl rfl ?_
  refine RegC.w (i := 0) (op_storeW rfl k_agg_22 (by first | omega | (simp only [List.length_append, List.length_map, List.length_cons, List.length_nil, List.length_replicate, List.length_take, List.length_drop, List.length_set]; omega) | (simp <;> omega) | simp_all) (by first | omega | (simp only [List.length_append, List.length_map, List.length_cons, List.length_nil, List.length_replicate, List.length_take, List.length_drop, List.length_set]; omega) | (simp <;> omega) | simp_all) (by first | exact allS (fun _ => rfl) | simp [AVal.scalar])) rfl rfl rfl rfl ?_
  refine RegC.done ⟨.inl rfl, ?_⟩
  refine WP.nrm 40 ?_
  refine WP.retS (ResV.one rfl (.cellW 0 rfl rfl k_agg_22 (by first | omega | (simp only [List.length_append, List.length_map, List.length_cons, List.length_nil, List.length_replicate, List.length_take, List.length_drop, List.length_set]; omega) | (simp <;> omega) | simp_all))) (List.nil_sublist _) ?_
  exact ⟨by rw [List.drop_zero, List.take_of_length_le (by simp [hsc])], rfl⟩

theorem ahead_calls (b' : Nat) (ep : Nat) (he : ep ≤ 4294967295) (nm : List UInt8) (hnm : nm.length = 16) (n : List UInt8) (hn : n.length = 16) (cv : List UInt8) (hcv : cv.length = 32) (tg : List UInt8) (htg : tg.length = 16) : ACalls Try.prog 116 [.agg ([.i (1)] ++ ([.i ((ep : Int))] ++ (((nm).map AVal.u8) ++ (((List.replicate 16 (0 : UInt8)).map AVal.u8) ++ (((n).map AVal.u8) ++ (((List.replicate 32 (0 : UInt8)).map AVal.u8) ++ (((cv).map AVal.u8) ++ ((tg).map AVal.u8))))))))] [] [b'] (.os b' 0 72 1 false) [(b', .vec 5 ((aheadS (UInt32.ofNat ep) nm n cv).map AVal.u8))] := by
  refine ACalls.of_wp' (fn := Try.f116) (n := 41) Try.func116 rfl rfl ?_
  unfold Try.f116
  refine WP.nrm 40 ?_
  refine WP.reg k_mixed fun nm1 hnm1 => ?_
  refine RegC.m (op_boxD rfl) rfl rfl rfl ?_
  refine RegC.m (op_assign rfl) rfl rfl rfl ?_
  refine RegC.done ⟨.inl rfl, ?_⟩
  refine WP.nrm 40 ?_
  refine WP.reg k_mixed fun nm2 hnm2 => ?_
  refine RegC.a (op_buildSlM (vs := List.map AVal.u8 [(75 : UInt8), (87 : UInt8), (87 : UInt8)]) rfl k_sl_26 k_zeroE_5 rfl rfl rfl (by omega)) rfl rfl rfl ?_
  refine RegC.w (i := 0) (op_cvO rfl k_undSl_26 k_undI_5 (by first | omega | (simp only [List.length_append, List.length_map, List.length_cons, List.length_nil, List.length_replicate, List.length_take, List.length_drop, List.length_set]; omega) | (simp <;> omega) | simp_all)) rfl rfl rfl rfl ?_
  refine RegC.m (op_fieldVE (off := 0) rfl k_fld_142_0 rfl) rfl rfl rfl ?_
  refine RegC.m (op_loadV (off := 0) rfl k_scal_3 (sgH rfl)) rfl rfl rfl ?_
  refine RegC.m (op_cv rfl k_und_3 k_undI_5 (cv_i_8 (by first | exact Int.natCast_nonneg _ | omega))) rfl rfl rfl ?_
  refine RegC.a (op_buildSlM (vs := List.map AVal.u8 [UInt8.ofNat (1)]) rfl k_sl_26 k_zeroE_5 rfl rfl rfl (by omega)) rfl rfl rfl ?_
  refine RegC.wqa (i := 0) (j := 1) (op_appMO (f := AVal.u8) (l := [(75 : UInt8), (87 : UInt8), (87 : UInt8)]) (l2 := [UInt8.ofNat (1)]) (lo := 0) (n := ([UInt8.ofNat (1)]).length) (fun _ => rfl) rfl k_app_26_26 (by first | omega | (simp only [List.length_append, List.length_map, List.length_cons, List.length_nil, List.length_replicate, List.length_take, List.length_drop, List.length_set]; omega) | (simp <;> omega) | simp_all) (by first | omega | (simp only [List.length_append, List.length_map, List.length_cons, List.length_nil, List.length_replicate, List.length_take, List.length_drop, List.length_set]; omega) | (simp <;> omega) | simp_all)) rfl rfl rfl rfl rfl rfl ?_
  refine RegC.m (op_fieldVE (off := 0) rfl k_fld_142_1 rfl) rfl rfl rfl ?_
  refine RegC.m (op_loadV (off := 1) rfl k_scal_3 (sgN 1 (0) (by omega) (by first | omega | (simp only [List.length_append, List.length_map, List.length_cons, List.length_nil, List.length_replicate, List.length_take, List.length_drop, List.length_set]; omega) | (simp <;> omega) | simp_all | rfl) (sgH rfl))) rfl rfl rfl ?_
  refine RegC.m (op_cv rfl k_und_3 k_undI_102 (cv_i_32 (by first | exact Int.natCast_nonneg _ | omega))) rfl rfl rfl ?_
  refine RegC.qa (i := 0) (OpV.to (op_call rfl k_call_57 (lend2n (noRefO_vec noRefs_8) (putNumber1 (nm2 3) false ([(75 : UInt8), (87 : UInt8), (87 : UInt8)] ++ (([UInt8.ofNat (1)]).drop (0)).take (([UInt8.ofNat (1)]).length)) (UInt32.ofNat (ep)) (by first | omega | (simp only [List.length_append, List.length_map, List.length_cons, List.length_nil, List.length_replicate, List.length_take, List.length_drop, List.length_set]; omega) | (simp <;> omega) | simp_all)) (frz_os (by first | omega | (simp only [List.length_append, List.length_map, List.length_cons, List.length_nil, List.length_replicate, List.length_take, List.length_drop, List.length_set]; omega) | (simp <;> omega) | simp_all)) rfl)) (osN (n' := ([(75 : UInt8), (87 : UInt8), (87 : UInt8)] ++ (([UInt8.ofNat (1)]).drop (0)).take (([UInt8.ofNat (1)]).length) ++ octS (UInt32.ofNat (ep))).length) (by first | omega | (simp only [List.length_append, List.length_map, List.length_cons, List.length_nil, List.length_replicate, List.length_take, List.length_drop, List.length_set]; omega) | (simp <;> omega) | simp_all))) rfl rfl rfl rfl ?_
  refine RegC.m (op_assign rfl) rfl rfl rfl ?_
  refine RegC.done ⟨.inr rfl, ?_⟩
  refine WP.nrm 40 ?_
  refine WP.reg k_mixed fun nm3 hnm3 => ?_
  refine RegC.m (op_move rfl) rfl rfl rfl ?_
  refine RegC.m (op_fieldVE (off := 0) rfl k_fld_142_2 rfl) rfl rfl rfl ?_
  refine RegC.m (op_sVAf (f := AVal.u8) (l := nm) (off := 2) rfl k_arr_54 (by simp <;> omega) (prN 1 1 (by omega) (by first | omega | (simp only [List.length_append, List.length_map, List.length_cons, List.length_nil, List.length_replicate, List.length_take, List.length_drop, List.length_set]; omega) | (simp <;> omega) | simp_all | rfl) (prN 1 (0) (by omega) (by first | omega | (simp only [List.length_append, List.length_map, List.length_cons, List.length_nil, List.length_replicate, List.length_take, List.length_drop, List.length_set]; omega) | (simp <;> omega) | simp_all | rfl) (prH (by simp <;> omega) (prW (by first | omega | (simp only [List.length_append, List.length_map, List.length_cons, List.length_nil, List.length_replicate, List.length_take, List.length_drop, List.length_set]; omega) | (simp <;> omega) | simp_all | rfl))))) (by first | omega | (simp only [List.length_append, List.length_map, List.length_cons, List.length_nil, List.length_replicate, List.length_take, List.length_drop, List.length_set]; omega) | (simp <;> omega) | simp_all | rfl)) rfl rfl rfl ?_
  refine RegC.wa (i := 2) (op_appL (f := AVal.u8) (l := [(75 : UInt8), (87 : UInt8), (87 : UInt8)] ++ (([UInt8.ofNat (1)]).drop (0)).take (([UInt8.ofNat (1)]).length) ++ octS (UInt32.ofNat (ep))) (l2 := nm) (fun _ => rfl) rfl k_app_26_26 (by first | omega | (simp only [List.length_append, List.length_map, List.length_cons, List.length_nil, List.length_replicate, List.length_take, List.length_drop, List.length_set]; omega) | (simp <;> omega) | simp_all) (by first | omega | (simp only [List.length_append, List.length_map, List.length_cons, List.length_nil, List.length_replicate, List.length_take, List.length_drop, List.length_set]; omega) | (simp <;> omega) | simp_all)) rfl rfl rfl rfl ?_
  refine RegC.m (op_assign rfl) rfl rfl rfl ?_
  refine RegC.done ⟨.inl rfl, ?_⟩
  refine WP.nrm 40 ?_
  refine WP.reg k_mixed fun nm4 hnm4 => ?_
  refine RegC.m (op_fieldVE (off := 0) rfl k_fld_142_0 rfl) rfl rfl rfl ?_
  refine RegC.m (op_loadV (off := 0) rfl k_scal_3 (sgH rfl)) rfl rfl rfl ?_
  refine RegC.m (op_eql rfl) rfl rfl rfl ?_
  refine RegC.done ⟨.inl rfl, ?_⟩
  refine WP.nrm 40 ?_
  refine WP.cond (t := false) rfl ?_
  refine WP.nrm 40 ?_
  refine WP.reg k_mixed fun nm5 hnm5 => ?_
  refine RegC.m (op_move rfl) rfl rfl rfl ?_
  refine RegC.m (op_fieldVE (off := 0) rfl k_fld_142_4 rfl) rfl rfl rfl ?_
  refine RegC.m (op_sVAf (f := AVal.u8) (l := n) (off := 34) rfl k_arr_25 (by simp <;> omega) (prN 1 33 (by omega) (by first | omega | (simp only [List.length_append, List.length_map, List.length_cons, List.length_nil, List.length_replicate, List.length_take, List.length_drop, List.length_set]; omega) | (simp <;> omega) | simp_all | rfl) (prN 1 32 (by omega) (by first | omega | (simp only [List.length_append, List.length_map, List.length_cons, List.length_nil, List.length_replicate, List.length_take, List.length_drop, List.length_set]; omega) | (simp <;> omega) | simp_all | rfl) (prN 16 16 (by omega) (by first | omega | (simp only [List.length_append, List.length_map, List.length_cons, List.length_nil, List.length_replicate, List.length_take, List.length_drop, List.length_set]; omega) | (simp <;> omega) | simp_all | rfl) (prN 16 (0) (by omega) (by first | omega | (simp only [List.length_append, List.length_map, List.length_cons, List.length_nil, List.length_replicate, List.length_take, List.length_drop, List.length_set]; omega) | (simp <;> omega) | simp_all | rfl) (prH (by simp <;> omega) (prW (by first | omega | (simp only [List.length_append, List.length_map, List.length_cons, List.length_nil, List.length_replicate, List.length_take, List.length_drop, List.length_set]; omega) | (simp <;> omega) | simp_all | rfl))))))) (by first | omega | (simp only [List.length_append, List.length_map, List.length_cons, List.length_nil, List.length_replicate, List.length_take, List.length_drop, List.length_set]; omega) | (simp <;> omega) | simp_all | rfl)) rfl rfl rfl ?_
  refine RegC.wa (i := 2) (op_appL (f := AVal.u8) (l := [(75 : UInt8), (87 : UInt8), (87 : UInt8)] ++ (([UInt8.ofNat (1)]).drop (0)).take (([UInt8.ofNat (1)]).length) ++ octS (UInt32.ofNat (ep)) ++ nm) (l2 := n) (fun _ => rfl) rfl k_app_26_26 (by first | omega | (simp only [List.length_append, List.length_map, List.length_cons, List.length_nil, List.length_replicate, List.length_take, List.length_drop, List.length_set]; omega) | (simp <;> omega) | simp_all) (by first | omega | (simp only [List.length_append, List.length_map, List.length_cons, List.length_nil, List.length_replicate, List.length_take, List.length_drop, List.length_set]; omega) | (simp <;> omega) | simp_all)) rfl rfl rfl rfl ?_
  refine RegC.m (op_assign rfl) rfl rfl rfl ?_
  refine RegC.done ⟨.inl rfl, ?_⟩
  refine WP.nrm 40 ?_
  refine WP.reg k_mixed fun nm6 hnm6 => ?_
  refine RegC.m (op_fieldVE (off := 0) rfl k_fld_142_0 rfl) rfl rfl rfl ?_
  refine RegC.m (op_loadV (off := 0) rfl k_scal_3 (sgH rfl)) rfl rfl rfl ?_
  refine RegC.m (op_eql rfl) rfl rfl rfl ?_
  refine RegC.done ⟨.inl rfl, ?_⟩
  refine WP.nrm 40 ?_
  refine WP.cond (t := false) rfl ?_
  refine WP.nrm 40 ?_
  refine WP.reg k_mixed fun nm7 hnm7 => ?_
  refine RegC.m (op_move rfl) rfl rfl rfl ?_
  refine RegC.m (op_fieldVE (off := 0) rfl k_fld_142_6 rfl) rfl rfl rfl ?_
  refine RegC.m (op_sVAf (f := AVal.u8) (l := cv) (off := 82) rfl k_arr_22 (by simp <;> omega) (prN 1 81 (by omega) (by first | omega | (simp only [List.length_append, List.length_map, List.length_cons, List.length_nil, List.length_replicate, List.length_take, List.length_drop, List.length_set]; omega) | (simp <;> omega) | simp_all | rfl) (prN 1 80 (by omega) (by first | omega | (simp only [List.length_append, List.length_map, List.length_cons, List.length_nil, List.length_replicate, List.length_take, List.length_drop, List.length_set]; omega) | (simp <;> omega) | simp_all | rfl) (prN 16 64 (by omega) (by first | omega | (simp only [List.length_append, List.length_map, List.length_cons, List.length_nil, List.length_replicate, List.length_take, List.length_drop, List.length_set]; omega) | (simp <;> omega) | simp_all | rfl) (prN 16 48 (by omega) (by first | omega | (simp only [List.length_append, List.length_map, List.length_cons, List.length_nil, List.length_replicate, List.length_take, List.length_drop, List.length_set]; omega) | (simp <;> omega) | simp_all | rfl) (prN 16 32 (by omega) (by first | omega | (simp only [List.length_append, List.length_map, List.length_cons, List.length_nil, List.length_replicate, List.length_take, List.length_drop, List.length_set]; omega) | (simp <;> omega) | simp_all | rfl) (prN 32 (0) (by omega) (by first | omega | (simp only [List.length_append, List.length_map, List.length_cons, List.length_nil, List.length_replicate, List.length_take, List.length_drop, List.length_set]; omega) | (simp <;> omega) | simp_all | rfl) (prH (by simp <;> omega) (prW (by first | omega | (simp only [List.length_append, List.length_map, List.length_cons, List.length_nil, List.length_replicate, List.length_take, List.length_drop, List.length_set]; omega) | (simp <;> omega) | simp_all | rfl))))))))) (by first | omega | (simp only [List.length_append, List.length_map, List.length_cons, List.length_nil, List.length_replicate, List.length_take, List.length_drop, List.length_set]; omega) | (simp <;> omega) | simp_all | rfl)) rfl rfl rfl ?_
  refine RegC.wa (i := 2) (op_appL (f := AVal.u8) (l := [(75 : UInt8), (87 : UInt8), (87 : UInt8)] ++ (([UInt8.ofNat (1)]).drop (0)).take (([UInt8.ofNat (1)]).length) ++ octS (UInt32.ofNat (ep)) ++ nm ++ n) (l2 := cv) (fun _ => rfl) rfl k_app_26_26 (by first | omega | (simp only [List.length_append, List.length_map, List.length_cons, List.length_nil, List.length_replicate, List.length_take, List.length_drop, List.length_set]; omega) | (simp <;> omega) | simp_all) (by first | omega | (simp only [List.length_append, List.length_map, List.length_cons, List.length_nil, List.length_replicate, List.length_take, List.length_drop, List.length_set]; omega) | (simp <;> omega) | simp_all)) rfl rfl rfl rfl ?_
  refine RegC.m (op_assign rfl) rfl rfl rfl ?_
  refine RegC.done ⟨.inl rfl, ?_⟩
  refine WP.nrm 40 ?_
  refine WP.ret1S (b' := b') (vf := fun q => .os q (0) ((((([(75 : UInt8), (87 : UInt8), (87 : UInt8)] ++ (([UInt8.ofNat (1)]).drop (0)).take (([UInt8.ofNat (1)]).length) ++ octS (UInt32.ofNat (ep))).length + (nm).length) + (n).length) + (cv).length)) 1 false) 2 (ResV.one rfl (.tmp rfl)) rfl (by simp) os_named (.cons _ (.cons _ (.cons_cons _ (List.nil_sublist _)))) ?_
  exact ⟨osN (by simp [hnm, hn, hcv]), by simp [aheadS]⟩

theorem wprint_calls (b' : Nat) (ep : Nat) (he : ep ≤ 4294967295) (nm : List UInt8) (hnm : nm.length = 16) (n : List UInt8) (hn : n.length = 16) (cv : List UInt8) (hcv : cv.length = 32) (tg : List UInt8) (htg : tg.length = 16) : ACalls Try.prog 95 [.agg ([.i (1)] ++ ([.i ((ep : Int))] ++ (((nm).map AVal.u8) ++ (((List.replicate 16 (0 : UInt8)).map AVal.u8) ++ (((n).map AVal.u8) ++ (((List.replicate 32 (0 : UInt8)).map AVal.u8) ++ (((cv).map AVal.u8) ++ ((tg).map AVal.u8))))))))] [] [b'] (.tup [.os b' 0 88 1 false, .i 0]) [(b', .vec 5 ((aheadS (UInt32.ofNat ep) nm n cv ++ tg).map AVal.u8))] := by
  have hal := aheadS_length (UInt32.ofNat ep) nm n cv hnm hn hcv
  refine ACalls.of_wp' (fn := Try.f95) (n := 38) Try.func95 rfl rfl ?_
  unfold Try.f95
  refine WP.nrm 40 ?_
  refine WP.reg k_mixed fun nm1 hnm1 => ?_
  refine RegC.m (op_boxD rfl) rfl rfl rfl ?_
  refine RegC.m (op_assign rfl) rfl rfl rfl ?_
  refine RegC.m (op_assign rfl) rfl rfl rfl ?_
  refine RegC.done ⟨.inl rfl, ?_⟩
  refine WP.nrm 40 ?_
  refine WP.reg k_mixed fun nm2 hnm2 => ?_
  refine RegC.m (op_fieldVE (off := 0) rfl k_fld_142_0 rfl) rfl rfl rfl ?_
  refine RegC.m (op_loadV (off := 0) rfl k_scal_3 (sgH rfl)) rfl rfl rfl ?_
  refine RegC.m (op_neq rfl) rfl rfl rfl ?_
  refine RegC.m (op_move rfl) rfl rfl rfl ?_
  refine RegC.skip rfl rfl ?_
  refine RegC.skip rfl rfl ?_
  refine RegC.skip rfl rfl ?_
  refine RegC.m (op_pick rfl) rfl rfl rfl ?_
  refine RegC.m (op_assign rfl) rfl rfl rfl ?_
  refine RegC.done ⟨.inl rfl, ?_⟩
  refine WP.nrm 40 ?_
  refine WP.cond (t := false) rfl ?_
  refine WP.nrm 40 ?_
  refine WP.reg k_mixed fun nm3 hnm3 => ?_
  refine RegC.m (op_fieldVE (off := 0) rfl k_fld_142_1 rfl) rfl rfl rfl ?_
  refine RegC.m (op_loadV (off := 1) rfl k_scal_3 (sgN 1 (0) (by omega) (by first | omega | (simp only [List.length_append, List.length_map, List.length_cons, List.length_nil, List.length_replicate, List.length_take, List.length_drop, List.length_set]; omega) | (simp <;> omega) | simp_all | rfl) (sgH rfl))) rfl rfl rfl ?_
  refine RegC.m (op_call rfl k_call_90 (badEpoch_calls (ep) (by first | omega | (simp only [List.length_append, List.length_map, List.length_cons, List.length_nil, List.length_replicate, List.length_take, List.length_drop, List.length_set]; omega) | (simp <;> omega) | simp_all))) rfl rfl rfl ?_
  refine RegC.m (op_assign rfl) rfl rfl rfl ?_
  refine RegC.done ⟨.inl rfl, ?_⟩
  refine WP.nrm 40 ?_
  refine WP.cond (t := false) rfl ?_
  refine WP.nrm 40 ?_
  refine WP.reg k_mixed fun nm4 hnm4 => ?_
  refine RegC.m (op_fieldVE (off := 0) rfl k_fld_142_0 rfl) rfl rfl rfl ?_
  refine RegC.m (op_loadV (off := 0) rfl k_scal_3 (sgH rfl)) rfl rfl rfl ?_
  refine RegC.m (op_eql rfl) rfl rfl rfl ?_
  refine RegC.m (op_move rfl) rfl rfl rfl ?_
  refine RegC.m (op_fieldVE (off := 0) rfl k_fld_142_3 rfl) rfl rfl rfl ?_
  refine RegC.m (op_loadVG (off := 18) rfl k_agg_54 (by simp <;> omega) (prN 1 17 (by omega) (by first | omega | (simp only [List.length_append, List.length_map, List.length_cons, List.length_nil, List.length_replicate, List.length_take, List.length_drop, List.length_set]; omega) | (simp <;> omega) | simp_all | rfl) (prN 1 16 (by omega) (by first | omega | (simp only [List.length_append, List.length_map, List.length_cons, List.length_nil, List.length_replicate, List.length_take, List.length_drop, List.length_set]; omega) | (simp <;> omega) | simp_all | rfl) (prN 16 (0) (by omega) (by first | omega | (simp only [List.length_append, List.length_map, List.length_cons, List.length_nil, List.length_replicate, List.length_take, List.length_drop, List.length_set]; omega) | (simp <;> omega) | simp_all | rfl) (prH (by simp <;> omega) (prW (by first | omega | (simp only [List.length_append, List.length_map, List.length_cons, List.length_nil, List.length_replicate, List.length_take, List.length_drop, List.length_set]; omega) | (simp <;> omega) | simp_all | rfl))))))) rfl rfl rfl ?_
  refine RegC.m (op_build (vs := List.map AVal.u8 []) (out := (List.replicate 16 (0 : UInt8)).map AVal.u8) rfl k_plA_54 k_zero_54 rfl (by simp)) rfl rfl rfl ?_
  refine RegC.m (OpV.boolE (t := (!((List.replicate 16 (0 : UInt8) : List UInt8) == List.replicate 16 (0 : UInt8)))) (u := false) (op_neqA8 (l := List.replicate 16 (0 : UInt8)) (l2 := List.replicate 16 (0 : UInt8)) rfl k_arr8_54 (by first | omega | (simp only [List.length_append, List.length_map, List.length_cons, List.length_nil, List.length_replicate, List.length_take, List.length_drop, List.length_set]; omega) | (simp <;> omega) | simp_all) (by first | omega | (simp only [List.length_append, List.length_map, List.length_cons, List.length_nil, List.length_replicate, List.length_take, List.length_drop, List.length_set]; omega) | (simp <;> omega) | simp_all)) rfl) rfl rfl rfl ?_
  refine RegC.m (op_move rfl) rfl rfl rfl ?_
  refine RegC.m (op_fieldVE (off := 0) rfl k_fld_142_5 rfl) rfl rfl rfl ?_
  refine RegC.m (op_loadVG (off := 50) rfl k_agg_43 (by simp <;> omega) (prN 1 49 (by omega) (by first | omega | (simp only [List.length_append, List.length_map, List.length_cons, List.length_nil, List.length_replicate, List.length_take, List.length_drop, List.length_set]; omega) | (simp <;> omega) | simp_all | rfl) (prN 1 48 (by omega) (by first | omega | (simp only [List.length_append, List.length_map, List.length_cons, List.length_nil, List.length_replicate, List.length_take, List.length_drop, List.length_set]; omega) | (simp <;> omega) | simp_all | rfl) (prN 16 32 (by omega) (by first | omega | (simp only [List.length_append, List.length_map, List.length_cons, List.length_nil, List.length_replicate, List.length_take, List.length_drop, List.length_set]; omega) | (simp <;> omega) | simp_all | rfl) (prN 16 16 (by omega) (by first | omega | (simp only [List.length_append, List.length_map, List.length_cons, List.length_nil, List.length_replicate, List.length_take, List.length_drop, List.length_set]; omega) | (simp <;> omega) | simp_all | rfl) (prN 16 (0) (by omega) (by first | omega | (simp only [List.length_append, List.length_map, List.length_cons, List.length_nil, List.length_replicate, List.length_take, List.length_drop, List.length_set]; omega) | (simp <;> omega) | simp_all | rfl) (prH (by simp <;> omega) (prW (by first | omega | (simp only [List.length_append, List.length_map, List.length_cons, List.length_nil, List.length_replicate, List.length_take, List.length_drop, List.length_set]; omega) | (simp <;> omega) | simp_all | rfl))))))))) rfl rfl rfl ?_
  refine RegC.m (op_build (vs := List.map AVal.u8 []) (out := (List.replicate 32 (0 : UInt8)).map AVal.u8) rfl k_plA_43 k_zero_43 rfl (by simp)) rfl rfl rfl ?_
  refine RegC.m (OpV.boolE (t := (!((List.replicate 32 (0 : UInt8) : List UInt8) == List.replicate 32 (0 : UInt8)))) (u := false) (op_neqA8 (l := List.replicate 32 (0 : UInt8)) (l2 := List.replicate 32 (0 : UInt8)) rfl k_arr8_43 (by first | omega | (simp only [List.length_append, List.length_map, List.length_cons, List.length_nil, List.length_replicate, List.length_take, List.length_drop, List.length_set]; omega) | (simp <;> omega) | simp_all) (by first | omega | (simp only [List.length_append, List.length_map, List.length_cons, List.length_nil, List.length_replicate, List.length_take, List.length_drop, List.length_set]; omega) | (simp <;> omega) | simp_all)) rfl) rfl rfl rfl ?_
  refine RegC.m (op_pick rfl) rfl rfl rfl ?_
  refine RegC.m (op_pick rfl) rfl rfl rfl ?_
  refine RegC.m (op_assign rfl) rfl rfl rfl ?_
  refine RegC.done ⟨.inl rfl, ?_⟩
  refine WP.nrm 40 ?_
  refine WP.cond (t := false) rfl ?_
  refine WP.nrm 40 ?_
  refine WP.reg k_mixed fun nm5 hnm5 => ?_
  refine RegC.m (op_loadVG rfl k_agg_142 (by simp <;> omega) (prW (by first | omega | (simp only [List.length_append, List.length_map, List.length_cons, List.length_nil, List.length_replicate, List.length_take, List.length_drop, List.length_set]; omega) | (simp <;> omega) | simp_all | rfl))) rfl rfl rfl ?_
  refine RegC.a (op_call rfl k_call_116 (ahead_calls (nm5 0) (ep) (by first | omega | (simp only [List.length_append, List.length_map, List.length_cons, List.length_nil, List.length_replicate, List.length_take, List.length_drop, List.length_set]; omega) | (simp <;> omega) | simp_all) (nm) (by first | omega | (simp only [List.length_append, List.length_map, List.length_cons, List.length_nil, List.length_replicate, List.length_take, List.length_drop, List.length_set]; omega) | (simp <;> omega) | simp_all | rfl) (n) (by first | omega | (simp only [List.length_append, List.length_map, List.length_cons, List.length_nil, List.length_replicate, List.length_take, List.length_drop, List.length_set]; omega) | (simp <;> omega) | simp_all | rfl) (cv) (by first | omega | (simp only [List.length_append, List.length_map, List.length_cons, List.length_nil, List.length_replicate, List.length_take, List.length_drop, List.length_set]; omega) | (simp <;> omega) | simp_all | rfl) (tg) (by first | omega | (simp only [List.length_append, List.length_map, List.length_cons, List.length_nil, List.length_replicate, List.length_take, List.length_drop, List.length_set]; omega) | (simp <;> omega) | simp_all | rfl))) rfl rfl rfl ?_
  refine RegC.m (op_fieldVE (off := 0) rfl k_fld_142_7 rfl) rfl rfl rfl ?_
  refine RegC.m (op_sVAf (f := AVal.u8) (l := tg) (off := 114) rfl k_arr_104 (by simp <;> omega) (prN 1 113 (by omega) (by first | omega | (simp only [List.length_append, List.length_map, List.length_cons, List.length_nil, List.length_replicate, List.length_take, List.length_drop, List.length_set]; omega) | (simp <;> omega) | simp_all | rfl) (prN 1 112 (by omega) (by first | omega | (simp only [List.length_append, List.length_map, List.length_cons, List.length_nil, List.length_replicate, List.length_take, List.length_drop, List.length_set]; omega) | (simp <;> omega) | simp_all | rfl) (prN 16 96 (by omega) (by first | omega | (simp only [List.length_append, List.length_map, List.length_cons, List.length_nil, List.length_replicate, List.length_take, List.length_drop, List.length_set]; omega) | (simp <;> omega) | simp_all | rfl) (prN 16 80 (by omega) (by first | omega | (simp only [List.length_append, List.length_map, List.length_cons, List.length_nil, List.length_replicate, List.length_take, List.length_drop, List.length_set]; omega) | (simp <;> omega) | simp_all | rfl) (prN 16 64 (by omega) (by first | omega | (simp only [List.length_append, List.length_map, List.length_cons, List.length_nil, List.length_replicate, List.length_take, List.length_drop, List.length_set]; omega) | (simp <;> omega) | simp_all | rfl) (prN 32 32 (by omega) (by first | omega | (simp only [List.length_append, List.length_map, List.length_cons, List.length_nil, List.length_replicate, List.length_take, List.length_drop, List.length_set]; omega) | (simp <;> omega) | simp_all | rfl) (prN 32 (0) (by omega) (by first | omega | (simp only [List.length_append, List.length_map, List.length_cons, List.length_nil, List.length_replicate, List.length_take, List.length_drop, List.length_set]; omega) | (simp <;> omega) | simp_all | rfl) (prW (by first | omega | (simp only [List.length_append, List.length_map, List.length_cons, List.length_nil, List.length_replicate, List.length_take, List.length_drop, List.length_set]; omega) | (simp <;> omega) | simp_all | rfl))))))))) (by first | omega | (simp only [List.length_append, List.length_map, List.length_cons, List.length_nil, List.length_replicate, List.length_take, List.length_drop, List.length_set]; omega) | (simp <;> omega) | simp_all | rfl)) rfl rfl rfl ?_
  refine RegC.wa (i := 0) (op_appL (f := AVal.u8) (l := aheadS (UInt32.ofNat (ep)) (nm) (n) (cv)) (l2 := tg) (fun _ => rfl) rfl k_app_26_26 (by first | omega | (simp only [List.length_append, List.length_map, List.length_cons, List.length_nil, List.length_replicate, List.length_take, List.length_drop, List.length_set]; omega) | (simp <;> omega) | simp_all) (by first | omega | (simp only [List.length_append, List.length_map, List.length_cons, List.length_nil, List.length_replicate, List.length_take, List.length_drop, List.length_set]; omega) | (simp <;> omega) | simp_all)) rfl rfl rfl rfl ?_
  refine RegC.m (op_assign rfl) rfl rfl rfl ?_
  refine RegC.m (op_assign rfl) rfl rfl rfl ?_
  refine RegC.done ⟨.inr rfl, ?_⟩
  refine WP.nrm 40 ?_
  refine WP.ret1S (b' := b') (vf := fun q => .tup [.os q (0) ((72 + (tg).length)) 1 false, .i (0)]) 0 (ResV.many rfl rfl (.cons (.tmp rfl) (.cons (.tmp rfl) (RessOf.nil)))) rfl (by simp) (tup_named (x := fun q => .os q (0) ((72 + (tg).length)) 1 false) os_named) (.cons_cons _ (List.nil_sublist _)) ?_
  exact ⟨by rw [htg], rfl⟩

theorem wtag_calls (k : List UInt8) (hk : k.length = 32) (ep : Nat) (he : ep ≤ 4294967295) (nm : List UInt8) (hnm : nm.length = 16) (n : List UInt8) (hn : n.length = 16) (cv : List UInt8) (hcv : cv.length = 32) (tg : List UInt8) (htg : tg.length = 16) (full : Bool) (ctx : List UInt8) (hctx : ctx.length ≤ 4096) : ACalls Try.prog 94 [.agg ((k).map AVal.u8), .agg ([.i (1)] ++ ([.i ((ep : Int))] ++ (((nm).map AVal.u8) ++ (((List.replicate 16 (0 : UInt8)).map AVal.u8) ++ (((n).map AVal.u8) ++ (((List.replicate 32 (0 : UInt8)).map AVal.u8) ++ (((cv).map AVal.u8) ++ ((tg).map AVal.u8)))))))), VS AVal.u8 full (ctx)] [] [] (.agg ((tag1 8 (derS k [116, 97, 103] ep ++ (aheadS (UInt32.ofNat ep) nm n cv ++ ctx))).map AVal.u8)) [] := by
  have hal := aheadS_length (UInt32.ofNat ep) nm n cv hnm hn hcv
  refine ACalls.of_wp' (fn := Try.f94) (n := 34) Try.func94 rfl rfl ?_
  unfold Try.f94
  refine WP.nrm 40 ?_
  refine WP.reg k_mixed fun nm1 hnm1 => ?_
  refine RegC.m (op_boxD rfl) rfl rfl rfl ?_
  refine RegC.m (op_boxD rfl) rfl rfl rfl ?_
  refine RegC.a (op_alloc rfl k_zero_104) rfl rfl rfl ?_
  refine RegC.done ⟨.inl rfl, ?_⟩
  refine WP.nrm 40 ?_
  refine WP.reg k_mixed fun nm2 hnm2 => ?_
  refine RegC.m (op_loadVG (cells := (k).map AVal.u8) rfl k_agg_23 (by first | omega | (simp only [List.length_append, List.length_map, List.length_cons, List.length_nil, List.length_replicate, List.length_take, List.length_drop, List.length_set]; omega) | (simp <;> omega) | simp_all | rfl) (prW (by first | omega | (simp only [List.length_append, List.length_map, List.length_cons, List.length_nil, List.length_replicate, List.length_take, List.length_drop, List.length_set]; omega) | (simp <;> omega) | simp_all | rfl))) rfl rfl rfl ?_
  refine RegC.m (op_fieldVE (off := 0) rfl k_fld_142_1 rfl) rfl rfl rfl ?_
  refine RegC.m (op_loadV (off := 1) rfl k_scal_3 (sgN 1 (0) (by omega) (by first | omega | (simp only [List.length_append, List.length_map, List.length_cons, List.length_nil, List.length_replicate, List.length_take, List.length_drop, List.length_set]; omega) | (simp <;> omega) | simp_all | rfl) (sgH rfl))) rfl rfl rfl ?_
  refine RegC.m (op_call rfl k_call_115 (derive_tag (k) (by first | omega | (simp only [List.length_append, List.length_map, List.length_cons, List.length_nil, List.length_replicate, List.length_take, List.length_drop, List.length_set]; omega) | (simp <;> omega) | simp_all) (ep) (by first | omega | (simp only [List.length_append, List.length_map, List.length_cons, List.length_nil, List.length_replicate, List.length_take, List.length_drop, List.length_set]; omega) | (simp <;> omega) | simp_all))) rfl rfl rfl ?_
  refine RegC.m (op_move rfl) rfl rfl rfl ?_
  refine RegC.m (op_extract rfl rfl) rfl rfl rfl ?_
  refine RegC.m (op_extract rfl rfl) rfl rfl rfl ?_
  refine RegC.a (op_alloc rfl k_zero_23) rfl rfl rfl ?_
  refine RegC.w (i := 1) (op_storeW rfl k_agg_23 (by first | omega | (simp only [List.length_append, List.length_map, List.length_cons, List.length_nil, List.length_replicate, List.length_take, List.length_drop, List.length_set]; omega) | (simp <;> omega) | simp_all) (by first | omega | (simp only [List.length_append, List.length_map, List.length_cons, List.length_nil, List.length_replicate, List.length_take, List.length_drop, List.length_set]; omega) | (simp <;> omega) | simp_all) (by first | exact allS (fun _ => rfl) | simp [AVal.scalar])) rfl rfl rfl rfl ?_
  refine RegC.m (op_assign rfl) rfl rfl rfl ?_
  refine RegC.done ⟨.inl rfl, ?_⟩
  refine WP.cold (b := nm2 0) 1 [(7, .vptr ((derS (k) [116, 97, 103] (ep)).map AVal.u8) (0))] rfl (frzE.cons rfl (.ptr 0) frzE.nil) ?_
  refine WP.nrm 40 ?_
  refine WP.reg k_mixed fun nm3 hnm3 => ?_
  refine RegC.m (op_loadVG rfl k_agg_142 (by simp <;> omega) (prW (by first | omega | (simp only [List.length_append, List.length_map, List.length_cons, List.length_nil, List.length_replicate, List.length_take, List.length_drop, List.length_set]; omega) | (simp <;> omega) | simp_all | rfl))) rfl rfl rfl ?_
  refine RegC.a (op_call rfl k_call_116 (ahead_calls (nm3 0) (ep) (by first | omega | (simp only [List.length_append, List.length_map, List.length_cons, List.length_nil, List.length_replicate, List.length_take, List.length_drop, List.length_set]; omega) | (simp <;> omega) | simp_all) (nm) (by first | omega | (simp only [List.length_append, List.length_map, List.length_cons, List.length_nil, List.length_replicate, List.length_take, List.length_drop, List.length_set]; omega) | (simp <;> omega) | simp_all | rfl) (n) (by first | omega | (simp only [List.length_append, List.length_map, List.length_cons, List.length_nil, List.length_replicate, List.length_take, List.length_drop, List.length_set]; omega) | (simp <;> omega) | simp_all | rfl) (cv) (by first | omega | (simp only [List.length_append, List.length_map, List.length_cons, List.length_nil, List.length_replicate, List.length_take, List.length_drop, List.length_set]; omega) | (simp <;> omega) | simp_all | rfl) (tg) (by first | omega | (simp only [List.length_append, List.length_map, List.length_cons, List.length_nil, List.length_replicate, List.length_take, List.length_drop, List.length_set]; omega) | (simp <;> omega) | simp_all | rfl))) rfl rfl rfl ?_
  refine RegC.m (op_assign rfl) rfl rfl rfl ?_
  refine RegC.done ⟨.inl rfl, ?_⟩
  refine WP.nrm 40 ?_
  refine WP.reg k_mixed fun nm4 hnm4 => ?_
  refine RegC.m (op_fieldVE (off := 0) rfl k_fld_142_0 rfl) rfl rfl rfl ?_
  refine RegC.m (op_loadV (off := 0) rfl k_scal_3 (sgH rfl)) rfl rfl rfl ?_
  refine RegC.m (op_eql rfl) rfl rfl rfl ?_
  refine RegC.done ⟨.inl rfl, ?_⟩
  refine WP.nrm 40 ?_
  refine WP.cond (t := true) rfl ?_
  refine WP.nrm 40 ?_
  refine WP.reg k_mixed fun nm5 hnm5 => ?_
  refine RegC.m (op_move rfl) rfl rfl rfl ?_
  refine RegC.m (op_move rfl) rfl rfl rfl ?_
  refine RegC.wa (i := 1) (op_appL (f := AVal.u8) (l := aheadS (UInt32.ofNat (ep)) (nm) (n) (cv)) (l2 := ctx) (fun _ => rfl) rfl k_app_26_26 (by first | omega | (simp only [List.length_append, List.length_map, List.length_cons, List.length_nil, List.length_replicate, List.length_take, List.length_drop, List.length_set]; omega) | (simp <;> omega) | simp_all) (by first | omega | (simp only [List.length_append, List.length_map, List.length_cons, List.length_nil, List.length_replicate, List.length_take, List.length_drop, List.length_set]; omega) | (simp <;> omega) | simp_all)) rfl rfl rfl rfl ?_
  refine RegC.m (op_assign rfl) rfl rfl rfl ?_
  refine RegC.done ⟨.inl rfl, ?_⟩
  refine WP.nrm 40 ?_
  refine WP.reg k_mixed fun nm6 hnm6 => ?_
  refine RegC.m (op_loadVG (cells := (derS (k) [116, 97, 103] (ep)).map AVal.u8) rfl k_agg_23 (by first | omega | (simp only [List.length_append, List.length_map, List.length_cons, List.length_nil, List.length_replicate, List.length_take, List.length_drop, List.length_set]; omega) | (simp <;> omega) | simp_all | rfl) (prW (by first | omega | (simp only [List.length_append, List.length_map, List.length_cons, List.length_nil, List.length_replicate, List.length_take, List.length_drop, List.length_set]; omega) | (simp <;> omega) | simp_all | rfl))) rfl rfl rfl ?_
  refine RegC.m (op_move rfl) rfl rfl rfl ?_
  refine RegC.q (i := 1) (op_call rfl k_call_89 (lend12 (tagOf_calls (derS (k) [116, 97, 103] (ep)) (by first | omega | (simp only [List.length_append, List.length_map, List.length_cons, List.length_nil, List.length_replicate, List.length_take, List.length_drop, List.length_set]; omega) | (simp <;> omega) | simp_all) false (aheadS (UInt32.ofNat (ep)) (nm) (n) (cv) ++ ctx) (by first | omega | (simp only [List.length_append, List.length_map, List.length_cons, List.length_nil, List.length_replicate, List.length_take, List.length_drop, List.length_set]; omega) | (simp <;> omega) | simp_all)) (frz_os (by first | omega | (simp only [List.length_append, List.length_map, List.length_cons, List.length_nil, List.length_replicate, List.length_take, List.length_drop, List.length_set]; omega) | (simp <;> omega) | simp_all)) noRef_tup8)) rfl rfl rfl rfl ?_
  refine RegC.m (op_move rfl) rfl rfl rfl ?_
  refine RegC.m (op_extract rfl rfl) rfl rfl rfl ?_
  refine RegC.m (op_extract rfl rfl) rfl rfl rfl ?_
  refine RegC.a (op_alloc rfl k_zero_104) rfl rfl rfl ?_
  refine RegC.w (i := 2) (op_storeW rfl k_agg_104 (by first | omega | (simp only [List.length_append, List.length_map, List.length_cons, List.length_nil, List.length_replicate, List.length_take, List.length_drop, List.length_set]; omega) | (simp <;> omega) | simp_all) (by first | omega | (simp only [List.length_append, List.length_map, List.length_cons, List.length_nil, List.length_replicate, List.length_take, List.length_drop, List.length_set]; omega) | (simp <;> omega) | simp_all) (by first | exact allS (fun _ => rfl) | simp [AVal.scalar])) rfl rfl rfl rfl ?_
  refine RegC.m (op_assign rfl) rfl rfl rfl ?_
  refine RegC.done ⟨.inl rfl, ?_⟩
  refine WP.nrm 40 ?_
  refine WP.reg k_mixed fun nm7 hnm7 => ?_
  refine RegC.q (i := 2) (op_loadW rfl k_agg_104 (by first | omega | (simp only [List.length_append, List.length_map, List.length_cons, List.length_nil, List.length_replicate, List.length_take, List.length_drop, List.length_set]; omega) | (simp <;> omega) | simp_all)) rfl rfl rfl rfl ?_
  refine RegC.w (i := 0) (op_storeW rfl k_agg_104 (by first | omega | (simp only [List.length_append, List.length_map, List.length_cons, List.length_nil, List.length_replicate, List.length_take, List.length_drop, List.length_set]; omega) | (simp <;> omega) | simp_all) (by first | omega | (simp only [List.length_append, List.length_map, List.length_cons, List.length_nil, List.length_replicate, List.length_take, List.length_drop, List.length_set]; omega) | (simp <;> omega) | simp_all) (by first | exact allS (fun _ => rfl) | simp [AVal.scalar])) rfl rfl rfl rfl ?_
  refine RegC.done ⟨.inl rfl, ?_⟩
  refine WP.nrm 40 ?_
  refine WP.retS (ResV.one rfl (.cellW 0 rfl rfl k_agg_104 (by first | omega | (simp only [List.length_append, List.length_map, List.length_cons, List.length_nil, List.length_replicate, List.length_take, List.length_drop, List.length_set]; omega) | (simp <;> omega) | simp_all))) (List.nil_sublist _) ?_
  exact ⟨rfl, rfl⟩

theorem wrap_calls (b' : Nat) (k : List UInt8) (hk : k.length = 32) (n : List UInt8) (hn : n.length = 16) (sc : List UInt8) (hsc : sc.length = 32) : ACalls Try.prog 60 [.i (1), .agg ((k).map AVal.u8), .i (0), .agg ((n).map AVal.u8), VS AVal.u8 true (([] : List UInt8)), .agg ((sc).map AVal.u8)] [] [b'] (.tup [.os b' 0 88 1 false, .i 0]) [(b', .vec 5 ((aheadS (UInt32.ofNat 0) (tag1 10 k) n (coverS (derS k [119, 114, 97, 112] 0) n sc) ++ tag1 8 (derS k [116, 97, 103] 0 ++ (aheadS (UInt32.ofNat 0) (tag1 10 k) n (coverS (derS k [119, 114, 97, 112] 0) n sc) ++ []))).map AVal.u8))] := by
  refine ACalls.of_wp' (fn := Try.f60) (n := 58) Try.func60 rfl rfl ?_
  unfold Try.f60
  refine WP.nrm 40 ?_
  refine WP.reg k_mixed fun nm1 hnm1 => ?_
  refine RegC.m (op_boxD rfl) rfl rfl rfl ?_
  refine RegC.m (op_boxD rfl) rfl rfl rfl ?_
  refine RegC.m (op_boxD rfl) rfl rfl rfl ?_
  refine RegC.m (op_assign rfl) rfl rfl rfl ?_
  refine RegC.m (op_assign rfl) rfl rfl rfl ?_
  refine RegC.done ⟨.inl rfl, ?_⟩
  refine WP.nrm 40 ?_
  refine WP.reg k_mixed fun nm2 hnm2 => ?_
  refine RegC.m (op_move rfl) rfl rfl rfl ?_
  refine RegC.m (op_neq rfl) rfl rfl rfl ?_
  refine RegC.m (op_move rfl) rfl rfl rfl ?_
  refine RegC.skip rfl rfl ?_
  refine RegC.skip rfl rfl ?_
  refine RegC.m (op_pick rfl) rfl rfl rfl ?_
  refine RegC.m (op_assign rfl) rfl rfl rfl ?_
  refine RegC.done ⟨.inl rfl, ?_⟩
  refine WP.nrm 40 ?_
  refine WP.cond (t := false) rfl ?_
  refine WP.nrm 40 ?_
  refine WP.reg k_mixed fun nm3 hnm3 => ?_
  refine RegC.m (op_move rfl) rfl rfl rfl ?_
  refine RegC.m (op_call rfl k_call_90 (badEpoch_calls (0) (by first | omega | (simp only [List.length_append, List.length_map, List.length_cons, List.length_nil, List.length_replicate, List.length_take, List.length_drop, List.length_set]; omega) | (simp <;> omega) | simp_all))) rfl rfl rfl ?_
  refine RegC.m (op_assign rfl) rfl rfl rfl ?_
  refine RegC.done ⟨.inl rfl, ?_⟩
  refine WP.nrm 40 ?_
  refine WP.cond (t := false) rfl ?_
  refine WP.nrm 40 ?_
  refine WP.reg k_mixed fun nm4 hnm4 => ?_
  refine RegC.m (op_move rfl) rfl rfl rfl ?_
  refine RegC.m (op_lenV (f := AVal.u8) (l := ([] : List UInt8)) rfl k_sl_26) rfl rfl rfl ?_
  refine RegC.m (OpV.boolF (op_gtr rfl) (by simp)) rfl rfl rfl ?_
  refine RegC.m (op_assign rfl) rfl rfl rfl ?_
  refine RegC.done ⟨.inl rfl, ?_⟩
  refine WP.nrm 40 ?_
  refine WP.cond (t := false) rfl ?_
  refine WP.nrm 40 ?_
  refine WP.reg k_mixed fun nm5 hnm5 => ?_
  refine RegC.m (op_move rfl) rfl rfl rfl ?_
  refine RegC.m (op_move rfl) rfl rfl rfl ?_
  refine RegC.m (op_loadVG (cells := (k).map AVal.u8) rfl k_agg_23 (by first | omega | (simp only [List.length_append, List.length_map, List.length_cons, List.length_nil, List.length_replicate, List.length_take, List.length_drop, List.length_set]; omega) | (simp <;> omega) | simp_all | rfl) (prW (by first | omega | (simp only [List.length_append, List.length_map, List.length_cons, List.length_nil, List.length_replicate, List.length_take, List.length_drop, List.length_set]; omega) | (simp <;> omega) | simp_all | rfl))) rfl rfl rfl ?_
  refine RegC.m (op_call rfl k_call_91 (nameOf_calls (k) (by first | omega | (simp only [List.length_append, List.length_map, List.length_cons, List.length_nil, List.length_replicate, List.length_take, List.length_drop, List.length_set]; omega) | (simp <;> omega) | simp_all))) rfl rfl rfl ?_
  refine RegC.m (op_loadVG (cells := (n).map AVal.u8) rfl k_agg_25 (by first | omega | (simp only [List.length_append, List.length_map, List.length_cons, List.length_nil, List.length_replicate, List.length_take, List.length_drop, List.length_set]; omega) | (simp <;> omega) | simp_all | rfl) (prW (by first | omega | (simp only [List.length_append, List.length_map, List.length_cons, List.length_nil, List.length_replicate, List.length_take, List.length_drop, List.length_set]; omega) | (simp <;> omega) | simp_all | rfl))) rfl rfl rfl ?_
  refine RegC.m (op_build (vs := [.i (1), .i (0), .agg ((tag1 10 (k)).map AVal.u8), .agg ((n).map AVal.u8)]) rfl k_pl_142 k_zeroS_142 (fillC (off := 0) (size := 1) (cells' := ([.i (1)] ++ ([.i (0)] ++ (((List.replicate 16 (0 : UInt8)).map AVal.u8) ++ (((List.replicate 16 (0 : UInt8)).map AVal.u8) ++ (((List.replicate 16 (0 : UInt8)).map AVal.u8) ++ (((List.replicate 32 (0 : UInt8)).map AVal.u8) ++ (((List.replicate 32 (0 : UInt8)).map AVal.u8) ++ ((List.replicate 16 (0 : UInt8)).map AVal.u8))))))))) rfl rfl (by simp <;> omega) (puH (by simp <;> omega) puO) (fillC (off := 1) (size := 1) (cells' := ([.i (1)] ++ ([.i (0)] ++ (((List.replicate 16 (0 : UInt8)).map AVal.u8) ++ (((List.replicate 16 (0 : UInt8)).map AVal.u8) ++ (((List.replicate 16 (0 : UInt8)).map AVal.u8) ++ (((List.replicate 32 (0 : UInt8)).map AVal.u8) ++ (((List.replicate 32 (0 : UInt8)).map AVal.u8) ++ ((List.replicate 16 (0 : UInt8)).map AVal.u8))))))))) rfl rfl (by simp <;> omega) (puN 1 (0) (by omega) (by first | omega | (simp only [List.length_append, List.length_map, List.length_cons, List.length_nil, List.length_replicate, List.length_take, List.length_drop, List.length_set]; omega) | (simp <;> omega) | simp_all | rfl) (puH (by simp <;> omega) puO)) (fillC (off := 2) (size := 16) (cells' := ([.i (1)] ++ ([.i (0)] ++ (((tag1 10 (k)).map AVal.u8) ++ (((List.replicate 16 (0 : UInt8)).map AVal.u8) ++ (((List.replicate 16 (0 : UInt8)).map AVal.u8) ++ (((List.replicate 32 (0 : UInt8)).map AVal.u8) ++ (((List.replicate 32 (0 : UInt8)).map AVal.u8) ++ ((List.replicate 16 (0 : UInt8)).map AVal.u8))))))))) rfl (aggLen (by first | omega | (simp only [List.length_append, List.length_map, List.length_cons, List.length_nil, List.length_replicate, List.length_take, List.length_drop, List.length_set]; omega) | (simp <;> omega) | simp_all | rfl)) (by simp <;> omega) (puN 1 1 (by omega) (by first | omega | (simp only [List.length_append, List.length_map, List.length_cons, List.length_nil, List.length_replicate, List.length_take, List.length_drop, List.length_set]; omega) | (simp <;> omega) | simp_all | rfl) (puN 1 (0) (by omega) (by first | omega | (simp only [List.length_append, List.length_map, List.length_cons, List.length_nil, List.length_replicate, List.length_take, List.length_drop, List.length_set]; omega) | (simp <;> omega) | simp_all | rfl) (puH (by simp <;> omega) (puW (by first | omega | (simp only [List.length_append, List.length_map, List.length_cons, List.length_nil, List.length_replicate, List.length_take, List.length_drop, List.length_set]; omega) | (simp <;> omega) | simp_all | rfl))))) (fillC (off := 34) (size := 16) (cells' := ([.i (1)] ++ ([.i (0)] ++ (((tag1 10 (k)).map AVal.u8) ++ (((List.replicate 16 (0 : UInt8)).map AVal.u8) ++ (((n).map AVal.u8) ++ (((List.replicate 32 (0 : UInt8)).map AVal.u8) ++ (((List.replicate 32 (0 : UInt8)).map AVal.u8) ++ ((List.replicate 16 (0 : UInt8)).map AVal.u8))))))))) rfl (aggLen (by first | omega | (simp only [List.length_append, List.length_map, List.length_cons, List.length_nil, List.length_replicate, List.length_take, List.length_drop, List.length_set]; omega) | (simp <;> omega) | simp_all | rfl)) (by simp <;> omega) (puN 1 33 (by omega) (by first | omega | (simp only [List.length_append, List.length_map, List.length_cons, List.length_nil, List.length_replicate, List.length_take, List.length_drop, List.length_set]; omega) | (simp <;> omega) | simp_all | rfl) (puN 1 32 (by omega) (by first | omega | (simp only [List.length_append, List.length_map, List.length_cons, List.length_nil, List.length_replicate, List.length_take, List.length_drop, List.length_set]; omega) | (simp <;> omega) | simp_all | rfl) (puN 16 16 (by omega) (by first | omega | (simp only [List.length_append, List.length_map, List.length_cons, List.length_nil, List.length_replicate, List.length_take, List.length_drop, List.length_set]; omega) | (simp <;> omega) | simp_all | rfl) (puN 16 (0) (by omega) (by first | omega | (simp only [List.length_append, List.length_map, List.length_cons, List.length_nil, List.length_replicate, List.length_take, List.length_drop, List.length_set]; omega) | (simp <;> omega) | simp_all | rfl) (puH (by simp <;> omega) (puW (by first | omega | (simp only [List.length_append, List.length_map, List.length_cons, List.length_nil, List.length_replicate, List.length_take, List.length_drop, List.length_set]; omega) | (simp <;> omega) | simp_all | rfl))))))) rfl)))) (by simp)) rfl rfl rfl ?_
  refine RegC.a (op_alloc rfl k_zeroS_142) rfl rfl rfl ?_
  refine RegC.w (i := 0) (op_storeW rfl k_agg_142 (by first | omega | (simp only [List.length_append, List.length_map, List.length_cons, List.length_nil, List.length_replicate, List.length_take, List.length_drop, List.length_set]; omega) | (simp <;> omega) | simp_all | rfl) (by first | omega | (simp only [List.length_append, List.length_map, List.length_cons, List.length_nil, List.length_replicate, List.length_take, List.length_drop, List.length_set]; omega) | (simp <;> omega) | simp_all | rfl) (by simp [AVal.scalar])) rfl rfl rfl rfl ?_
  refine RegC.done ⟨.inr rfl, ?_⟩
  refine WP.nrm 40 ?_
  refine WP.reg k_mixed fun nm6 hnm6 => ?_
  refine RegC.m (op_move rfl) rfl rfl rfl ?_
  refine RegC.m (op_eql rfl) rfl rfl rfl ?_
  refine RegC.done ⟨.inl rfl, ?_⟩
  refine WP.nrm 40 ?_
  refine WP.cond (t := false) rfl ?_
  refine WP.nrm 40 ?_
  refine WP.reg k_mixed fun nm7 hnm7 => ?_
  refine RegC.m (op_loadVG (cells := (k).map AVal.u8) rfl k_agg_23 (by first | omega | (simp only [List.length_append, List.length_map, List.length_cons, List.length_nil, List.length_replicate, List.length_take, List.length_drop, List.length_set]; omega) | (simp <;> omega) | simp_all | rfl) (prW (by first | omega | (simp only [List.length_append, List.length_map, List.length_cons, List.length_nil, List.length_replicate, List.length_take, List.length_drop, List.length_set]; omega) | (simp <;> omega) | simp_all | rfl))) rfl rfl rfl ?_
  refine RegC.m (op_move rfl) rfl rfl rfl ?_
  refine RegC.m (op_loadVG (cells := (n).map AVal.u8) rfl k_agg_25 (by first | omega | (simp only [List.length_append, List.length_map, List.length_cons, List.length_nil, List.length_replicate, List.length_take, List.length_drop, List.length_set]; omega) | (simp <;> omega) | simp_all | rfl) (prW (by first | omega | (simp only [List.length_append, List.length_map, List.length_cons, List.length_nil, List.length_replicate, List.length_take, List.length_drop, List.length_set]; omega) | (simp <;> omega) | simp_all | rfl))) rfl rfl rfl ?_
  refine RegC.m (op_loadVG (cells := (sc).map AVal.u8) rfl k_agg_23 (by first | omega | (simp only [List.length_append, List.length_map, List.length_cons, List.length_nil, List.length_replicate, List.length_take, List.length_drop, List.length_set]; omega) | (simp <;> omega) | simp_all | rfl) (prW (by first | omega | (simp only [List.length_append, List.length_map, List.length_cons, List.length_nil, List.length_replicate, List.length_take, List.length_drop, List.length_set]; omega) | (simp <;> omega) | simp_all | rfl))) rfl rfl rfl ?_
  refine RegC.m (op_call rfl k_call_93 (wcover_calls (k) (by first | omega | (simp only [List.length_append, List.length_map, List.length_cons, List.length_nil, List.length_replicate, List.length_take, List.length_drop, List.length_set]; omega) | (simp <;> omega) | simp_all) (0) (by first | omega | (simp only [List.length_append, List.length_map, List.length_cons, List.length_nil, List.length_replicate, List.length_take, List.length_drop, List.length_set]; omega) | (simp <;> omega) | simp_all) (n) (by first | omega | (simp only [List.length_append, List.length_map, List.length_cons, List.length_nil, List.length_replicate, List.length_take, List.length_drop, List.length_set]; omega) | (simp <;> omega) | simp_all) (sc) (by first | omega | (simp only [List.length_append, List.length_map, List.length_cons, List.length_nil, List.length_replicate, List.length_take, List.length_drop, List.length_set]; omega) | (simp <;> omega) | simp_all))) rfl rfl rfl ?_
  refine RegC.m (op_fieldE (off := 0) rfl k_fld_142_6 rfl) rfl rfl rfl ?_
  refine RegC.w (i := 0) (op_storeG (off := 82) rfl k_agg_22 (by first | omega | (simp only [List.length_append, List.length_map, List.length_cons, List.length_nil, List.length_replicate, List.length_take, List.length_drop, List.length_set]; omega) | (simp <;> omega) | simp_all | rfl) (by first | exact allS (fun _ => rfl) | simp [AVal.scalar]) (by simp <;> omega) (puN 1 81 (by omega) (by first | omega | (simp only [List.length_append, List.length_map, List.length_cons, List.length_nil, List.length_replicate, List.length_take, List.length_drop, List.length_set]; omega) | (simp <;> omega) | simp_all | rfl) (puN 1 80 (by omega) (by first | omega | (simp only [List.length_append, List.length_map, List.length_cons, List.length_nil, List.length_replicate, List.length_take, List.length_drop, List.length_set]; omega) | (simp <;> omega) | simp_all | rfl) (puN 16 64 (by omega) (by first | omega | (simp only [List.length_append, List.length_map, List.length_cons, List.length_nil, List.length_replicate, List.length_take, List.length_drop, List.length_set]; omega) | (simp <;> omega) | simp_all | rfl) (puN 16 48 (by omega) (by first | omega | (simp only [List.length_append, List.length_map, List.length_cons, List.length_nil, List.length_replicate, List.length_take, List.length_drop, List.length_set]; omega) | (simp <;> omega) | simp_all | rfl) (puN 16 32 (by omega) (by first | omega | (simp only [List.length_append, List.length_map, List.length_cons, List.length_nil, List.length_replicate, List.length_take, List.length_drop, List.length_set]; omega) | (simp <;> omega) | simp_all | rfl) (puN 32 (0) (by omega) (by first | omega | (simp only [List.length_append, List.length_map, List.length_cons, List.length_nil, List.length_replicate, List.length_take, List.length_drop, List.length_set]; omega) | (simp <;> omega) | simp_all | rfl) (puH (by simp <;> omega) (puW (by first | omega | (simp only [List.length_append, List.length_map, List.length_cons, List.length_nil, List.length_replicate, List.length_take, List.length_drop, List.length_set]; omega) | (simp <;> omega) | simp_all | rfl)))))))))) rfl rfl rfl rfl ?_
  refine RegC.done ⟨.inl rfl, ?_⟩
  refine WP.nrm 40 ?_
  refine WP.reg k_mixed fun nm8 hnm8 => ?_
  refine RegC.m (op_loadVG (cells := (k).map AVal.u8) rfl k_agg_23 (by first | omega | (simp only [List.length_append, List.length_map, List.length_cons, List.length_nil, List.length_replicate, List.length_take, List.length_drop, List.length_set]; omega) | (simp <;> omega) | simp_all | rfl) (prW (by first | omega | (simp only [List.length_append, List.length_map, List.length_cons, List.length_nil, List.length_replicate, List.length_take, List.length_drop, List.length_set]; omega) | (simp <;> omega) | simp_all | rfl))) rfl rfl rfl ?_
  refine RegC.q (i := 0) (op_loadW rfl k_agg_142 (by first | omega | (simp only [List.length_append, List.length_map, List.length_cons, List.length_nil, List.length_replicate, List.length_take, List.length_drop, List.length_set]; omega) | (simp <;> omega) | simp_all | rfl)) rfl rfl rfl rfl ?_
  refine RegC.m (op_move rfl) rfl rfl rfl ?_
  refine RegC.m (op_call rfl k_call_94 (wtag_calls (k) (by first | omega | (simp only [List.length_append, List.length_map, List.length_cons, List.length_nil, List.length_replicate, List.length_take, List.length_drop, List.length_set]; omega) | (simp <;> omega) | simp_all) (0) (by first | omega | (simp only [List.length_append, List.length_map, List.length_cons, List.length_nil, List.length_replicate, List.length_take, List.length_drop, List.length_set]; omega) | (simp <;> omega) | simp_all) (tag1 10 (k)) (by first | omega | (simp only [List.length_append, List.length_map, List.length_cons, List.length_nil, List.length_replicate, List.length_take, List.length_drop, List.length_set]; omega) | (simp <;> omega) | simp_all | rfl) (n) (by first | omega | (simp only [List.length_append, List.length_map, List.length_cons, List.length_nil, List.length_replicate, List.length_take, List.length_drop, List.length_set]; omega) | (simp <;> omega) | simp_all | rfl) (coverS (derS (k) [119, 114, 97, 112] (0)) (n) (sc)) (by first | omega | (simp only [List.length_append, List.length_map, List.length_cons, List.length_nil, List.length_replicate, List.length_take, List.length_drop, List.length_set]; omega) | (simp <;> omega) | simp_all | rfl) (List.replicate 16 (0 : UInt8)) (by first | omega | (simp only [List.length_append, List.length_map, List.length_cons, List.length_nil, List.length_replicate, List.length_take, List.length_drop, List.length_set]; omega) | (simp <;> omega) | simp_all | rfl) true (([] : List UInt8)) (by first | omega | (simp only [List.length_append, List.length_map, List.length_cons, List.length_nil, List.length_replicate, List.length_take, List.length_drop, List.length_set]; omega) | (simp <;> omega) | simp_all))) rfl rfl rfl ?_
  refine RegC.m (op_fieldE (off := 0) rfl k_fld_142_7 rfl) rfl rfl rfl ?_
  refine RegC.w (i := 0) (op_storeG (off := 114) rfl k_agg_104 (by first | omega | (simp only [List.length_append, List.length_map, List.length_cons, List.length_nil, List.length_replicate, List.length_take, List.length_drop, List.length_set]; omega) | (simp <;> omega) | simp_all | rfl) (by first | exact allS (fun _ => rfl) | simp [AVal.scalar]) (by simp <;> omega) (puN 1 113 (by omega) (by first | omega | (simp only [List.length_append, List.length_map, List.length_cons, List.length_nil, List.length_replicate, List.length_take, List.length_drop, List.length_set]; omega) | (simp <;> omega) | simp_all | rfl) (puN 1 112 (by omega) (by first | omega | (simp only [List.length_append, List.length_map, List.length_cons, List.length_nil, List.length_replicate, List.length_take, List.length_drop, List.length_set]; omega) | (simp <;> omega) | simp_all | rfl) (puN 16 96 (by omega) (by first | omega | (simp only [List.length_append, List.length_map, List.length_cons, List.length_nil, List.length_replicate, List.length_take, List.length_drop, List.length_set]; omega) | (simp <;> omega) | simp_all | rfl) (puN 16 80 (by omega) (by first | omega | (simp only [List.length_append, List.length_map, List.length_cons, List.length_nil, List.length_replicate, List.length_take, List.length_drop, List.length_set]; omega) | (simp <;> omega) | simp_all | rfl) (puN 16 64 (by omega) (by first | omega | (simp only [List.length_append, List.length_map, List.length_cons, List.length_nil, List.length_replicate, List.length_take, List.length_drop, List.length_set]; omega) | (simp <;> omega) | simp_all | rfl) (puN 32 32 (by omega) (by first | omega | (simp only [List.length_append, List.length_map, List.length_cons, List.length_nil, List.length_replicate, List.length_take, List.length_drop, List.length_set]; omega) | (simp <;> omega) | simp_all | rfl) (puN 32 (0) (by omega) (by first | omega | (simp only [List.length_append, List.length_map, List.length_cons, List.length_nil, List.length_replicate, List.length_take, List.length_drop, List.length_set]; omega) | (simp <;> omega) | simp_all | rfl) (puW (by first | omega | (simp only [List.length_append, List.length_map, List.length_cons, List.length_nil, List.length_replicate, List.length_take, List.length_drop, List.length_set]; omega) | (simp <;> omega) | simp_all | rfl)))))))))) rfl rfl rfl rfl ?_
  refine RegC.done ⟨.inl rfl, ?_⟩
  refine WP.nrm 40 ?_
  refine WP.reg k_mixed fun nm9 hnm9 => ?_
  refine RegC.q (i := 0) (op_loadW rfl k_agg_142 (by first | omega | (simp only [List.length_append, List.length_map, List.length_cons, List.length_nil, List.length_replicate, List.length_take, List.length_drop, List.length_set]; omega) | (simp <;> omega) | simp_all | rfl)) rfl rfl rfl rfl ?_
  refine RegC.a (op_call rfl k_call_95 (wprint_calls (nm9 0) (0) (by first | omega | (simp only [List.length_append, List.length_map, List.length_cons, List.length_nil, List.length_replicate, List.length_take, List.length_drop, List.length_set]; omega) | (simp <;> omega) | simp_all) (tag1 10 (k)) (by first | omega | (simp only [List.length_append, List.length_map, List.length_cons, List.length_nil, List.length_replicate, List.length_take, List.length_drop, List.length_set]; omega) | (simp <;> omega) | simp_all | rfl) (n) (by first | omega | (simp only [List.length_append, List.length_map, List.length_cons, List.length_nil, List.length_replicate, List.length_take, List.length_drop, List.length_set]; omega) | (simp <;> omega) | simp_all | rfl) (coverS (derS (k) [119, 114, 97, 112] (0)) (n) (sc)) (by first | omega | (simp only [List.length_append, List.length_map, List.length_cons, List.length_nil, List.length_replicate, List.length_take, List.length_drop, List.length_set]; omega) | (simp <;> omega) | simp_all | rfl) (tag1 8 (derS (k) [116, 97, 103] (0) ++ (aheadS (UInt32.ofNat (0)) (tag1 10 (k)) (n) (coverS (derS (k) [119, 114, 97, 112] (0)) (n) (sc)) ++ ([] : List UInt8)))) (by first | omega | (simp only [List.length_append, List.length_map, List.length_cons, List.length_nil, List.length_replicate, List.length_take, List.length_drop, List.length_set]; omega) | (simp <;> omega) | simp_all | rfl))) rfl rfl rfl ?_
  refine RegC.m (op_extract rfl rfl) rfl rfl rfl ?_
  refine RegC.m (op_extract rfl rfl) rfl rfl rfl ?_
  refine RegC.m (op_assign rfl) rfl rfl rfl ?_
  refine RegC.m (op_assign rfl) rfl rfl rfl ?_
  refine RegC.done ⟨.inl rfl, ?_⟩
  refine WP.nrm 40 ?_
  refine WP.ret1S (b' := b') (vf := fun q => .tup [.os q (0) (88) 1 false, .i (0)]) 1 (ResV.many rfl rfl (.cons (.tmp rfl) (.cons (.tmp rfl) (RessOf.nil)))) rfl (by simp) (tup_named (x := fun q => .os q (0) (88) 1 false) os_named) (.cons _ (.cons_cons _ (List.nil_sublist _))) ?_
  exact ⟨rfl, rfl⟩

def wrapL (k n sc : List UInt8) : List UInt8 := aheadS (UInt32.ofNat 0) (tag1 10 k) n (coverS (derS k [119, 114, 97, 112] 0) n sc) ++ tag1 8 (derS k [116, 97, 103] 0 ++ (aheadS (UInt32.ofNat 0) (tag1 10 k) n (coverS (derS k [119, 114, 97, 112] 0) n sc) ++ []))
theorem wrapL_length (k n sc : List UInt8) (hn : n.length = 16) (hsc : sc.length = 32) : (wrapL k n sc).length = 88 := by
  have := aheadS_length (UInt32.ofNat 0) (tag1 10 k) n (coverS (derS k [119, 114, 97, 112] 0) n sc) (by simp) hn (by simp [hsc])
  unfold wrapL; rw [List.length_append, this, tag1_length]
theorem wrap_d (k : List UInt8) (hk : k.length = 32) (n : List UInt8) (hn : n.length = 16) (sc : List UInt8) (hsc : sc.length = 32) :
    ACalls Try.prog 60 [.i 1, .agg (k.map AVal.u8), .i 0, .agg (n.map AVal.u8), VS AVal.u8 true ([] : List UInt8), .agg (sc.map AVal.u8)] [] [] (.tup [VS AVal.u8 false (wrapL k n sc), .i 0]) [] := cool2 (h := []) (fun b => wrap_calls b k hk n hn sc hsc) (wrapL_length k n sc hn hsc)

theorem wraps_calls  : ACalls Try.prog 31 [] [] [] (.bool true) [] := by
  refine ACalls.of_wp' (fn := Try.f31) (n := 17) Try.func31 rfl rfl ?_
  unfold Try.f31
  refine WP.nrm 40 ?_
  refine WP.reg k_mixed fun nm1 hnm1 => ?_
  refine RegC.m (op_assign rfl) rfl rfl rfl ?_
  refine RegC.done ⟨.inl rfl, ?_⟩
  refine WP.nrm 40 ?_
  refine WP.reg k_mixed fun nm2 hnm2 => ?_
  refine RegC.m (op_build (vs := List.map AVal.u8 []) (out := (List.replicate 32 (0 : UInt8)).map AVal.u8) rfl k_plA_23 k_zero_23 rfl (by simp)) rfl rfl rfl ?_
  refine RegC.m (op_build (vs := List.map AVal.u8 []) (out := (List.replicate 16 (0 : UInt8)).map AVal.u8) rfl k_plA_25 k_zero_25 rfl (by simp)) rfl rfl rfl ?_
  refine RegC.m (op_build (vs := List.map AVal.u8 [(1 : UInt8)]) (out := ((List.replicate 32 (0 : UInt8)).set 0 (1 : UInt8)).map AVal.u8) rfl k_plA_23 k_zero_23 rfl (by simp)) rfl rfl rfl ?_
  refine RegC.m (op_call rfl k_call_60 (wrap_d (List.replicate 32 (0 : UInt8)) (by first | omega | (simp only [List.length_append, List.length_map, List.length_cons, List.length_nil, List.length_replicate, List.length_take, List.length_drop, List.length_set]; omega) | (simp <;> omega) | simp_all | rfl) (List.replicate 16 (0 : UInt8)) (by first | omega | (simp only [List.length_append, List.length_map, List.length_cons, List.length_nil, List.length_replicate, List.length_take, List.length_drop, List.length_set]; omega) | (simp <;> omega) | simp_all | rfl) ((List.replicate 32 (0 : UInt8)).set 0 (1 : UInt8)) (by first | omega | (simp only [List.length_append, List.length_map, List.length_cons, List.length_nil, List.length_replicate, List.length_take, List.length_drop, List.length_set]; omega) | (simp <;> omega) | simp_all | rfl))) rfl rfl rfl ?_
  refine RegC.m (op_move rfl) rfl rfl rfl ?_
  refine RegC.m (op_extract rfl rfl) rfl rfl rfl ?_
  refine RegC.m (op_extract rfl rfl) rfl rfl rfl ?_
  refine RegC.m (op_assign rfl) rfl rfl rfl ?_
  refine RegC.m (op_assign rfl) rfl rfl rfl ?_
  refine RegC.done ⟨.inl rfl, ?_⟩
  refine WP.nrm 40 ?_
  refine WP.reg k_mixed fun nm3 hnm3 => ?_
  refine RegC.m (op_move rfl) rfl rfl rfl ?_
  refine RegC.m (op_eql rfl) rfl rfl rfl ?_
  refine RegC.m (op_move rfl) rfl rfl rfl ?_
  refine RegC.m (op_move rfl) rfl rfl rfl ?_
  refine RegC.m (op_lenV (f := AVal.u8) (l := wrapL (List.replicate 32 (0 : UInt8)) (List.replicate 16 (0 : UInt8)) ((List.replicate 32 (0 : UInt8)).set 0 (1 : UInt8))) rfl k_sl_26) rfl rfl rfl ?_
  refine RegC.m (OpV.boolE (t := ((((wrapL (List.replicate 32 (0 : UInt8)) (List.replicate 16 (0 : UInt8)) ((List.replicate 32 (0 : UInt8)).set 0 (1 : UInt8))).length : Int) : Int) == 88)) (u := true) (op_eql rfl) (by rw [wrapL_length _ _ _ (by simp) (by simp)]; rfl)) rfl rfl rfl ?_
  refine RegC.m (op_pick rfl) rfl rfl rfl ?_
  refine RegC.m (op_assign rfl) rfl rfl rfl ?_
  refine RegC.done ⟨.inl rfl, ?_⟩
  refine WP.nrm 40 ?_
  refine WP.retS (ResV.one rfl (.tmp rfl)) (List.nil_sublist _) ?_
  exact ⟨rfl, rfl⟩
end Go.Proofs.Try
