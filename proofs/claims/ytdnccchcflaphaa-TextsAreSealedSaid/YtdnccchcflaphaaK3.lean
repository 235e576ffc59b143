import Derived.Test.YtdnccchcflaphaaK1
import Derived.Test.YtdnccchcflaphaaFF
namespace Go.Proofs.Try
open Go Go.Kw
set_option linter.unusedVariables false
set_option linter.unusedSimpArgs false
set_option maxRecDepth 100000
theorem k_arr_22 : arrT Try.prog 22 = some (32, 5, 1) := by kernel_rfl
theorem k_fld_82_0 : fieldT Try.prog 82 0 = some 0 := by kernel_rfl
theorem k_fld_82_2 : fieldT Try.prog 82 2 = some 96 := by kernel_rfl
theorem k_scal_3 : scalT Try.prog 3 = true := by kernel_rfl
theorem k_call_74 : callable Try.prog 74 = true := by kernel_rfl
theorem k_fld_82_1 : fieldT Try.prog 82 1 = some 64 := by kernel_rfl
theorem k_plS_82 : (placesT Try.prog 82).isSome = true := by kernel_rfl
theorem k_zeroS_82 : zeroT Try.prog 82 = some (((List.replicate 64 (0 : UInt8)).map AVal.u8) ++ (((List.replicate 32 (0 : UInt8)).map AVal.u8) ++ ([.i (0)] ++ [.i (0)]))) := by kernel_rfl
theorem k_agg_82 : aggT Try.prog 82 = some 98 := by kernel_rfl
theorem k_fld_82_3 : fieldT Try.prog 82 3 = some 97 := by kernel_rfl
theorem k_call_38 : callable Try.prog 38 = true := by kernel_rfl
theorem k_call_14 : callable Try.prog 14 = true := by kernel_rfl
theorem k_zero_22 : zeroT Try.prog 22 = some ((List.replicate 32 (0 : UInt8)).map AVal.u8) := by kernel_rfl
theorem k_zero_43 : zeroT Try.prog 43 = some ((List.replicate 32 (0 : UInt8)).map AVal.u8) := by kernel_rfl
theorem k_call_39 : callable Try.prog 39 = true := by kernel_rfl
theorem k_arr_43 : arrT Try.prog 43 = some (32, 5, 1) := by kernel_rfl
theorem k_agg_43 : aggT Try.prog 43 = some 32 := by kernel_rfl
theorem k_call_15 : callable Try.prog 15 = true := by kernel_rfl
theorem k_app_26_9 : appT Try.prog #[26, 9] = some (5, 1, 1) := by kernel_rfl
theorem k_undI_3 : Try.prog.underlying 3 = some (.int .i64) := by kernel_rfl
theorem k_zero1_5 : (Try.prog.info? 5).bind (·.zero) = some (Value.int .u8 0) := by kernel_rfl
theorem k_call_40 : callable Try.prog 40 = true := by kernel_rfl
theorem k_call_13 : callable Try.prog 13 = true := by kernel_rfl
theorem k_undP_37 : Try.prog.underlying 37 = some (.pointer 82) := by kernel_rfl
theorem k_sl_36 : slT Try.prog 36 = some (26, 1, 24) := by kernel_rfl
theorem k_scal_26 : scalT Try.prog 26 = true := by kernel_rfl
theorem k_call_16 : callable Try.prog 16 = true := by kernel_rfl
theorem k_call_17 : callable Try.prog 17 = true := by kernel_rfl
theorem k_call_18 : callable Try.prog 18 = true := by kernel_rfl
theorem k_arr8_43 : arr8T Try.prog 43 32 = true := by kernel_rfl
end Go.Proofs.Try
