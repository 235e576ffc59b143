import Derived.Test.YtdnccchcflaphaaFF
import Derived.Test.YtdnccchcflaphaaProg
import Derived.KernelRfl
namespace Go.Proofs.Try
open Go Go.Kw
set_option linter.unusedVariables false
set_option linter.unusedSimpArgs false
set_option maxRecDepth 100000
theorem k_mixed : Try.prog.follows .mixedOrders = true := by kernel_rfl
theorem k_arr_133 : arrT Try.prog 133 = some (4, 5, 1) := by kernel_rfl
theorem k_scal_5 : scalT Try.prog 5 = true := by kernel_rfl
theorem k_und_5 : (Try.prog.underlying 5).isSome = true := by kernel_rfl
theorem k_undI_102 : Try.prog.underlying 102 = some (.int .u32) := by kernel_rfl
theorem k_zero_133 : zeroT Try.prog 133 = some ((List.replicate 4 (0 : UInt8)).map AVal.u8) := by kernel_rfl
theorem k_und_102 : (Try.prog.underlying 102).isSome = true := by kernel_rfl
theorem k_undI_5 : Try.prog.underlying 5 = some (.int .u8) := by kernel_rfl
theorem k_agg_133 : aggT Try.prog 133 = some 4 := by kernel_rfl
theorem k_zero_114 : zeroT Try.prog 114 = some ((List.replicate 8 (0 : UInt8)).map AVal.u8) := by kernel_rfl
theorem k_und_78 : (Try.prog.underlying 78).isSome = true := by kernel_rfl
theorem k_call_87 : callable Try.prog 87 = true := by kernel_rfl
theorem k_arr_114 : arrT Try.prog 114 = some (8, 5, 1) := by kernel_rfl
theorem k_agg_114 : aggT Try.prog 114 = some 8 := by kernel_rfl
theorem k_und_3 : (Try.prog.underlying 3).isSome = true := by kernel_rfl
theorem k_undI_60 : Try.prog.underlying 60 = some (.int .u64) := by kernel_rfl
theorem k_arr_116 : arrT Try.prog 116 = some (16, 102, 1) := by kernel_rfl
theorem k_scal_102 : scalT Try.prog 102 = true := by kernel_rfl
theorem k_call_106 : callable Try.prog 106 = true := by kernel_rfl
theorem k_undI_78 : Try.prog.underlying 78 = some (.int .u64) := by kernel_rfl
theorem k_zero_116 : zeroT Try.prog 116 = some ((List.replicate 16 (0 : UInt32)).map AVal.u32) := by kernel_rfl
theorem k_arr_76 : arrT Try.prog 76 = some (64, 5, 1) := by kernel_rfl
theorem k_call_120 : callable Try.prog 120 = true := by kernel_rfl
theorem k_agg_116 : aggT Try.prog 116 = some 16 := by kernel_rfl
theorem k_zero_76 : zeroT Try.prog 76 = some ((List.replicate 64 (0 : UInt8)).map AVal.u8) := by kernel_rfl
theorem k_sl_26 : slT Try.prog 26 = some (5, 1, 1) := by kernel_rfl
theorem k_agg_76 : aggT Try.prog 76 = some 64 := by kernel_rfl
theorem k_call_104 : callable Try.prog 104 = true := by kernel_rfl
theorem k_call_105 : callable Try.prog 105 = true := by kernel_rfl
theorem k_call_107 : callable Try.prog 107 = true := by kernel_rfl
theorem k_call_71 : callable Try.prog 71 = true := by kernel_rfl
theorem k_call_72 : callable Try.prog 72 = true := by kernel_rfl
theorem k_call_73 : callable Try.prog 73 = true := by kernel_rfl
theorem k_zeroE_5 : zeroT Try.prog 5 = some [AVal.u8 (0 : UInt8)] := by kernel_rfl
theorem k_undSl_26 : Try.prog.underlying 26 = some (.slice 5) := by kernel_rfl
theorem k_undS_9 : Try.prog.underlying 9 = some .string := by kernel_rfl
theorem k_arr_23 : arrT Try.prog 23 = some (32, 5, 1) := by kernel_rfl
theorem k_arr_25 : arrT Try.prog 25 = some (16, 5, 1) := by kernel_rfl
theorem k_call_69 : callable Try.prog 69 = true := by kernel_rfl
theorem k_call_70 : callable Try.prog 70 = true := by kernel_rfl
theorem k_agg_23 : aggT Try.prog 23 = some 32 := by kernel_rfl
theorem k_agg_25 : aggT Try.prog 25 = some 16 := by kernel_rfl
theorem k_call_35 : callable Try.prog 35 = true := by kernel_rfl
theorem k_app_26_26 : appT Try.prog #[26, 26] = some (5, 1, 1) := by kernel_rfl
theorem k_call_8 : callable Try.prog 8 = true := by kernel_rfl
theorem k_call_34 : callable Try.prog 34 = true := by kernel_rfl
theorem k_call_36 : callable Try.prog 36 = true := by kernel_rfl
theorem k_call_37 : callable Try.prog 37 = true := by kernel_rfl
theorem k_call_10 : callable Try.prog 10 = true := by kernel_rfl
theorem k_call_7 : callable Try.prog 7 = true := by kernel_rfl
theorem k_call_11 : callable Try.prog 11 = true := by kernel_rfl
theorem k_call_12 : callable Try.prog 12 = true := by kernel_rfl
theorem k_call_9 : callable Try.prog 9 = true := by kernel_rfl
end Go.Proofs.Try
