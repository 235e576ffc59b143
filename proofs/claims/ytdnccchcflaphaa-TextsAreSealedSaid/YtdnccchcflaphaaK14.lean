import Derived.Test.YtdnccchcflaphaaK13
import Derived.Test.YtdnccchcflaphaaFF
import Derived.Test.YtdnccchcflaphaaS12
namespace Go.Proofs.Try
open Go Go.Kw
set_option linter.unusedVariables false
set_option linter.unusedSimpArgs false
set_option maxRecDepth 100000
set_option maxHeartbeats 400000
theorem k_fld_151_0 : fieldT Try.prog 151 0 = some 0 := by kernel_rfl
theorem k_arr8_104 : arr8T Try.prog 104 16 = true := by kernel_rfl
theorem k_call_102 : callable Try.prog 102 = true := by kernel_rfl
theorem k_call_103 : callable Try.prog 103 = true := by kernel_rfl
theorem k_call_65 : callable Try.prog 65 = true := by kernel_rfl

theorem open_ok (k : List UInt8) (hk : k.length = 32) (f1 full : Bool) (head b : List UInt8) (hh : head.length ≤ 4096) (hb : b.length ≤ 16777216) (hE : lookE b = 0) (i : Nat) (hi : i < manyN b) (hg : goodB k head b i) : ACalls Try.prog 103 [.agg ([VS AVal.u8 full (b)] ++ ([.i ((blkN b : Int))] ++ [.i ((szN b : Int))])), .agg ((k).map AVal.u8), VS AVal.u8 f1 (head), .i ((i : Int))] [] [] (.tup [VS AVal.u8 false (plainB k b i), .i 0]) [] := by
  have o := ok_of hE
  have hlen := o.len
  have hlo := o.lo
  have hhi := o.hi
  have hsz := o.sz
  have hml : manyN b ≤ 16384 := manyS_le (szN b) (blkN b) (by omega) (by omega)
  have hle := end_le o i hi
  have hfrom : fromN b i = 32 + i * (blkN b + 16) := rfl
  have hend : endN b i = fromN b i + min (blkN b) (szN b - i * blkN b) := rfl
  have hib := many_bound (szN b) (blkN b) i (by omega) hi
  have hpl := partN_length o i hi
  have hp6 : (partN b i).length ≤ 65536 := by omega
  have hi6 : i ≤ 1048576 := by omega
  have hb32 : (b.take 32).length = 32 := by simp only [List.length_take]; omega
  have hm2 : i * (blkN b + 16) = i * blkN b + i * 16 := Nat.mul_add _ _ _
  have hmI : ((i * (blkN b + 16) : Nat) : Int) = (i : Int) * ((blkN b : Int) + 16) := by push_cast; rfl
  have htl := tagN_length b i hle.1
  refine ACalls.of_wp' (fn := Try.f103) (n := 66) Try.func103 rfl rfl ?_
  unfold Try.f103
  refine WP.nrm 40 ?_
  refine WP.reg k_mixed fun nm1 hnm1 => ?_
  refine RegC.m (op_boxD rfl) rfl rfl rfl ?_
  refine RegC.m (op_boxD rfl) rfl rfl rfl ?_
  refine RegC.m (op_assign rfl) rfl rfl rfl ?_
  refine RegC.m (op_assign rfl) rfl rfl rfl ?_
  refine RegC.done ⟨.inl rfl, ?_⟩
  refine WP.nrm 40 ?_
  refine WP.reg k_mixed fun nm2 hnm2 => ?_
  refine RegC.m (op_move rfl) rfl rfl rfl ?_
  refine RegC.m (op_fieldVE (off := 0) rfl k_fld_151_1 rfl) rfl rfl rfl ?_
  refine RegC.m (op_loadV (off := 1) rfl k_scal_3 (sgN 1 (0) (by omega) (by first | omega | (simp only [List.length_append, List.length_map, List.length_cons, List.length_nil, List.length_replicate, List.length_take, List.length_drop, List.length_set]; omega) | (simp <;> omega) | simp_all | rfl) (sgH rfl))) rfl rfl rfl ?_
  refine RegC.m (op_addI rfl (by first | omega | (simp only [List.length_append, List.length_map, List.length_cons, List.length_nil, List.length_replicate, List.length_take, List.length_drop, List.length_set]; omega) | (simp <;> omega) | simp_all)) rfl rfl rfl ?_
  refine RegC.m (op_mulI rfl (by first | omega | (simp only [List.length_append, List.length_map, List.length_cons, List.length_nil, List.length_replicate, List.length_take, List.length_drop, List.length_set]; omega) | (simp <;> omega) | simp_all)) rfl rfl rfl ?_
  refine RegC.m (op_addI rfl (by first | omega | (simp only [List.length_append, List.length_map, List.length_cons, List.length_nil, List.length_replicate, List.length_take, List.length_drop, List.length_set]; omega) | (simp <;> omega) | simp_all)) rfl rfl rfl ?_
  refine RegC.m (op_assign rfl) rfl rfl rfl ?_
  refine RegC.done ⟨.inl rfl, ?_⟩
  refine WP.nrm 40 ?_
  refine WP.reg k_mixed fun nm3 hnm3 => ?_
  refine RegC.m (op_move rfl) rfl rfl rfl ?_
  refine RegC.m (op_fieldVE (off := 0) rfl k_fld_151_1 rfl) rfl rfl rfl ?_
  refine RegC.m (op_loadV (off := 1) rfl k_scal_3 (sgN 1 (0) (by omega) (by first | omega | (simp only [List.length_append, List.length_map, List.length_cons, List.length_nil, List.length_replicate, List.length_take, List.length_drop, List.length_set]; omega) | (simp <;> omega) | simp_all | rfl) (sgH rfl))) rfl rfl rfl ?_
  refine RegC.m (op_fieldVE (off := 0) rfl k_fld_151_2 rfl) rfl rfl rfl ?_
  refine RegC.m (op_loadV (off := 2) rfl k_scal_3 (sgN 1 1 (by omega) (by first | omega | (simp only [List.length_append, List.length_map, List.length_cons, List.length_nil, List.length_replicate, List.length_take, List.length_drop, List.length_set]; omega) | (simp <;> omega) | simp_all | rfl) (sgN 1 (0) (by omega) (by first | omega | (simp only [List.length_append, List.length_map, List.length_cons, List.length_nil, List.length_replicate, List.length_take, List.length_drop, List.length_set]; omega) | (simp <;> omega) | simp_all | rfl) rfl))) rfl rfl rfl ?_
  refine RegC.m (op_move rfl) rfl rfl rfl ?_
  refine RegC.m (op_fieldVE (off := 0) rfl k_fld_151_1 rfl) rfl rfl rfl ?_
  refine RegC.m (op_loadV (off := 1) rfl k_scal_3 (sgN 1 (0) (by omega) (by first | omega | (simp only [List.length_append, List.length_map, List.length_cons, List.length_nil, List.length_replicate, List.length_take, List.length_drop, List.length_set]; omega) | (simp <;> omega) | simp_all | rfl) (sgH rfl))) rfl rfl rfl ?_
  refine RegC.m (op_mulI rfl (by first | omega | (simp only [List.length_append, List.length_map, List.length_cons, List.length_nil, List.length_replicate, List.length_take, List.length_drop, List.length_set]; omega) | (simp <;> omega) | simp_all)) rfl rfl rfl ?_
  refine RegC.m (op_subI rfl (by first | omega | (simp only [List.length_append, List.length_map, List.length_cons, List.length_nil, List.length_replicate, List.length_take, List.length_drop, List.length_set]; omega) | (simp <;> omega) | simp_all)) rfl rfl rfl ?_
  refine RegC.m (op_min rfl) rfl rfl rfl ?_
  refine RegC.m (op_addI rfl (by first | omega | (simp only [List.length_append, List.length_map, List.length_cons, List.length_nil, List.length_replicate, List.length_take, List.length_drop, List.length_set]; omega) | (simp <;> omega) | simp_all)) rfl rfl rfl ?_
  refine RegC.m (op_assign rfl) rfl rfl rfl ?_
  refine RegC.done ⟨.inl rfl, ?_⟩
  refine WP.nrm 40 ?_
  refine WP.reg k_mixed fun nm4 hnm4 => ?_
  refine RegC.m (op_fieldVE (off := 0) rfl k_fld_151_0 rfl) rfl rfl rfl ?_
  refine RegC.m (op_loadV (off := 0) rfl k_scal_26 (sgH rfl)) rfl rfl rfl ?_
  refine RegC.m (op_move rfl) rfl rfl rfl ?_
  refine RegC.m (op_move rfl) rfl rfl rfl ?_
  refine RegC.m (op_move rfl) rfl rfl rfl ?_
  refine RegC.m (OpV.to (op_sV111 (f := AVal.u8) (l := b) ((fromN b i)) ((endN b i)) rfl k_sl_26 (by first | omega | (simp only [List.length_append, List.length_map, List.length_cons, List.length_nil, List.length_replicate, List.length_take, List.length_drop, List.length_set]; omega) | (simp <;> omega) | simp_all) (by first | omega | (simp only [List.length_append, List.length_map, List.length_cons, List.length_nil, List.length_replicate, List.length_take, List.length_drop, List.length_set]; omega) | (simp <;> omega) | simp_all) (by first | omega | (simp only [List.length_append, List.length_map, List.length_cons, List.length_nil, List.length_replicate, List.length_take, List.length_drop, List.length_set]; omega) | (simp <;> omega) | simp_all) (by first | omega | (simp only [List.length_append, List.length_map, List.length_cons, List.length_nil, List.length_replicate, List.length_take, List.length_drop, List.length_set]; omega) | (simp <;> omega) | simp_all) (by first | omega | (simp only [List.length_append, List.length_map, List.length_cons, List.length_nil, List.length_replicate, List.length_take, List.length_drop, List.length_set]; omega) | (simp <;> omega) | simp_all)) (vsL rfl)) rfl rfl rfl ?_
  refine RegC.m (op_assign rfl) rfl rfl rfl ?_
  refine RegC.done ⟨.inl rfl, ?_⟩
  refine WP.nrm 40 ?_
  refine WP.reg k_mixed fun nm5 hnm5 => ?_
  refine RegC.m (op_loadVG (cells := (k).map AVal.u8) rfl k_agg_23 (by first | omega | (simp only [List.length_append, List.length_map, List.length_cons, List.length_nil, List.length_replicate, List.length_take, List.length_drop, List.length_set]; omega) | (simp <;> omega) | simp_all | rfl) (prW (by first | omega | (simp only [List.length_append, List.length_map, List.length_cons, List.length_nil, List.length_replicate, List.length_take, List.length_drop, List.length_set]; omega) | (simp <;> omega) | simp_all | rfl))) rfl rfl rfl ?_
  refine RegC.m (op_move rfl) rfl rfl rfl ?_
  refine RegC.m (op_fieldVE (off := 0) rfl k_fld_151_0 rfl) rfl rfl rfl ?_
  refine RegC.m (op_loadV (off := 0) rfl k_scal_26 (sgH rfl)) rfl rfl rfl ?_
  refine RegC.m (op_sV01 (f := AVal.u8) (l := b) (32) rfl k_sl_26 (by first | omega | (simp only [List.length_append, List.length_map, List.length_cons, List.length_nil, List.length_replicate, List.length_take, List.length_drop, List.length_set]; omega) | (simp <;> omega) | simp_all) (by first | omega | (simp only [List.length_append, List.length_map, List.length_cons, List.length_nil, List.length_replicate, List.length_take, List.length_drop, List.length_set]; omega) | (simp <;> omega) | simp_all)) rfl rfl rfl ?_
  refine RegC.m (op_move rfl) rfl rfl rfl ?_
  refine RegC.m (op_move rfl) rfl rfl rfl ?_
  refine RegC.m (op_call rfl k_call_59 (btS_calls (k) (by first | omega | (simp only [List.length_append, List.length_map, List.length_cons, List.length_nil, List.length_replicate, List.length_take, List.length_drop, List.length_set]; omega) | (simp <;> omega) | simp_all | rfl) f1 false true (head) ((b).take (32)) (partN b i) (by first | omega | (simp only [List.length_append, List.length_map, List.length_cons, List.length_nil, List.length_replicate, List.length_take, List.length_drop, List.length_set]; omega) | (simp <;> omega) | simp_all) (by first | omega | (simp only [List.length_append, List.length_map, List.length_cons, List.length_nil, List.length_replicate, List.length_take, List.length_drop, List.length_set]; omega) | (simp <;> omega) | simp_all | rfl) (by first | omega | (simp only [List.length_append, List.length_map, List.length_cons, List.length_nil, List.length_replicate, List.length_take, List.length_drop, List.length_set]; omega) | (simp <;> omega) | simp_all) (i) (by first | omega | (simp only [List.length_append, List.length_map, List.length_cons, List.length_nil, List.length_replicate, List.length_take, List.length_drop, List.length_set]; omega) | (simp <;> omega) | simp_all))) rfl rfl rfl ?_
  refine RegC.m (op_fieldVE (off := 0) rfl k_fld_151_0 rfl) rfl rfl rfl ?_
  refine RegC.m (op_loadV (off := 0) rfl k_scal_26 (sgH rfl)) rfl rfl rfl ?_
  refine RegC.m (op_move rfl) rfl rfl rfl ?_
  refine RegC.m (op_move rfl) rfl rfl rfl ?_
  refine RegC.m (op_addI rfl (by first | omega | (simp only [List.length_append, List.length_map, List.length_cons, List.length_nil, List.length_replicate, List.length_take, List.length_drop, List.length_set]; omega) | (simp <;> omega) | simp_all)) rfl rfl rfl ?_
  refine RegC.m (OpV.to (op_sV11 (f := AVal.u8) (l := b) ((endN b i)) (((endN b i) + 16)) rfl k_sl_26 (by first | omega | (simp only [List.length_append, List.length_map, List.length_cons, List.length_nil, List.length_replicate, List.length_take, List.length_drop, List.length_set]; omega) | (simp <;> omega) | simp_all) (by first | omega | (simp only [List.length_append, List.length_map, List.length_cons, List.length_nil, List.length_replicate, List.length_take, List.length_drop, List.length_set]; omega) | (simp <;> omega) | simp_all) (by first | omega | (simp only [List.length_append, List.length_map, List.length_cons, List.length_nil, List.length_replicate, List.length_take, List.length_drop, List.length_set]; omega) | (simp <;> omega) | simp_all) (by first | omega | (simp only [List.length_append, List.length_map, List.length_cons, List.length_nil, List.length_replicate, List.length_take, List.length_drop, List.length_set]; omega) | (simp <;> omega) | simp_all)) (vsL (tagN_of b _))) rfl rfl rfl ?_
  refine RegC.m (op_toArrM (f := AVal.u8) (l := tagN b i) rfl k_arr_104 (by first | omega | (simp only [List.length_append, List.length_map, List.length_cons, List.length_nil, List.length_replicate, List.length_take, List.length_drop, List.length_set]; omega) | (simp <;> omega) | simp_all) (by omega)) rfl rfl rfl ?_
  refine RegC.m (op_loadVP (f := AVal.u8) (l := tagN b i) (off := 0) rfl k_agg_104 (by first | omega | (simp only [List.length_append, List.length_map, List.length_cons, List.length_nil, List.length_replicate, List.length_take, List.length_drop, List.length_set]; omega) | (simp <;> omega) | simp_all)) rfl rfl rfl ?_
  refine RegC.m (OpV.boolE (t := (!((btS (k) (head) ((b).take (32)) (i) (partN b i) : List UInt8) == ((tagN b i).drop (0)).take 16))) (u := false) (op_neqA8 (l := btS (k) (head) ((b).take (32)) (i) (partN b i)) (l2 := ((tagN b i).drop (0)).take 16) rfl k_arr8_104 (by first | omega | (simp only [List.length_append, List.length_map, List.length_cons, List.length_nil, List.length_replicate, List.length_take, List.length_drop, List.length_set]; omega) | (simp <;> omega) | simp_all) (by first | omega | (simp only [List.length_append, List.length_map, List.length_cons, List.length_nil, List.length_replicate, List.length_take, List.length_drop, List.length_set]; omega) | (simp <;> omega) | simp_all)) (by rw [cmpS k head b i (by omega)]; simp [hg])) rfl rfl rfl ?_
  refine RegC.done ⟨.inr rfl, ?_⟩
  refine WP.nrm 40 ?_
  refine WP.cond (t := false) rfl ?_
  refine WP.nrm 40 ?_
  refine WP.reg k_mixed fun nm6 hnm6 => ?_
  refine RegC.m (op_loadVG (cells := (k).map AVal.u8) rfl k_agg_23 (by first | omega | (simp only [List.length_append, List.length_map, List.length_cons, List.length_nil, List.length_replicate, List.length_take, List.length_drop, List.length_set]; omega) | (simp <;> omega) | simp_all | rfl) (prW (by first | omega | (simp only [List.length_append, List.length_map, List.length_cons, List.length_nil, List.length_replicate, List.length_take, List.length_drop, List.length_set]; omega) | (simp <;> omega) | simp_all | rfl))) rfl rfl rfl ?_
  refine RegC.m (op_fieldVE (off := 0) rfl k_fld_151_0 rfl) rfl rfl rfl ?_
  refine RegC.m (op_loadV (off := 0) rfl k_scal_26 (sgH rfl)) rfl rfl rfl ?_
  refine RegC.m (op_sV11 (f := AVal.u8) (l := b) (4) (20) rfl k_sl_26 (by first | omega | (simp only [List.length_append, List.length_map, List.length_cons, List.length_nil, List.length_replicate, List.length_take, List.length_drop, List.length_set]; omega) | (simp <;> omega) | simp_all) (by first | omega | (simp only [List.length_append, List.length_map, List.length_cons, List.length_nil, List.length_replicate, List.length_take, List.length_drop, List.length_set]; omega) | (simp <;> omega) | simp_all) (by first | omega | (simp only [List.length_append, List.length_map, List.length_cons, List.length_nil, List.length_replicate, List.length_take, List.length_drop, List.length_set]; omega) | (simp <;> omega) | simp_all) (by first | omega | (simp only [List.length_append, List.length_map, List.length_cons, List.length_nil, List.length_replicate, List.length_take, List.length_drop, List.length_set]; omega) | (simp <;> omega) | simp_all)) rfl rfl rfl ?_
  refine RegC.m (op_toArrM (f := AVal.u8) (l := ((b).take (20)).drop (4)) rfl k_arr_25 (by first | omega | (simp only [List.length_append, List.length_map, List.length_cons, List.length_nil, List.length_replicate, List.length_take, List.length_drop, List.length_set]; omega) | (simp <;> omega) | simp_all) (by omega)) rfl rfl rfl ?_
  refine RegC.m (op_loadVP (f := AVal.u8) (l := ((b).take (20)).drop (4)) (off := 0) rfl k_agg_25 (by first | omega | (simp only [List.length_append, List.length_map, List.length_cons, List.length_nil, List.length_replicate, List.length_take, List.length_drop, List.length_set]; omega) | (simp <;> omega) | simp_all)) rfl rfl rfl ?_
  refine RegC.m (op_move rfl) rfl rfl rfl ?_
  refine RegC.m (op_call rfl k_call_58 (bnS_calls (((((b).take (20)).drop (4)).drop (0)).take 16) (by first | omega | (simp only [List.length_append, List.length_map, List.length_cons, List.length_nil, List.length_replicate, List.length_take, List.length_drop, List.length_set]; omega) | (simp <;> omega) | simp_all | rfl) (i) (by first | omega | (simp only [List.length_append, List.length_map, List.length_cons, List.length_nil, List.length_replicate, List.length_take, List.length_drop, List.length_set]; omega) | (simp <;> omega) | simp_all))) rfl rfl rfl ?_
  refine RegC.m (op_move rfl) rfl rfl rfl ?_
  refine RegC.m (op_call rfl k_call_11 (cool2 (h := []) (fun b9 => cover_calls b9 true (partN b i) (k) (bnS (((((b).take (20)).drop (4)).drop (0)).take 16) (i)) (by first | omega | (simp only [List.length_append, List.length_map, List.length_cons, List.length_nil, List.length_replicate, List.length_take, List.length_drop, List.length_set]; omega) | (simp <;> omega) | simp_all) (by first | omega | (simp only [List.length_append, List.length_map, List.length_cons, List.length_nil, List.length_replicate, List.length_take, List.length_drop, List.length_set]; omega) | (simp <;> omega) | simp_all) (by first | omega | (simp only [List.length_append, List.length_map, List.length_cons, List.length_nil, List.length_replicate, List.length_take, List.length_drop, List.length_set]; omega) | (simp <;> omega) | simp_all)) (by simp))) rfl rfl rfl ?_
  refine RegC.m (op_extract rfl rfl) rfl rfl rfl ?_
  refine RegC.m (op_extract rfl rfl) rfl rfl rfl ?_
  refine RegC.m (op_assign rfl) rfl rfl rfl ?_
  refine RegC.m (op_assign rfl) rfl rfl rfl ?_
  refine RegC.done ⟨.inr rfl, ?_⟩
  refine WP.nrm 40 ?_
  refine WP.retS (ResV.many rfl rfl (.cons (.tmp rfl) (.cons (.tmp rfl) (RessOf.nil)))) (List.nil_sublist _) ?_
  exact ⟨by rw [nonceN, plain_eq k b i hk], rfl⟩

theorem open_bad (k : List UInt8) (hk : k.length = 32) (f1 full : Bool) (head b : List UInt8) (hh : head.length ≤ 4096) (hb : b.length ≤ 16777216) (hE : lookE b = 0) (i : Nat) (hi : i < manyN b) (hg : ¬ goodB k head b i) : ACalls Try.prog 103 [.agg ([VS AVal.u8 full (b)] ++ ([.i ((blkN b : Int))] ++ [.i ((szN b : Int))])), .agg ((k).map AVal.u8), VS AVal.u8 f1 (head), .i ((i : Int))] [] [] (.tup [VS AVal.u8 true ([] : List UInt8), .i 13]) [] := by
  have o := ok_of hE
  have hlen := o.len
  have hlo := o.lo
  have hhi := o.hi
  have hsz := o.sz
  have hml : manyN b ≤ 16384 := manyS_le (szN b) (blkN b) (by omega) (by omega)
  have hle := end_le o i hi
  have hfrom : fromN b i = 32 + i * (blkN b + 16) := rfl
  have hend : endN b i = fromN b i + min (blkN b) (szN b - i * blkN b) := rfl
  have hib := many_bound (szN b) (blkN b) i (by omega) hi
  have hpl := partN_length o i hi
  have hp6 : (partN b i).length ≤ 65536 := by omega
  have hi6 : i ≤ 1048576 := by omega
  have hb32 : (b.take 32).length = 32 := by simp only [List.length_take]; omega
  have hm2 : i * (blkN b + 16) = i * blkN b + i * 16 := Nat.mul_add _ _ _
  have hmI : ((i * (blkN b + 16) : Nat) : Int) = (i : Int) * ((blkN b : Int) + 16) := by push_cast; rfl
  have htl := tagN_length b i hle.1
  refine ACalls.of_wp' (fn := Try.f103) (n := 66) Try.func103 rfl rfl ?_
  unfold Try.f103
  refine WP.nrm 40 ?_
  refine WP.reg k_mixed fun nm1 hnm1 => ?_
  refine RegC.m (op_boxD rfl) rfl rfl rfl ?_
  refine RegC.m (op_boxD rfl) rfl rfl rfl ?_
  refine RegC.m (op_assign rfl) rfl rfl rfl ?_
  refine RegC.m (op_assign rfl) rfl rfl rfl ?_
  refine RegC.done ⟨.inl rfl, ?_⟩
  refine WP.nrm 40 ?_
  refine WP.reg k_mixed fun nm2 hnm2 => ?_
  refine RegC.m (op_move rfl) rfl rfl rfl ?_
  refine RegC.m (op_fieldVE (off := 0) rfl k_fld_151_1 rfl) rfl rfl rfl ?_
  refine RegC.m (op_loadV (off := 1) rfl k_scal_3 (sgN 1 (0) (by omega) (by first | omega | (simp only [List.length_append, List.length_map, List.length_cons, List.length_nil, List.length_replicate, List.length_take, List.length_drop, List.length_set]; omega) | (simp <;> omega) | simp_all | rfl) (sgH rfl))) rfl rfl rfl ?_
  refine RegC.m (op_addI rfl (by first | omega | (simp only [List.length_append, List.length_map, List.length_cons, List.length_nil, List.length_replicate, List.length_take, List.length_drop, List.length_set]; omega) | (simp <;> omega) | simp_all)) rfl rfl rfl ?_
  refine RegC.m (op_mulI rfl (by first | omega | (simp only [List.length_append, List.length_map, List.length_cons, List.length_nil, List.length_replicate, List.length_take, List.length_drop, List.length_set]; omega) | (simp <;> omega) | simp_all)) rfl rfl rfl ?_
  refine RegC.m (op_addI rfl (by first | omega | (simp only [List.length_append, List.length_map, List.length_cons, List.length_nil, List.length_replicate, List.length_take, List.length_drop, List.length_set]; omega) | (simp <;> omega) | simp_all)) rfl rfl rfl ?_
  refine RegC.m (op_assign rfl) rfl rfl rfl ?_
  refine RegC.done ⟨.inl rfl, ?_⟩
  refine WP.nrm 40 ?_
  refine WP.reg k_mixed fun nm3 hnm3 => ?_
  refine RegC.m (op_move rfl) rfl rfl rfl ?_
  refine RegC.m (op_fieldVE (off := 0) rfl k_fld_151_1 rfl) rfl rfl rfl ?_
  refine RegC.m (op_loadV (off := 1) rfl k_scal_3 (sgN 1 (0) (by omega) (by first | omega | (simp only [List.length_append, List.length_map, List.length_cons, List.length_nil, List.length_replicate, List.length_take, List.length_drop, List.length_set]; omega) | (simp <;> omega) | simp_all | rfl) (sgH rfl))) rfl rfl rfl ?_
  refine RegC.m (op_fieldVE (off := 0) rfl k_fld_151_2 rfl) rfl rfl rfl ?_
  refine RegC.m (op_loadV (off := 2) rfl k_scal_3 (sgN 1 1 (by omega) (by first | omega | (simp only [List.length_append, List.length_map, List.length_cons, List.length_nil, List.length_replicate, List.length_take, List.length_drop, List.length_set]; omega) | (simp <;> omega) | simp_all | rfl) (sgN 1 (0) (by omega) (by first | omega | (simp only [List.length_append, List.length_map, List.length_cons, List.length_nil, List.length_replicate, List.length_take, List.length_drop, List.length_set]; omega) | (simp <;> omega) | simp_all | rfl) rfl))) rfl rfl rfl ?_
  refine RegC.m (op_move rfl) rfl rfl rfl ?_
  refine RegC.m (op_fieldVE (off := 0) rfl k_fld_151_1 rfl) rfl rfl rfl ?_
  refine RegC.m (op_loadV (off := 1) rfl k_scal_3 (sgN 1 (0) (by omega) (by first | omega | (simp only [List.length_append, List.length_map, List.length_cons, List.length_nil, List.length_replicate, List.length_take, List.length_drop, List.length_set]; omega) | (simp <;> omega) | simp_all | rfl) (sgH rfl))) rfl rfl rfl ?_
  refine RegC.m (op_mulI rfl (by first | omega | (simp only [List.length_append, List.length_map, List.length_cons, List.length_nil, List.length_replicate, List.length_take, List.length_drop, List.length_set]; omega) | (simp <;> omega) | simp_all)) rfl rfl rfl ?_
  refine RegC.m (op_subI rfl (by first | omega | (simp only [List.length_append, List.length_map, List.length_cons, List.length_nil, List.length_replicate, List.length_take, List.length_drop, List.length_set]; omega) | (simp <;> omega) | simp_all)) rfl rfl rfl ?_
  refine RegC.m (op_min rfl) rfl rfl rfl ?_
  refine RegC.m (op_addI rfl (by first | omega | (simp only [List.length_append, List.length_map, List.length_cons, List.length_nil, List.length_replicate, List.length_take, List.length_drop, List.length_set]; omega) | (simp <;> omega) | simp_all)) rfl rfl rfl ?_
  refine RegC.m (op_assign rfl) rfl rfl rfl ?_
  refine RegC.done ⟨.inl rfl, ?_⟩
  refine WP.nrm 40 ?_
  refine WP.reg k_mixed fun nm4 hnm4 => ?_
  refine RegC.m (op_fieldVE (off := 0) rfl k_fld_151_0 rfl) rfl rfl rfl ?_
  refine RegC.m (op_loadV (off := 0) rfl k_scal_26 (sgH rfl)) rfl rfl rfl ?_
  refine RegC.m (op_move rfl) rfl rfl rfl ?_
  refine RegC.m (op_move rfl) rfl rfl rfl ?_
  refine RegC.m (op_move rfl) rfl rfl rfl ?_
  refine RegC.m (OpV.to (op_sV111 (f := AVal.u8) (l := b) ((fromN b i)) ((endN b i)) rfl k_sl_26 (by first | omega | (simp only [List.length_append, List.length_map, List.length_cons, List.length_nil, List.length_replicate, List.length_take, List.length_drop, List.length_set]; omega) | (simp <;> omega) | simp_all) (by first | omega | (simp only [List.length_append, List.length_map, List.length_cons, List.length_nil, List.length_replicate, List.length_take, List.length_drop, List.length_set]; omega) | (simp <;> omega) | simp_all) (by first | omega | (simp only [List.length_append, List.length_map, List.length_cons, List.length_nil, List.length_replicate, List.length_take, List.length_drop, List.length_set]; omega) | (simp <;> omega) | simp_all) (by first | omega | (simp only [List.length_append, List.length_map, List.length_cons, List.length_nil, List.length_replicate, List.length_take, List.length_drop, List.length_set]; omega) | (simp <;> omega) | simp_all) (by first | omega | (simp only [List.length_append, List.length_map, List.length_cons, List.length_nil, List.length_replicate, List.length_take, List.length_drop, List.length_set]; omega) | (simp <;> omega) | simp_all)) (vsL rfl)) rfl rfl rfl ?_
  refine RegC.m (op_assign rfl) rfl rfl rfl ?_
  refine RegC.done ⟨.inl rfl, ?_⟩
  refine WP.nrm 40 ?_
  refine WP.reg k_mixed fun nm5 hnm5 => ?_
  refine RegC.m (op_loadVG (cells := (k).map AVal.u8) rfl k_agg_23 (by first | omega | (simp only [List.length_append, List.length_map, List.length_cons, List.length_nil, List.length_replicate, List.length_take, List.length_drop, List.length_set]; omega) | (simp <;> omega) | simp_all | rfl) (prW (by first | omega | (simp only [List.length_append, List.length_map, List.length_cons, List.length_nil, List.length_replicate, List.length_take, List.length_drop, List.length_set]; omega) | (simp <;> omega) | simp_all | rfl))) rfl rfl rfl ?_
  refine RegC.m (op_move rfl) rfl rfl rfl ?_
  refine RegC.m (op_fieldVE (off := 0) rfl k_fld_151_0 rfl) rfl rfl rfl ?_
  refine RegC.m (op_loadV (off := 0) rfl k_scal_26 (sgH rfl)) rfl rfl rfl ?_
  refine RegC.m (op_sV01 (f := AVal.u8) (l := b) (32) rfl k_sl_26 (by first | omega | (simp only [List.length_append, List.length_map, List.length_cons, List.length_nil, List.length_replicate, List.length_take, List.length_drop, List.length_set]; omega) | (simp <;> omega) | simp_all) (by first | omega | (simp only [List.length_append, List.length_map, List.length_cons, List.length_nil, List.length_replicate, List.length_take, List.length_drop, List.length_set]; omega) | (simp <;> omega) | simp_all)) rfl rfl rfl ?_
  refine RegC.m (op_move rfl) rfl rfl rfl ?_
  refine RegC.m (op_move rfl) rfl rfl rfl ?_
  refine RegC.m (op_call rfl k_call_59 (btS_calls (k) (by first | omega | (simp only [List.length_append, List.length_map, List.length_cons, List.length_nil, List.length_replicate, List.length_take, List.length_drop, List.length_set]; omega) | (simp <;> omega) | simp_all | rfl) f1 false true (head) ((b).take (32)) (partN b i) (by first | omega | (simp only [List.length_append, List.length_map, List.length_cons, List.length_nil, List.length_replicate, List.length_take, List.length_drop, List.length_set]; omega) | (simp <;> omega) | simp_all) (by first | omega | (simp only [List.length_append, List.length_map, List.length_cons, List.length_nil, List.length_replicate, List.length_take, List.length_drop, List.length_set]; omega) | (simp <;> omega) | simp_all | rfl) (by first | omega | (simp only [List.length_append, List.length_map, List.length_cons, List.length_nil, List.length_replicate, List.length_take, List.length_drop, List.length_set]; omega) | (simp <;> omega) | simp_all) (i) (by first | omega | (simp only [List.length_append, List.length_map, List.length_cons, List.length_nil, List.length_replicate, List.length_take, List.length_drop, List.length_set]; omega) | (simp <;> omega) | simp_all))) rfl rfl rfl ?_
  refine RegC.m (op_fieldVE (off := 0) rfl k_fld_151_0 rfl) rfl rfl rfl ?_
  refine RegC.m (op_loadV (off := 0) rfl k_scal_26 (sgH rfl)) rfl rfl rfl ?_
  refine RegC.m (op_move rfl) rfl rfl rfl ?_
  refine RegC.m (op_move rfl) rfl rfl rfl ?_
  refine RegC.m (op_addI rfl (by first | omega | (simp only [List.length_append, List.length_map, List.length_cons, List.length_nil, List.length_replicate, List.length_take, List.length_drop, List.length_set]; omega) | (simp <;> omega) | simp_all)) rfl rfl rfl ?_
  refine RegC.m (OpV.to (op_sV11 (f := AVal.u8) (l := b) ((endN b i)) (((endN b i) + 16)) rfl k_sl_26 (by first | omega | (simp only [List.length_append, List.length_map, List.length_cons, List.length_nil, List.length_replicate, List.length_take, List.length_drop, List.length_set]; omega) | (simp <;> omega) | simp_all) (by first | omega | (simp only [List.length_append, List.length_map, List.length_cons, List.length_nil, List.length_replicate, List.length_take, List.length_drop, List.length_set]; omega) | (simp <;> omega) | simp_all) (by first | omega | (simp only [List.length_append, List.length_map, List.length_cons, List.length_nil, List.length_replicate, List.length_take, List.length_drop, List.length_set]; omega) | (simp <;> omega) | simp_all) (by first | omega | (simp only [List.length_append, List.length_map, List.length_cons, List.length_nil, List.length_replicate, List.length_take, List.length_drop, List.length_set]; omega) | (simp <;> omega) | simp_all)) (vsL (tagN_of b _))) rfl rfl rfl ?_
  refine RegC.m (op_toArrM (f := AVal.u8) (l := tagN b i) rfl k_arr_104 (by first | omega | (simp only [List.length_append, List.length_map, List.length_cons, List.length_nil, List.length_replicate, List.length_take, List.length_drop, List.length_set]; omega) | (simp <;> omega) | simp_all) (by omega)) rfl rfl rfl ?_
  refine RegC.m (op_loadVP (f := AVal.u8) (l := tagN b i) (off := 0) rfl k_agg_104 (by first | omega | (simp only [List.length_append, List.length_map, List.length_cons, List.length_nil, List.length_replicate, List.length_take, List.length_drop, List.length_set]; omega) | (simp <;> omega) | simp_all)) rfl rfl rfl ?_
  refine RegC.m (OpV.boolE (t := (!((btS (k) (head) ((b).take (32)) (i) (partN b i) : List UInt8) == ((tagN b i).drop (0)).take 16))) (u := true) (op_neqA8 (l := btS (k) (head) ((b).take (32)) (i) (partN b i)) (l2 := ((tagN b i).drop (0)).take 16) rfl k_arr8_104 (by first | omega | (simp only [List.length_append, List.length_map, List.length_cons, List.length_nil, List.length_replicate, List.length_take, List.length_drop, List.length_set]; omega) | (simp <;> omega) | simp_all) (by first | omega | (simp only [List.length_append, List.length_map, List.length_cons, List.length_nil, List.length_replicate, List.length_take, List.length_drop, List.length_set]; omega) | (simp <;> omega) | simp_all)) (by rw [cmpS k head b i (by omega)]; simp [hg])) rfl rfl rfl ?_
  refine RegC.done ⟨.inr rfl, ?_⟩
  refine WP.nrm 40 ?_
  refine WP.cond (t := true) rfl ?_
  refine WP.nrm 40 ?_
  refine WP.reg k_mixed fun nm6 hnm6 => ?_
  refine RegC.m (op_assign rfl) rfl rfl rfl ?_
  refine RegC.m (op_assign rfl) rfl rfl rfl ?_
  refine RegC.done ⟨.inl rfl, ?_⟩
  refine WP.nrm 40 ?_
  refine WP.retS (ResV.many rfl rfl (.cons (.tmp rfl) (.cons (.tmp rfl) (RessOf.nil)))) (List.nil_sublist _) ?_
  exact ⟨rfl, rfl⟩

theorem open_calls (k : List UInt8) (hk : k.length = 32) (f1 full : Bool) (head b : List UInt8) (hh : head.length ≤ 4096) (hb : b.length ≤ 16777216) (hE : lookE b = 0) (i : Nat) (hi : i < manyN b) : ACalls Try.prog 103 [.agg ([VS AVal.u8 full (b)] ++ ([.i ((blkN b : Int))] ++ [.i ((szN b : Int))])), .agg (k.map AVal.u8), VS AVal.u8 f1 head, .i i] [] [] (.tup [VS AVal.u8 false (openB k head b i), .i (openE k head b i)]) [] := by
  by_cases hg : goodB k head b i
  · rw [openB, openE, if_pos hg, if_pos hg]; exact open_ok k hk f1 full head b hh hb hE i hi hg
  · rw [openB, openE, if_neg hg, if_neg hg]; exact ACalls.weakRes (open_bad k hk f1 full head b hh hb hE i hi hg)

theorem block_in (k : List UInt8) (hk : k.length = 32) (f1 full : Bool) (head b : List UInt8) (hh : head.length ≤ 4096) (hb : b.length ≤ 16777216) (hE : lookE b = 0) (i : Nat) (hi : i < manyN b) : ACalls Try.prog 66 [.agg ((k).map AVal.u8), VS AVal.u8 f1 (head), VS AVal.u8 full (b), .i ((i : Int))] [] [] (.tup [VS AVal.u8 false (openB k head b i), .i (openE k head b i)]) [] := by
  have o := ok_of hE
  have hlen := o.len
  have hlo := o.lo
  have hhi := o.hi
  have hsz := o.sz
  have hml : manyN b ≤ 16384 := manyS_le (szN b) (blkN b) (by omega) (by omega)
  refine ACalls.of_wp' (fn := Try.f66) (n := 36) Try.func66 rfl rfl ?_
  unfold Try.f66
  refine WP.nrm 40 ?_
  refine WP.reg k_mixed fun nm1 hnm1 => ?_
  refine RegC.m (op_boxD rfl) rfl rfl rfl ?_
  refine RegC.m (op_assign rfl) rfl rfl rfl ?_
  refine RegC.m (op_assign rfl) rfl rfl rfl ?_
  refine RegC.done ⟨.inl rfl, ?_⟩
  refine WP.nrm 40 ?_
  refine WP.reg k_mixed fun nm2 hnm2 => ?_
  refine RegC.m (op_move rfl) rfl rfl rfl ?_
  refine RegC.m (op_move rfl) rfl rfl rfl ?_
  refine RegC.m (op_call rfl k_call_102 (lookWith_ok f1 full (head) (b) (by first | omega | (simp only [List.length_append, List.length_map, List.length_cons, List.length_nil, List.length_replicate, List.length_take, List.length_drop, List.length_set]; omega) | (simp <;> omega) | simp_all) (by first | omega | (simp only [List.length_append, List.length_map, List.length_cons, List.length_nil, List.length_replicate, List.length_take, List.length_drop, List.length_set]; omega) | (simp <;> omega) | simp_all) hE)) rfl rfl rfl ?_
  refine RegC.m (op_move rfl) rfl rfl rfl ?_
  refine RegC.m (op_extract rfl rfl) rfl rfl rfl ?_
  refine RegC.m (op_extract rfl rfl) rfl rfl rfl ?_
  refine RegC.a (op_alloc rfl k_zeroS_151) rfl rfl rfl ?_
  refine RegC.w (i := 0) (op_storeW rfl k_agg_151 (by first | omega | (simp only [List.length_append, List.length_map, List.length_cons, List.length_nil, List.length_replicate, List.length_take, List.length_drop, List.length_set]; omega) | (simp <;> omega) | simp_all | rfl) (by first | omega | (simp only [List.length_append, List.length_map, List.length_cons, List.length_nil, List.length_replicate, List.length_take, List.length_drop, List.length_set]; omega) | (simp <;> omega) | simp_all | rfl) (by simp [AVal.scalar])) rfl rfl rfl rfl ?_
  refine RegC.m (op_assign rfl) rfl rfl rfl ?_
  refine RegC.done ⟨.inl rfl, ?_⟩
  refine WP.nrm 40 ?_
  refine WP.reg k_mixed fun nm3 hnm3 => ?_
  refine RegC.m (op_move rfl) rfl rfl rfl ?_
  refine RegC.m (op_neq rfl) rfl rfl rfl ?_
  refine RegC.done ⟨.inl rfl, ?_⟩
  refine WP.nrm 40 ?_
  refine WP.cond (t := false) rfl ?_
  refine WP.nrm 40 ?_
  refine WP.reg k_mixed fun nm4 hnm4 => ?_
  refine RegC.m (op_move rfl) rfl rfl rfl ?_
  refine RegC.m (OpV.boolF (op_lss rfl) (by omega)) rfl rfl rfl ?_
  refine RegC.m (op_move rfl) rfl rfl rfl ?_
  refine RegC.m (op_move rfl) rfl rfl rfl ?_
  refine RegC.q (i := 0) (op_loadW rfl k_agg_151 (by first | omega | (simp only [List.length_append, List.length_map, List.length_cons, List.length_nil, List.length_replicate, List.length_take, List.length_drop, List.length_set]; omega) | (simp <;> omega) | simp_all | rfl)) rfl rfl rfl rfl ?_
  refine RegC.m (op_call rfl k_call_100 (many_calls full (b) (blkN (b)) (szN (b)) (by first | omega | (simp only [List.length_append, List.length_map, List.length_cons, List.length_nil, List.length_replicate, List.length_take, List.length_drop, List.length_set]; omega) | (simp <;> omega) | simp_all) (by first | omega | (simp only [List.length_append, List.length_map, List.length_cons, List.length_nil, List.length_replicate, List.length_take, List.length_drop, List.length_set]; omega) | (simp <;> omega) | simp_all) (by first | omega | (simp only [List.length_append, List.length_map, List.length_cons, List.length_nil, List.length_replicate, List.length_take, List.length_drop, List.length_set]; omega) | (simp <;> omega) | simp_all))) rfl rfl rfl ?_
  refine RegC.m (OpV.boolF (op_geq rfl) (by have : manyN b = manyS (szN b) (blkN b) := rfl; omega)) rfl rfl rfl ?_
  refine RegC.m (op_pick rfl) rfl rfl rfl ?_
  refine RegC.done ⟨.inl rfl, ?_⟩
  refine WP.nrm 40 ?_
  refine WP.cond (t := false) rfl ?_
  refine WP.nrm 40 ?_
  refine WP.reg k_mixed fun nm5 hnm5 => ?_
  refine RegC.q (i := 0) (op_loadW rfl k_agg_151 (by first | omega | (simp only [List.length_append, List.length_map, List.length_cons, List.length_nil, List.length_replicate, List.length_take, List.length_drop, List.length_set]; omega) | (simp <;> omega) | simp_all | rfl)) rfl rfl rfl rfl ?_
  refine RegC.m (op_loadVG (cells := (k).map AVal.u8) rfl k_agg_23 (by first | omega | (simp only [List.length_append, List.length_map, List.length_cons, List.length_nil, List.length_replicate, List.length_take, List.length_drop, List.length_set]; omega) | (simp <;> omega) | simp_all | rfl) (prW (by first | omega | (simp only [List.length_append, List.length_map, List.length_cons, List.length_nil, List.length_replicate, List.length_take, List.length_drop, List.length_set]; omega) | (simp <;> omega) | simp_all | rfl))) rfl rfl rfl ?_
  refine RegC.m (op_move rfl) rfl rfl rfl ?_
  refine RegC.m (op_move rfl) rfl rfl rfl ?_
  refine RegC.m (op_call rfl k_call_103 (open_calls (k) (by first | omega | (simp only [List.length_append, List.length_map, List.length_cons, List.length_nil, List.length_replicate, List.length_take, List.length_drop, List.length_set]; omega) | (simp <;> omega) | simp_all | rfl) f1 full (head) (b) (by first | omega | (simp only [List.length_append, List.length_map, List.length_cons, List.length_nil, List.length_replicate, List.length_take, List.length_drop, List.length_set]; omega) | (simp <;> omega) | simp_all) (by first | omega | (simp only [List.length_append, List.length_map, List.length_cons, List.length_nil, List.length_replicate, List.length_take, List.length_drop, List.length_set]; omega) | (simp <;> omega) | simp_all) hE (i) (by first | omega | (simp only [List.length_append, List.length_map, List.length_cons, List.length_nil, List.length_replicate, List.length_take, List.length_drop, List.length_set]; omega) | (simp <;> omega) | simp_all))) rfl rfl rfl ?_
  refine RegC.m (op_extract rfl rfl) rfl rfl rfl ?_
  refine RegC.m (op_extract rfl rfl) rfl rfl rfl ?_
  refine RegC.m (op_assign rfl) rfl rfl rfl ?_
  refine RegC.m (op_assign rfl) rfl rfl rfl ?_
  refine RegC.done ⟨.inl rfl, ?_⟩
  refine WP.nrm 40 ?_
  refine WP.retS (ResV.many rfl rfl (.cons (.tmp rfl) (.cons (.tmp rfl) (RessOf.nil)))) (List.nil_sublist _) ?_
  exact ⟨rfl, rfl⟩

theorem block_out (k : List UInt8) (hk : k.length = 32) (f1 full : Bool) (head b : List UInt8) (hh : head.length ≤ 4096) (hb : b.length ≤ 16777216) (hE : lookE b = 0) (i : Int) (hi : i < 0 ∨ (manyN b : Int) ≤ i) : ACalls Try.prog 66 [.agg ((k).map AVal.u8), VS AVal.u8 f1 (head), VS AVal.u8 full (b), .i (i)] [] [] (.tup [VS AVal.u8 true ([] : List UInt8), .i 4]) [] := by
  have o := ok_of hE
  have hlen := o.len
  have hlo := o.lo
  have hhi := o.hi
  have hsz := o.sz
  have hml : manyN b ≤ 16384 := manyS_le (szN b) (blkN b) (by omega) (by omega)
  refine ACalls.of_wp' (fn := Try.f66) (n := 36) Try.func66 rfl rfl ?_
  unfold Try.f66
  refine WP.nrm 40 ?_
  refine WP.reg k_mixed fun nm1 hnm1 => ?_
  refine RegC.m (op_boxD rfl) rfl rfl rfl ?_
  refine RegC.m (op_assign rfl) rfl rfl rfl ?_
  refine RegC.m (op_assign rfl) rfl rfl rfl ?_
  refine RegC.done ⟨.inl rfl, ?_⟩
  refine WP.nrm 40 ?_
  refine WP.reg k_mixed fun nm2 hnm2 => ?_
  refine RegC.m (op_move rfl) rfl rfl rfl ?_
  refine RegC.m (op_move rfl) rfl rfl rfl ?_
  refine RegC.m (op_call rfl k_call_102 (lookWith_ok f1 full (head) (b) (by first | omega | (simp only [List.length_append, List.length_map, List.length_cons, List.length_nil, List.length_replicate, List.length_take, List.length_drop, List.length_set]; omega) | (simp <;> omega) | simp_all) (by first | omega | (simp only [List.length_append, List.length_map, List.length_cons, List.length_nil, List.length_replicate, List.length_take, List.length_drop, List.length_set]; omega) | (simp <;> omega) | simp_all) hE)) rfl rfl rfl ?_
  refine RegC.m (op_move rfl) rfl rfl rfl ?_
  refine RegC.m (op_extract rfl rfl) rfl rfl rfl ?_
  refine RegC.m (op_extract rfl rfl) rfl rfl rfl ?_
  refine RegC.a (op_alloc rfl k_zeroS_151) rfl rfl rfl ?_
  refine RegC.w (i := 0) (op_storeW rfl k_agg_151 (by first | omega | (simp only [List.length_append, List.length_map, List.length_cons, List.length_nil, List.length_replicate, List.length_take, List.length_drop, List.length_set]; omega) | (simp <;> omega) | simp_all | rfl) (by first | omega | (simp only [List.length_append, List.length_map, List.length_cons, List.length_nil, List.length_replicate, List.length_take, List.length_drop, List.length_set]; omega) | (simp <;> omega) | simp_all | rfl) (by simp [AVal.scalar])) rfl rfl rfl rfl ?_
  refine RegC.m (op_assign rfl) rfl rfl rfl ?_
  refine RegC.done ⟨.inl rfl, ?_⟩
  refine WP.nrm 40 ?_
  refine WP.reg k_mixed fun nm3 hnm3 => ?_
  refine RegC.m (op_move rfl) rfl rfl rfl ?_
  refine RegC.m (op_neq rfl) rfl rfl rfl ?_
  refine RegC.done ⟨.inl rfl, ?_⟩
  refine WP.nrm 40 ?_
  refine WP.cond (t := false) rfl ?_
  refine WP.nrm 40 ?_
  refine WP.reg k_mixed fun nm4 hnm4 => ?_
  refine RegC.m (op_move rfl) rfl rfl rfl ?_
  rcases Decidable.em ((i : Int) < 0) with h1 | h1
  ·
    refine RegC.m (OpV.boolT (op_lss rfl) h1) rfl rfl rfl ?_
    refine RegC.m (op_move rfl) rfl rfl rfl ?_
    refine RegC.skip rfl rfl ?_
    refine RegC.skip rfl rfl ?_
    refine RegC.skip rfl rfl ?_
    refine RegC.skip rfl rfl ?_
    refine RegC.m (op_pick rfl) rfl rfl rfl ?_
    refine RegC.done ⟨.inl rfl, ?_⟩
    refine WP.nrm 40 ?_
    refine WP.cond (t := true) rfl ?_
    refine WP.nrm 40 ?_
    refine WP.reg k_mixed fun nm5 hnm5 => ?_
    refine RegC.m (op_assign rfl) rfl rfl rfl ?_
    refine RegC.m (op_assign rfl) rfl rfl rfl ?_
    refine RegC.done ⟨.inl rfl, ?_⟩
    refine WP.nrm 40 ?_
    refine WP.retS (ResV.many rfl rfl (.cons (.tmp rfl) (.cons (.tmp rfl) (RessOf.nil)))) (List.nil_sublist _) ?_
    exact ⟨rfl, rfl⟩
  ·
    refine RegC.m (OpV.boolF (op_lss rfl) h1) rfl rfl rfl ?_
    refine RegC.m (op_move rfl) rfl rfl rfl ?_
    refine RegC.m (op_move rfl) rfl rfl rfl ?_
    refine RegC.q (i := 0) (op_loadW rfl k_agg_151 (by first | omega | (simp only [List.length_append, List.length_map, List.length_cons, List.length_nil, List.length_replicate, List.length_take, List.length_drop, List.length_set]; omega) | (simp <;> omega) | simp_all | rfl)) rfl rfl rfl rfl ?_
    refine RegC.m (op_call rfl k_call_100 (many_calls full (b) (blkN (b)) (szN (b)) (by first | omega | (simp only [List.length_append, List.length_map, List.length_cons, List.length_nil, List.length_replicate, List.length_take, List.length_drop, List.length_set]; omega) | (simp <;> omega) | simp_all) (by first | omega | (simp only [List.length_append, List.length_map, List.length_cons, List.length_nil, List.length_replicate, List.length_take, List.length_drop, List.length_set]; omega) | (simp <;> omega) | simp_all) (by first | omega | (simp only [List.length_append, List.length_map, List.length_cons, List.length_nil, List.length_replicate, List.length_take, List.length_drop, List.length_set]; omega) | (simp <;> omega) | simp_all))) rfl rfl rfl ?_
    refine RegC.m (OpV.boolT (op_geq rfl) (by have : manyN b = manyS (szN b) (blkN b) := rfl; omega)) rfl rfl rfl ?_
    refine RegC.m (op_pick rfl) rfl rfl rfl ?_
    refine RegC.done ⟨.inl rfl, ?_⟩
    refine WP.nrm 40 ?_
    refine WP.cond (t := true) rfl ?_
    refine WP.nrm 40 ?_
    refine WP.reg k_mixed fun nm6 hnm6 => ?_
    refine RegC.m (op_assign rfl) rfl rfl rfl ?_
    refine RegC.m (op_assign rfl) rfl rfl rfl ?_
    refine RegC.done ⟨.inl rfl, ?_⟩
    refine WP.nrm 40 ?_
    refine WP.retS (ResV.many rfl rfl (.cons (.tmp rfl) (.cons (.tmp rfl) (RessOf.nil)))) (List.nil_sublist _) ?_
    exact ⟨rfl, rfl⟩

theorem block_bad (k : List UInt8) (hk : k.length = 32) (f1 full : Bool) (head b : List UInt8) (hh : head.length ≤ 4096) (hb : b.length ≤ 16777216) (hE : ¬ lookE b = 0) (i : Int) : ACalls Try.prog 66 [.agg ((k).map AVal.u8), VS AVal.u8 f1 (head), VS AVal.u8 full (b), .i (i)] [] [] (.tup [VS AVal.u8 true ([] : List UInt8), .i (lookE b)]) [] := by
  refine ACalls.of_wp' (fn := Try.f66) (n := 36) Try.func66 rfl rfl ?_
  unfold Try.f66
  refine WP.nrm 40 ?_
  refine WP.reg k_mixed fun nm1 hnm1 => ?_
  refine RegC.m (op_boxD rfl) rfl rfl rfl ?_
  refine RegC.m (op_assign rfl) rfl rfl rfl ?_
  refine RegC.m (op_assign rfl) rfl rfl rfl ?_
  refine RegC.done ⟨.inl rfl, ?_⟩
  refine WP.nrm 40 ?_
  refine WP.reg k_mixed fun nm2 hnm2 => ?_
  refine RegC.m (op_move rfl) rfl rfl rfl ?_
  refine RegC.m (op_move rfl) rfl rfl rfl ?_
  refine RegC.m (op_call rfl k_call_102 (lookWith_bad f1 full (head) (b) (by first | omega | (simp only [List.length_append, List.length_map, List.length_cons, List.length_nil, List.length_replicate, List.length_take, List.length_drop, List.length_set]; omega) | (simp <;> omega) | simp_all) (by first | omega | (simp only [List.length_append, List.length_map, List.length_cons, List.length_nil, List.length_replicate, List.length_take, List.length_drop, List.length_set]; omega) | (simp <;> omega) | simp_all) hE)) rfl rfl rfl ?_
  refine RegC.m (op_move rfl) rfl rfl rfl ?_
  refine RegC.m (op_extract rfl rfl) rfl rfl rfl ?_
  refine RegC.m (op_extract rfl rfl) rfl rfl rfl ?_
  refine RegC.a (op_alloc rfl k_zeroS_151) rfl rfl rfl ?_
  refine RegC.w (i := 0) (op_storeW rfl k_agg_151 (by first | omega | (simp only [List.length_append, List.length_map, List.length_cons, List.length_nil, List.length_replicate, List.length_take, List.length_drop, List.length_set]; omega) | (simp <;> omega) | simp_all | rfl) (by first | omega | (simp only [List.length_append, List.length_map, List.length_cons, List.length_nil, List.length_replicate, List.length_take, List.length_drop, List.length_set]; omega) | (simp <;> omega) | simp_all | rfl) (by simp [AVal.scalar])) rfl rfl rfl rfl ?_
  refine RegC.m (op_assign rfl) rfl rfl rfl ?_
  refine RegC.done ⟨.inl rfl, ?_⟩
  refine WP.nrm 40 ?_
  refine WP.reg k_mixed fun nm3 hnm3 => ?_
  refine RegC.m (op_move rfl) rfl rfl rfl ?_
  refine RegC.m (OpV.boolE (t := (((lookE (b)) : Int) != 0)) (u := true) (op_neq rfl) (by simpa using hE)) rfl rfl rfl ?_
  refine RegC.done ⟨.inl rfl, ?_⟩
  refine WP.nrm 40 ?_
  refine WP.cond (t := true) rfl ?_
  refine WP.nrm 40 ?_
  refine WP.reg k_mixed fun nm4 hnm4 => ?_
  refine RegC.m (op_move rfl) rfl rfl rfl ?_
  refine RegC.m (op_assign rfl) rfl rfl rfl ?_
  refine RegC.m (op_assign rfl) rfl rfl rfl ?_
  refine RegC.done ⟨.inl rfl, ?_⟩
  refine WP.nrm 40 ?_
  refine WP.retS (ResV.many rfl rfl (.cons (.tmp rfl) (.cons (.tmp rfl) (RessOf.nil)))) (List.nil_sublist _) ?_
  exact ⟨rfl, rfl⟩

theorem block_ok (k : List UInt8) (hk : k.length = 32) (f1 full : Bool) (head b : List UInt8) (hh : head.length ≤ 4096) (hb : b.length ≤ 16777216) (hE : lookE b = 0) (i : Int) : ACalls Try.prog 66 [.agg (k.map AVal.u8), VS AVal.u8 f1 head, VS AVal.u8 full b, .i i] [] [] (.tup [VS AVal.u8 false (blkB k head b i), .i (blkE k head b i)]) [] := by
  by_cases hi : 0 ≤ i ∧ i < (manyN b : Int)
  · rw [blkB, blkE, if_pos hi, if_pos hi]
    have := block_in k hk f1 full head b hh hb hE i.toNat (by omega)
    rwa [Int.toNat_of_nonneg hi.1] at this
  · rw [blkB, blkE, if_neg hi, if_neg hi]; exact ACalls.weakRes (block_out k hk f1 full head b hh hb hE i (by omega))

theorem blockOf_good (k : List UInt8) (hk : k.length = 32) (f1 full : Bool) (head b : List UInt8) (hh : head.length ≤ 4096) (hb : b.length ≤ 16777216) (hE : lookE b = 0) (i : Nat) (hi : i < manyN b) (hg : goodB k head b i) : ACalls Try.prog 67 [.agg ((k).map AVal.u8), VS AVal.u8 f1 (head), VS AVal.u8 full (b), .i ((i : Int))] [] [] (.tup [VS AVal.u8 false (plainB k b i), .i 0]) [] := by
  have o := ok_of hE
  have hlen := o.len
  have hlo := o.lo
  have hhi := o.hi
  have hsz := o.sz
  have hml : manyN b ≤ 16384 := manyS_le (szN b) (blkN b) (by omega) (by omega)
  have hle := end_le o i hi
  have hfrom : fromN b i = 32 + i * (blkN b + 16) := rfl
  have hend : endN b i = fromN b i + min (blkN b) (szN b - i * blkN b) := rfl
  have hib := many_bound (szN b) (blkN b) i (by omega) hi
  have hpl := partN_length o i hi
  have hp6 : (partN b i).length ≤ 65536 := by omega
  have hi6 : i ≤ 1048576 := by omega
  have hb32 : (b.take 32).length = 32 := by simp only [List.length_take]; omega
  have hm2 : i * (blkN b + 16) = i * blkN b + i * 16 := Nat.mul_add _ _ _
  have hmI : ((i * (blkN b + 16) : Nat) : Int) = (i : Int) * ((blkN b : Int) + 16) := by push_cast; rfl
  have htl := tagN_length b i hle.1
  refine ACalls.of_wp' (fn := Try.f67) (n := 76) Try.func67 rfl rfl ?_
  unfold Try.f67
  refine WP.nrm 40 ?_
  refine WP.reg k_mixed fun nm1 hnm1 => ?_
  refine RegC.m (op_boxD rfl) rfl rfl rfl ?_
  refine RegC.m (op_assign rfl) rfl rfl rfl ?_
  refine RegC.m (op_assign rfl) rfl rfl rfl ?_
  refine RegC.done ⟨.inl rfl, ?_⟩
  refine WP.nrm 40 ?_
  refine WP.reg k_mixed fun nm2 hnm2 => ?_
  refine RegC.m (op_move rfl) rfl rfl rfl ?_
  refine RegC.m (op_lenV (f := AVal.u8) (l := head) rfl k_sl_26) rfl rfl rfl ?_
  refine RegC.m (OpV.boolF (op_gtr rfl) (by omega)) rfl rfl rfl ?_
  refine RegC.done ⟨.inl rfl, ?_⟩
  refine WP.nrm 40 ?_
  refine WP.cond (t := false) rfl ?_
  refine WP.nrm 40 ?_
  refine WP.reg k_mixed fun nm3 hnm3 => ?_
  refine RegC.m (op_move rfl) rfl rfl rfl ?_
  refine RegC.m (op_call rfl k_call_65 (blocksOf_ok full (b) (by first | omega | (simp only [List.length_append, List.length_map, List.length_cons, List.length_nil, List.length_replicate, List.length_take, List.length_drop, List.length_set]; omega) | (simp <;> omega) | simp_all) hE)) rfl rfl rfl ?_
  refine RegC.m (op_move rfl) rfl rfl rfl ?_
  refine RegC.m (op_extract rfl rfl) rfl rfl rfl ?_
  refine RegC.m (op_extract rfl rfl) rfl rfl rfl ?_
  refine RegC.m (op_extract rfl rfl) rfl rfl rfl ?_
  refine RegC.m (op_assign rfl) rfl rfl rfl ?_
  refine RegC.m (op_assign rfl) rfl rfl rfl ?_
  refine RegC.m (op_assign rfl) rfl rfl rfl ?_
  refine RegC.done ⟨.inl rfl, ?_⟩
  refine WP.nrm 40 ?_
  refine WP.reg k_mixed fun nm4 hnm4 => ?_
  refine RegC.m (op_move rfl) rfl rfl rfl ?_
  refine RegC.m (op_neq rfl) rfl rfl rfl ?_
  refine RegC.done ⟨.inl rfl, ?_⟩
  refine WP.nrm 40 ?_
  refine WP.cond (t := false) rfl ?_
  refine WP.nrm 40 ?_
  refine WP.reg k_mixed fun nm5 hnm5 => ?_
  refine RegC.m (op_move rfl) rfl rfl rfl ?_
  refine RegC.m (op_move rfl) rfl rfl rfl ?_
  refine RegC.m (op_subI rfl (by first | omega | (simp only [List.length_append, List.length_map, List.length_cons, List.length_nil, List.length_replicate, List.length_take, List.length_drop, List.length_set]; omega) | (simp <;> omega) | simp_all)) rfl rfl rfl ?_
  refine RegC.m (OpV.boolE (t := (inS ((i : Int)) (0) (((manyN (b) : Int) - 1)))) (u := true) (op_call rfl k_call_30 (in_calls ((i : Int)) (0) (((manyN (b) : Int) - 1)))) (by simp [inS]; omega)) rfl rfl rfl ?_
  refine RegC.m (op_not rfl) rfl rfl rfl ?_
  refine RegC.done ⟨.inl rfl, ?_⟩
  refine WP.nrm 40 ?_
  refine WP.cond (t := false) rfl ?_
  refine WP.nrm 40 ?_
  refine WP.reg k_mixed fun nm6 hnm6 => ?_
  refine RegC.m (op_move rfl) rfl rfl rfl ?_
  refine RegC.m (op_move rfl) rfl rfl rfl ?_
  refine RegC.m (op_addI rfl (by first | omega | (simp only [List.length_append, List.length_map, List.length_cons, List.length_nil, List.length_replicate, List.length_take, List.length_drop, List.length_set]; omega) | (simp <;> omega) | simp_all)) rfl rfl rfl ?_
  refine RegC.m (op_mulI rfl (by first | omega | (simp only [List.length_append, List.length_map, List.length_cons, List.length_nil, List.length_replicate, List.length_take, List.length_drop, List.length_set]; omega) | (simp <;> omega) | simp_all)) rfl rfl rfl ?_
  refine RegC.m (op_addI rfl (by first | omega | (simp only [List.length_append, List.length_map, List.length_cons, List.length_nil, List.length_replicate, List.length_take, List.length_drop, List.length_set]; omega) | (simp <;> omega) | simp_all)) rfl rfl rfl ?_
  refine RegC.m (op_assign rfl) rfl rfl rfl ?_
  refine RegC.done ⟨.inl rfl, ?_⟩
  refine WP.nrm 40 ?_
  refine WP.reg k_mixed fun nm7 hnm7 => ?_
  refine RegC.m (op_move rfl) rfl rfl rfl ?_
  refine RegC.m (op_lenV (f := AVal.u8) (l := b) rfl k_sl_26) rfl rfl rfl ?_
  refine RegC.m (op_move rfl) rfl rfl rfl ?_
  refine RegC.m (op_move rfl) rfl rfl rfl ?_
  refine RegC.m (op_addI rfl (by first | omega | (simp only [List.length_append, List.length_map, List.length_cons, List.length_nil, List.length_replicate, List.length_take, List.length_drop, List.length_set]; omega) | (simp <;> omega) | simp_all)) rfl rfl rfl ?_
  refine RegC.m (op_addI rfl (by first | omega | (simp only [List.length_append, List.length_map, List.length_cons, List.length_nil, List.length_replicate, List.length_take, List.length_drop, List.length_set]; omega) | (simp <;> omega) | simp_all)) rfl rfl rfl ?_
  refine RegC.m (op_min rfl) rfl rfl rfl ?_
  refine RegC.m (op_assign rfl) rfl rfl rfl ?_
  refine RegC.done ⟨.inl rfl, ?_⟩
  refine WP.nrm 40 ?_
  refine WP.reg k_mixed fun nm8 hnm8 => ?_
  refine RegC.m (op_move rfl) rfl rfl rfl ?_
  refine RegC.m (op_move rfl) rfl rfl rfl ?_
  refine RegC.m (op_move rfl) rfl rfl rfl ?_
  refine RegC.m (op_subI rfl (by first | omega | (simp only [List.length_append, List.length_map, List.length_cons, List.length_nil, List.length_replicate, List.length_take, List.length_drop, List.length_set]; omega) | (simp <;> omega) | simp_all)) rfl rfl rfl ?_
  refine RegC.m (OpV.to (op_sV11 (f := AVal.u8) (l := b) ((fromN b i)) ((endN b i)) rfl k_sl_26 (by first | omega | (simp only [List.length_append, List.length_map, List.length_cons, List.length_nil, List.length_replicate, List.length_take, List.length_drop, List.length_set]; omega) | (simp <;> omega) | simp_all) (by first | omega | (simp only [List.length_append, List.length_map, List.length_cons, List.length_nil, List.length_replicate, List.length_take, List.length_drop, List.length_set]; omega) | (simp <;> omega) | simp_all) (by first | omega | (simp only [List.length_append, List.length_map, List.length_cons, List.length_nil, List.length_replicate, List.length_take, List.length_drop, List.length_set]; omega) | (simp <;> omega) | simp_all) (by first | omega | (simp only [List.length_append, List.length_map, List.length_cons, List.length_nil, List.length_replicate, List.length_take, List.length_drop, List.length_set]; omega) | (simp <;> omega) | simp_all)) (vsL rfl)) rfl rfl rfl ?_
  refine RegC.m (op_move rfl) rfl rfl rfl ?_
  refine RegC.m (op_move rfl) rfl rfl rfl ?_
  refine RegC.m (op_subI rfl (by first | omega | (simp only [List.length_append, List.length_map, List.length_cons, List.length_nil, List.length_replicate, List.length_take, List.length_drop, List.length_set]; omega) | (simp <;> omega) | simp_all)) rfl rfl rfl ?_
  refine RegC.m (op_move rfl) rfl rfl rfl ?_
  refine RegC.m (OpV.to (op_sV11 (f := AVal.u8) (l := b) ((endN b i)) ((endN b i + 16)) rfl k_sl_26 (by first | omega | (simp only [List.length_append, List.length_map, List.length_cons, List.length_nil, List.length_replicate, List.length_take, List.length_drop, List.length_set]; omega) | (simp <;> omega) | simp_all) (by first | omega | (simp only [List.length_append, List.length_map, List.length_cons, List.length_nil, List.length_replicate, List.length_take, List.length_drop, List.length_set]; omega) | (simp <;> omega) | simp_all) (by first | omega | (simp only [List.length_append, List.length_map, List.length_cons, List.length_nil, List.length_replicate, List.length_take, List.length_drop, List.length_set]; omega) | (simp <;> omega) | simp_all) (by first | omega | (simp only [List.length_append, List.length_map, List.length_cons, List.length_nil, List.length_replicate, List.length_take, List.length_drop, List.length_set]; omega) | (simp <;> omega) | simp_all)) (vsL (tagN_of b _))) rfl rfl rfl ?_
  refine RegC.m (op_toArrM (f := AVal.u8) (l := tagN b i) rfl k_arr_104 (by first | omega | (simp only [List.length_append, List.length_map, List.length_cons, List.length_nil, List.length_replicate, List.length_take, List.length_drop, List.length_set]; omega) | (simp <;> omega) | simp_all) (by omega)) rfl rfl rfl ?_
  refine RegC.m (op_loadVP (f := AVal.u8) (l := tagN b i) (off := 0) rfl k_agg_104 (by first | omega | (simp only [List.length_append, List.length_map, List.length_cons, List.length_nil, List.length_replicate, List.length_take, List.length_drop, List.length_set]; omega) | (simp <;> omega) | simp_all)) rfl rfl rfl ?_
  refine RegC.a (op_alloc rfl k_zero_104) rfl rfl rfl ?_
  refine RegC.m (op_assign rfl) rfl rfl rfl ?_
  refine RegC.w (i := 0) (op_storeW rfl k_agg_104 (by first | omega | (simp only [List.length_append, List.length_map, List.length_cons, List.length_nil, List.length_replicate, List.length_take, List.length_drop, List.length_set]; omega) | (simp <;> omega) | simp_all) (by first | omega | (simp only [List.length_append, List.length_map, List.length_cons, List.length_nil, List.length_replicate, List.length_take, List.length_drop, List.length_set]; omega) | (simp <;> omega) | simp_all) (by first | exact allS (fun _ => rfl) | simp [AVal.scalar])) rfl rfl rfl rfl ?_
  refine RegC.done ⟨.inr rfl, ?_⟩
  refine WP.nrm 40 ?_
  refine WP.reg k_mixed fun nm9 hnm9 => ?_
  refine RegC.q (i := 0) (op_loadW rfl k_agg_104 (by first | omega | (simp only [List.length_append, List.length_map, List.length_cons, List.length_nil, List.length_replicate, List.length_take, List.length_drop, List.length_set]; omega) | (simp <;> omega) | simp_all)) rfl rfl rfl rfl ?_
  refine RegC.m (op_loadVG (cells := (k).map AVal.u8) rfl k_agg_23 (by first | omega | (simp only [List.length_append, List.length_map, List.length_cons, List.length_nil, List.length_replicate, List.length_take, List.length_drop, List.length_set]; omega) | (simp <;> omega) | simp_all | rfl) (prW (by first | omega | (simp only [List.length_append, List.length_map, List.length_cons, List.length_nil, List.length_replicate, List.length_take, List.length_drop, List.length_set]; omega) | (simp <;> omega) | simp_all | rfl))) rfl rfl rfl ?_
  refine RegC.m (op_move rfl) rfl rfl rfl ?_
  refine RegC.m (op_move rfl) rfl rfl rfl ?_
  refine RegC.m (op_sV01 (f := AVal.u8) (l := b) (32) rfl k_sl_26 (by first | omega | (simp only [List.length_append, List.length_map, List.length_cons, List.length_nil, List.length_replicate, List.length_take, List.length_drop, List.length_set]; omega) | (simp <;> omega) | simp_all) (by first | omega | (simp only [List.length_append, List.length_map, List.length_cons, List.length_nil, List.length_replicate, List.length_take, List.length_drop, List.length_set]; omega) | (simp <;> omega) | simp_all)) rfl rfl rfl ?_
  refine RegC.m (op_move rfl) rfl rfl rfl ?_
  refine RegC.m (op_move rfl) rfl rfl rfl ?_
  refine RegC.m (op_call rfl k_call_63 (bt1_calls (k) (by first | omega | (simp only [List.length_append, List.length_map, List.length_cons, List.length_nil, List.length_replicate, List.length_take, List.length_drop, List.length_set]; omega) | (simp <;> omega) | simp_all | rfl) f1 false false (head) ((b).take (32)) (partN b i) (by first | omega | (simp only [List.length_append, List.length_map, List.length_cons, List.length_nil, List.length_replicate, List.length_take, List.length_drop, List.length_set]; omega) | (simp <;> omega) | simp_all) (by first | omega | (simp only [List.length_append, List.length_map, List.length_cons, List.length_nil, List.length_replicate, List.length_take, List.length_drop, List.length_set]; omega) | (simp <;> omega) | simp_all | rfl) (by first | omega | (simp only [List.length_append, List.length_map, List.length_cons, List.length_nil, List.length_replicate, List.length_take, List.length_drop, List.length_set]; omega) | (simp <;> omega) | simp_all) (i) (by first | omega | (simp only [List.length_append, List.length_map, List.length_cons, List.length_nil, List.length_replicate, List.length_take, List.length_drop, List.length_set]; omega) | (simp <;> omega) | simp_all))) rfl rfl rfl ?_
  refine RegC.m (OpV.boolE (t := (!((((tagN b i).drop (0)).take 16 : List UInt8) == bt1 (k) (head) ((b).take (32)) (partN b i) (i)))) (u := false) (op_neqA8 (l := ((tagN b i).drop (0)).take 16) (l2 := bt1 (k) (head) ((b).take (32)) (partN b i) (i)) rfl k_arr8_104 (by first | omega | (simp only [List.length_append, List.length_map, List.length_cons, List.length_nil, List.length_replicate, List.length_take, List.length_drop, List.length_set]; omega) | (simp <;> omega) | simp_all) (by first | omega | (simp only [List.length_append, List.length_map, List.length_cons, List.length_nil, List.length_replicate, List.length_take, List.length_drop, List.length_set]; omega) | (simp <;> omega) | simp_all)) (by rw [cmp1 k head b i (by omega)]; simp [hg])) rfl rfl rfl ?_
  refine RegC.done ⟨.inr rfl, ?_⟩
  refine WP.nrm 40 ?_
  refine WP.cond (t := false) rfl ?_
  refine WP.nrm 40 ?_
  refine WP.reg k_mixed fun nm10 hnm10 => ?_
  refine RegC.m (op_loadVG (cells := (k).map AVal.u8) rfl k_agg_23 (by first | omega | (simp only [List.length_append, List.length_map, List.length_cons, List.length_nil, List.length_replicate, List.length_take, List.length_drop, List.length_set]; omega) | (simp <;> omega) | simp_all | rfl) (prW (by first | omega | (simp only [List.length_append, List.length_map, List.length_cons, List.length_nil, List.length_replicate, List.length_take, List.length_drop, List.length_set]; omega) | (simp <;> omega) | simp_all | rfl))) rfl rfl rfl ?_
  refine RegC.m (op_move rfl) rfl rfl rfl ?_
  refine RegC.m (op_sV11 (f := AVal.u8) (l := b) (4) (20) rfl k_sl_26 (by first | omega | (simp only [List.length_append, List.length_map, List.length_cons, List.length_nil, List.length_replicate, List.length_take, List.length_drop, List.length_set]; omega) | (simp <;> omega) | simp_all) (by first | omega | (simp only [List.length_append, List.length_map, List.length_cons, List.length_nil, List.length_replicate, List.length_take, List.length_drop, List.length_set]; omega) | (simp <;> omega) | simp_all) (by first | omega | (simp only [List.length_append, List.length_map, List.length_cons, List.length_nil, List.length_replicate, List.length_take, List.length_drop, List.length_set]; omega) | (simp <;> omega) | simp_all) (by first | omega | (simp only [List.length_append, List.length_map, List.length_cons, List.length_nil, List.length_replicate, List.length_take, List.length_drop, List.length_set]; omega) | (simp <;> omega) | simp_all)) rfl rfl rfl ?_
  refine RegC.m (op_toArrM (f := AVal.u8) (l := ((b).take (20)).drop (4)) rfl k_arr_25 (by first | omega | (simp only [List.length_append, List.length_map, List.length_cons, List.length_nil, List.length_replicate, List.length_take, List.length_drop, List.length_set]; omega) | (simp <;> omega) | simp_all) (by omega)) rfl rfl rfl ?_
  refine RegC.m (op_loadVP (f := AVal.u8) (l := ((b).take (20)).drop (4)) (off := 0) rfl k_agg_25 (by first | omega | (simp only [List.length_append, List.length_map, List.length_cons, List.length_nil, List.length_replicate, List.length_take, List.length_drop, List.length_set]; omega) | (simp <;> omega) | simp_all)) rfl rfl rfl ?_
  refine RegC.m (op_move rfl) rfl rfl rfl ?_
  refine RegC.m (op_call rfl k_call_62 (bn1_calls (((((b).take (20)).drop (4)).drop (0)).take 16) (by first | omega | (simp only [List.length_append, List.length_map, List.length_cons, List.length_nil, List.length_replicate, List.length_take, List.length_drop, List.length_set]; omega) | (simp <;> omega) | simp_all | rfl) (i) (by first | omega | (simp only [List.length_append, List.length_map, List.length_cons, List.length_nil, List.length_replicate, List.length_take, List.length_drop, List.length_set]; omega) | (simp <;> omega) | simp_all))) rfl rfl rfl ?_
  refine RegC.m (op_move rfl) rfl rfl rfl ?_
  refine RegC.m (op_call rfl k_call_12 (cool1 (h := []) (fun b9 => cover1_calls b9 false (partN b i) (k) (bn1 (((((b).take (20)).drop (4)).drop (0)).take 16) (i)) (by first | omega | (simp only [List.length_append, List.length_map, List.length_cons, List.length_nil, List.length_replicate, List.length_take, List.length_drop, List.length_set]; omega) | (simp <;> omega) | simp_all) (by first | omega | (simp only [List.length_append, List.length_map, List.length_cons, List.length_nil, List.length_replicate, List.length_take, List.length_drop, List.length_set]; omega) | (simp <;> omega) | simp_all) (by first | omega | (simp only [List.length_append, List.length_map, List.length_cons, List.length_nil, List.length_replicate, List.length_take, List.length_drop, List.length_set]; omega) | (simp <;> omega) | simp_all)) (by simp))) rfl rfl rfl ?_
  refine RegC.m (op_assign rfl) rfl rfl rfl ?_
  refine RegC.m (op_assign rfl) rfl rfl rfl ?_
  refine RegC.done ⟨.inr rfl, ?_⟩
  refine WP.nrm 40 ?_
  refine WP.retS (ResV.many rfl rfl (.cons (.tmp rfl) (.cons (.tmp rfl) (RessOf.nil)))) (List.nil_sublist _) ?_
  exact ⟨by rw [nonceN]; rfl, rfl⟩

theorem blockOf_tag (k : List UInt8) (hk : k.length = 32) (f1 full : Bool) (head b : List UInt8) (hh : head.length ≤ 4096) (hb : b.length ≤ 16777216) (hE : lookE b = 0) (i : Nat) (hi : i < manyN b) (hg : ¬ goodB k head b i) : ACalls Try.prog 67 [.agg ((k).map AVal.u8), VS AVal.u8 f1 (head), VS AVal.u8 full (b), .i ((i : Int))] [] [] (.tup [VS AVal.u8 true ([] : List UInt8), .i 13]) [] := by
  have o := ok_of hE
  have hlen := o.len
  have hlo := o.lo
  have hhi := o.hi
  have hsz := o.sz
  have hml : manyN b ≤ 16384 := manyS_le (szN b) (blkN b) (by omega) (by omega)
  have hle := end_le o i hi
  have hfrom : fromN b i = 32 + i * (blkN b + 16) := rfl
  have hend : endN b i = fromN b i + min (blkN b) (szN b - i * blkN b) := rfl
  have hib := many_bound (szN b) (blkN b) i (by omega) hi
  have hpl := partN_length o i hi
  have hp6 : (partN b i).length ≤ 65536 := by omega
  have hi6 : i ≤ 1048576 := by omega
  have hb32 : (b.take 32).length = 32 := by simp only [List.length_take]; omega
  have hm2 : i * (blkN b + 16) = i * blkN b + i * 16 := Nat.mul_add _ _ _
  have hmI : ((i * (blkN b + 16) : Nat) : Int) = (i : Int) * ((blkN b : Int) + 16) := by push_cast; rfl
  have htl := tagN_length b i hle.1
  refine ACalls.of_wp' (fn := Try.f67) (n := 76) Try.func67 rfl rfl ?_
  unfold Try.f67
  refine WP.nrm 40 ?_
  refine WP.reg k_mixed fun nm1 hnm1 => ?_
  refine RegC.m (op_boxD rfl) rfl rfl rfl ?_
  refine RegC.m (op_assign rfl) rfl rfl rfl ?_
  refine RegC.m (op_assign rfl) rfl rfl rfl ?_
  refine RegC.done ⟨.inl rfl, ?_⟩
  refine WP.nrm 40 ?_
  refine WP.reg k_mixed fun nm2 hnm2 => ?_
  refine RegC.m (op_move rfl) rfl rfl rfl ?_
  refine RegC.m (op_lenV (f := AVal.u8) (l := head) rfl k_sl_26) rfl rfl rfl ?_
  refine RegC.m (OpV.boolF (op_gtr rfl) (by omega)) rfl rfl rfl ?_
  refine RegC.done ⟨.inl rfl, ?_⟩
  refine WP.nrm 40 ?_
  refine WP.cond (t := false) rfl ?_
  refine WP.nrm 40 ?_
  refine WP.reg k_mixed fun nm3 hnm3 => ?_
  refine RegC.m (op_move rfl) rfl rfl rfl ?_
  refine RegC.m (op_call rfl k_call_65 (blocksOf_ok full (b) (by first | omega | (simp only [List.length_append, List.length_map, List.length_cons, List.length_nil, List.length_replicate, List.length_take, List.length_drop, List.length_set]; omega) | (simp <;> omega) | simp_all) hE)) rfl rfl rfl ?_
  refine RegC.m (op_move rfl) rfl rfl rfl ?_
  refine RegC.m (op_extract rfl rfl) rfl rfl rfl ?_
  refine RegC.m (op_extract rfl rfl) rfl rfl rfl ?_
  refine RegC.m (op_extract rfl rfl) rfl rfl rfl ?_
  refine RegC.m (op_assign rfl) rfl rfl rfl ?_
  refine RegC.m (op_assign rfl) rfl rfl rfl ?_
  refine RegC.m (op_assign rfl) rfl rfl rfl ?_
  refine RegC.done ⟨.inl rfl, ?_⟩
  refine WP.nrm 40 ?_
  refine WP.reg k_mixed fun nm4 hnm4 => ?_
  refine RegC.m (op_move rfl) rfl rfl rfl ?_
  refine RegC.m (op_neq rfl) rfl rfl rfl ?_
  refine RegC.done ⟨.inl rfl, ?_⟩
  refine WP.nrm 40 ?_
  refine WP.cond (t := false) rfl ?_
  refine WP.nrm 40 ?_
  refine WP.reg k_mixed fun nm5 hnm5 => ?_
  refine RegC.m (op_move rfl) rfl rfl rfl ?_
  refine RegC.m (op_move rfl) rfl rfl rfl ?_
  refine RegC.m (op_subI rfl (by first | omega | (simp only [List.length_append, List.length_map, List.length_cons, List.length_nil, List.length_replicate, List.length_take, List.length_drop, List.length_set]; omega) | (simp <;> omega) | simp_all)) rfl rfl rfl ?_
  refine RegC.m (OpV.boolE (t := (inS ((i : Int)) (0) (((manyN (b) : Int) - 1)))) (u := true) (op_call rfl k_call_30 (in_calls ((i : Int)) (0) (((manyN (b) : Int) - 1)))) (by simp [inS]; omega)) rfl rfl rfl ?_
  refine RegC.m (op_not rfl) rfl rfl rfl ?_
  refine RegC.done ⟨.inl rfl, ?_⟩
  refine WP.nrm 40 ?_
  refine WP.cond (t := false) rfl ?_
  refine WP.nrm 40 ?_
  refine WP.reg k_mixed fun nm6 hnm6 => ?_
  refine RegC.m (op_move rfl) rfl rfl rfl ?_
  refine RegC.m (op_move rfl) rfl rfl rfl ?_
  refine RegC.m (op_addI rfl (by first | omega | (simp only [List.length_append, List.length_map, List.length_cons, List.length_nil, List.length_replicate, List.length_take, List.length_drop, List.length_set]; omega) | (simp <;> omega) | simp_all)) rfl rfl rfl ?_
  refine RegC.m (op_mulI rfl (by first | omega | (simp only [List.length_append, List.length_map, List.length_cons, List.length_nil, List.length_replicate, List.length_take, List.length_drop, List.length_set]; omega) | (simp <;> omega) | simp_all)) rfl rfl rfl ?_
  refine RegC.m (op_addI rfl (by first | omega | (simp only [List.length_append, List.length_map, List.length_cons, List.length_nil, List.length_replicate, List.length_take, List.length_drop, List.length_set]; omega) | (simp <;> omega) | simp_all)) rfl rfl rfl ?_
  refine RegC.m (op_assign rfl) rfl rfl rfl ?_
  refine RegC.done ⟨.inl rfl, ?_⟩
  refine WP.nrm 40 ?_
  refine WP.reg k_mixed fun nm7 hnm7 => ?_
  refine RegC.m (op_move rfl) rfl rfl rfl ?_
  refine RegC.m (op_lenV (f := AVal.u8) (l := b) rfl k_sl_26) rfl rfl rfl ?_
  refine RegC.m (op_move rfl) rfl rfl rfl ?_
  refine RegC.m (op_move rfl) rfl rfl rfl ?_
  refine RegC.m (op_addI rfl (by first | omega | (simp only [List.length_append, List.length_map, List.length_cons, List.length_nil, List.length_replicate, List.length_take, List.length_drop, List.length_set]; omega) | (simp <;> omega) | simp_all)) rfl rfl rfl ?_
  refine RegC.m (op_addI rfl (by first | omega | (simp only [List.length_append, List.length_map, List.length_cons, List.length_nil, List.length_replicate, List.length_take, List.length_drop, List.length_set]; omega) | (simp <;> omega) | simp_all)) rfl rfl rfl ?_
  refine RegC.m (op_min rfl) rfl rfl rfl ?_
  refine RegC.m (op_assign rfl) rfl rfl rfl ?_
  refine RegC.done ⟨.inl rfl, ?_⟩
  refine WP.nrm 40 ?_
  refine WP.reg k_mixed fun nm8 hnm8 => ?_
  refine RegC.m (op_move rfl) rfl rfl rfl ?_
  refine RegC.m (op_move rfl) rfl rfl rfl ?_
  refine RegC.m (op_move rfl) rfl rfl rfl ?_
  refine RegC.m (op_subI rfl (by first | omega | (simp only [List.length_append, List.length_map, List.length_cons, List.length_nil, List.length_replicate, List.length_take, List.length_drop, List.length_set]; omega) | (simp <;> omega) | simp_all)) rfl rfl rfl ?_
  refine RegC.m (OpV.to (op_sV11 (f := AVal.u8) (l := b) ((fromN b i)) ((endN b i)) rfl k_sl_26 (by first | omega | (simp only [List.length_append, List.length_map, List.length_cons, List.length_nil, List.length_replicate, List.length_take, List.length_drop, List.length_set]; omega) | (simp <;> omega) | simp_all) (by first | omega | (simp only [List.length_append, List.length_map, List.length_cons, List.length_nil, List.length_replicate, List.length_take, List.length_drop, List.length_set]; omega) | (simp <;> omega) | simp_all) (by first | omega | (simp only [List.length_append, List.length_map, List.length_cons, List.length_nil, List.length_replicate, List.length_take, List.length_drop, List.length_set]; omega) | (simp <;> omega) | simp_all) (by first | omega | (simp only [List.length_append, List.length_map, List.length_cons, List.length_nil, List.length_replicate, List.length_take, List.length_drop, List.length_set]; omega) | (simp <;> omega) | simp_all)) (vsL rfl)) rfl rfl rfl ?_
  refine RegC.m (op_move rfl) rfl rfl rfl ?_
  refine RegC.m (op_move rfl) rfl rfl rfl ?_
  refine RegC.m (op_subI rfl (by first | omega | (simp only [List.length_append, List.length_map, List.length_cons, List.length_nil, List.length_replicate, List.length_take, List.length_drop, List.length_set]; omega) | (simp <;> omega) | simp_all)) rfl rfl rfl ?_
  refine RegC.m (op_move rfl) rfl rfl rfl ?_
  refine RegC.m (OpV.to (op_sV11 (f := AVal.u8) (l := b) ((endN b i)) ((endN b i + 16)) rfl k_sl_26 (by first | omega | (simp only [List.length_append, List.length_map, List.length_cons, List.length_nil, List.length_replicate, List.length_take, List.length_drop, List.length_set]; omega) | (simp <;> omega) | simp_all) (by first | omega | (simp only [List.length_append, List.length_map, List.length_cons, List.length_nil, List.length_replicate, List.length_take, List.length_drop, List.length_set]; omega) | (simp <;> omega) | simp_all) (by first | omega | (simp only [List.length_append, List.length_map, List.length_cons, List.length_nil, List.length_replicate, List.length_take, List.length_drop, List.length_set]; omega) | (simp <;> omega) | simp_all) (by first | omega | (simp only [List.length_append, List.length_map, List.length_cons, List.length_nil, List.length_replicate, List.length_take, List.length_drop, List.length_set]; omega) | (simp <;> omega) | simp_all)) (vsL (tagN_of b _))) rfl rfl rfl ?_
  refine RegC.m (op_toArrM (f := AVal.u8) (l := tagN b i) rfl k_arr_104 (by first | omega | (simp only [List.length_append, List.length_map, List.length_cons, List.length_nil, List.length_replicate, List.length_take, List.length_drop, List.length_set]; omega) | (simp <;> omega) | simp_all) (by omega)) rfl rfl rfl ?_
  refine RegC.m (op_loadVP (f := AVal.u8) (l := tagN b i) (off := 0) rfl k_agg_104 (by first | omega | (simp only [List.length_append, List.length_map, List.length_cons, List.length_nil, List.length_replicate, List.length_take, List.length_drop, List.length_set]; omega) | (simp <;> omega) | simp_all)) rfl rfl rfl ?_
  refine RegC.a (op_alloc rfl k_zero_104) rfl rfl rfl ?_
  refine RegC.m (op_assign rfl) rfl rfl rfl ?_
  refine RegC.w (i := 0) (op_storeW rfl k_agg_104 (by first | omega | (simp only [List.length_append, List.length_map, List.length_cons, List.length_nil, List.length_replicate, List.length_take, List.length_drop, List.length_set]; omega) | (simp <;> omega) | simp_all) (by first | omega | (simp only [List.length_append, List.length_map, List.length_cons, List.length_nil, List.length_replicate, List.length_take, List.length_drop, List.length_set]; omega) | (simp <;> omega) | simp_all) (by first | exact allS (fun _ => rfl) | simp [AVal.scalar])) rfl rfl rfl rfl ?_
  refine RegC.done ⟨.inr rfl, ?_⟩
  refine WP.nrm 40 ?_
  refine WP.reg k_mixed fun nm9 hnm9 => ?_
  refine RegC.q (i := 0) (op_loadW rfl k_agg_104 (by first | omega | (simp only [List.length_append, List.length_map, List.length_cons, List.length_nil, List.length_replicate, List.length_take, List.length_drop, List.length_set]; omega) | (simp <;> omega) | simp_all)) rfl rfl rfl rfl ?_
  refine RegC.m (op_loadVG (cells := (k).map AVal.u8) rfl k_agg_23 (by first | omega | (simp only [List.length_append, List.length_map, List.length_cons, List.length_nil, List.length_replicate, List.length_take, List.length_drop, List.length_set]; omega) | (simp <;> omega) | simp_all | rfl) (prW (by first | omega | (simp only [List.length_append, List.length_map, List.length_cons, List.length_nil, List.length_replicate, List.length_take, List.length_drop, List.length_set]; omega) | (simp <;> omega) | simp_all | rfl))) rfl rfl rfl ?_
  refine RegC.m (op_move rfl) rfl rfl rfl ?_
  refine RegC.m (op_move rfl) rfl rfl rfl ?_
  refine RegC.m (op_sV01 (f := AVal.u8) (l := b) (32) rfl k_sl_26 (by first | omega | (simp only [List.length_append, List.length_map, List.length_cons, List.length_nil, List.length_replicate, List.length_take, List.length_drop, List.length_set]; omega) | (simp <;> omega) | simp_all) (by first | omega | (simp only [List.length_append, List.length_map, List.length_cons, List.length_nil, List.length_replicate, List.length_take, List.length_drop, List.length_set]; omega) | (simp <;> omega) | simp_all)) rfl rfl rfl ?_
  refine RegC.m (op_move rfl) rfl rfl rfl ?_
  refine RegC.m (op_move rfl) rfl rfl rfl ?_
  refine RegC.m (op_call rfl k_call_63 (bt1_calls (k) (by first | omega | (simp only [List.length_append, List.length_map, List.length_cons, List.length_nil, List.length_replicate, List.length_take, List.length_drop, List.length_set]; omega) | (simp <;> omega) | simp_all | rfl) f1 false false (head) ((b).take (32)) (partN b i) (by first | omega | (simp only [List.length_append, List.length_map, List.length_cons, List.length_nil, List.length_replicate, List.length_take, List.length_drop, List.length_set]; omega) | (simp <;> omega) | simp_all) (by first | omega | (simp only [List.length_append, List.length_map, List.length_cons, List.length_nil, List.length_replicate, List.length_take, List.length_drop, List.length_set]; omega) | (simp <;> omega) | simp_all | rfl) (by first | omega | (simp only [List.length_append, List.length_map, List.length_cons, List.length_nil, List.length_replicate, List.length_take, List.length_drop, List.length_set]; omega) | (simp <;> omega) | simp_all) (i) (by first | omega | (simp only [List.length_append, List.length_map, List.length_cons, List.length_nil, List.length_replicate, List.length_take, List.length_drop, List.length_set]; omega) | (simp <;> omega) | simp_all))) rfl rfl rfl ?_
  refine RegC.m (OpV.boolE (t := (!((((tagN b i).drop (0)).take 16 : List UInt8) == bt1 (k) (head) ((b).take (32)) (partN b i) (i)))) (u := true) (op_neqA8 (l := ((tagN b i).drop (0)).take 16) (l2 := bt1 (k) (head) ((b).take (32)) (partN b i) (i)) rfl k_arr8_104 (by first | omega | (simp only [List.length_append, List.length_map, List.length_cons, List.length_nil, List.length_replicate, List.length_take, List.length_drop, List.length_set]; omega) | (simp <;> omega) | simp_all) (by first | omega | (simp only [List.length_append, List.length_map, List.length_cons, List.length_nil, List.length_replicate, List.length_take, List.length_drop, List.length_set]; omega) | (simp <;> omega) | simp_all)) (by rw [cmp1 k head b i (by omega)]; simp [hg])) rfl rfl rfl ?_
  refine RegC.done ⟨.inr rfl, ?_⟩
  refine WP.nrm 40 ?_
  refine WP.cond (t := true) rfl ?_
  refine WP.nrm 40 ?_
  refine WP.reg k_mixed fun nm10 hnm10 => ?_
  refine RegC.m (op_assign rfl) rfl rfl rfl ?_
  refine RegC.m (op_assign rfl) rfl rfl rfl ?_
  refine RegC.done ⟨.inl rfl, ?_⟩
  refine WP.nrm 40 ?_
  refine WP.retS (ResV.many rfl rfl (.cons (.tmp rfl) (.cons (.tmp rfl) (RessOf.nil)))) (List.nil_sublist _) ?_
  exact ⟨rfl, rfl⟩

theorem blockOf_out (k : List UInt8) (hk : k.length = 32) (f1 full : Bool) (head b : List UInt8) (hh : head.length ≤ 4096) (hb : b.length ≤ 16777216) (hE : lookE b = 0) (i : Int) (hi : i < 0 ∨ (manyN b : Int) ≤ i) : ACalls Try.prog 67 [.agg ((k).map AVal.u8), VS AVal.u8 f1 (head), VS AVal.u8 full (b), .i (i)] [] [] (.tup [VS AVal.u8 true ([] : List UInt8), .i 4]) [] := by
  have o := ok_of hE
  have hlen := o.len
  have hlo := o.lo
  have hhi := o.hi
  have hsz := o.sz
  have hml : manyN b ≤ 16384 := manyS_le (szN b) (blkN b) (by omega) (by omega)
  refine ACalls.of_wp' (fn := Try.f67) (n := 76) Try.func67 rfl rfl ?_
  unfold Try.f67
  refine WP.nrm 40 ?_
  refine WP.reg k_mixed fun nm1 hnm1 => ?_
  refine RegC.m (op_boxD rfl) rfl rfl rfl ?_
  refine RegC.m (op_assign rfl) rfl rfl rfl ?_
  refine RegC.m (op_assign rfl) rfl rfl rfl ?_
  refine RegC.done ⟨.inl rfl, ?_⟩
  refine WP.nrm 40 ?_
  refine WP.reg k_mixed fun nm2 hnm2 => ?_
  refine RegC.m (op_move rfl) rfl rfl rfl ?_
  refine RegC.m (op_lenV (f := AVal.u8) (l := head) rfl k_sl_26) rfl rfl rfl ?_
  refine RegC.m (OpV.boolF (op_gtr rfl) (by omega)) rfl rfl rfl ?_
  refine RegC.done ⟨.inl rfl, ?_⟩
  refine WP.nrm 40 ?_
  refine WP.cond (t := false) rfl ?_
  refine WP.nrm 40 ?_
  refine WP.reg k_mixed fun nm3 hnm3 => ?_
  refine RegC.m (op_move rfl) rfl rfl rfl ?_
  refine RegC.m (op_call rfl k_call_65 (blocksOf_ok full (b) (by first | omega | (simp only [List.length_append, List.length_map, List.length_cons, List.length_nil, List.length_replicate, List.length_take, List.length_drop, List.length_set]; omega) | (simp <;> omega) | simp_all) hE)) rfl rfl rfl ?_
  refine RegC.m (op_move rfl) rfl rfl rfl ?_
  refine RegC.m (op_extract rfl rfl) rfl rfl rfl ?_
  refine RegC.m (op_extract rfl rfl) rfl rfl rfl ?_
  refine RegC.m (op_extract rfl rfl) rfl rfl rfl ?_
  refine RegC.m (op_assign rfl) rfl rfl rfl ?_
  refine RegC.m (op_assign rfl) rfl rfl rfl ?_
  refine RegC.m (op_assign rfl) rfl rfl rfl ?_
  refine RegC.done ⟨.inl rfl, ?_⟩
  refine WP.nrm 40 ?_
  refine WP.reg k_mixed fun nm4 hnm4 => ?_
  refine RegC.m (op_move rfl) rfl rfl rfl ?_
  refine RegC.m (op_neq rfl) rfl rfl rfl ?_
  refine RegC.done ⟨.inl rfl, ?_⟩
  refine WP.nrm 40 ?_
  refine WP.cond (t := false) rfl ?_
  refine WP.nrm 40 ?_
  refine WP.reg k_mixed fun nm5 hnm5 => ?_
  refine RegC.m (op_move rfl) rfl rfl rfl ?_
  refine RegC.m (op_move rfl) rfl rfl rfl ?_
  refine RegC.m (op_subI rfl (by first | omega | (simp only [List.length_append, List.length_map, List.length_cons, List.length_nil, List.length_replicate, List.length_take, List.length_drop, List.length_set]; omega) | (simp <;> omega) | simp_all)) rfl rfl rfl ?_
  refine RegC.m (OpV.boolE (t := (inS (i) (0) (((manyN (b) : Int) - 1)))) (u := false) (op_call rfl k_call_30 (in_calls (i) (0) (((manyN (b) : Int) - 1)))) (by simp [inS]; omega)) rfl rfl rfl ?_
  refine RegC.m (op_not rfl) rfl rfl rfl ?_
  refine RegC.done ⟨.inl rfl, ?_⟩
  refine WP.nrm 40 ?_
  refine WP.cond (t := true) rfl ?_
  refine WP.nrm 40 ?_
  refine WP.reg k_mixed fun nm6 hnm6 => ?_
  refine RegC.m (op_assign rfl) rfl rfl rfl ?_
  refine RegC.m (op_assign rfl) rfl rfl rfl ?_
  refine RegC.done ⟨.inl rfl, ?_⟩
  refine WP.nrm 40 ?_
  refine WP.retS (ResV.many rfl rfl (.cons (.tmp rfl) (.cons (.tmp rfl) (RessOf.nil)))) (List.nil_sublist _) ?_
  exact ⟨rfl, rfl⟩

theorem blockOf_bad (k : List UInt8) (hk : k.length = 32) (f1 full : Bool) (head b : List UInt8) (hh : head.length ≤ 4096) (hb : b.length ≤ 16777216) (hE : ¬ lookE b = 0) (i : Int) : ACalls Try.prog 67 [.agg ((k).map AVal.u8), VS AVal.u8 f1 (head), VS AVal.u8 full (b), .i (i)] [] [] (.tup [VS AVal.u8 true ([] : List UInt8), .i (lookE b)]) [] := by
  refine ACalls.of_wp' (fn := Try.f67) (n := 76) Try.func67 rfl rfl ?_
  unfold Try.f67
  refine WP.nrm 40 ?_
  refine WP.reg k_mixed fun nm1 hnm1 => ?_
  refine RegC.m (op_boxD rfl) rfl rfl rfl ?_
  refine RegC.m (op_assign rfl) rfl rfl rfl ?_
  refine RegC.m (op_assign rfl) rfl rfl rfl ?_
  refine RegC.done ⟨.inl rfl, ?_⟩
  refine WP.nrm 40 ?_
  refine WP.reg k_mixed fun nm2 hnm2 => ?_
  refine RegC.m (op_move rfl) rfl rfl rfl ?_
  refine RegC.m (op_lenV (f := AVal.u8) (l := head) rfl k_sl_26) rfl rfl rfl ?_
  refine RegC.m (OpV.boolF (op_gtr rfl) (by omega)) rfl rfl rfl ?_
  refine RegC.done ⟨.inl rfl, ?_⟩
  refine WP.nrm 40 ?_
  refine WP.cond (t := false) rfl ?_
  refine WP.nrm 40 ?_
  refine WP.reg k_mixed fun nm3 hnm3 => ?_
  refine RegC.m (op_move rfl) rfl rfl rfl ?_
  refine RegC.m (op_call rfl k_call_65 (blocksOf_bad full (b) (by first | omega | (simp only [List.length_append, List.length_map, List.length_cons, List.length_nil, List.length_replicate, List.length_take, List.length_drop, List.length_set]; omega) | (simp <;> omega) | simp_all) hE)) rfl rfl rfl ?_
  refine RegC.m (op_move rfl) rfl rfl rfl ?_
  refine RegC.m (op_extract rfl rfl) rfl rfl rfl ?_
  refine RegC.m (op_extract rfl rfl) rfl rfl rfl ?_
  refine RegC.m (op_extract rfl rfl) rfl rfl rfl ?_
  refine RegC.m (op_assign rfl) rfl rfl rfl ?_
  refine RegC.m (op_assign rfl) rfl rfl rfl ?_
  refine RegC.m (op_assign rfl) rfl rfl rfl ?_
  refine RegC.done ⟨.inl rfl, ?_⟩
  refine WP.nrm 40 ?_
  refine WP.reg k_mixed fun nm4 hnm4 => ?_
  refine RegC.m (op_move rfl) rfl rfl rfl ?_
  refine RegC.m (OpV.boolE (t := (((lookE (b)) : Int) != 0)) (u := true) (op_neq rfl) (by simpa using hE)) rfl rfl rfl ?_
  refine RegC.done ⟨.inl rfl, ?_⟩
  refine WP.nrm 40 ?_
  refine WP.cond (t := true) rfl ?_
  refine WP.nrm 40 ?_
  refine WP.reg k_mixed fun nm5 hnm5 => ?_
  refine RegC.m (op_move rfl) rfl rfl rfl ?_
  refine RegC.m (op_assign rfl) rfl rfl rfl ?_
  refine RegC.m (op_assign rfl) rfl rfl rfl ?_
  refine RegC.done ⟨.inl rfl, ?_⟩
  refine WP.nrm 40 ?_
  refine WP.retS (ResV.many rfl rfl (.cons (.tmp rfl) (.cons (.tmp rfl) (RessOf.nil)))) (List.nil_sublist _) ?_
  exact ⟨rfl, rfl⟩

theorem blockOf_in (k : List UInt8) (hk : k.length = 32) (f1 full : Bool) (head b : List UInt8) (hh : head.length ≤ 4096) (hb : b.length ≤ 16777216) (hE : lookE b = 0) (i : Nat) (hi : i < manyN b) : ACalls Try.prog 67 [.agg (k.map AVal.u8), VS AVal.u8 f1 head, VS AVal.u8 full b, .i i] [] [] (.tup [VS AVal.u8 false (openB k head b i), .i (openE k head b i)]) [] := by
  by_cases hg : goodB k head b i
  · rw [openB, openE, if_pos hg, if_pos hg]; exact blockOf_good k hk f1 full head b hh hb hE i hi hg
  · rw [openB, openE, if_neg hg, if_neg hg]; exact ACalls.weakRes (blockOf_tag k hk f1 full head b hh hb hE i hi hg)

theorem blockOf_ok (k : List UInt8) (hk : k.length = 32) (f1 full : Bool) (head b : List UInt8) (hh : head.length ≤ 4096) (hb : b.length ≤ 16777216) (hE : lookE b = 0) (i : Int) : ACalls Try.prog 67 [.agg (k.map AVal.u8), VS AVal.u8 f1 head, VS AVal.u8 full b, .i i] [] [] (.tup [VS AVal.u8 false (blkB k head b i), .i (blkE k head b i)]) [] := by
  by_cases hi : 0 ≤ i ∧ i < (manyN b : Int)
  · rw [blkB, blkE, if_pos hi, if_pos hi]
    have := blockOf_in k hk f1 full head b hh hb hE i.toNat (by omega)
    rwa [Int.toNat_of_nonneg hi.1] at this
  · rw [blkB, blkE, if_neg hi, if_neg hi]; exact ACalls.weakRes (blockOf_out k hk f1 full head b hh hb hE i (by omega))
end Go.Proofs.Try
