import Derived.Test.YtdnccchcflaphaaK11
import Derived.Test.YtdnccchcflaphaaFF
import Derived.Test.YtdnccchcflaphaaS11
namespace Go.Proofs.Try
open Go Go.Kw
set_option linter.unusedVariables false
set_option linter.unusedSimpArgs false
set_option maxRecDepth 100000
set_option maxHeartbeats 400000
theorem k_call_61 : callable Try.prog 61 = true := by kernel_rfl
theorem k_call_62 : callable Try.prog 62 = true := by kernel_rfl
theorem k_call_63 : callable Try.prog 63 = true := by kernel_rfl
theorem k_fld_151_2 : fieldT Try.prog 151 2 = some 2 := by kernel_rfl
theorem k_fld_151_1 : fieldT Try.prog 151 1 = some 1 := by kernel_rfl
theorem k_zeroS_151 : zeroT Try.prog 151 = some ([VS AVal.u8 true (([] : List UInt8))] ++ ([.i (0)] ++ [.i (0)])) := by kernel_rfl
theorem k_plS_151 : (placesT Try.prog 151).isSome = true := by kernel_rfl
theorem k_agg_151 : aggT Try.prog 151 = some 3 := by kernel_rfl
theorem k_call_118 : callable Try.prog 118 = true := by kernel_rfl
theorem k_call_119 : callable Try.prog 119 = true := by kernel_rfl
theorem k_pl_151 : placesT Try.prog 151 = some (fun i => (#[(0, 1), (1, 1), (2, 1)] : Array (Nat × Nat))[i]?) := by kernel_rfl
theorem k_call_100 : callable Try.prog 100 = true := by kernel_rfl

theorem sealedText1 (b' : Nat) (k : List UInt8) (hk : k.length = 32) (n : List UInt8) (hn : n.length = 16) (f1 f2 : Bool) (head text : List UInt8) (block : Nat) (hh : head.length ≤ 4096) (ht : text.length ≤ 262144) (hb1 : 16 ≤ block) (hb2 : block ≤ 65536) : ACalls Try.prog 32 [.agg ((k).map AVal.u8), .agg ((n).map AVal.u8), VS AVal.u8 f1 (head), VS AVal.u8 f2 (text), .i ((block : Int))] [] [b'] (.os b' 0 (sealS k n head text block).length 1 false) [(b', .vec 5 ((sealS k n head text block).map AVal.u8))] := by
  have hfl := headS_length n block text.length hn
  refine ACalls.of_wp' (fn := Try.f32) (n := 60) Try.func32 rfl rfl ?_
  unfold Try.f32
  refine WP.nrm 40 ?_
  refine WP.reg k_mixed fun nm1 hnm1 => ?_
  refine RegC.m (op_boxD rfl) rfl rfl rfl ?_
  refine RegC.m (op_boxD rfl) rfl rfl rfl ?_
  refine RegC.m (op_assign rfl) rfl rfl rfl ?_
  refine RegC.done ⟨.inl rfl, ?_⟩
  refine WP.nrm 40 ?_
  refine WP.reg k_mixed fun nm2 hnm2 => ?_
  refine RegC.m (op_loadVG (cells := (n).map AVal.u8) rfl k_agg_25 (by first | omega | (simp only [List.length_append, List.length_map, List.length_cons, List.length_nil, List.length_replicate, List.length_take, List.length_drop, List.length_set]; omega) | (simp <;> omega) | simp_all | rfl) (prW (by first | omega | (simp only [List.length_append, List.length_map, List.length_cons, List.length_nil, List.length_replicate, List.length_take, List.length_drop, List.length_set]; omega) | (simp <;> omega) | simp_all | rfl))) rfl rfl rfl ?_
  refine RegC.m (op_move rfl) rfl rfl rfl ?_
  refine RegC.m (op_move rfl) rfl rfl rfl ?_
  refine RegC.m (op_lenV (f := AVal.u8) (l := text) rfl k_sl_26) rfl rfl rfl ?_
  refine RegC.m (op_call rfl k_call_61 (textHead_d (n) (by first | omega | (simp only [List.length_append, List.length_map, List.length_cons, List.length_nil, List.length_replicate, List.length_take, List.length_drop, List.length_set]; omega) | (simp <;> omega) | simp_all | rfl) (block) ((text).length) (by first | omega | (simp only [List.length_append, List.length_map, List.length_cons, List.length_nil, List.length_replicate, List.length_take, List.length_drop, List.length_set]; omega) | (simp <;> omega) | simp_all) (by first | omega | (simp only [List.length_append, List.length_map, List.length_cons, List.length_nil, List.length_replicate, List.length_take, List.length_drop, List.length_set]; omega) | (simp <;> omega) | simp_all))) rfl rfl rfl ?_
  refine RegC.m (op_assign rfl) rfl rfl rfl ?_
  refine RegC.done ⟨.inl rfl, ?_⟩
  refine WP.nrm 40 ?_
  refine WP.reg k_mixed fun nm3 hnm3 => ?_
  refine RegC.m (op_move rfl) rfl rfl rfl ?_
  refine RegC.a (op_call rfl k_call_15 (clone_calls (nm3 0) false (headS (n) (block) ((text).length)) (by first | omega | (simp only [List.length_append, List.length_map, List.length_cons, List.length_nil, List.length_replicate, List.length_take, List.length_drop, List.length_set]; omega) | (simp <;> omega) | simp_all))) rfl rfl rfl ?_
  refine RegC.m (op_assign rfl) rfl rfl rfl ?_
  refine RegC.done ⟨.inl rfl, ?_⟩
  refine WP.nrm 40 ?_
  refine WP.reg k_mixed fun nm4 hnm4 => ?_
  refine RegC.m (op_assign rfl) rfl rfl rfl ?_
  refine RegC.done ⟨.inl rfl, ?_⟩
  refine WP.nrm 40 ?_
  refine WP.loop4 (fun (j : Nat) (X : List UInt8) (m : Nat) (bn : Nat) => [(2, VS AVal.u8 f1 (head)), (3, VS AVal.u8 f2 (text)), (4, .i ((block : Int))), (5, .vptr ((k).map AVal.u8) (0)), (6, .vptr ((n).map AVal.u8) (0)), (11, VS AVal.u8 false (headS (n) (block) ((text).length))), (12, .os (bn) (0) (m) 1 false), (13, .i ((j : Int)))]) (fun (j : Nat) (X : List UInt8) (m : Nat) (bn : Nat) => [(bn, .vec 5 ((X).map AVal.u8))]) (fun (j : Nat) (X : List UInt8) (m : Nat) (bn : Nat) => m = X.length ∧ X = sealG (blk1 k n head text block) (headS n block text.length) j ∧ j * block < text.length + block ∧ X.length ≤ 32 + j * 65552 ∧ j ≤ 20481 ∧ j * 16 ≤ j * block) (fun (j : Nat) (X : List UInt8) (m : Nat) (bn : Nat) => text.length + block - j * block) (0) (headS n block text.length) ((headS n block text.length).length) (nm3 0) (subE.cons rfl (subE.cons rfl (subE.cons rfl (subE.cons rfl (subE.cons rfl (subE.cons rfl (subE.cons rfl (subE.cons rfl (subE.nil))))))))) (by (try simp only [List.set_cons_zero, List.set_cons_succ, List.cons_append, List.nil_append]); exact (.cons_cons _ (List.nil_sublist _))) ⟨rfl, (sealG_zero _ _).symm, by omega, by rw [headS_length _ _ _ hn]; omega, by omega, by omega⟩ ?_
  intro j X m bn hI ih0
  obtain ⟨hm, hX, hjb, hXl, hj, hj16⟩ := hI
  have hs : (j + 1) * block = j * block + block := Nat.succ_mul j block
  have hjI : ((j * block : Nat) : Int) = (j : Int) * (block : Int) := Int.natCast_mul j block
  have hsI : (((j + 1) * block : Nat) : Int) = ((j : Int) + 1) * (block : Int) := by push_cast; rfl
  refine WP.nrm 40 ?_
  refine WP.reg k_mixed fun nm5 hnm5 => ?_
  refine RegC.m (op_move rfl) rfl rfl rfl ?_
  refine RegC.m (op_move rfl) rfl rfl rfl ?_
  refine RegC.m (op_mulI rfl (by first | omega | (simp only [List.length_append, List.length_map, List.length_cons, List.length_nil, List.length_replicate, List.length_take, List.length_drop, List.length_set]; omega) | (simp <;> omega) | simp_all)) rfl rfl rfl ?_
  refine RegC.m (op_move rfl) rfl rfl rfl ?_
  refine RegC.m (op_lenV (f := AVal.u8) (l := text) rfl k_sl_26) rfl rfl rfl ?_
  refine RegC.m (op_lss rfl) rfl rfl rfl ?_
  refine RegC.done ⟨.inl rfl, ?_⟩
  refine WP.nrm 40 ?_
  refine WP.condD rfl (fun h1 => ?_) (fun h1 => ?_)
  ·
    refine WP.nrm 40 ?_
    refine WP.reg k_mixed fun nm6 hnm6 => ?_
    refine RegC.m (op_loadVG (cells := (k).map AVal.u8) rfl k_agg_23 (by first | omega | (simp only [List.length_append, List.length_map, List.length_cons, List.length_nil, List.length_replicate, List.length_take, List.length_drop, List.length_set]; omega) | (simp <;> omega) | simp_all | rfl) (prW (by first | omega | (simp only [List.length_append, List.length_map, List.length_cons, List.length_nil, List.length_replicate, List.length_take, List.length_drop, List.length_set]; omega) | (simp <;> omega) | simp_all | rfl))) rfl rfl rfl ?_
    refine RegC.m (op_loadVG (cells := (n).map AVal.u8) rfl k_agg_25 (by first | omega | (simp only [List.length_append, List.length_map, List.length_cons, List.length_nil, List.length_replicate, List.length_take, List.length_drop, List.length_set]; omega) | (simp <;> omega) | simp_all | rfl) (prW (by first | omega | (simp only [List.length_append, List.length_map, List.length_cons, List.length_nil, List.length_replicate, List.length_take, List.length_drop, List.length_set]; omega) | (simp <;> omega) | simp_all | rfl))) rfl rfl rfl ?_
    refine RegC.m (op_move rfl) rfl rfl rfl ?_
    refine RegC.m (op_call rfl k_call_62 (bn1_calls (n) (by first | omega | (simp only [List.length_append, List.length_map, List.length_cons, List.length_nil, List.length_replicate, List.length_take, List.length_drop, List.length_set]; omega) | (simp <;> omega) | simp_all | rfl) (j) (by first | omega | (simp only [List.length_append, List.length_map, List.length_cons, List.length_nil, List.length_replicate, List.length_take, List.length_drop, List.length_set]; omega) | (simp <;> omega) | simp_all))) rfl rfl rfl ?_
    refine RegC.m (op_move rfl) rfl rfl rfl ?_
    refine RegC.m (op_move rfl) rfl rfl rfl ?_
    refine RegC.m (op_move rfl) rfl rfl rfl ?_
    refine RegC.m (op_mulI rfl (by first | omega | (simp only [List.length_append, List.length_map, List.length_cons, List.length_nil, List.length_replicate, List.length_take, List.length_drop, List.length_set]; omega) | (simp <;> omega) | simp_all)) rfl rfl rfl ?_
    refine RegC.m (op_move rfl) rfl rfl rfl ?_
    refine RegC.m (op_lenV (f := AVal.u8) (l := text) rfl k_sl_26) rfl rfl rfl ?_
    refine RegC.m (op_move rfl) rfl rfl rfl ?_
    refine RegC.m (op_addI rfl (by first | omega | (simp only [List.length_append, List.length_map, List.length_cons, List.length_nil, List.length_replicate, List.length_take, List.length_drop, List.length_set]; omega) | (simp <;> omega) | simp_all)) rfl rfl rfl ?_
    refine RegC.m (op_move rfl) rfl rfl rfl ?_
    refine RegC.m (op_mulI rfl (by first | omega | (simp only [List.length_append, List.length_map, List.length_cons, List.length_nil, List.length_replicate, List.length_take, List.length_drop, List.length_set]; omega) | (simp <;> omega) | simp_all)) rfl rfl rfl ?_
    refine RegC.m (op_min rfl) rfl rfl rfl ?_
    refine RegC.m (op_sV11 (f := AVal.u8) (l := text) ((j * block)) ((min (text).length ((j + 1) * block))) rfl k_sl_26 (by first | omega | (simp only [List.length_append, List.length_map, List.length_cons, List.length_nil, List.length_replicate, List.length_take, List.length_drop, List.length_set]; omega) | (simp <;> omega) | simp_all) (by first | omega | (simp only [List.length_append, List.length_map, List.length_cons, List.length_nil, List.length_replicate, List.length_take, List.length_drop, List.length_set]; omega) | (simp <;> omega) | simp_all) (by first | omega | (simp only [List.length_append, List.length_map, List.length_cons, List.length_nil, List.length_replicate, List.length_take, List.length_drop, List.length_set]; omega) | (simp <;> omega) | simp_all) (by first | omega | (simp only [List.length_append, List.length_map, List.length_cons, List.length_nil, List.length_replicate, List.length_take, List.length_drop, List.length_set]; omega) | (simp <;> omega) | simp_all)) rfl rfl rfl ?_
    refine RegC.m (op_call rfl k_call_12 (cool1 (h := []) (fun b9 => cover1_calls b9 false (((text).take ((min (text).length ((j + 1) * block)))).drop ((j * block))) (k) (bn1 (n) (j)) (by first | omega | (simp only [List.length_append, List.length_map, List.length_cons, List.length_nil, List.length_replicate, List.length_take, List.length_drop, List.length_set]; omega) | (simp <;> omega) | simp_all) (by first | omega | (simp only [List.length_append, List.length_map, List.length_cons, List.length_nil, List.length_replicate, List.length_take, List.length_drop, List.length_set]; omega) | (simp <;> omega) | simp_all) (by first | omega | (simp only [List.length_append, List.length_map, List.length_cons, List.length_nil, List.length_replicate, List.length_take, List.length_drop, List.length_set]; omega) | (simp <;> omega) | simp_all)) (by simp))) rfl rfl rfl ?_
    refine RegC.m (op_assign rfl) rfl rfl rfl ?_
    refine RegC.done ⟨.inr rfl, ?_⟩
    refine WP.nrm 40 ?_
    refine WP.reg k_mixed fun nm7 hnm7 => ?_
    refine RegC.m (op_loadVG (cells := (k).map AVal.u8) rfl k_agg_23 (by first | omega | (simp only [List.length_append, List.length_map, List.length_cons, List.length_nil, List.length_replicate, List.length_take, List.length_drop, List.length_set]; omega) | (simp <;> omega) | simp_all | rfl) (prW (by first | omega | (simp only [List.length_append, List.length_map, List.length_cons, List.length_nil, List.length_replicate, List.length_take, List.length_drop, List.length_set]; omega) | (simp <;> omega) | simp_all | rfl))) rfl rfl rfl ?_
    refine RegC.m (op_move rfl) rfl rfl rfl ?_
    refine RegC.m (op_move rfl) rfl rfl rfl ?_
    refine RegC.m (op_move rfl) rfl rfl rfl ?_
    refine RegC.m (op_move rfl) rfl rfl rfl ?_
    refine RegC.m (op_call rfl k_call_63 (bt1_calls (k) (by first | omega | (simp only [List.length_append, List.length_map, List.length_cons, List.length_nil, List.length_replicate, List.length_take, List.length_drop, List.length_set]; omega) | (simp <;> omega) | simp_all | rfl) f1 false false (head) (headS (n) (block) ((text).length)) (cover1 (k) (bn1 (n) (j)) (((text).take ((min (text).length ((j + 1) * block)))).drop ((j * block)))) (by first | omega | (simp only [List.length_append, List.length_map, List.length_cons, List.length_nil, List.length_replicate, List.length_take, List.length_drop, List.length_set]; omega) | (simp <;> omega) | simp_all) (headS_length _ _ _ (by omega)) (by rw [cover1_length]; simp only [List.length_drop, List.length_take]; omega) (j) (by first | omega | (simp only [List.length_append, List.length_map, List.length_cons, List.length_nil, List.length_replicate, List.length_take, List.length_drop, List.length_set]; omega) | (simp <;> omega) | simp_all))) rfl rfl rfl ?_
    refine RegC.a (op_alloc rfl k_zero_104) rfl rfl rfl ?_
    refine RegC.w (i := 1) (op_storeW rfl k_agg_104 (by first | omega | (simp only [List.length_append, List.length_map, List.length_cons, List.length_nil, List.length_replicate, List.length_take, List.length_drop, List.length_set]; omega) | (simp <;> omega) | simp_all) (by first | omega | (simp only [List.length_append, List.length_map, List.length_cons, List.length_nil, List.length_replicate, List.length_take, List.length_drop, List.length_set]; omega) | (simp <;> omega) | simp_all) (by first | exact allS (fun _ => rfl) | simp [AVal.scalar])) rfl rfl rfl rfl ?_
    refine RegC.done ⟨.inl rfl, ?_⟩
    refine WP.cold (b := nm7 0) 1 [(15, .vptr ((bt1 (k) (head) (headS (n) (block) ((text).length)) (cover1 (k) (bn1 (n) (j)) (((text).take ((min (text).length ((j + 1) * block)))).drop ((j * block)))) (j)).map AVal.u8) (0))] rfl (frzE.cons rfl (.ptr 0) frzE.nil) ?_
    refine WP.nrm 40 ?_
    refine WP.reg k_mixed fun nm8 hnm8 => ?_
    refine RegC.m (op_move rfl) rfl rfl rfl ?_
    refine RegC.m (op_move rfl) rfl rfl rfl ?_
    refine RegC.wa (i := 0) (op_appL (f := AVal.u8) (l := X) (l2 := cover1 (k) (bn1 (n) (j)) (((text).take ((min (text).length ((j + 1) * block)))).drop ((j * block)))) (fun _ => rfl) rfl k_app_26_26 (by first | omega | (simp only [List.length_append, List.length_map, List.length_cons, List.length_nil, List.length_replicate, List.length_take, List.length_drop, List.length_set]; omega) | (simp <;> omega) | simp_all) (by first | omega | (simp only [List.length_append, List.length_map, List.length_cons, List.length_nil, List.length_replicate, List.length_take, List.length_drop, List.length_set]; omega) | (simp <;> omega) | simp_all)) rfl rfl rfl rfl ?_
    refine RegC.m (op_sVA00f (f := AVal.u8) (l := bt1 (k) (head) (headS (n) (block) ((text).length)) (cover1 (k) (bn1 (n) (j)) (((text).take ((min (text).length ((j + 1) * block)))).drop ((j * block)))) (j)) rfl k_arr_104 (by first | omega | (simp only [List.length_append, List.length_map, List.length_cons, List.length_nil, List.length_replicate, List.length_take, List.length_drop, List.length_set]; omega) | (simp <;> omega) | simp_all | rfl)) rfl rfl rfl ?_
    refine RegC.wa (i := 0) (op_appL (f := AVal.u8) (l := X ++ cover1 (k) (bn1 (n) (j)) (((text).take ((min (text).length ((j + 1) * block)))).drop ((j * block)))) (l2 := bt1 (k) (head) (headS (n) (block) ((text).length)) (cover1 (k) (bn1 (n) (j)) (((text).take ((min (text).length ((j + 1) * block)))).drop ((j * block)))) (j)) (fun _ => rfl) rfl k_app_26_26 (by first | omega | (simp only [List.length_append, List.length_map, List.length_cons, List.length_nil, List.length_replicate, List.length_take, List.length_drop, List.length_set]; omega) | (simp <;> omega) | simp_all) (by first | omega | (simp only [List.length_append, List.length_map, List.length_cons, List.length_nil, List.length_replicate, List.length_take, List.length_drop, List.length_set]; omega) | (simp <;> omega) | simp_all)) rfl rfl rfl rfl ?_
    refine RegC.m (op_assign rfl) rfl rfl rfl ?_
    refine RegC.done ⟨.inr rfl, ?_⟩
    refine WP.nrm 40 ?_
    refine WP.reg k_mixed fun nm9 hnm9 => ?_
    refine RegC.m (op_move rfl) rfl rfl rfl ?_
    refine RegC.m (op_addI rfl (by first | omega | (simp only [List.length_append, List.length_map, List.length_cons, List.length_nil, List.length_replicate, List.length_take, List.length_drop, List.length_set]; omega) | (simp <;> omega) | simp_all)) rfl rfl rfl ?_
    refine RegC.m (op_assign rfl) rfl rfl rfl ?_
    refine RegC.done ⟨.inl rfl, ?_⟩
    refine WP.nrm 40 ?_
    refine WP.jump (subE.cons rfl (subE.cons rfl (subE.cons rfl (subE.cons rfl (subE.cons rfl (subE.cons rfl (subE.cons rfl (subE.cons rfl (subE.nil))))))))) (by (try simp only [List.set_cons_zero, List.set_cons_succ, List.cons_append, List.nil_append]); exact (.cons_cons _ (List.nil_sublist _))) (ih0 (j + 1) (X ++ cover1 (k) (bn1 (n) (j)) (((text).take ((min (text).length ((j + 1) * block)))).drop ((j * block))) ++ bt1 (k) (head) (headS (n) (block) ((text).length)) (cover1 (k) (bn1 (n) (j)) (((text).take ((min (text).length ((j + 1) * block)))).drop ((j * block)))) (j)) (((m + (cover1 (k) (bn1 (n) (j)) (((text).take ((min (text).length ((j + 1) * block)))).drop ((j * block)))).length) + (bt1 (k) (head) (headS (n) (block) ((text).length)) (cover1 (k) (bn1 (n) (j)) (((text).take ((min (text).length ((j + 1) * block)))).drop ((j * block)))) (j)).length)) (nm8 1) ?_ ?_)
    · have hs : (j + 1) * block = j * block + block := Nat.succ_mul j block; have hbl := blk1_length k n head text block j hb2; have hxe : X ++ cover1 (k) (bn1 (n) (j)) (((text).take ((min (text).length ((j + 1) * block)))).drop ((j * block))) ++ bt1 (k) (head) (headS (n) (block) ((text).length)) (cover1 (k) (bn1 (n) (j)) (((text).take ((min (text).length ((j + 1) * block)))).drop ((j * block)))) (j) = sealG (blk1 k n head text block) (headS n block text.length) (j + 1) := (by rw [sealG_next, ← hX]; unfold blk1; rw [List.append_assoc]; rfl); exact ⟨by first | (simp only [List.length_append]; omega) | (simp only [List.length_append]; done), hxe, by omega, by rw [hxe, sealG_next, List.length_append, ← hX]; omega, by omega, by omega⟩
    · have hs : (j + 1) * block = j * block + block := Nat.succ_mul j block; omega
  ·
    have hej := many_of text.length block j (by omega) hjb (by omega)
    have hXe : X = sealS k n head text block := by rw [seal_eq _ _ _ _ _ hk, hX, hej]
    refine WP.nrm 40 ?_
    refine WP.reg k_mixed fun nm10 hnm10 => ?_
    refine RegC.m (op_move rfl) rfl rfl rfl ?_
    refine RegC.m (op_assign rfl) rfl rfl rfl ?_
    refine RegC.done ⟨.inl rfl, ?_⟩
    refine WP.nrm 40 ?_
    refine WP.ret1S (b' := b') (vf := fun q => .os q (0) (m) 1 false) 0 (ResV.one rfl (.tmp rfl)) rfl (by simp) os_named (.cons_cons _ (List.nil_sublist _)) ?_
    exact ⟨by rw [hm, hXe], by rw [hXe]⟩

theorem sealedText_d (k : List UInt8) (hk : k.length = 32) (n : List UInt8) (hn : n.length = 16) (f1 f2 : Bool) (head text : List UInt8) (block : Nat) (hh : head.length ≤ 4096) (ht : text.length ≤ 262144) (hb1 : 16 ≤ block) (hb2 : block ≤ 65536) :
    ACalls Try.prog 32 [.agg (k.map AVal.u8), .agg (n.map AVal.u8), VS AVal.u8 f1 head, VS AVal.u8 f2 text, .i block] [] [] (VS AVal.u8 false (sealS k n head text block)) [] := cool1 (h := []) (fun b => sealedText1 b k hk n hn f1 f2 head text block hh ht hb1 hb2) rfl

theorem many_calls (full : Bool) (b : List UInt8) (block size : Nat) (h1 : 16 ≤ block) (h2 : block ≤ 65536) (h3 : size ≤ 262144) : ACalls Try.prog 100 [.agg ([VS AVal.u8 full (b)] ++ ([.i ((block : Int))] ++ [.i ((size : Int))]))] [] [] (.i (manyS size block : Nat)) [] := by
  refine ACalls.of_wp' (fn := Try.f100) (n := 12) Try.func100 rfl rfl ?_
  unfold Try.f100
  refine WP.nrm 40 ?_
  refine WP.reg k_mixed fun nm1 hnm1 => ?_
  refine RegC.m (op_boxD rfl) rfl rfl rfl ?_
  refine RegC.m (op_assign rfl) rfl rfl rfl ?_
  refine RegC.done ⟨.inl rfl, ?_⟩
  refine WP.nrm 40 ?_
  refine WP.reg k_mixed fun nm2 hnm2 => ?_
  refine RegC.m (op_fieldVE (off := 0) rfl k_fld_151_2 rfl) rfl rfl rfl ?_
  refine RegC.m (op_loadV (off := 2) rfl k_scal_3 (sgN 1 1 (by omega) (by first | omega | (simp only [List.length_append, List.length_map, List.length_cons, List.length_nil, List.length_replicate, List.length_take, List.length_drop, List.length_set]; omega) | (simp <;> omega) | simp_all | rfl) (sgN 1 (0) (by omega) (by first | omega | (simp only [List.length_append, List.length_map, List.length_cons, List.length_nil, List.length_replicate, List.length_take, List.length_drop, List.length_set]; omega) | (simp <;> omega) | simp_all | rfl) rfl))) rfl rfl rfl ?_
  refine RegC.m (op_fieldVE (off := 0) rfl k_fld_151_1 rfl) rfl rfl rfl ?_
  refine RegC.m (op_loadV (off := 1) rfl k_scal_3 (sgN 1 (0) (by omega) (by first | omega | (simp only [List.length_append, List.length_map, List.length_cons, List.length_nil, List.length_replicate, List.length_take, List.length_drop, List.length_set]; omega) | (simp <;> omega) | simp_all | rfl) (sgH rfl))) rfl rfl rfl ?_
  refine RegC.m (op_addI rfl (by first | omega | (simp only [List.length_append, List.length_map, List.length_cons, List.length_nil, List.length_replicate, List.length_take, List.length_drop, List.length_set]; omega) | (simp <;> omega) | simp_all)) rfl rfl rfl ?_
  refine RegC.m (op_subI rfl (by first | omega | (simp only [List.length_append, List.length_map, List.length_cons, List.length_nil, List.length_replicate, List.length_take, List.length_drop, List.length_set]; omega) | (simp <;> omega) | simp_all)) rfl rfl rfl ?_
  refine RegC.m (op_fieldVE (off := 0) rfl k_fld_151_1 rfl) rfl rfl rfl ?_
  refine RegC.m (op_loadV (off := 1) rfl k_scal_3 (sgN 1 (0) (by omega) (by first | omega | (simp only [List.length_append, List.length_map, List.length_cons, List.length_nil, List.length_replicate, List.length_take, List.length_drop, List.length_set]; omega) | (simp <;> omega) | simp_all | rfl) (sgH rfl))) rfl rfl rfl ?_
  refine RegC.m (op_quoI rfl (by first | omega | (simp only [List.length_append, List.length_map, List.length_cons, List.length_nil, List.length_replicate, List.length_take, List.length_drop, List.length_set]; omega) | (simp <;> omega) | simp_all)) rfl rfl rfl ?_
  refine RegC.m (op_assign rfl) rfl rfl rfl ?_
  refine RegC.done ⟨.inl rfl, ?_⟩
  refine WP.nrm 40 ?_
  refine WP.retS (ResV.one rfl (.tmp rfl)) (List.nil_sublist _) ?_
  exact ⟨congrArg AVal.i (many_int size block (by omega)).symm, rfl⟩

theorem look_calls (full : Bool) (b : List UInt8) (hb : b.length ≤ 16777216) : ACalls Try.prog 99 [VS AVal.u8 full (b)] [] [] (.tup [lookS full b, .i (lookE b)]) [] := by
  have hB : blkN b = (num4 b 20).toNat := rfl
  have hZ : szN b = (num8 b 24).toNat := rfl
  have hM : manyN b = manyS (num8 b 24).toNat (num4 b 20).toNat := rfl
  refine ACalls.of_wp' (fn := Try.f99) (n := 65) Try.func99 rfl rfl ?_
  unfold Try.f99
  refine WP.nrm 40 ?_
  refine WP.reg k_mixed fun nm1 hnm1 => ?_
  refine RegC.a (op_alloc rfl k_zeroS_151) rfl rfl rfl ?_
  refine RegC.m (op_assign rfl) rfl rfl rfl ?_
  refine RegC.done ⟨.inl rfl, ?_⟩
  refine WP.nrm 40 ?_
  refine WP.reg k_mixed fun nm2 hnm2 => ?_
  refine RegC.m (op_move rfl) rfl rfl rfl ?_
  refine RegC.m (op_lenV (f := AVal.u8) (l := b) rfl k_sl_26) rfl rfl rfl ?_
  refine RegC.m (op_lss rfl) rfl rfl rfl ?_
  refine RegC.done ⟨.inl rfl, ?_⟩
  refine WP.nrm 40 ?_
  refine WP.condD rfl (fun h1 => ?_) (fun h1 => ?_)
  ·
    refine WP.nrm 40 ?_
    refine WP.reg k_mixed fun nm3 hnm3 => ?_
    refine RegC.m (op_build (vs := []) rfl (Option.some_get k_plS_151).symm k_zeroS_151 rfl (by simp)) rfl rfl rfl ?_
    refine RegC.w (i := 0) (op_storeW rfl k_agg_151 (by first | omega | (simp only [List.length_append, List.length_map, List.length_cons, List.length_nil, List.length_replicate, List.length_take, List.length_drop, List.length_set]; omega) | (simp <;> omega) | simp_all | rfl) (by first | omega | (simp only [List.length_append, List.length_map, List.length_cons, List.length_nil, List.length_replicate, List.length_take, List.length_drop, List.length_set]; omega) | (simp <;> omega) | simp_all | rfl) (by simp [AVal.scalar])) rfl rfl rfl rfl ?_
    refine RegC.m (op_assign rfl) rfl rfl rfl ?_
    refine RegC.done ⟨.inl rfl, ?_⟩
    refine WP.nrm 40 ?_
    refine WP.retS (ResV.many rfl rfl (.cons (.cellW 0 rfl rfl k_agg_151 (by first | omega | (simp only [List.length_append, List.length_map, List.length_cons, List.length_nil, List.length_replicate, List.length_take, List.length_drop, List.length_set]; omega) | (simp <;> omega) | simp_all | rfl)) (.cons (.tmp rfl) (RessOf.nil)))) (List.nil_sublist _) ?_
    have hE : lookE b = 1 := (by first | (exact look_1 b (by omega)) | (exact look_1b b (by omega) hk4 (by omega) (by omega) (by omega))); exact ⟨by rw [lookS, hE]; first | rfl | simp, rfl⟩
  ·
    refine WP.nrm 40 ?_
    refine WP.reg k_mixed fun nm4 hnm4 => ?_
    refine RegC.m (op_move rfl) rfl rfl rfl ?_
    refine RegC.m (op_sV01 (f := AVal.u8) (l := b) (4) rfl k_sl_26 (by first | omega | (simp only [List.length_append, List.length_map, List.length_cons, List.length_nil, List.length_replicate, List.length_take, List.length_drop, List.length_set]; omega) | (simp <;> omega) | simp_all) (by first | omega | (simp only [List.length_append, List.length_map, List.length_cons, List.length_nil, List.length_replicate, List.length_take, List.length_drop, List.length_set]; omega) | (simp <;> omega) | simp_all)) rfl rfl rfl ?_
    refine RegC.m (op_toStrV (l := (b).take (4)) rfl k_undSl_26 k_undI_5 k_undS_9 rfl) rfl rfl rfl ?_
    refine RegC.m (op_neqS rfl) rfl rfl rfl ?_
    refine RegC.done ⟨.inl rfl, ?_⟩
    refine WP.nrm 40 ?_
    refine WP.condB rfl (fun h2 => ?_) (fun h2 => ?_)
    ·
      have hk4 : ¬ b.take 4 = [75, 87, 84, 49] := by simpa using h2
      refine WP.nrm 40 ?_
      refine WP.reg k_mixed fun nm5 hnm5 => ?_
      refine RegC.m (op_build (vs := []) rfl (Option.some_get k_plS_151).symm k_zeroS_151 rfl (by simp)) rfl rfl rfl ?_
      refine RegC.w (i := 0) (op_storeW rfl k_agg_151 (by first | omega | (simp only [List.length_append, List.length_map, List.length_cons, List.length_nil, List.length_replicate, List.length_take, List.length_drop, List.length_set]; omega) | (simp <;> omega) | simp_all | rfl) (by first | omega | (simp only [List.length_append, List.length_map, List.length_cons, List.length_nil, List.length_replicate, List.length_take, List.length_drop, List.length_set]; omega) | (simp <;> omega) | simp_all | rfl) (by simp [AVal.scalar])) rfl rfl rfl rfl ?_
      refine RegC.m (op_assign rfl) rfl rfl rfl ?_
      refine RegC.done ⟨.inl rfl, ?_⟩
      refine WP.nrm 40 ?_
      refine WP.retS (ResV.many rfl rfl (.cons (.cellW 0 rfl rfl k_agg_151 (by first | omega | (simp only [List.length_append, List.length_map, List.length_cons, List.length_nil, List.length_replicate, List.length_take, List.length_drop, List.length_set]; omega) | (simp <;> omega) | simp_all | rfl)) (.cons (.tmp rfl) (RessOf.nil)))) (List.nil_sublist _) ?_
      have hE : lookE b = 2 := (by first | (exact look_2 b (by omega) hk4) | (exact look_2b b (by omega) hk4 (by omega) (by omega) (by omega))); exact ⟨by rw [lookS, hE]; first | rfl | simp, rfl⟩
    ·
      have hk4 : b.take 4 = [75, 87, 84, 49] := by simpa using h2
      refine WP.nrm 40 ?_
      refine WP.reg k_mixed fun nm6 hnm6 => ?_
      refine RegC.m (op_move rfl) rfl rfl rfl ?_
      refine RegC.m (op_call rfl k_call_118 (number_calls full (b) (20) (by first | omega | (simp only [List.length_append, List.length_map, List.length_cons, List.length_nil, List.length_replicate, List.length_take, List.length_drop, List.length_set]; omega) | (simp <;> omega) | simp_all) (by first | omega | (simp only [List.length_append, List.length_map, List.length_cons, List.length_nil, List.length_replicate, List.length_take, List.length_drop, List.length_set]; omega) | (simp <;> omega) | simp_all))) rfl rfl rfl ?_
      refine RegC.m (op_move rfl) rfl rfl rfl ?_
      refine RegC.m (op_extract rfl rfl) rfl rfl rfl ?_
      refine RegC.m (op_extract rfl rfl) rfl rfl rfl ?_
      refine RegC.m (op_assign rfl) rfl rfl rfl ?_
      refine RegC.m (op_assign rfl) rfl rfl rfl ?_
      refine RegC.done ⟨.inl rfl, ?_⟩
      refine WP.nrm 40 ?_
      refine WP.reg k_mixed fun nm7 hnm7 => ?_
      refine RegC.m (op_move rfl) rfl rfl rfl ?_
      rcases Decidable.em ((((num4 (b) (20)).toNat : Int) : Int) < 16) with h3 | h3
      ·
        refine RegC.m (OpV.boolT (op_lss rfl) h3) rfl rfl rfl ?_
        refine RegC.m (op_move rfl) rfl rfl rfl ?_
        refine RegC.skip rfl rfl ?_
        refine RegC.skip rfl rfl ?_
        refine RegC.m (op_pick rfl) rfl rfl rfl ?_
        refine RegC.done ⟨.inl rfl, ?_⟩
        refine WP.nrm 40 ?_
        refine WP.cond (t := true) rfl ?_
        refine WP.nrm 40 ?_
        refine WP.reg k_mixed fun nm8 hnm8 => ?_
        refine RegC.m (op_build (vs := []) rfl (Option.some_get k_plS_151).symm k_zeroS_151 rfl (by simp)) rfl rfl rfl ?_
        refine RegC.w (i := 0) (op_storeW rfl k_agg_151 (by first | omega | (simp only [List.length_append, List.length_map, List.length_cons, List.length_nil, List.length_replicate, List.length_take, List.length_drop, List.length_set]; omega) | (simp <;> omega) | simp_all | rfl) (by first | omega | (simp only [List.length_append, List.length_map, List.length_cons, List.length_nil, List.length_replicate, List.length_take, List.length_drop, List.length_set]; omega) | (simp <;> omega) | simp_all | rfl) (by simp [AVal.scalar])) rfl rfl rfl rfl ?_
        refine RegC.m (op_assign rfl) rfl rfl rfl ?_
        refine RegC.done ⟨.inl rfl, ?_⟩
        refine WP.nrm 40 ?_
        refine WP.retS (ResV.many rfl rfl (.cons (.cellW 0 rfl rfl k_agg_151 (by first | omega | (simp only [List.length_append, List.length_map, List.length_cons, List.length_nil, List.length_replicate, List.length_take, List.length_drop, List.length_set]; omega) | (simp <;> omega) | simp_all | rfl)) (.cons (.tmp rfl) (RessOf.nil)))) (List.nil_sublist _) ?_
        have hE : lookE b = 4 := look_4 b (by omega) hk4 (by omega); exact ⟨by rw [lookS, hE]; first | rfl | simp, rfl⟩
      ·
        refine RegC.m (OpV.boolF (op_lss rfl) h3) rfl rfl rfl ?_
        refine RegC.m (op_move rfl) rfl rfl rfl ?_
        refine RegC.m (op_move rfl) rfl rfl rfl ?_
        refine RegC.m (op_gtr rfl) rfl rfl rfl ?_
        refine RegC.m (op_pick rfl) rfl rfl rfl ?_
        refine RegC.done ⟨.inl rfl, ?_⟩
        refine WP.nrm 40 ?_
        refine WP.condD rfl (fun h4 => ?_) (fun h4 => ?_)
        ·
          refine WP.nrm 40 ?_
          refine WP.reg k_mixed fun nm9 hnm9 => ?_
          refine RegC.m (op_build (vs := []) rfl (Option.some_get k_plS_151).symm k_zeroS_151 rfl (by simp)) rfl rfl rfl ?_
          refine RegC.w (i := 0) (op_storeW rfl k_agg_151 (by first | omega | (simp only [List.length_append, List.length_map, List.length_cons, List.length_nil, List.length_replicate, List.length_take, List.length_drop, List.length_set]; omega) | (simp <;> omega) | simp_all | rfl) (by first | omega | (simp only [List.length_append, List.length_map, List.length_cons, List.length_nil, List.length_replicate, List.length_take, List.length_drop, List.length_set]; omega) | (simp <;> omega) | simp_all | rfl) (by simp [AVal.scalar])) rfl rfl rfl rfl ?_
          refine RegC.m (op_assign rfl) rfl rfl rfl ?_
          refine RegC.done ⟨.inl rfl, ?_⟩
          refine WP.nrm 40 ?_
          refine WP.retS (ResV.many rfl rfl (.cons (.cellW 0 rfl rfl k_agg_151 (by first | omega | (simp only [List.length_append, List.length_map, List.length_cons, List.length_nil, List.length_replicate, List.length_take, List.length_drop, List.length_set]; omega) | (simp <;> omega) | simp_all | rfl)) (.cons (.tmp rfl) (RessOf.nil)))) (List.nil_sublist _) ?_
          have hE : lookE b = 4 := look_4 b (by omega) hk4 (by omega); exact ⟨by rw [lookS, hE]; first | rfl | simp, rfl⟩
        ·
          rcases Nat.lt_or_ge 4611686018427387904 (num8 b 24).toNat with h5 | h5
          ·
            refine WP.nrm 40 ?_
            refine WP.reg k_mixed fun nm10 hnm10 => ?_
            refine RegC.m (op_move rfl) rfl rfl rfl ?_
            refine RegC.m (op_call rfl k_call_119 (long_large full (b) (24) (by first | omega | (simp only [List.length_append, List.length_map, List.length_cons, List.length_nil, List.length_replicate, List.length_take, List.length_drop, List.length_set]; omega) | (simp <;> omega) | simp_all) (by first | omega | (simp only [List.length_append, List.length_map, List.length_cons, List.length_nil, List.length_replicate, List.length_take, List.length_drop, List.length_set]; omega) | (simp <;> omega) | simp_all) h5)) rfl rfl rfl ?_
            refine RegC.m (op_move rfl) rfl rfl rfl ?_
            refine RegC.m (op_extract rfl rfl) rfl rfl rfl ?_
            refine RegC.m (op_extract rfl rfl) rfl rfl rfl ?_
            refine RegC.m (op_assign rfl) rfl rfl rfl ?_
            refine RegC.m (op_assign rfl) rfl rfl rfl ?_
            refine RegC.done ⟨.inl rfl, ?_⟩
            refine WP.nrm 40 ?_
            refine WP.reg k_mixed fun nm11 hnm11 => ?_
            refine RegC.m (op_move rfl) rfl rfl rfl ?_
            refine RegC.m (op_neq rfl) rfl rfl rfl ?_
            refine RegC.m (op_move rfl) rfl rfl rfl ?_
            refine RegC.skip rfl rfl ?_
            refine RegC.skip rfl rfl ?_
            refine RegC.m (op_pick rfl) rfl rfl rfl ?_
            refine RegC.done ⟨.inl rfl, ?_⟩
            refine WP.nrm 40 ?_
            refine WP.cond (t := true) rfl ?_
            refine WP.nrm 40 ?_
            refine WP.reg k_mixed fun nm12 hnm12 => ?_
            refine RegC.m (op_build (vs := []) rfl (Option.some_get k_plS_151).symm k_zeroS_151 rfl (by simp)) rfl rfl rfl ?_
            refine RegC.w (i := 0) (op_storeW rfl k_agg_151 (by first | omega | (simp only [List.length_append, List.length_map, List.length_cons, List.length_nil, List.length_replicate, List.length_take, List.length_drop, List.length_set]; omega) | (simp <;> omega) | simp_all | rfl) (by first | omega | (simp only [List.length_append, List.length_map, List.length_cons, List.length_nil, List.length_replicate, List.length_take, List.length_drop, List.length_set]; omega) | (simp <;> omega) | simp_all | rfl) (by simp [AVal.scalar])) rfl rfl rfl rfl ?_
            refine RegC.m (op_assign rfl) rfl rfl rfl ?_
            refine RegC.done ⟨.inl rfl, ?_⟩
            refine WP.nrm 40 ?_
            refine WP.retS (ResV.many rfl rfl (.cons (.cellW 0 rfl rfl k_agg_151 (by first | omega | (simp only [List.length_append, List.length_map, List.length_cons, List.length_nil, List.length_replicate, List.length_take, List.length_drop, List.length_set]; omega) | (simp <;> omega) | simp_all | rfl)) (.cons (.tmp rfl) (RessOf.nil)))) (List.nil_sublist _) ?_
            have hE : lookE b = 5 := look_5 b (by omega) hk4 (by omega) (by omega); exact ⟨by rw [lookS, hE]; first | rfl | simp, rfl⟩
          ·
            refine WP.nrm 40 ?_
            refine WP.reg k_mixed fun nm13 hnm13 => ?_
            refine RegC.m (op_move rfl) rfl rfl rfl ?_
            refine RegC.m (op_call rfl k_call_119 (long_ok full (b) (24) (by first | omega | (simp only [List.length_append, List.length_map, List.length_cons, List.length_nil, List.length_replicate, List.length_take, List.length_drop, List.length_set]; omega) | (simp <;> omega) | simp_all) (by first | omega | (simp only [List.length_append, List.length_map, List.length_cons, List.length_nil, List.length_replicate, List.length_take, List.length_drop, List.length_set]; omega) | (simp <;> omega) | simp_all) h5)) rfl rfl rfl ?_
            refine RegC.m (op_move rfl) rfl rfl rfl ?_
            refine RegC.m (op_extract rfl rfl) rfl rfl rfl ?_
            refine RegC.m (op_extract rfl rfl) rfl rfl rfl ?_
            refine RegC.m (op_assign rfl) rfl rfl rfl ?_
            refine RegC.m (op_assign rfl) rfl rfl rfl ?_
            refine RegC.done ⟨.inl rfl, ?_⟩
            refine WP.nrm 40 ?_
            refine WP.reg k_mixed fun nm14 hnm14 => ?_
            refine RegC.m (op_move rfl) rfl rfl rfl ?_
            refine RegC.m (op_neq rfl) rfl rfl rfl ?_
            refine RegC.m (op_move rfl) rfl rfl rfl ?_
            refine RegC.m (op_move rfl) rfl rfl rfl ?_
            refine RegC.m (op_gtr rfl) rfl rfl rfl ?_
            refine RegC.m (op_pick rfl) rfl rfl rfl ?_
            refine RegC.done ⟨.inl rfl, ?_⟩
            refine WP.nrm 40 ?_
            refine WP.condD rfl (fun h6 => ?_) (fun h6 => ?_)
            ·
              refine WP.nrm 40 ?_
              refine WP.reg k_mixed fun nm15 hnm15 => ?_
              refine RegC.m (op_build (vs := []) rfl (Option.some_get k_plS_151).symm k_zeroS_151 rfl (by simp)) rfl rfl rfl ?_
              refine RegC.w (i := 0) (op_storeW rfl k_agg_151 (by first | omega | (simp only [List.length_append, List.length_map, List.length_cons, List.length_nil, List.length_replicate, List.length_take, List.length_drop, List.length_set]; omega) | (simp <;> omega) | simp_all | rfl) (by first | omega | (simp only [List.length_append, List.length_map, List.length_cons, List.length_nil, List.length_replicate, List.length_take, List.length_drop, List.length_set]; omega) | (simp <;> omega) | simp_all | rfl) (by simp [AVal.scalar])) rfl rfl rfl rfl ?_
              refine RegC.m (op_assign rfl) rfl rfl rfl ?_
              refine RegC.done ⟨.inl rfl, ?_⟩
              refine WP.nrm 40 ?_
              refine WP.retS (ResV.many rfl rfl (.cons (.cellW 0 rfl rfl k_agg_151 (by first | omega | (simp only [List.length_append, List.length_map, List.length_cons, List.length_nil, List.length_replicate, List.length_take, List.length_drop, List.length_set]; omega) | (simp <;> omega) | simp_all | rfl)) (.cons (.tmp rfl) (RessOf.nil)))) (List.nil_sublist _) ?_
              have hE : lookE b = 5 := look_5 b (by omega) hk4 (by omega) (by omega); exact ⟨by rw [lookS, hE]; first | rfl | simp, rfl⟩
            ·
              refine WP.nrm 40 ?_
              refine WP.reg k_mixed fun nm16 hnm16 => ?_
              refine RegC.m (op_move rfl) rfl rfl rfl ?_
              refine RegC.m (op_move rfl) rfl rfl rfl ?_
              refine RegC.m (op_cv rfl k_und_102 k_undI_3 cv_32_i) rfl rfl rfl ?_
              refine RegC.m (op_move rfl) rfl rfl rfl ?_
              refine RegC.m (op_build (vs := [VS AVal.u8 full (b), .i (((num4 (b) (20)).toNat : Int)), .i (((num8 (b) (24)).toNat : Int))]) rfl k_pl_151 k_zeroS_151 (fillC (off := 0) (size := 1) (cells' := ([VS AVal.u8 full (b)] ++ ([.i (0)] ++ [.i (0)]))) rfl rfl (by simp <;> omega) (puH (by simp <;> omega) puO) (fillC (off := 1) (size := 1) (cells' := ([VS AVal.u8 full (b)] ++ ([.i (((num4 (b) (20)).toNat : Int))] ++ [.i (0)]))) rfl rfl (by simp <;> omega) (puN 1 (0) (by omega) (by first | omega | (simp only [List.length_append, List.length_map, List.length_cons, List.length_nil, List.length_replicate, List.length_take, List.length_drop, List.length_set]; omega) | (simp <;> omega) | simp_all | rfl) (puH (by simp <;> omega) puO)) (fillC (off := 2) (size := 1) (cells' := ([VS AVal.u8 full (b)] ++ ([.i (((num4 (b) (20)).toNat : Int))] ++ [.i (((num8 (b) (24)).toNat : Int))]))) rfl rfl (by simp <;> omega) (puN 1 1 (by omega) (by first | omega | (simp only [List.length_append, List.length_map, List.length_cons, List.length_nil, List.length_replicate, List.length_take, List.length_drop, List.length_set]; omega) | (simp <;> omega) | simp_all | rfl) (puN 1 (0) (by omega) (by first | omega | (simp only [List.length_append, List.length_map, List.length_cons, List.length_nil, List.length_replicate, List.length_take, List.length_drop, List.length_set]; omega) | (simp <;> omega) | simp_all | rfl) puO)) rfl))) (by simp)) rfl rfl rfl ?_
              refine RegC.a (op_alloc rfl k_zeroS_151) rfl rfl rfl ?_
              refine RegC.w (i := 1) (op_storeW rfl k_agg_151 (by first | omega | (simp only [List.length_append, List.length_map, List.length_cons, List.length_nil, List.length_replicate, List.length_take, List.length_drop, List.length_set]; omega) | (simp <;> omega) | simp_all | rfl) (by first | omega | (simp only [List.length_append, List.length_map, List.length_cons, List.length_nil, List.length_replicate, List.length_take, List.length_drop, List.length_set]; omega) | (simp <;> omega) | simp_all | rfl) (by simp [AVal.scalar])) rfl rfl rfl rfl ?_
              refine RegC.done ⟨.inl rfl, ?_⟩
              have hml := manyS_le (num8 b 24).toNat (num4 b 20).toNat (by omega) (by omega)
              refine WP.nrm 40 ?_
              refine WP.reg k_mixed fun nm17 hnm17 => ?_
              refine RegC.m (op_move rfl) rfl rfl rfl ?_
              refine RegC.m (op_addI rfl (by first | omega | (simp only [List.length_append, List.length_map, List.length_cons, List.length_nil, List.length_replicate, List.length_take, List.length_drop, List.length_set]; omega) | (simp <;> omega) | simp_all)) rfl rfl rfl ?_
              refine RegC.q (i := 1) (op_loadW rfl k_agg_151 (by first | omega | (simp only [List.length_append, List.length_map, List.length_cons, List.length_nil, List.length_replicate, List.length_take, List.length_drop, List.length_set]; omega) | (simp <;> omega) | simp_all | rfl)) rfl rfl rfl rfl ?_
              refine RegC.m (op_call rfl k_call_100 (many_calls full (b) ((num4 (b) (20)).toNat) ((num8 (b) (24)).toNat) (by first | omega | (simp only [List.length_append, List.length_map, List.length_cons, List.length_nil, List.length_replicate, List.length_take, List.length_drop, List.length_set]; omega) | (simp <;> omega) | simp_all) (by first | omega | (simp only [List.length_append, List.length_map, List.length_cons, List.length_nil, List.length_replicate, List.length_take, List.length_drop, List.length_set]; omega) | (simp <;> omega) | simp_all) (by first | omega | (simp only [List.length_append, List.length_map, List.length_cons, List.length_nil, List.length_replicate, List.length_take, List.length_drop, List.length_set]; omega) | (simp <;> omega) | simp_all))) rfl rfl rfl ?_
              refine RegC.m (op_mulI rfl (by first | omega | (simp only [List.length_append, List.length_map, List.length_cons, List.length_nil, List.length_replicate, List.length_take, List.length_drop, List.length_set]; omega) | (simp <;> omega) | simp_all)) rfl rfl rfl ?_
              refine RegC.m (op_addI rfl (by first | omega | (simp only [List.length_append, List.length_map, List.length_cons, List.length_nil, List.length_replicate, List.length_take, List.length_drop, List.length_set]; omega) | (simp <;> omega) | simp_all)) rfl rfl rfl ?_
              refine RegC.m (op_assign rfl) rfl rfl rfl ?_
              refine RegC.done ⟨.inl rfl, ?_⟩
              refine WP.nrm 40 ?_
              refine WP.reg k_mixed fun nm18 hnm18 => ?_
              refine RegC.m (op_move rfl) rfl rfl rfl ?_
              refine RegC.m (op_lenV (f := AVal.u8) (l := b) rfl k_sl_26) rfl rfl rfl ?_
              refine RegC.m (op_move rfl) rfl rfl rfl ?_
              refine RegC.m (op_lss rfl) rfl rfl rfl ?_
              refine RegC.done ⟨.inl rfl, ?_⟩
              refine WP.nrm 40 ?_
              refine WP.condD rfl (fun h7 => ?_) (fun h7 => ?_)
              ·
                refine WP.nrm 40 ?_
                refine WP.reg k_mixed fun nm19 hnm19 => ?_
                refine RegC.m (op_build (vs := []) rfl (Option.some_get k_plS_151).symm k_zeroS_151 rfl (by simp)) rfl rfl rfl ?_
                refine RegC.w (i := 0) (op_storeW rfl k_agg_151 (by first | omega | (simp only [List.length_append, List.length_map, List.length_cons, List.length_nil, List.length_replicate, List.length_take, List.length_drop, List.length_set]; omega) | (simp <;> omega) | simp_all | rfl) (by first | omega | (simp only [List.length_append, List.length_map, List.length_cons, List.length_nil, List.length_replicate, List.length_take, List.length_drop, List.length_set]; omega) | (simp <;> omega) | simp_all | rfl) (by simp [AVal.scalar])) rfl rfl rfl rfl ?_
                refine RegC.m (op_assign rfl) rfl rfl rfl ?_
                refine RegC.done ⟨.inl rfl, ?_⟩
                refine WP.nrm 40 ?_
                refine WP.retS (ResV.many rfl rfl (.cons (.cellW 0 rfl rfl k_agg_151 (by first | omega | (simp only [List.length_append, List.length_map, List.length_cons, List.length_nil, List.length_replicate, List.length_take, List.length_drop, List.length_set]; omega) | (simp <;> omega) | simp_all | rfl)) (.cons (.tmp rfl) (RessOf.nil)))) (List.nil_sublist _) ?_
                have hE : lookE b = 1 := (by first | (exact look_1 b (by omega)) | (exact look_1b b (by omega) hk4 (by omega) (by omega) (by omega))); exact ⟨by rw [lookS, hE]; first | rfl | simp, rfl⟩
              ·
                refine WP.nrm 40 ?_
                refine WP.reg k_mixed fun nm20 hnm20 => ?_
                refine RegC.m (op_move rfl) rfl rfl rfl ?_
                refine RegC.m (op_lenV (f := AVal.u8) (l := b) rfl k_sl_26) rfl rfl rfl ?_
                refine RegC.m (op_move rfl) rfl rfl rfl ?_
                refine RegC.m (op_gtr rfl) rfl rfl rfl ?_
                refine RegC.done ⟨.inl rfl, ?_⟩
                refine WP.nrm 40 ?_
                refine WP.condD rfl (fun h8 => ?_) (fun h8 => ?_)
                ·
                  refine WP.nrm 40 ?_
                  refine WP.reg k_mixed fun nm21 hnm21 => ?_
                  refine RegC.m (op_build (vs := []) rfl (Option.some_get k_plS_151).symm k_zeroS_151 rfl (by simp)) rfl rfl rfl ?_
                  refine RegC.w (i := 0) (op_storeW rfl k_agg_151 (by first | omega | (simp only [List.length_append, List.length_map, List.length_cons, List.length_nil, List.length_replicate, List.length_take, List.length_drop, List.length_set]; omega) | (simp <;> omega) | simp_all | rfl) (by first | omega | (simp only [List.length_append, List.length_map, List.length_cons, List.length_nil, List.length_replicate, List.length_take, List.length_drop, List.length_set]; omega) | (simp <;> omega) | simp_all | rfl) (by simp [AVal.scalar])) rfl rfl rfl rfl ?_
                  refine RegC.m (op_assign rfl) rfl rfl rfl ?_
                  refine RegC.done ⟨.inl rfl, ?_⟩
                  refine WP.nrm 40 ?_
                  refine WP.retS (ResV.many rfl rfl (.cons (.cellW 0 rfl rfl k_agg_151 (by first | omega | (simp only [List.length_append, List.length_map, List.length_cons, List.length_nil, List.length_replicate, List.length_take, List.length_drop, List.length_set]; omega) | (simp <;> omega) | simp_all | rfl)) (.cons (.tmp rfl) (RessOf.nil)))) (List.nil_sublist _) ?_
                  have hE : lookE b = 2 := (by first | (exact look_2 b (by omega) hk4) | (exact look_2b b (by omega) hk4 (by omega) (by omega) (by omega))); exact ⟨by rw [lookS, hE]; first | rfl | simp, rfl⟩
                ·
                  refine WP.nrm 40 ?_
                  refine WP.reg k_mixed fun nm22 hnm22 => ?_
                  refine RegC.q (i := 1) (op_loadW rfl k_agg_151 (by first | omega | (simp only [List.length_append, List.length_map, List.length_cons, List.length_nil, List.length_replicate, List.length_take, List.length_drop, List.length_set]; omega) | (simp <;> omega) | simp_all | rfl)) rfl rfl rfl rfl ?_
                  refine RegC.w (i := 0) (op_storeW rfl k_agg_151 (by first | omega | (simp only [List.length_append, List.length_map, List.length_cons, List.length_nil, List.length_replicate, List.length_take, List.length_drop, List.length_set]; omega) | (simp <;> omega) | simp_all | rfl) (by first | omega | (simp only [List.length_append, List.length_map, List.length_cons, List.length_nil, List.length_replicate, List.length_take, List.length_drop, List.length_set]; omega) | (simp <;> omega) | simp_all | rfl) (by simp [AVal.scalar])) rfl rfl rfl rfl ?_
                  refine RegC.m (op_assign rfl) rfl rfl rfl ?_
                  refine RegC.done ⟨.inl rfl, ?_⟩
                  refine WP.nrm 40 ?_
                  refine WP.retS (ResV.many rfl rfl (.cons (.cellW 0 rfl rfl k_agg_151 (by first | omega | (simp only [List.length_append, List.length_map, List.length_cons, List.length_nil, List.length_replicate, List.length_take, List.length_drop, List.length_set]; omega) | (simp <;> omega) | simp_all | rfl)) (.cons (.tmp rfl) (RessOf.nil)))) (List.nil_sublist _) ?_
                  have hE : lookE b = 0 := look_0 b (by omega) hk4 (by omega) (by omega) (by omega); exact ⟨by rw [lookS, hE]; first | rfl | simp, rfl⟩

theorem look_ok (full : Bool) (b : List UInt8) (hb : b.length ≤ 16777216) (h : lookE b = 0) : ACalls Try.prog 99 [VS AVal.u8 full b] [] [] (.tup [.agg ([VS AVal.u8 full b] ++ ([.i (blkN b : Int)] ++ [.i (szN b : Int)])), .i 0]) [] := by
  have := look_calls full b hb
  rwa [lookS, if_pos h, h] at this
theorem look_bad (full : Bool) (b : List UInt8) (hb : b.length ≤ 16777216) (h : ¬ lookE b = 0) : ACalls Try.prog 99 [VS AVal.u8 full b] [] [] (.tup [.agg ([VS AVal.u8 true ([] : List UInt8)] ++ ([.i 0] ++ [.i 0])), .i (lookE b)]) [] := by
  have := look_calls full b hb
  rwa [lookS, if_neg h] at this
end Go.Proofs.Try
