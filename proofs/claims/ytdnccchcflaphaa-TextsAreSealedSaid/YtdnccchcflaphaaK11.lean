import Derived.Test.YtdnccchcflaphaaK10
import Derived.Test.YtdnccchcflaphaaFF
import Derived.Test.YtdnccchcflaphaaS10
namespace Go.Proofs.Try
open Go Go.Kw
set_option linter.unusedVariables false
set_option linter.unusedSimpArgs false
set_option maxRecDepth 100000
set_option maxHeartbeats 400000
theorem k_call_58 : callable Try.prog 58 = true := by kernel_rfl
theorem k_call_59 : callable Try.prog 59 = true := by kernel_rfl

theorem seal_range (k : List UInt8) (hk : k.length = 32) (n : List UInt8) (hn : n.length = 16) (f1 f2 : Bool) (head text : List UInt8) (block : Int) (hb : block < 16 ∨ 65536 < block) : ACalls Try.prog 27 [.agg ((k).map AVal.u8), .agg ((n).map AVal.u8), VS AVal.u8 f1 (head), VS AVal.u8 f2 (text), .i (block)] [] [] (.tup [.vs 0 true [], .i 4]) [] := by
  refine ACalls.of_wp' (fn := Try.f27) (n := 94) Try.func27 rfl rfl ?_
  unfold Try.f27
  refine WP.nrm 40 ?_
  refine WP.reg k_mixed fun nm1 hnm1 => ?_
  refine RegC.m (op_boxD rfl) rfl rfl rfl ?_
  refine RegC.m (op_boxD rfl) rfl rfl rfl ?_
  refine RegC.m (op_assign rfl) rfl rfl rfl ?_
  refine RegC.m (op_assign rfl) rfl rfl rfl ?_
  refine RegC.done ⟨.inl rfl, ?_⟩
  refine WP.nrm 40 ?_
  refine WP.reg k_mixed fun nm2 hnm2 => ?_
  refine RegC.m (op_move rfl) rfl rfl rfl ?_
  rcases Decidable.em ((block : Int) < 16) with h1 | h1
  ·
    refine RegC.m (OpV.boolT (op_lss rfl) h1) rfl rfl rfl ?_
    refine RegC.m (op_move rfl) rfl rfl rfl ?_
    refine RegC.skip rfl rfl ?_
    refine RegC.skip rfl rfl ?_
    refine RegC.m (op_pick rfl) rfl rfl rfl ?_
    refine RegC.done ⟨.inl rfl, ?_⟩
    refine WP.nrm 40 ?_
    refine WP.cond (t := true) rfl ?_
    refine WP.nrm 40 ?_
    refine WP.reg k_mixed fun nm3 hnm3 => ?_
    refine RegC.m (op_assign rfl) rfl rfl rfl ?_
    refine RegC.m (op_assign rfl) rfl rfl rfl ?_
    refine RegC.done ⟨.inl rfl, ?_⟩
    refine WP.nrm 40 ?_
    refine WP.retS (ResV.many rfl rfl (.cons (.tmp rfl) (.cons (.tmp rfl) (RessOf.nil)))) (List.nil_sublist _) ?_
    exact ⟨rfl, rfl⟩
  ·
    refine RegC.m (OpV.boolF (op_lss rfl) h1) rfl rfl rfl ?_
    refine RegC.m (op_move rfl) rfl rfl rfl ?_
    refine RegC.m (op_move rfl) rfl rfl rfl ?_
    refine RegC.m (op_gtr rfl) rfl rfl rfl ?_
    refine RegC.m (op_pick rfl) rfl rfl rfl ?_
    refine RegC.done ⟨.inl rfl, ?_⟩
    refine WP.nrm 40 ?_
    refine WP.condD rfl (fun h2 => ?_) (fun h2 => ?_)
    ·
      refine WP.nrm 40 ?_
      refine WP.reg k_mixed fun nm4 hnm4 => ?_
      refine RegC.m (op_assign rfl) rfl rfl rfl ?_
      refine RegC.m (op_assign rfl) rfl rfl rfl ?_
      refine RegC.done ⟨.inl rfl, ?_⟩
      refine WP.nrm 40 ?_
      refine WP.retS (ResV.many rfl rfl (.cons (.tmp rfl) (.cons (.tmp rfl) (RessOf.nil)))) (List.nil_sublist _) ?_
      exact ⟨rfl, rfl⟩
    ·
      exfalso; omega

theorem seal_large (k : List UInt8) (hk : k.length = 32) (n : List UInt8) (hn : n.length = 16) (f1 f2 : Bool) (head text : List UInt8) (block : Nat) (hb1 : 16 ≤ block) (hb2 : block ≤ 65536) (hl : 4096 < head.length ∨ 262144 < text.length) : ACalls Try.prog 27 [.agg ((k).map AVal.u8), .agg ((n).map AVal.u8), VS AVal.u8 f1 (head), VS AVal.u8 f2 (text), .i ((block : Int))] [] [] (.tup [.vs 0 true [], .i 5]) [] := by
  refine ACalls.of_wp' (fn := Try.f27) (n := 94) Try.func27 rfl rfl ?_
  unfold Try.f27
  refine WP.nrm 40 ?_
  refine WP.reg k_mixed fun nm1 hnm1 => ?_
  refine RegC.m (op_boxD rfl) rfl rfl rfl ?_
  refine RegC.m (op_boxD rfl) rfl rfl rfl ?_
  refine RegC.m (op_assign rfl) rfl rfl rfl ?_
  refine RegC.m (op_assign rfl) rfl rfl rfl ?_
  refine RegC.done ⟨.inl rfl, ?_⟩
  refine WP.nrm 40 ?_
  refine WP.reg k_mixed fun nm2 hnm2 => ?_
  refine RegC.m (op_move rfl) rfl rfl rfl ?_
  refine RegC.m (OpV.boolF (op_lss rfl) (by omega)) rfl rfl rfl ?_
  refine RegC.m (op_move rfl) rfl rfl rfl ?_
  refine RegC.m (op_move rfl) rfl rfl rfl ?_
  refine RegC.m (OpV.boolF (op_gtr rfl) (by omega)) rfl rfl rfl ?_
  refine RegC.m (op_pick rfl) rfl rfl rfl ?_
  refine RegC.done ⟨.inl rfl, ?_⟩
  refine WP.nrm 40 ?_
  refine WP.cond (t := false) rfl ?_
  refine WP.nrm 40 ?_
  refine WP.reg k_mixed fun nm3 hnm3 => ?_
  refine RegC.m (op_move rfl) rfl rfl rfl ?_
  refine RegC.m (op_lenV (f := AVal.u8) (l := head) rfl k_sl_26) rfl rfl rfl ?_
  rcases Decidable.em ((((head).length : Int) : Int) > 4096) with h1 | h1
  ·
    refine RegC.m (OpV.boolT (op_gtr rfl) h1) rfl rfl rfl ?_
    refine RegC.m (op_move rfl) rfl rfl rfl ?_
    refine RegC.skip rfl rfl ?_
    refine RegC.skip rfl rfl ?_
    refine RegC.skip rfl rfl ?_
    refine RegC.m (op_pick rfl) rfl rfl rfl ?_
    refine RegC.done ⟨.inl rfl, ?_⟩
    refine WP.nrm 40 ?_
    refine WP.cond (t := true) rfl ?_
    refine WP.nrm 40 ?_
    refine WP.reg k_mixed fun nm4 hnm4 => ?_
    refine RegC.m (op_assign rfl) rfl rfl rfl ?_
    refine RegC.m (op_assign rfl) rfl rfl rfl ?_
    refine RegC.done ⟨.inl rfl, ?_⟩
    refine WP.nrm 40 ?_
    refine WP.retS (ResV.many rfl rfl (.cons (.tmp rfl) (.cons (.tmp rfl) (RessOf.nil)))) (List.nil_sublist _) ?_
    exact ⟨rfl, rfl⟩
  ·
    refine RegC.m (OpV.boolF (op_gtr rfl) h1) rfl rfl rfl ?_
    refine RegC.m (op_move rfl) rfl rfl rfl ?_
    refine RegC.m (op_move rfl) rfl rfl rfl ?_
    refine RegC.m (op_lenV (f := AVal.u8) (l := text) rfl k_sl_26) rfl rfl rfl ?_
    refine RegC.m (op_gtr rfl) rfl rfl rfl ?_
    refine RegC.m (op_pick rfl) rfl rfl rfl ?_
    refine RegC.done ⟨.inl rfl, ?_⟩
    refine WP.nrm 40 ?_
    refine WP.condD rfl (fun h2 => ?_) (fun h2 => ?_)
    ·
      refine WP.nrm 40 ?_
      refine WP.reg k_mixed fun nm5 hnm5 => ?_
      refine RegC.m (op_assign rfl) rfl rfl rfl ?_
      refine RegC.m (op_assign rfl) rfl rfl rfl ?_
      refine RegC.done ⟨.inl rfl, ?_⟩
      refine WP.nrm 40 ?_
      refine WP.retS (ResV.many rfl rfl (.cons (.tmp rfl) (.cons (.tmp rfl) (RessOf.nil)))) (List.nil_sublist _) ?_
      exact ⟨rfl, rfl⟩
    ·
      exfalso; omega

theorem seal_ne (b' : Nat) (k : List UInt8) (hk : k.length = 32) (n : List UInt8) (hn : n.length = 16) (f1 f2 : Bool) (head text : List UInt8) (block : Nat) (hh : head.length ≤ 4096) (ht : text.length ≤ 262144) (hb1 : 16 ≤ block) (hb2 : block ≤ 65536) (h0 : 0 < text.length) : ACalls Try.prog 27 [.agg ((k).map AVal.u8), .agg ((n).map AVal.u8), VS AVal.u8 f1 (head), VS AVal.u8 f2 (text), .i ((block : Int))] [] [b'] (.tup [.os b' 0 (sealS k n head text block).length 1 false, .i 0]) [(b', .vec 5 ((sealS k n head text block).map AVal.u8))] := by
  refine ACalls.of_wp' (fn := Try.f27) (n := 94) Try.func27 rfl rfl ?_
  unfold Try.f27
  refine WP.nrm 40 ?_
  refine WP.reg k_mixed fun nm1 hnm1 => ?_
  refine RegC.m (op_boxD rfl) rfl rfl rfl ?_
  refine RegC.m (op_boxD rfl) rfl rfl rfl ?_
  refine RegC.m (op_assign rfl) rfl rfl rfl ?_
  refine RegC.m (op_assign rfl) rfl rfl rfl ?_
  refine RegC.done ⟨.inl rfl, ?_⟩
  refine WP.nrm 40 ?_
  refine WP.reg k_mixed fun nm2 hnm2 => ?_
  refine RegC.m (op_move rfl) rfl rfl rfl ?_
  refine RegC.m (OpV.boolF (op_lss rfl) (by omega)) rfl rfl rfl ?_
  refine RegC.m (op_move rfl) rfl rfl rfl ?_
  refine RegC.m (op_move rfl) rfl rfl rfl ?_
  refine RegC.m (OpV.boolF (op_gtr rfl) (by omega)) rfl rfl rfl ?_
  refine RegC.m (op_pick rfl) rfl rfl rfl ?_
  refine RegC.done ⟨.inl rfl, ?_⟩
  refine WP.nrm 40 ?_
  refine WP.cond (t := false) rfl ?_
  refine WP.nrm 40 ?_
  refine WP.reg k_mixed fun nm3 hnm3 => ?_
  refine RegC.m (op_move rfl) rfl rfl rfl ?_
  refine RegC.m (op_lenV (f := AVal.u8) (l := head) rfl k_sl_26) rfl rfl rfl ?_
  refine RegC.m (OpV.boolF (op_gtr rfl) (by omega)) rfl rfl rfl ?_
  refine RegC.m (op_move rfl) rfl rfl rfl ?_
  refine RegC.m (op_move rfl) rfl rfl rfl ?_
  refine RegC.m (op_lenV (f := AVal.u8) (l := text) rfl k_sl_26) rfl rfl rfl ?_
  refine RegC.m (OpV.boolF (op_gtr rfl) (by omega)) rfl rfl rfl ?_
  refine RegC.m (op_pick rfl) rfl rfl rfl ?_
  refine RegC.done ⟨.inl rfl, ?_⟩
  refine WP.nrm 40 ?_
  refine WP.cond (t := false) rfl ?_
  refine WP.nrm 40 ?_
  refine WP.reg k_mixed fun nm4 hnm4 => ?_
  refine RegC.a (op_buildSlM (vs := List.map AVal.u8 [(75 : UInt8), (87 : UInt8), (84 : UInt8), (49 : UInt8)]) rfl k_sl_26 k_zeroE_5 rfl rfl rfl (by omega)) rfl rfl rfl ?_
  refine RegC.w (i := 0) (op_cvO rfl k_undSl_26 k_undI_5 (by first | omega | (simp only [List.length_append, List.length_map, List.length_cons, List.length_nil, List.length_replicate, List.length_take, List.length_drop, List.length_set]; omega) | (simp <;> omega) | simp_all)) rfl rfl rfl rfl ?_
  refine RegC.m (op_sVA00f (f := AVal.u8) (l := n) rfl k_arr_25 (by first | omega | (simp only [List.length_append, List.length_map, List.length_cons, List.length_nil, List.length_replicate, List.length_take, List.length_drop, List.length_set]; omega) | (simp <;> omega) | simp_all | rfl)) rfl rfl rfl ?_
  refine RegC.wa (i := 0) (op_appM (f := AVal.u8) (l := [(75 : UInt8), (87 : UInt8), (84 : UInt8), (49 : UInt8)]) (l2 := n) (fun _ => rfl) rfl k_app_26_26 (by first | omega | (simp only [List.length_append, List.length_map, List.length_cons, List.length_nil, List.length_replicate, List.length_take, List.length_drop, List.length_set]; omega) | (simp <;> omega) | simp_all)) rfl rfl rfl rfl ?_
  refine RegC.m (op_assign rfl) rfl rfl rfl ?_
  refine RegC.done ⟨.inl rfl, ?_⟩
  refine WP.nrm 40 ?_
  refine WP.reg k_mixed fun nm5 hnm5 => ?_
  refine RegC.m (op_move rfl) rfl rfl rfl ?_
  refine RegC.m (op_move rfl) rfl rfl rfl ?_
  refine RegC.m (op_cv rfl k_und_3 k_undI_102 (cv_i_32 (by first | exact Int.natCast_nonneg _ | omega))) rfl rfl rfl ?_
  refine RegC.qa (i := 0) (OpV.to (op_call rfl k_call_57 (lend2n (noRefO_vec noRefs_8) (putNumber1 (nm5 0) false ([(75 : UInt8), (87 : UInt8), (84 : UInt8), (49 : UInt8)] ++ n) (UInt32.ofNat (block)) (by first | omega | (simp only [List.length_append, List.length_map, List.length_cons, List.length_nil, List.length_replicate, List.length_take, List.length_drop, List.length_set]; omega) | (simp <;> omega) | simp_all)) (frz_os (by first | omega | (simp only [List.length_append, List.length_map, List.length_cons, List.length_nil, List.length_replicate, List.length_take, List.length_drop, List.length_set]; omega) | (simp <;> omega) | simp_all)) rfl)) (osN (n' := ([(75 : UInt8), (87 : UInt8), (84 : UInt8), (49 : UInt8)] ++ n ++ octS (UInt32.ofNat (block))).length) (by first | omega | (simp only [List.length_append, List.length_map, List.length_cons, List.length_nil, List.length_replicate, List.length_take, List.length_drop, List.length_set]; omega) | (simp <;> omega) | simp_all))) rfl rfl rfl rfl ?_
  refine RegC.m (op_move rfl) rfl rfl rfl ?_
  refine RegC.m (op_lenV (f := AVal.u8) (l := text) rfl k_sl_26) rfl rfl rfl ?_
  refine RegC.qa (i := 1) (OpV.to (op_call rfl k_call_56 (lend2n (noRefO_vec noRefs_8) (putLong1 (nm5 1) false ([(75 : UInt8), (87 : UInt8), (84 : UInt8), (49 : UInt8)] ++ n ++ octS (UInt32.ofNat (block))) ((text).length) (by first | omega | (simp only [List.length_append, List.length_map, List.length_cons, List.length_nil, List.length_replicate, List.length_take, List.length_drop, List.length_set]; omega) | (simp <;> omega) | simp_all) (by first | omega | (simp only [List.length_append, List.length_map, List.length_cons, List.length_nil, List.length_replicate, List.length_take, List.length_drop, List.length_set]; omega) | (simp <;> omega) | simp_all)) (frz_os (by first | omega | (simp only [List.length_append, List.length_map, List.length_cons, List.length_nil, List.length_replicate, List.length_take, List.length_drop, List.length_set]; omega) | (simp <;> omega) | simp_all)) rfl)) (osN (n' := ([(75 : UInt8), (87 : UInt8), (84 : UInt8), (49 : UInt8)] ++ n ++ octS (UInt32.ofNat (block)) ++ longS (UInt64.ofNat ((text).length))).length) (by first | omega | (simp only [List.length_append, List.length_map, List.length_cons, List.length_nil, List.length_replicate, List.length_take, List.length_drop, List.length_set]; omega) | (simp <;> omega) | simp_all))) rfl rfl rfl rfl ?_
  refine RegC.m (op_assign rfl) rfl rfl rfl ?_
  refine RegC.done ⟨.inl rfl, ?_⟩
  refine WP.cold (b := nm5 1) 2 [(12, VS AVal.u8 false (headS n block text.length))] rfl (frzE.cons rfl (frz_osL (by simp [headS]) (by first | omega | (simp only [List.length_append, List.length_map, List.length_cons, List.length_nil, List.length_replicate, List.length_take, List.length_drop, List.length_set]; omega) | (simp <;> omega) | simp_all)) frzE.nil) ?_
  refine WP.nrm 40 ?_
  refine WP.reg k_mixed fun nm6 hnm6 => ?_
  refine RegC.m (op_move rfl) rfl rfl rfl ?_
  refine RegC.m (op_move rfl) rfl rfl rfl ?_
  refine RegC.m (op_lenV (f := AVal.u8) (l := headS n block text.length) rfl k_sl_26) rfl rfl rfl ?_
  refine RegC.m (op_move rfl) rfl rfl rfl ?_
  refine RegC.m (op_lenV (f := AVal.u8) (l := headS n block text.length) rfl k_sl_26) rfl rfl rfl ?_
  refine RegC.m (OpV.to (op_sV011 (f := AVal.u8) (l := headS n block text.length) ((headS n block text.length).length) rfl k_sl_26 (by first | omega | (simp only [List.length_append, List.length_map, List.length_cons, List.length_nil, List.length_replicate, List.length_take, List.length_drop, List.length_set]; omega) | (simp <;> omega) | simp_all) (by first | omega | (simp only [List.length_append, List.length_map, List.length_cons, List.length_nil, List.length_replicate, List.length_take, List.length_drop, List.length_set]; omega) | (simp <;> omega) | simp_all) (by first | omega | (simp only [List.length_append, List.length_map, List.length_cons, List.length_nil, List.length_replicate, List.length_take, List.length_drop, List.length_set]; omega) | (simp <;> omega) | simp_all)) (vsL (by rw [List.take_of_length_le (Nat.le_refl _)]))) rfl rfl rfl ?_
  refine RegC.m (op_assign rfl) rfl rfl rfl ?_
  refine RegC.done ⟨.inl rfl, ?_⟩
  refine WP.nrm 40 ?_
  refine WP.reg k_mixed fun nm7 hnm7 => ?_
  refine RegC.m (op_assign rfl) rfl rfl rfl ?_
  refine RegC.done ⟨.inl rfl, ?_⟩
  refine WP.nrm 40 ?_
  refine WP.loopPh1_4 (fun (j : Nat) => [(2, VS AVal.u8 f1 (head)), (3, VS AVal.u8 f2 (text)), (4, .i ((block : Int))), (5, .vptr ((k).map AVal.u8) (0)), (6, .vptr ((n).map AVal.u8) (0)), (12, VS AVal.u8 false (headS n block text.length)), (13, VS AVal.u8 true (headS n block text.length)), (14, .i ((j : Int)))]) (fun (j : Nat) => [(nm4 1, .vec 5 (([(75 : UInt8), (87 : UInt8), (84 : UInt8), (49 : UInt8)] ++ n).map AVal.u8)), (nm5 0, .vec 5 (([(75 : UInt8), (87 : UInt8), (84 : UInt8), (49 : UInt8)] ++ n ++ octS (UInt32.ofNat (block))).map AVal.u8))]) (fun (j : Nat) => j = 0) (fun (j : Nat) => 0) (0) (subE.cons rfl (subE.cons rfl (subE.cons rfl (subE.cons rfl (subE.cons rfl (subE.cons rfl (subE.cons rfl (subE.cons rfl (subE.nil))))))))) (by (try simp only [List.set_cons_zero, List.set_cons_succ, List.cons_append, List.nil_append]); exact (.cons_cons _ (.cons_cons _ (List.nil_sublist _)))) rfl (fun (j : Nat) (X : List UInt8) (m : Nat) (bn : Nat) => [(2, VS AVal.u8 f1 (head)), (3, VS AVal.u8 f2 (text)), (4, .i ((block : Int))), (5, .vptr ((k).map AVal.u8) (0)), (6, .vptr ((n).map AVal.u8) (0)), (12, VS AVal.u8 false (headS n block text.length)), (13, .os (bn) (0) (m) 1 false), (14, .i ((j : Int)))]) (fun (j : Nat) (X : List UInt8) (m : Nat) (bn : Nat) => [(nm4 1, .vec 5 (([(75 : UInt8), (87 : UInt8), (84 : UInt8), (49 : UInt8)] ++ n).map AVal.u8)), (nm5 0, .vec 5 (([(75 : UInt8), (87 : UInt8), (84 : UInt8), (49 : UInt8)] ++ n ++ octS (UInt32.ofNat (block))).map AVal.u8)), (bn, .vec 5 ((X).map AVal.u8))]) (fun (j : Nat) (X : List UInt8) (m : Nat) (bn : Nat) => 0 < j ∧ m = X.length ∧ X = sealG (blkS k n head text block) (headS n block text.length) j ∧ j * block < text.length + block ∧ X.length ≤ 32 + j * 65552 ∧ j ≤ 20481 ∧ j * 16 ≤ j * block) (fun (j : Nat) (X : List UInt8) (m : Nat) (bn : Nat) => text.length + block - j * block) ?_ ?_
  ·
    intro j X m bn hI ih0
    obtain ⟨hj0, hm, hX, hjb, hXl, hj, hj16⟩ := hI
    have hs : (j + 1) * block = j * block + block := Nat.succ_mul j block
    have hjI : ((j * block : Nat) : Int) = (j : Int) * (block : Int) := Int.natCast_mul j block
    have hsI : (((j + 1) * block : Nat) : Int) = ((j : Int) + 1) * (block : Int) := by push_cast; rfl
    refine WP.nrm 40 ?_
    refine WP.reg k_mixed fun nm8 hnm8 => ?_
    refine RegC.m (op_move rfl) rfl rfl rfl ?_
    refine RegC.m (op_move rfl) rfl rfl rfl ?_
    refine RegC.m (op_mulI rfl (by first | omega | (simp only [List.length_append, List.length_map, List.length_cons, List.length_nil, List.length_replicate, List.length_take, List.length_drop, List.length_set]; omega) | (simp <;> omega) | simp_all)) rfl rfl rfl ?_
    refine RegC.m (op_move rfl) rfl rfl rfl ?_
    refine RegC.m (op_lenV (f := AVal.u8) (l := text) rfl k_sl_26) rfl rfl rfl ?_
    refine RegC.m (op_lss rfl) rfl rfl rfl ?_
    refine RegC.done ⟨.inl rfl, ?_⟩
    refine WP.nrm 40 ?_
    refine WP.condD rfl (fun h1 => ?_) (fun h1 => ?_)
    ·
      refine WP.nrm 40 ?_
      refine WP.reg k_mixed fun nm9 hnm9 => ?_
      refine RegC.m (op_move rfl) rfl rfl rfl ?_
      refine RegC.m (op_move rfl) rfl rfl rfl ?_
      refine RegC.m (op_move rfl) rfl rfl rfl ?_
      refine RegC.m (op_mulI rfl (by first | omega | (simp only [List.length_append, List.length_map, List.length_cons, List.length_nil, List.length_replicate, List.length_take, List.length_drop, List.length_set]; omega) | (simp <;> omega) | simp_all)) rfl rfl rfl ?_
      refine RegC.m (op_move rfl) rfl rfl rfl ?_
      refine RegC.m (op_lenV (f := AVal.u8) (l := text) rfl k_sl_26) rfl rfl rfl ?_
      refine RegC.m (op_move rfl) rfl rfl rfl ?_
      refine RegC.m (op_addI rfl (by first | omega | (simp only [List.length_append, List.length_map, List.length_cons, List.length_nil, List.length_replicate, List.length_take, List.length_drop, List.length_set]; omega) | (simp <;> omega) | simp_all)) rfl rfl rfl ?_
      refine RegC.m (op_move rfl) rfl rfl rfl ?_
      refine RegC.m (op_mulI rfl (by first | omega | (simp only [List.length_append, List.length_map, List.length_cons, List.length_nil, List.length_replicate, List.length_take, List.length_drop, List.length_set]; omega) | (simp <;> omega) | simp_all)) rfl rfl rfl ?_
      refine RegC.m (op_min rfl) rfl rfl rfl ?_
      refine RegC.m (op_sV11 (f := AVal.u8) (l := text) ((j * block)) ((min (text).length ((j + 1) * block))) rfl k_sl_26 (by first | omega | (simp only [List.length_append, List.length_map, List.length_cons, List.length_nil, List.length_replicate, List.length_take, List.length_drop, List.length_set]; omega) | (simp <;> omega) | simp_all) (by first | omega | (simp only [List.length_append, List.length_map, List.length_cons, List.length_nil, List.length_replicate, List.length_take, List.length_drop, List.length_set]; omega) | (simp <;> omega) | simp_all) (by first | omega | (simp only [List.length_append, List.length_map, List.length_cons, List.length_nil, List.length_replicate, List.length_take, List.length_drop, List.length_set]; omega) | (simp <;> omega) | simp_all) (by first | omega | (simp only [List.length_append, List.length_map, List.length_cons, List.length_nil, List.length_replicate, List.length_take, List.length_drop, List.length_set]; omega) | (simp <;> omega) | simp_all)) rfl rfl rfl ?_
      refine RegC.m (op_assign rfl) rfl rfl rfl ?_
      refine RegC.done ⟨.inl rfl, ?_⟩
      refine WP.nrm 40 ?_
      refine WP.reg k_mixed fun nm10 hnm10 => ?_
      refine RegC.m (op_loadVG (cells := (k).map AVal.u8) rfl k_agg_23 (by first | omega | (simp only [List.length_append, List.length_map, List.length_cons, List.length_nil, List.length_replicate, List.length_take, List.length_drop, List.length_set]; omega) | (simp <;> omega) | simp_all | rfl) (prW (by first | omega | (simp only [List.length_append, List.length_map, List.length_cons, List.length_nil, List.length_replicate, List.length_take, List.length_drop, List.length_set]; omega) | (simp <;> omega) | simp_all | rfl))) rfl rfl rfl ?_
      refine RegC.m (op_loadVG (cells := (n).map AVal.u8) rfl k_agg_25 (by first | omega | (simp only [List.length_append, List.length_map, List.length_cons, List.length_nil, List.length_replicate, List.length_take, List.length_drop, List.length_set]; omega) | (simp <;> omega) | simp_all | rfl) (prW (by first | omega | (simp only [List.length_append, List.length_map, List.length_cons, List.length_nil, List.length_replicate, List.length_take, List.length_drop, List.length_set]; omega) | (simp <;> omega) | simp_all | rfl))) rfl rfl rfl ?_
      refine RegC.m (op_move rfl) rfl rfl rfl ?_
      refine RegC.m (op_call rfl k_call_58 (bnS_calls (n) (by first | omega | (simp only [List.length_append, List.length_map, List.length_cons, List.length_nil, List.length_replicate, List.length_take, List.length_drop, List.length_set]; omega) | (simp <;> omega) | simp_all | rfl) (j) (by first | omega | (simp only [List.length_append, List.length_map, List.length_cons, List.length_nil, List.length_replicate, List.length_take, List.length_drop, List.length_set]; omega) | (simp <;> omega) | simp_all))) rfl rfl rfl ?_
      refine RegC.m (op_move rfl) rfl rfl rfl ?_
      refine RegC.m (op_call rfl k_call_11 (cool2 (h := []) (fun b9 => cover_calls b9 false (((text).take ((min (text).length ((j + 1) * block)))).drop ((j * block))) (k) (bnS (n) (j)) (by first | omega | (simp only [List.length_append, List.length_map, List.length_cons, List.length_nil, List.length_replicate, List.length_take, List.length_drop, List.length_set]; omega) | (simp <;> omega) | simp_all) (by first | omega | (simp only [List.length_append, List.length_map, List.length_cons, List.length_nil, List.length_replicate, List.length_take, List.length_drop, List.length_set]; omega) | (simp <;> omega) | simp_all) (by first | omega | (simp only [List.length_append, List.length_map, List.length_cons, List.length_nil, List.length_replicate, List.length_take, List.length_drop, List.length_set]; omega) | (simp <;> omega) | simp_all)) (by simp))) rfl rfl rfl ?_
      refine RegC.m (op_move rfl) rfl rfl rfl ?_
      refine RegC.m (op_extract rfl rfl) rfl rfl rfl ?_
      refine RegC.m (op_extract rfl rfl) rfl rfl rfl ?_
      refine RegC.m (op_assign rfl) rfl rfl rfl ?_
      refine RegC.m (op_assign rfl) rfl rfl rfl ?_
      refine RegC.done ⟨.inr rfl, ?_⟩
      refine WP.nrm 40 ?_
      refine WP.reg k_mixed fun nm11 hnm11 => ?_
      refine RegC.m (op_move rfl) rfl rfl rfl ?_
      refine RegC.m (op_neq rfl) rfl rfl rfl ?_
      refine RegC.done ⟨.inl rfl, ?_⟩
      refine WP.nrm 40 ?_
      refine WP.cond (t := false) rfl ?_
      refine WP.nrm 40 ?_
      refine WP.reg k_mixed fun nm12 hnm12 => ?_
      refine RegC.m (op_loadVG (cells := (k).map AVal.u8) rfl k_agg_23 (by first | omega | (simp only [List.length_append, List.length_map, List.length_cons, List.length_nil, List.length_replicate, List.length_take, List.length_drop, List.length_set]; omega) | (simp <;> omega) | simp_all | rfl) (prW (by first | omega | (simp only [List.length_append, List.length_map, List.length_cons, List.length_nil, List.length_replicate, List.length_take, List.length_drop, List.length_set]; omega) | (simp <;> omega) | simp_all | rfl))) rfl rfl rfl ?_
      refine RegC.m (op_move rfl) rfl rfl rfl ?_
      refine RegC.m (op_move rfl) rfl rfl rfl ?_
      refine RegC.m (op_move rfl) rfl rfl rfl ?_
      refine RegC.m (op_move rfl) rfl rfl rfl ?_
      refine RegC.m (op_call rfl k_call_59 (btS_calls (k) (by first | omega | (simp only [List.length_append, List.length_map, List.length_cons, List.length_nil, List.length_replicate, List.length_take, List.length_drop, List.length_set]; omega) | (simp <;> omega) | simp_all | rfl) f1 false false (head) (headS n block text.length) (coverS (k) (bnS (n) (j)) (((text).take ((min (text).length ((j + 1) * block)))).drop ((j * block)))) (by first | omega | (simp only [List.length_append, List.length_map, List.length_cons, List.length_nil, List.length_replicate, List.length_take, List.length_drop, List.length_set]; omega) | (simp <;> omega) | simp_all) (headS_length _ _ _ (by omega)) (by rw [coverS_length]; simp only [List.length_drop, List.length_take]; omega) (j) (by first | omega | (simp only [List.length_append, List.length_map, List.length_cons, List.length_nil, List.length_replicate, List.length_take, List.length_drop, List.length_set]; omega) | (simp <;> omega) | simp_all))) rfl rfl rfl ?_
      refine RegC.a (op_alloc rfl k_zero_104) rfl rfl rfl ?_
      refine RegC.w (i := 3) (op_storeW rfl k_agg_104 (by first | omega | (simp only [List.length_append, List.length_map, List.length_cons, List.length_nil, List.length_replicate, List.length_take, List.length_drop, List.length_set]; omega) | (simp <;> omega) | simp_all) (by first | omega | (simp only [List.length_append, List.length_map, List.length_cons, List.length_nil, List.length_replicate, List.length_take, List.length_drop, List.length_set]; omega) | (simp <;> omega) | simp_all) (by first | exact allS (fun _ => rfl) | simp [AVal.scalar])) rfl rfl rfl rfl ?_
      refine RegC.done ⟨.inl rfl, ?_⟩
      refine WP.cold (b := nm12 0) 3 [(18, .vptr ((btS (k) (head) (headS n block text.length) (j) (coverS (k) (bnS (n) (j)) (((text).take ((min (text).length ((j + 1) * block)))).drop ((j * block))))).map AVal.u8) (0))] rfl (frzE.cons rfl (.ptr 0) frzE.nil) ?_
      refine WP.nrm 40 ?_
      refine WP.reg k_mixed fun nm13 hnm13 => ?_
      refine RegC.m (op_move rfl) rfl rfl rfl ?_
      refine RegC.m (op_move rfl) rfl rfl rfl ?_
      refine RegC.wa (i := 2) (op_appL (f := AVal.u8) (l := X) (l2 := coverS (k) (bnS (n) (j)) (((text).take ((min (text).length ((j + 1) * block)))).drop ((j * block)))) (fun _ => rfl) rfl k_app_26_26 (by first | omega | (simp only [List.length_append, List.length_map, List.length_cons, List.length_nil, List.length_replicate, List.length_take, List.length_drop, List.length_set]; omega) | (simp <;> omega) | simp_all) (by first | omega | (simp only [List.length_append, List.length_map, List.length_cons, List.length_nil, List.length_replicate, List.length_take, List.length_drop, List.length_set]; omega) | (simp <;> omega) | simp_all)) rfl rfl rfl rfl ?_
      refine RegC.m (op_sVA00f (f := AVal.u8) (l := btS (k) (head) (headS n block text.length) (j) (coverS (k) (bnS (n) (j)) (((text).take ((min (text).length ((j + 1) * block)))).drop ((j * block))))) rfl k_arr_104 (by first | omega | (simp only [List.length_append, List.length_map, List.length_cons, List.length_nil, List.length_replicate, List.length_take, List.length_drop, List.length_set]; omega) | (simp <;> omega) | simp_all | rfl)) rfl rfl rfl ?_
      refine RegC.wa (i := 2) (op_appL (f := AVal.u8) (l := X ++ coverS (k) (bnS (n) (j)) (((text).take ((min (text).length ((j + 1) * block)))).drop ((j * block)))) (l2 := btS (k) (head) (headS n block text.length) (j) (coverS (k) (bnS (n) (j)) (((text).take ((min (text).length ((j + 1) * block)))).drop ((j * block))))) (fun _ => rfl) rfl k_app_26_26 (by first | omega | (simp only [List.length_append, List.length_map, List.length_cons, List.length_nil, List.length_replicate, List.length_take, List.length_drop, List.length_set]; omega) | (simp <;> omega) | simp_all) (by first | omega | (simp only [List.length_append, List.length_map, List.length_cons, List.length_nil, List.length_replicate, List.length_take, List.length_drop, List.length_set]; omega) | (simp <;> omega) | simp_all)) rfl rfl rfl rfl ?_
      refine RegC.m (op_assign rfl) rfl rfl rfl ?_
      refine RegC.done ⟨.inr rfl, ?_⟩
      refine WP.nrm 40 ?_
      refine WP.reg k_mixed fun nm14 hnm14 => ?_
      refine RegC.m (op_move rfl) rfl rfl rfl ?_
      refine RegC.m (op_addI rfl (by first | omega | (simp only [List.length_append, List.length_map, List.length_cons, List.length_nil, List.length_replicate, List.length_take, List.length_drop, List.length_set]; omega) | (simp <;> omega) | simp_all)) rfl rfl rfl ?_
      refine RegC.m (op_assign rfl) rfl rfl rfl ?_
      refine RegC.done ⟨.inl rfl, ?_⟩
      refine WP.nrm 40 ?_
      refine WP.jump (subE.cons rfl (subE.cons rfl (subE.cons rfl (subE.cons rfl (subE.cons rfl (subE.cons rfl (subE.cons rfl (subE.cons rfl (subE.nil))))))))) (by (try simp only [List.set_cons_zero, List.set_cons_succ, List.cons_append, List.nil_append]); exact (.cons_cons _ (.cons_cons _ (.cons_cons _ (List.nil_sublist _))))) (ih0 (j + 1) (X ++ coverS (k) (bnS (n) (j)) (((text).take ((min (text).length ((j + 1) * block)))).drop ((j * block))) ++ btS (k) (head) (headS n block text.length) (j) (coverS (k) (bnS (n) (j)) (((text).take ((min (text).length ((j + 1) * block)))).drop ((j * block))))) (((m + (coverS (k) (bnS (n) (j)) (((text).take ((min (text).length ((j + 1) * block)))).drop ((j * block)))).length) + (btS (k) (head) (headS n block text.length) (j) (coverS (k) (bnS (n) (j)) (((text).take ((min (text).length ((j + 1) * block)))).drop ((j * block))))).length)) (nm13 1) ?_ ?_)
      · have hs : (j + 1) * block = j * block + block := Nat.succ_mul j block; have hbl := blkS_length k n head text block j hb2; have hxe : X ++ coverS (k) (bnS (n) (j)) (((text).take ((min (text).length ((j + 1) * block)))).drop ((j * block))) ++ btS (k) (head) (headS n block text.length) (j) (coverS (k) (bnS (n) (j)) (((text).take ((min (text).length ((j + 1) * block)))).drop ((j * block)))) = sealG (blkS k n head text block) (headS n block text.length) (j + 1) := (by rw [sealG_next, ← hX]; unfold blkS; rw [List.append_assoc]; rfl); exact ⟨by omega, by first | (simp only [List.length_append]; omega) | (simp only [List.length_append]; done), hxe, by omega, by rw [hxe, sealG_next, List.length_append, ← hX]; omega, by omega, by omega⟩
      · have hs : (j + 1) * block = j * block + block := Nat.succ_mul j block; omega
    ·
      have hej := many_of text.length block j (by omega) hjb (by omega)
      have hXe : X = sealS k n head text block := by rw [hX, hej]; rfl
      refine WP.nrm 40 ?_
      refine WP.reg k_mixed fun nm15 hnm15 => ?_
      refine RegC.m (op_move rfl) rfl rfl rfl ?_
      refine RegC.m (op_assign rfl) rfl rfl rfl ?_
      refine RegC.m (op_assign rfl) rfl rfl rfl ?_
      refine RegC.done ⟨.inl rfl, ?_⟩
      refine WP.nrm 40 ?_
      refine WP.ret1S (b' := b') (vf := fun q => .tup [.os q (0) (m) 1 false, .i (0)]) 2 (ResV.many rfl rfl (.cons (.tmp rfl) (.cons (.tmp rfl) (RessOf.nil)))) rfl (by simp) (tup_named (x := fun q => .os q (0) (m) 1 false) os_named) (.cons _ (.cons _ (.cons_cons _ (List.nil_sublist _)))) ?_
      exact ⟨by rw [hm, hXe], by rw [hXe]⟩
  ·
    intro j hI ihB ih0
    have hj0 := hI
    have hX : headS n block text.length = sealG (blkS k n head text block) (headS n block text.length) j := by rw [hI, sealG_zero]
    have hjb : j * block < text.length + block := by rw [hI]; omega
    have hjb0 : j * block = 0 := by rw [hI]; omega
    have hXl := headS_length n block text.length hn
    have hj : j ≤ 20481 := by omega
    have hj16 : j * 16 ≤ j * block := Nat.mul_le_mul_left _ hb1
    have hs : (j + 1) * block = j * block + block := Nat.succ_mul j block
    have hjI : ((j * block : Nat) : Int) = (j : Int) * (block : Int) := Int.natCast_mul j block
    have hsI : (((j + 1) * block : Nat) : Int) = ((j : Int) + 1) * (block : Int) := by push_cast; rfl
    refine WP.nrm 40 ?_
    refine WP.reg k_mixed fun nm16 hnm16 => ?_
    refine RegC.m (op_move rfl) rfl rfl rfl ?_
    refine RegC.m (op_move rfl) rfl rfl rfl ?_
    refine RegC.m (op_mulI rfl (by first | omega | (simp only [List.length_append, List.length_map, List.length_cons, List.length_nil, List.length_replicate, List.length_take, List.length_drop, List.length_set]; omega) | (simp <;> omega) | simp_all)) rfl rfl rfl ?_
    refine RegC.m (op_move rfl) rfl rfl rfl ?_
    refine RegC.m (op_lenV (f := AVal.u8) (l := text) rfl k_sl_26) rfl rfl rfl ?_
    refine RegC.m (OpV.boolT (op_lss rfl) (by omega)) rfl rfl rfl ?_
    refine RegC.done ⟨.inl rfl, ?_⟩
    refine WP.nrm 40 ?_
    refine WP.cond (t := true) rfl ?_
    refine WP.nrm 40 ?_
    refine WP.reg k_mixed fun nm17 hnm17 => ?_
    refine RegC.m (op_move rfl) rfl rfl rfl ?_
    refine RegC.m (op_move rfl) rfl rfl rfl ?_
    refine RegC.m (op_move rfl) rfl rfl rfl ?_
    refine RegC.m (op_mulI rfl (by first | omega | (simp only [List.length_append, List.length_map, List.length_cons, List.length_nil, List.length_replicate, List.length_take, List.length_drop, List.length_set]; omega) | (simp <;> omega) | simp_all)) rfl rfl rfl ?_
    refine RegC.m (op_move rfl) rfl rfl rfl ?_
    refine RegC.m (op_lenV (f := AVal.u8) (l := text) rfl k_sl_26) rfl rfl rfl ?_
    refine RegC.m (op_move rfl) rfl rfl rfl ?_
    refine RegC.m (op_addI rfl (by first | omega | (simp only [List.length_append, List.length_map, List.length_cons, List.length_nil, List.length_replicate, List.length_take, List.length_drop, List.length_set]; omega) | (simp <;> omega) | simp_all)) rfl rfl rfl ?_
    refine RegC.m (op_move rfl) rfl rfl rfl ?_
    refine RegC.m (op_mulI rfl (by first | omega | (simp only [List.length_append, List.length_map, List.length_cons, List.length_nil, List.length_replicate, List.length_take, List.length_drop, List.length_set]; omega) | (simp <;> omega) | simp_all)) rfl rfl rfl ?_
    refine RegC.m (op_min rfl) rfl rfl rfl ?_
    refine RegC.m (op_sV11 (f := AVal.u8) (l := text) ((j * block)) ((min (text).length ((j + 1) * block))) rfl k_sl_26 (by first | omega | (simp only [List.length_append, List.length_map, List.length_cons, List.length_nil, List.length_replicate, List.length_take, List.length_drop, List.length_set]; omega) | (simp <;> omega) | simp_all) (by first | omega | (simp only [List.length_append, List.length_map, List.length_cons, List.length_nil, List.length_replicate, List.length_take, List.length_drop, List.length_set]; omega) | (simp <;> omega) | simp_all) (by first | omega | (simp only [List.length_append, List.length_map, List.length_cons, List.length_nil, List.length_replicate, List.length_take, List.length_drop, List.length_set]; omega) | (simp <;> omega) | simp_all) (by first | omega | (simp only [List.length_append, List.length_map, List.length_cons, List.length_nil, List.length_replicate, List.length_take, List.length_drop, List.length_set]; omega) | (simp <;> omega) | simp_all)) rfl rfl rfl ?_
    refine RegC.m (op_assign rfl) rfl rfl rfl ?_
    refine RegC.done ⟨.inl rfl, ?_⟩
    refine WP.nrm 40 ?_
    refine WP.reg k_mixed fun nm18 hnm18 => ?_
    refine RegC.m (op_loadVG (cells := (k).map AVal.u8) rfl k_agg_23 (by first | omega | (simp only [List.length_append, List.length_map, List.length_cons, List.length_nil, List.length_replicate, List.length_take, List.length_drop, List.length_set]; omega) | (simp <;> omega) | simp_all | rfl) (prW (by first | omega | (simp only [List.length_append, List.length_map, List.length_cons, List.length_nil, List.length_replicate, List.length_take, List.length_drop, List.length_set]; omega) | (simp <;> omega) | simp_all | rfl))) rfl rfl rfl ?_
    refine RegC.m (op_loadVG (cells := (n).map AVal.u8) rfl k_agg_25 (by first | omega | (simp only [List.length_append, List.length_map, List.length_cons, List.length_nil, List.length_replicate, List.length_take, List.length_drop, List.length_set]; omega) | (simp <;> omega) | simp_all | rfl) (prW (by first | omega | (simp only [List.length_append, List.length_map, List.length_cons, List.length_nil, List.length_replicate, List.length_take, List.length_drop, List.length_set]; omega) | (simp <;> omega) | simp_all | rfl))) rfl rfl rfl ?_
    refine RegC.m (op_move rfl) rfl rfl rfl ?_
    refine RegC.m (op_call rfl k_call_58 (bnS_calls (n) (by first | omega | (simp only [List.length_append, List.length_map, List.length_cons, List.length_nil, List.length_replicate, List.length_take, List.length_drop, List.length_set]; omega) | (simp <;> omega) | simp_all | rfl) (j) (by first | omega | (simp only [List.length_append, List.length_map, List.length_cons, List.length_nil, List.length_replicate, List.length_take, List.length_drop, List.length_set]; omega) | (simp <;> omega) | simp_all))) rfl rfl rfl ?_
    refine RegC.m (op_move rfl) rfl rfl rfl ?_
    refine RegC.m (op_call rfl k_call_11 (cool2 (h := []) (fun b9 => cover_calls b9 false (((text).take ((min (text).length ((j + 1) * block)))).drop ((j * block))) (k) (bnS (n) (j)) (by first | omega | (simp only [List.length_append, List.length_map, List.length_cons, List.length_nil, List.length_replicate, List.length_take, List.length_drop, List.length_set]; omega) | (simp <;> omega) | simp_all) (by first | omega | (simp only [List.length_append, List.length_map, List.length_cons, List.length_nil, List.length_replicate, List.length_take, List.length_drop, List.length_set]; omega) | (simp <;> omega) | simp_all) (by first | omega | (simp only [List.length_append, List.length_map, List.length_cons, List.length_nil, List.length_replicate, List.length_take, List.length_drop, List.length_set]; omega) | (simp <;> omega) | simp_all)) (by simp))) rfl rfl rfl ?_
    refine RegC.m (op_move rfl) rfl rfl rfl ?_
    refine RegC.m (op_extract rfl rfl) rfl rfl rfl ?_
    refine RegC.m (op_extract rfl rfl) rfl rfl rfl ?_
    refine RegC.m (op_assign rfl) rfl rfl rfl ?_
    refine RegC.m (op_assign rfl) rfl rfl rfl ?_
    refine RegC.done ⟨.inr rfl, ?_⟩
    refine WP.nrm 40 ?_
    refine WP.reg k_mixed fun nm19 hnm19 => ?_
    refine RegC.m (op_move rfl) rfl rfl rfl ?_
    refine RegC.m (op_neq rfl) rfl rfl rfl ?_
    refine RegC.done ⟨.inl rfl, ?_⟩
    refine WP.nrm 40 ?_
    refine WP.cond (t := false) rfl ?_
    refine WP.nrm 40 ?_
    refine WP.reg k_mixed fun nm20 hnm20 => ?_
    refine RegC.m (op_loadVG (cells := (k).map AVal.u8) rfl k_agg_23 (by first | omega | (simp only [List.length_append, List.length_map, List.length_cons, List.length_nil, List.length_replicate, List.length_take, List.length_drop, List.length_set]; omega) | (simp <;> omega) | simp_all | rfl) (prW (by first | omega | (simp only [List.length_append, List.length_map, List.length_cons, List.length_nil, List.length_replicate, List.length_take, List.length_drop, List.length_set]; omega) | (simp <;> omega) | simp_all | rfl))) rfl rfl rfl ?_
    refine RegC.m (op_move rfl) rfl rfl rfl ?_
    refine RegC.m (op_move rfl) rfl rfl rfl ?_
    refine RegC.m (op_move rfl) rfl rfl rfl ?_
    refine RegC.m (op_move rfl) rfl rfl rfl ?_
    refine RegC.m (op_call rfl k_call_59 (btS_calls (k) (by first | omega | (simp only [List.length_append, List.length_map, List.length_cons, List.length_nil, List.length_replicate, List.length_take, List.length_drop, List.length_set]; omega) | (simp <;> omega) | simp_all | rfl) f1 false false (head) (headS n block text.length) (coverS (k) (bnS (n) (j)) (((text).take ((min (text).length ((j + 1) * block)))).drop ((j * block)))) (by first | omega | (simp only [List.length_append, List.length_map, List.length_cons, List.length_nil, List.length_replicate, List.length_take, List.length_drop, List.length_set]; omega) | (simp <;> omega) | simp_all) (headS_length _ _ _ (by omega)) (by rw [coverS_length]; simp only [List.length_drop, List.length_take]; omega) (j) (by first | omega | (simp only [List.length_append, List.length_map, List.length_cons, List.length_nil, List.length_replicate, List.length_take, List.length_drop, List.length_set]; omega) | (simp <;> omega) | simp_all))) rfl rfl rfl ?_
    refine RegC.a (op_alloc rfl k_zero_104) rfl rfl rfl ?_
    refine RegC.w (i := 2) (op_storeW rfl k_agg_104 (by first | omega | (simp only [List.length_append, List.length_map, List.length_cons, List.length_nil, List.length_replicate, List.length_take, List.length_drop, List.length_set]; omega) | (simp <;> omega) | simp_all) (by first | omega | (simp only [List.length_append, List.length_map, List.length_cons, List.length_nil, List.length_replicate, List.length_take, List.length_drop, List.length_set]; omega) | (simp <;> omega) | simp_all) (by first | exact allS (fun _ => rfl) | simp [AVal.scalar])) rfl rfl rfl rfl ?_
    refine RegC.done ⟨.inl rfl, ?_⟩
    refine WP.cold (b := nm20 0) 2 [(18, .vptr ((btS (k) (head) (headS n block text.length) (j) (coverS (k) (bnS (n) (j)) (((text).take ((min (text).length ((j + 1) * block)))).drop ((j * block))))).map AVal.u8) (0))] rfl (frzE.cons rfl (.ptr 0) frzE.nil) ?_
    refine WP.nrm 40 ?_
    refine WP.reg k_mixed fun nm21 hnm21 => ?_
    refine RegC.m (op_move rfl) rfl rfl rfl ?_
    refine RegC.m (op_move rfl) rfl rfl rfl ?_
    refine RegC.a (OpV.to (op_appMVV (f := AVal.u8) (l := headS n block text.length) (l2 := coverS (k) (bnS (n) (j)) (((text).take ((min (text).length ((j + 1) * block)))).drop ((j * block)))) rfl k_app_26_26 (.inr (by rw [coverS_length]; simp only [List.length_drop, List.length_take]; omega)) (by first | omega | (simp only [List.length_append, List.length_map, List.length_cons, List.length_nil, List.length_replicate, List.length_take, List.length_drop, List.length_set]; omega) | (simp <;> omega) | simp_all)) (osN (n' := (headS n block text.length ++ coverS (k) (bnS (n) (j)) (((text).take ((min (text).length ((j + 1) * block)))).drop ((j * block)))).length) (by first | omega | (simp only [List.length_append, List.length_map, List.length_cons, List.length_nil, List.length_replicate, List.length_take, List.length_drop, List.length_set]; omega) | (simp <;> omega) | simp_all))) rfl rfl rfl ?_
    refine RegC.m (op_sVA00f (f := AVal.u8) (l := btS (k) (head) (headS n block text.length) (j) (coverS (k) (bnS (n) (j)) (((text).take ((min (text).length ((j + 1) * block)))).drop ((j * block))))) rfl k_arr_104 (by first | omega | (simp only [List.length_append, List.length_map, List.length_cons, List.length_nil, List.length_replicate, List.length_take, List.length_drop, List.length_set]; omega) | (simp <;> omega) | simp_all | rfl)) rfl rfl rfl ?_
    refine RegC.wa (i := 2) (op_appL (f := AVal.u8) (l := headS n block text.length ++ coverS (k) (bnS (n) (j)) (((text).take ((min (text).length ((j + 1) * block)))).drop ((j * block)))) (l2 := btS (k) (head) (headS n block text.length) (j) (coverS (k) (bnS (n) (j)) (((text).take ((min (text).length ((j + 1) * block)))).drop ((j * block))))) (fun _ => rfl) rfl k_app_26_26 (by first | omega | (simp only [List.length_append, List.length_map, List.length_cons, List.length_nil, List.length_replicate, List.length_take, List.length_drop, List.length_set]; omega) | (simp <;> omega) | simp_all) (by first | omega | (simp only [List.length_append, List.length_map, List.length_cons, List.length_nil, List.length_replicate, List.length_take, List.length_drop, List.length_set]; omega) | (simp <;> omega) | simp_all)) rfl rfl rfl rfl ?_
    refine RegC.m (op_assign rfl) rfl rfl rfl ?_
    refine RegC.done ⟨.inr rfl, ?_⟩
    refine WP.nrm 40 ?_
    refine WP.reg k_mixed fun nm22 hnm22 => ?_
    refine RegC.m (op_move rfl) rfl rfl rfl ?_
    refine RegC.m (op_addI rfl (by first | omega | (simp only [List.length_append, List.length_map, List.length_cons, List.length_nil, List.length_replicate, List.length_take, List.length_drop, List.length_set]; omega) | (simp <;> omega) | simp_all)) rfl rfl rfl ?_
    refine RegC.m (op_assign rfl) rfl rfl rfl ?_
    refine RegC.done ⟨.inl rfl, ?_⟩
    refine WP.nrm 40 ?_
    refine WP.jump (subE.cons rfl (subE.cons rfl (subE.cons rfl (subE.cons rfl (subE.cons rfl (subE.cons rfl (subE.cons rfl (subE.cons rfl (subE.nil))))))))) (by (try simp only [List.set_cons_zero, List.set_cons_succ, List.cons_append, List.nil_append]); exact (.cons_cons _ (.cons_cons _ (.cons_cons _ (List.nil_sublist _))))) (ihB (j + 1) (headS n block text.length ++ coverS (k) (bnS (n) (j)) (((text).take ((min (text).length ((j + 1) * block)))).drop ((j * block))) ++ btS (k) (head) (headS n block text.length) (j) (coverS (k) (bnS (n) (j)) (((text).take ((min (text).length ((j + 1) * block)))).drop ((j * block))))) (((headS n block text.length ++ coverS (k) (bnS (n) (j)) (((text).take ((min (text).length ((j + 1) * block)))).drop ((j * block)))).length + (btS (k) (head) (headS n block text.length) (j) (coverS (k) (bnS (n) (j)) (((text).take ((min (text).length ((j + 1) * block)))).drop ((j * block))))).length)) (nm21 1) ?_)
    · have hs : (j + 1) * block = j * block + block := Nat.succ_mul j block; have hbl := blkS_length k n head text block j hb2; have hxe : headS n block text.length ++ coverS (k) (bnS (n) (j)) (((text).take ((min (text).length ((j + 1) * block)))).drop ((j * block))) ++ btS (k) (head) (headS n block text.length) (j) (coverS (k) (bnS (n) (j)) (((text).take ((min (text).length ((j + 1) * block)))).drop ((j * block)))) = sealG (blkS k n head text block) (headS n block text.length) (j + 1) := (by rw [sealG_next, ← hX]; unfold blkS; rw [List.append_assoc]; rfl); exact ⟨by omega, by first | (simp only [List.length_append]; omega) | (simp only [List.length_append]; done), hxe, by omega, by rw [hxe, sealG_next, List.length_append, ← hX]; omega, by omega, by omega⟩

theorem seal_z (k : List UInt8) (hk : k.length = 32) (n : List UInt8) (hn : n.length = 16) (f1 f2 : Bool) (head text : List UInt8) (block : Nat) (hh : head.length ≤ 4096) (ht : text.length ≤ 262144) (hb1 : 16 ≤ block) (hb2 : block ≤ 65536) (h0 : text.length = 0) : ACalls Try.prog 27 [.agg ((k).map AVal.u8), .agg ((n).map AVal.u8), VS AVal.u8 f1 (head), VS AVal.u8 f2 (text), .i ((block : Int))] [] [] (.tup [VS AVal.u8 true (sealS k n head text block), .i 0]) [] := by
  refine ACalls.of_wp' (fn := Try.f27) (n := 94) Try.func27 rfl rfl ?_
  unfold Try.f27
  refine WP.nrm 40 ?_
  refine WP.reg k_mixed fun nm1 hnm1 => ?_
  refine RegC.m (op_boxD rfl) rfl rfl rfl ?_
  refine RegC.m (op_boxD rfl) rfl rfl rfl ?_
  refine RegC.m (op_assign rfl) rfl rfl rfl ?_
  refine RegC.m (op_assign rfl) rfl rfl rfl ?_
  refine RegC.done ⟨.inl rfl, ?_⟩
  refine WP.nrm 40 ?_
  refine WP.reg k_mixed fun nm2 hnm2 => ?_
  refine RegC.m (op_move rfl) rfl rfl rfl ?_
  refine RegC.m (OpV.boolF (op_lss rfl) (by omega)) rfl rfl rfl ?_
  refine RegC.m (op_move rfl) rfl rfl rfl ?_
  refine RegC.m (op_move rfl) rfl rfl rfl ?_
  refine RegC.m (OpV.boolF (op_gtr rfl) (by omega)) rfl rfl rfl ?_
  refine RegC.m (op_pick rfl) rfl rfl rfl ?_
  refine RegC.done ⟨.inl rfl, ?_⟩
  refine WP.nrm 40 ?_
  refine WP.cond (t := false) rfl ?_
  refine WP.nrm 40 ?_
  refine WP.reg k_mixed fun nm3 hnm3 => ?_
  refine RegC.m (op_move rfl) rfl rfl rfl ?_
  refine RegC.m (op_lenV (f := AVal.u8) (l := head) rfl k_sl_26) rfl rfl rfl ?_
  refine RegC.m (OpV.boolF (op_gtr rfl) (by omega)) rfl rfl rfl ?_
  refine RegC.m (op_move rfl) rfl rfl rfl ?_
  refine RegC.m (op_move rfl) rfl rfl rfl ?_
  refine RegC.m (op_lenV (f := AVal.u8) (l := text) rfl k_sl_26) rfl rfl rfl ?_
  refine RegC.m (OpV.boolF (op_gtr rfl) (by omega)) rfl rfl rfl ?_
  refine RegC.m (op_pick rfl) rfl rfl rfl ?_
  refine RegC.done ⟨.inl rfl, ?_⟩
  refine WP.nrm 40 ?_
  refine WP.cond (t := false) rfl ?_
  refine WP.nrm 40 ?_
  refine WP.reg k_mixed fun nm4 hnm4 => ?_
  refine RegC.a (op_buildSlM (vs := List.map AVal.u8 [(75 : UInt8), (87 : UInt8), (84 : UInt8), (49 : UInt8)]) rfl k_sl_26 k_zeroE_5 rfl rfl rfl (by omega)) rfl rfl rfl ?_
  refine RegC.w (i := 0) (op_cvO rfl k_undSl_26 k_undI_5 (by first | omega | (simp only [List.length_append, List.length_map, List.length_cons, List.length_nil, List.length_replicate, List.length_take, List.length_drop, List.length_set]; omega) | (simp <;> omega) | simp_all)) rfl rfl rfl rfl ?_
  refine RegC.m (op_sVA00f (f := AVal.u8) (l := n) rfl k_arr_25 (by first | omega | (simp only [List.length_append, List.length_map, List.length_cons, List.length_nil, List.length_replicate, List.length_take, List.length_drop, List.length_set]; omega) | (simp <;> omega) | simp_all | rfl)) rfl rfl rfl ?_
  refine RegC.wa (i := 0) (op_appM (f := AVal.u8) (l := [(75 : UInt8), (87 : UInt8), (84 : UInt8), (49 : UInt8)]) (l2 := n) (fun _ => rfl) rfl k_app_26_26 (by first | omega | (simp only [List.length_append, List.length_map, List.length_cons, List.length_nil, List.length_replicate, List.length_take, List.length_drop, List.length_set]; omega) | (simp <;> omega) | simp_all)) rfl rfl rfl rfl ?_
  refine RegC.m (op_assign rfl) rfl rfl rfl ?_
  refine RegC.done ⟨.inl rfl, ?_⟩
  refine WP.nrm 40 ?_
  refine WP.reg k_mixed fun nm5 hnm5 => ?_
  refine RegC.m (op_move rfl) rfl rfl rfl ?_
  refine RegC.m (op_move rfl) rfl rfl rfl ?_
  refine RegC.m (op_cv rfl k_und_3 k_undI_102 (cv_i_32 (by first | exact Int.natCast_nonneg _ | omega))) rfl rfl rfl ?_
  refine RegC.qa (i := 0) (OpV.to (op_call rfl k_call_57 (lend2n (noRefO_vec noRefs_8) (putNumber1 (nm5 0) false ([(75 : UInt8), (87 : UInt8), (84 : UInt8), (49 : UInt8)] ++ n) (UInt32.ofNat (block)) (by first | omega | (simp only [List.length_append, List.length_map, List.length_cons, List.length_nil, List.length_replicate, List.length_take, List.length_drop, List.length_set]; omega) | (simp <;> omega) | simp_all)) (frz_os (by first | omega | (simp only [List.length_append, List.length_map, List.length_cons, List.length_nil, List.length_replicate, List.length_take, List.length_drop, List.length_set]; omega) | (simp <;> omega) | simp_all)) rfl)) (osN (n' := ([(75 : UInt8), (87 : UInt8), (84 : UInt8), (49 : UInt8)] ++ n ++ octS (UInt32.ofNat (block))).length) (by first | omega | (simp only [List.length_append, List.length_map, List.length_cons, List.length_nil, List.length_replicate, List.length_take, List.length_drop, List.length_set]; omega) | (simp <;> omega) | simp_all))) rfl rfl rfl rfl ?_
  refine RegC.m (op_move rfl) rfl rfl rfl ?_
  refine RegC.m (op_lenV (f := AVal.u8) (l := text) rfl k_sl_26) rfl rfl rfl ?_
  refine RegC.qa (i := 1) (OpV.to (op_call rfl k_call_56 (lend2n (noRefO_vec noRefs_8) (putLong1 (nm5 1) false ([(75 : UInt8), (87 : UInt8), (84 : UInt8), (49 : UInt8)] ++ n ++ octS (UInt32.ofNat (block))) ((text).length) (by first | omega | (simp only [List.length_append, List.length_map, List.length_cons, List.length_nil, List.length_replicate, List.length_take, List.length_drop, List.length_set]; omega) | (simp <;> omega) | simp_all) (by first | omega | (simp only [List.length_append, List.length_map, List.length_cons, List.length_nil, List.length_replicate, List.length_take, List.length_drop, List.length_set]; omega) | (simp <;> omega) | simp_all)) (frz_os (by first | omega | (simp only [List.length_append, List.length_map, List.length_cons, List.length_nil, List.length_replicate, List.length_take, List.length_drop, List.length_set]; omega) | (simp <;> omega) | simp_all)) rfl)) (osN (n' := ([(75 : UInt8), (87 : UInt8), (84 : UInt8), (49 : UInt8)] ++ n ++ octS (UInt32.ofNat (block)) ++ longS (UInt64.ofNat ((text).length))).length) (by first | omega | (simp only [List.length_append, List.length_map, List.length_cons, List.length_nil, List.length_replicate, List.length_take, List.length_drop, List.length_set]; omega) | (simp <;> omega) | simp_all))) rfl rfl rfl rfl ?_
  refine RegC.m (op_assign rfl) rfl rfl rfl ?_
  refine RegC.done ⟨.inl rfl, ?_⟩
  refine WP.cold (b := nm5 1) 2 [(12, VS AVal.u8 false (headS n block text.length))] rfl (frzE.cons rfl (frz_osL (by simp [headS]) (by first | omega | (simp only [List.length_append, List.length_map, List.length_cons, List.length_nil, List.length_replicate, List.length_take, List.length_drop, List.length_set]; omega) | (simp <;> omega) | simp_all)) frzE.nil) ?_
  refine WP.nrm 40 ?_
  refine WP.reg k_mixed fun nm6 hnm6 => ?_
  refine RegC.m (op_move rfl) rfl rfl rfl ?_
  refine RegC.m (op_move rfl) rfl rfl rfl ?_
  refine RegC.m (op_lenV (f := AVal.u8) (l := headS n block text.length) rfl k_sl_26) rfl rfl rfl ?_
  refine RegC.m (op_move rfl) rfl rfl rfl ?_
  refine RegC.m (op_lenV (f := AVal.u8) (l := headS n block text.length) rfl k_sl_26) rfl rfl rfl ?_
  refine RegC.m (OpV.to (op_sV011 (f := AVal.u8) (l := headS n block text.length) ((headS n block text.length).length) rfl k_sl_26 (by first | omega | (simp only [List.length_append, List.length_map, List.length_cons, List.length_nil, List.length_replicate, List.length_take, List.length_drop, List.length_set]; omega) | (simp <;> omega) | simp_all) (by first | omega | (simp only [List.length_append, List.length_map, List.length_cons, List.length_nil, List.length_replicate, List.length_take, List.length_drop, List.length_set]; omega) | (simp <;> omega) | simp_all) (by first | omega | (simp only [List.length_append, List.length_map, List.length_cons, List.length_nil, List.length_replicate, List.length_take, List.length_drop, List.length_set]; omega) | (simp <;> omega) | simp_all)) (vsL (by rw [List.take_of_length_le (Nat.le_refl _)]))) rfl rfl rfl ?_
  refine RegC.m (op_assign rfl) rfl rfl rfl ?_
  refine RegC.done ⟨.inl rfl, ?_⟩
  refine WP.nrm 40 ?_
  refine WP.reg k_mixed fun nm7 hnm7 => ?_
  refine RegC.m (op_assign rfl) rfl rfl rfl ?_
  refine RegC.done ⟨.inl rfl, ?_⟩
  refine WP.nrm 40 ?_
  refine WP.loop1 (fun (j : Nat) => [(2, VS AVal.u8 f1 (head)), (3, VS AVal.u8 f2 (text)), (4, .i ((block : Int))), (5, .vptr ((k).map AVal.u8) (0)), (6, .vptr ((n).map AVal.u8) (0)), (12, VS AVal.u8 false (headS n block text.length)), (13, VS AVal.u8 true (headS n block text.length)), (14, .i ((j : Int)))]) (fun (j : Nat) => [(nm4 1, .vec 5 (([(75 : UInt8), (87 : UInt8), (84 : UInt8), (49 : UInt8)] ++ n).map AVal.u8)), (nm5 0, .vec 5 (([(75 : UInt8), (87 : UInt8), (84 : UInt8), (49 : UInt8)] ++ n ++ octS (UInt32.ofNat (block))).map AVal.u8))]) (fun (j : Nat) => j = 0) (fun (j : Nat) => 0) (0) (subE.cons rfl (subE.cons rfl (subE.cons rfl (subE.cons rfl (subE.cons rfl (subE.cons rfl (subE.cons rfl (subE.cons rfl (subE.nil))))))))) (by (try simp only [List.set_cons_zero, List.set_cons_succ, List.cons_append, List.nil_append]); exact (.cons_cons _ (.cons_cons _ (List.nil_sublist _)))) rfl ?_
  intro j hI ih0
  have hjb0 : j * block = 0 := by rw [hI]; omega
  have hjI : ((j * block : Nat) : Int) = (j : Int) * (block : Int) := Int.natCast_mul j block
  refine WP.nrm 40 ?_
  refine WP.reg k_mixed fun nm8 hnm8 => ?_
  refine RegC.m (op_move rfl) rfl rfl rfl ?_
  refine RegC.m (op_move rfl) rfl rfl rfl ?_
  refine RegC.m (op_mulI rfl (by first | omega | (simp only [List.length_append, List.length_map, List.length_cons, List.length_nil, List.length_replicate, List.length_take, List.length_drop, List.length_set]; omega) | (simp <;> omega) | simp_all)) rfl rfl rfl ?_
  refine RegC.m (op_move rfl) rfl rfl rfl ?_
  refine RegC.m (op_lenV (f := AVal.u8) (l := text) rfl k_sl_26) rfl rfl rfl ?_
  refine RegC.m (OpV.boolF (op_lss rfl) (by omega)) rfl rfl rfl ?_
  refine RegC.done ⟨.inl rfl, ?_⟩
  refine WP.nrm 40 ?_
  refine WP.cond (t := false) rfl ?_
  refine WP.nrm 40 ?_
  refine WP.reg k_mixed fun nm9 hnm9 => ?_
  refine RegC.m (op_move rfl) rfl rfl rfl ?_
  refine RegC.m (op_assign rfl) rfl rfl rfl ?_
  refine RegC.m (op_assign rfl) rfl rfl rfl ?_
  refine RegC.done ⟨.inl rfl, ?_⟩
  refine WP.nrm 40 ?_
  refine WP.retS (ResV.many rfl rfl (.cons (.tmp rfl) (.cons (.tmp rfl) (RessOf.nil)))) (List.nil_sublist _) ?_
  exact ⟨by rw [sealS_zero _ _ _ _ _ h0 (by omega)], rfl⟩

theorem seal_d (k : List UInt8) (hk : k.length = 32) (n : List UInt8) (hn : n.length = 16) (f1 f2 : Bool) (head text : List UInt8) (block : Nat) (hh : head.length ≤ 4096) (ht : text.length ≤ 262144) (hb1 : 16 ≤ block) (hb2 : block ≤ 65536) :
    ACalls Try.prog 27 [.agg (k.map AVal.u8), .agg (n.map AVal.u8), VS AVal.u8 f1 head, VS AVal.u8 f2 text, .i block] [] [] (.tup [VS AVal.u8 false (sealS k n head text block), .i 0]) [] := by
  rcases Nat.eq_zero_or_pos text.length with h0 | h0
  · exact ACalls.weakRes (seal_z k hk n hn f1 f2 head text block hh ht hb1 hb2 h0)
  · exact cool2 (h := []) (fun b => seal_ne b k hk n hn f1 f2 head text block hh ht hb1 hb2 h0) rfl
end Go.Proofs.Try
