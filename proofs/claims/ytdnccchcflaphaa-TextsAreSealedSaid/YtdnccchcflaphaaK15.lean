import Derived.Test.YtdnccchcflaphaaK14
import Derived.Test.YtdnccchcflaphaaFF
import Derived.Test.YtdnccchcflaphaaS12
namespace Go.Proofs.Try
open Go Go.Kw
set_option linter.unusedVariables false
set_option linter.unusedSimpArgs false
set_option maxRecDepth 100000
set_option maxHeartbeats 400000
theorem k_call_64 : callable Try.prog 64 = true := by kernel_rfl
theorem k_call_66 : callable Try.prog 66 = true := by kernel_rfl
theorem k_call_67 : callable Try.prog 67 = true := by kernel_rfl
theorem k_call_68 : callable Try.prog 68 = true := by kernel_rfl
theorem k_call_29 : callable Try.prog 29 = true := by kernel_rfl
theorem k_zeroE_28 : zeroT Try.prog 28 = some [AVal.i (0 : Int)] := by kernel_rfl
theorem k_call_28 : callable Try.prog 28 = true := by kernel_rfl

theorem openText_bad (k : List UInt8) (hk : k.length = 32) (f1 full : Bool) (head b : List UInt8) (hh : head.length ≤ 4096) (hb : b.length ≤ 16777216) (hE : ¬ lookE b = 0) : ACalls Try.prog 68 [.agg ((k).map AVal.u8), VS AVal.u8 f1 (head), VS AVal.u8 full (b)] [] [] (.tup [VS AVal.u8 true ([] : List UInt8), .i (lookE b)]) [] := by
  refine ACalls.of_wp' (fn := Try.f68) (n := 44) Try.func68 rfl rfl ?_
  unfold Try.f68
  refine WP.nrm 40 ?_
  refine WP.reg k_mixed fun nm1 hnm1 => ?_
  refine RegC.m (op_boxD rfl) rfl rfl rfl ?_
  refine RegC.m (op_assign rfl) rfl rfl rfl ?_
  refine RegC.m (op_assign rfl) rfl rfl rfl ?_
  refine RegC.done ⟨.inl rfl, ?_⟩
  refine WP.nrm 40 ?_
  refine WP.reg k_mixed fun nm2 hnm2 => ?_
  refine RegC.m (op_move rfl) rfl rfl rfl ?_
  refine RegC.m (op_move rfl) rfl rfl rfl ?_
  refine RegC.m (op_call rfl k_call_102 (lookWith_bad f1 full (head) (b) (by first | omega | (simp only [List.length_append, List.length_map, List.length_cons, List.length_nil, List.length_replicate, List.length_take, List.length_drop, List.length_set]; omega) | (simp <;> omega) | simp_all) (by first | omega | (simp only [List.length_append, List.length_map, List.length_cons, List.length_nil, List.length_replicate, List.length_take, List.length_drop, List.length_set]; omega) | (simp <;> omega) | simp_all) hE)) rfl rfl rfl ?_
  refine RegC.m (op_move rfl) rfl rfl rfl ?_
  refine RegC.m (op_extract rfl rfl) rfl rfl rfl ?_
  refine RegC.m (op_extract rfl rfl) rfl rfl rfl ?_
  refine RegC.a (op_alloc rfl k_zeroS_151) rfl rfl rfl ?_
  refine RegC.w (i := 0) (op_storeW rfl k_agg_151 (by first | omega | (simp only [List.length_append, List.length_map, List.length_cons, List.length_nil, List.length_replicate, List.length_take, List.length_drop, List.length_set]; omega) | (simp <;> omega) | simp_all | rfl) (by first | omega | (simp only [List.length_append, List.length_map, List.length_cons, List.length_nil, List.length_replicate, List.length_take, List.length_drop, List.length_set]; omega) | (simp <;> omega) | simp_all | rfl) (by simp [AVal.scalar])) rfl rfl rfl rfl ?_
  refine RegC.m (op_assign rfl) rfl rfl rfl ?_
  refine RegC.done ⟨.inl rfl, ?_⟩
  refine WP.nrm 40 ?_
  refine WP.reg k_mixed fun nm3 hnm3 => ?_
  refine RegC.m (op_move rfl) rfl rfl rfl ?_
  refine RegC.m (OpV.boolE (t := (((lookE (b)) : Int) != 0)) (u := true) (op_neq rfl) (by simpa using hE)) rfl rfl rfl ?_
  refine RegC.done ⟨.inl rfl, ?_⟩
  refine WP.nrm 40 ?_
  refine WP.cond (t := true) rfl ?_
  refine WP.nrm 40 ?_
  refine WP.reg k_mixed fun nm4 hnm4 => ?_
  refine RegC.m (op_move rfl) rfl rfl rfl ?_
  refine RegC.m (op_assign rfl) rfl rfl rfl ?_
  refine RegC.m (op_assign rfl) rfl rfl rfl ?_
  refine RegC.done ⟨.inl rfl, ?_⟩
  refine WP.nrm 40 ?_
  refine WP.retS (ResV.many rfl rfl (.cons (.tmp rfl) (.cons (.tmp rfl) (RessOf.nil)))) (List.nil_sublist _) ?_
  exact ⟨rfl, rfl⟩

theorem openText_good (b' : Nat) (k : List UInt8) (hk : k.length = 32) (f1 full : Bool) (head b : List UInt8) (hh : head.length ≤ 4096) (hb : b.length ≤ 16777216) (hE : lookE b = 0) (hA : errB k head b (manyN b) = 0) : ACalls Try.prog 68 [.agg ((k).map AVal.u8), VS AVal.u8 f1 (head), VS AVal.u8 full (b)] [] [b'] (.tup [.os b' 0 (catB k b (manyN b)).length 1 false, .i 0]) [(b', .vec 5 ((catB k b (manyN b)).map AVal.u8))] := by
  have o := ok_of hE
  have hlen := o.len
  have hlo := o.lo
  have hhi := o.hi
  have hsz := o.sz
  have hml : manyN b ≤ 16384 := manyS_le (szN b) (blkN b) (by omega) (by omega)
  refine ACalls.of_wp' (fn := Try.f68) (n := 44) Try.func68 rfl rfl ?_
  unfold Try.f68
  refine WP.nrm 40 ?_
  refine WP.reg k_mixed fun nm1 hnm1 => ?_
  refine RegC.m (op_boxD rfl) rfl rfl rfl ?_
  refine RegC.m (op_assign rfl) rfl rfl rfl ?_
  refine RegC.m (op_assign rfl) rfl rfl rfl ?_
  refine RegC.done ⟨.inl rfl, ?_⟩
  refine WP.nrm 40 ?_
  refine WP.reg k_mixed fun nm2 hnm2 => ?_
  refine RegC.m (op_move rfl) rfl rfl rfl ?_
  refine RegC.m (op_move rfl) rfl rfl rfl ?_
  refine RegC.m (op_call rfl k_call_102 (lookWith_ok f1 full (head) (b) (by first | omega | (simp only [List.length_append, List.length_map, List.length_cons, List.length_nil, List.length_replicate, List.length_take, List.length_drop, List.length_set]; omega) | (simp <;> omega) | simp_all) (by first | omega | (simp only [List.length_append, List.length_map, List.length_cons, List.length_nil, List.length_replicate, List.length_take, List.length_drop, List.length_set]; omega) | (simp <;> omega) | simp_all) hE)) rfl rfl rfl ?_
  refine RegC.m (op_move rfl) rfl rfl rfl ?_
  refine RegC.m (op_extract rfl rfl) rfl rfl rfl ?_
  refine RegC.m (op_extract rfl rfl) rfl rfl rfl ?_
  refine RegC.a (op_alloc rfl k_zeroS_151) rfl rfl rfl ?_
  refine RegC.w (i := 0) (op_storeW rfl k_agg_151 (by first | omega | (simp only [List.length_append, List.length_map, List.length_cons, List.length_nil, List.length_replicate, List.length_take, List.length_drop, List.length_set]; omega) | (simp <;> omega) | simp_all | rfl) (by first | omega | (simp only [List.length_append, List.length_map, List.length_cons, List.length_nil, List.length_replicate, List.length_take, List.length_drop, List.length_set]; omega) | (simp <;> omega) | simp_all | rfl) (by simp [AVal.scalar])) rfl rfl rfl rfl ?_
  refine RegC.m (op_assign rfl) rfl rfl rfl ?_
  refine RegC.done ⟨.inl rfl, ?_⟩
  refine WP.nrm 40 ?_
  refine WP.reg k_mixed fun nm3 hnm3 => ?_
  refine RegC.m (op_move rfl) rfl rfl rfl ?_
  refine RegC.m (op_neq rfl) rfl rfl rfl ?_
  refine RegC.done ⟨.inl rfl, ?_⟩
  refine WP.nrm 40 ?_
  refine WP.cond (t := false) rfl ?_
  refine WP.nrm 40 ?_
  refine WP.reg k_mixed fun nm4 hnm4 => ?_
  refine RegC.m (op_assign rfl) rfl rfl rfl ?_
  refine RegC.done ⟨.inl rfl, ?_⟩
  refine WP.cold (b := nm2 0) 0 [(8, .vptr ([VS AVal.u8 full (b)] ++ ([.i ((blkN (b) : Int))] ++ [.i ((szN (b) : Int))])) (0))] rfl (frzE.cons rfl (.ptr 0) frzE.nil) ?_
  refine WP.nrm 40 ?_
  refine WP.reg k_mixed fun nm5 hnm5 => ?_
  refine RegC.m (op_loadVG rfl k_agg_151 (by simp <;> omega) (prW (by first | omega | (simp only [List.length_append, List.length_map, List.length_cons, List.length_nil, List.length_replicate, List.length_take, List.length_drop, List.length_set]; omega) | (simp <;> omega) | simp_all | rfl))) rfl rfl rfl ?_
  refine RegC.m (op_call rfl k_call_100 (many_calls full (b) (blkN (b)) (szN (b)) (by first | omega | (simp only [List.length_append, List.length_map, List.length_cons, List.length_nil, List.length_replicate, List.length_take, List.length_drop, List.length_set]; omega) | (simp <;> omega) | simp_all) (by first | omega | (simp only [List.length_append, List.length_map, List.length_cons, List.length_nil, List.length_replicate, List.length_take, List.length_drop, List.length_set]; omega) | (simp <;> omega) | simp_all) (by first | omega | (simp only [List.length_append, List.length_map, List.length_cons, List.length_nil, List.length_replicate, List.length_take, List.length_drop, List.length_set]; omega) | (simp <;> omega) | simp_all))) rfl rfl rfl ?_
  refine RegC.m (op_move rfl) rfl rfl rfl ?_
  refine RegC.done ⟨.inl rfl, ?_⟩
  refine WP.nrm 40 ?_
  refine WP.own 10 5 1 rfl (fun own1 => ?_)
  refine WP.loop4 (fun (j : Nat) (X : List UInt8) (m : Nat) (bn : Nat) => [(1, VS AVal.u8 f1 (head)), (3, .vptr ((k).map AVal.u8) (0)), (8, .vptr ([VS AVal.u8 full (b)] ++ ([.i ((blkN (b) : Int))] ++ [.i ((szN (b) : Int))])) (0)), (10, .os (bn) (0) (m) 1 false), (24, .i ((manyS (szN (b)) (blkN (b)) : Int))), (25, .i ((j : Int)))]) (fun (j : Nat) (X : List UInt8) (m : Nat) (bn : Nat) => [(bn, .vec 5 ((X).map AVal.u8))]) (fun (j : Nat) (X : List UInt8) (m : Nat) (bn : Nat) => m = X.length ∧ X = catB k b j ∧ j ≤ manyN b ∧ errB k head b j = 0 ∧ X.length ≤ j * 65536) (fun (j : Nat) (X : List UInt8) (m : Nat) (bn : Nat) => manyN b - j) (0) ([]) (0) (own1) (subE.cons rfl (subE.cons rfl (subE.cons rfl (subE.cons rfl (subE.cons rfl (subE.cons rfl (subE.nil))))))) (by (try simp only [List.set_cons_zero, List.set_cons_succ, List.cons_append, List.nil_append]); exact (.cons_cons _ (List.nil_sublist _))) ⟨rfl, rfl, by omega, rfl, by simp⟩ ?_
  intro j X m bn hI ih0
  obtain ⟨hm, hX, hj, hj0, hXl⟩ := hI
  have hMN : manyS (szN b) (blkN b) = manyN b := rfl
  refine WP.nrm 40 ?_
  refine WP.reg k_mixed fun nm6 hnm6 => ?_
  refine RegC.m (op_lss rfl) rfl rfl rfl ?_
  refine RegC.done ⟨.inl rfl, ?_⟩
  refine WP.nrm 40 ?_
  refine WP.condD rfl (fun h2 => ?_) (fun h2 => ?_)
  ·
    refine WP.nrm 40 ?_
    refine WP.reg k_mixed fun nm7 hnm7 => ?_
    refine RegC.m (op_move rfl) rfl rfl rfl ?_
    refine RegC.m (op_assign rfl) rfl rfl rfl ?_
    refine RegC.done ⟨.inl rfl, ?_⟩
    refine WP.nrm 40 ?_
    refine WP.reg k_mixed fun nm8 hnm8 => ?_
    refine RegC.m (op_loadVG rfl k_agg_151 (by simp <;> omega) (prW (by first | omega | (simp only [List.length_append, List.length_map, List.length_cons, List.length_nil, List.length_replicate, List.length_take, List.length_drop, List.length_set]; omega) | (simp <;> omega) | simp_all | rfl))) rfl rfl rfl ?_
    refine RegC.m (op_loadVG (cells := (k).map AVal.u8) rfl k_agg_23 (by first | omega | (simp only [List.length_append, List.length_map, List.length_cons, List.length_nil, List.length_replicate, List.length_take, List.length_drop, List.length_set]; omega) | (simp <;> omega) | simp_all | rfl) (prW (by first | omega | (simp only [List.length_append, List.length_map, List.length_cons, List.length_nil, List.length_replicate, List.length_take, List.length_drop, List.length_set]; omega) | (simp <;> omega) | simp_all | rfl))) rfl rfl rfl ?_
    refine RegC.m (op_move rfl) rfl rfl rfl ?_
    refine RegC.m (op_move rfl) rfl rfl rfl ?_
    refine RegC.m (op_call rfl k_call_103 (open_calls (k) (by first | omega | (simp only [List.length_append, List.length_map, List.length_cons, List.length_nil, List.length_replicate, List.length_take, List.length_drop, List.length_set]; omega) | (simp <;> omega) | simp_all | rfl) f1 full (head) (b) (by first | omega | (simp only [List.length_append, List.length_map, List.length_cons, List.length_nil, List.length_replicate, List.length_take, List.length_drop, List.length_set]; omega) | (simp <;> omega) | simp_all) (by first | omega | (simp only [List.length_append, List.length_map, List.length_cons, List.length_nil, List.length_replicate, List.length_take, List.length_drop, List.length_set]; omega) | (simp <;> omega) | simp_all) hE (j) (by first | omega | (simp only [List.length_append, List.length_map, List.length_cons, List.length_nil, List.length_replicate, List.length_take, List.length_drop, List.length_set]; omega) | (simp <;> omega) | simp_all))) rfl rfl rfl ?_
    refine RegC.m (op_move rfl) rfl rfl rfl ?_
    refine RegC.m (op_extract rfl rfl) rfl rfl rfl ?_
    refine RegC.m (op_extract rfl rfl) rfl rfl rfl ?_
    refine RegC.m (op_assign rfl) rfl rfl rfl ?_
    refine RegC.m (op_assign rfl) rfl rfl rfl ?_
    refine RegC.done ⟨.inl rfl, ?_⟩
    refine WP.nrm 40 ?_
    refine WP.reg k_mixed fun nm9 hnm9 => ?_
    refine RegC.m (op_move rfl) rfl rfl rfl ?_
    refine RegC.m (OpV.boolE (t := (((openE (k) (head) (b) (j)) : Int) != 0)) (u := false) (op_neq rfl) (by rw [openE_zero.2 (errB_at (by omega) hA)]; rfl)) rfl rfl rfl ?_
    refine RegC.done ⟨.inl rfl, ?_⟩
    refine WP.nrm 40 ?_
    refine WP.cond (t := false) rfl ?_
    refine WP.nrm 40 ?_
    refine WP.reg k_mixed fun nm10 hnm10 => ?_
    refine RegC.m (op_move rfl) rfl rfl rfl ?_
    refine RegC.m (op_move rfl) rfl rfl rfl ?_
    refine RegC.wa (i := 0) (op_appL (f := AVal.u8) (l := X) (l2 := openB (k) (head) (b) (j)) (fun _ => rfl) rfl k_app_26_26 (by first | omega | (simp only [List.length_append, List.length_map, List.length_cons, List.length_nil, List.length_replicate, List.length_take, List.length_drop, List.length_set]; omega) | (simp <;> omega) | simp_all) (by have hql := openB_le k head o j (by omega); omega)) rfl rfl rfl rfl ?_
    refine RegC.m (op_assign rfl) rfl rfl rfl ?_
    refine RegC.done ⟨.inl rfl, ?_⟩
    refine WP.nrm 40 ?_
    refine WP.reg k_mixed fun nm11 hnm11 => ?_
    refine RegC.m (op_addI rfl (by first | omega | (simp only [List.length_append, List.length_map, List.length_cons, List.length_nil, List.length_replicate, List.length_take, List.length_drop, List.length_set]; omega) | (simp <;> omega) | simp_all)) rfl rfl rfl ?_
    refine RegC.m (op_move rfl) rfl rfl rfl ?_
    refine RegC.done ⟨.inl rfl, ?_⟩
    refine WP.nrm 40 ?_
    refine WP.jump (subE.cons rfl (subE.cons rfl (subE.cons rfl (subE.cons rfl (subE.cons rfl (subE.cons rfl (subE.nil))))))) (by (try simp only [List.set_cons_zero, List.set_cons_succ, List.cons_append, List.nil_append]); exact (.cons_cons _ (List.nil_sublist _))) (ih0 (j + 1) (X ++ openB (k) (head) (b) (j)) ((m + (openB (k) (head) (b) (j)).length)) (nm10 0) ?_ ?_)
    · have hg : goodB k head b j := errB_at (by omega) hA; have hq : openB k head b j = plainB k b j := if_pos hg; have hql := plainB_le k o j (by omega); rw [← hq] at hql; exact ⟨by rw [List.length_append, hm], by rw [hq, catB_next, hX], by omega, by rw [errB, if_pos hj0]; exact openE_zero.2 hg, by rw [List.length_append]; omega⟩
    · omega
  ·
    have hjm : j = manyN b := by omega
    rw [hjm] at hX
    refine WP.nrm 40 ?_
    refine WP.reg k_mixed fun nm12 hnm12 => ?_
    refine RegC.m (op_move rfl) rfl rfl rfl ?_
    refine RegC.m (op_assign rfl) rfl rfl rfl ?_
    refine RegC.m (op_assign rfl) rfl rfl rfl ?_
    refine RegC.done ⟨.inl rfl, ?_⟩
    refine WP.nrm 40 ?_
    refine WP.ret1S (b' := b') (vf := fun q => .tup [.os q (0) (m) 1 false, .i (0)]) 0 (ResV.many rfl rfl (.cons (.tmp rfl) (.cons (.tmp rfl) (RessOf.nil)))) rfl (by simp) (tup_named (x := fun q => .os q (0) (m) 1 false) os_named) (.cons_cons _ (List.nil_sublist _)) ?_
    exact ⟨by rw [hm, hX], by rw [hX]⟩

theorem openText_err (k : List UInt8) (hk : k.length = 32) (f1 full : Bool) (head b : List UInt8) (hh : head.length ≤ 4096) (hb : b.length ≤ 16777216) (hE : lookE b = 0) (hA : ¬ errB k head b (manyN b) = 0) : ACalls Try.prog 68 [.agg ((k).map AVal.u8), VS AVal.u8 f1 (head), VS AVal.u8 full (b)] [] [] (.tup [VS AVal.u8 true ([] : List UInt8), .i (errB k head b (manyN b))]) [] := by
  have o := ok_of hE
  have hlen := o.len
  have hlo := o.lo
  have hhi := o.hi
  have hsz := o.sz
  have hml : manyN b ≤ 16384 := manyS_le (szN b) (blkN b) (by omega) (by omega)
  refine ACalls.of_wp' (fn := Try.f68) (n := 44) Try.func68 rfl rfl ?_
  unfold Try.f68
  refine WP.nrm 40 ?_
  refine WP.reg k_mixed fun nm1 hnm1 => ?_
  refine RegC.m (op_boxD rfl) rfl rfl rfl ?_
  refine RegC.m (op_assign rfl) rfl rfl rfl ?_
  refine RegC.m (op_assign rfl) rfl rfl rfl ?_
  refine RegC.done ⟨.inl rfl, ?_⟩
  refine WP.nrm 40 ?_
  refine WP.reg k_mixed fun nm2 hnm2 => ?_
  refine RegC.m (op_move rfl) rfl rfl rfl ?_
  refine RegC.m (op_move rfl) rfl rfl rfl ?_
  refine RegC.m (op_call rfl k_call_102 (lookWith_ok f1 full (head) (b) (by first | omega | (simp only [List.length_append, List.length_map, List.length_cons, List.length_nil, List.length_replicate, List.length_take, List.length_drop, List.length_set]; omega) | (simp <;> omega) | simp_all) (by first | omega | (simp only [List.length_append, List.length_map, List.length_cons, List.length_nil, List.length_replicate, List.length_take, List.length_drop, List.length_set]; omega) | (simp <;> omega) | simp_all) hE)) rfl rfl rfl ?_
  refine RegC.m (op_move rfl) rfl rfl rfl ?_
  refine RegC.m (op_extract rfl rfl) rfl rfl rfl ?_
  refine RegC.m (op_extract rfl rfl) rfl rfl rfl ?_
  refine RegC.a (op_alloc rfl k_zeroS_151) rfl rfl rfl ?_
  refine RegC.w (i := 0) (op_storeW rfl k_agg_151 (by first | omega | (simp only [List.length_append, List.length_map, List.length_cons, List.length_nil, List.length_replicate, List.length_take, List.length_drop, List.length_set]; omega) | (simp <;> omega) | simp_all | rfl) (by first | omega | (simp only [List.length_append, List.length_map, List.length_cons, List.length_nil, List.length_replicate, List.length_take, List.length_drop, List.length_set]; omega) | (simp <;> omega) | simp_all | rfl) (by simp [AVal.scalar])) rfl rfl rfl rfl ?_
  refine RegC.m (op_assign rfl) rfl rfl rfl ?_
  refine RegC.done ⟨.inl rfl, ?_⟩
  refine WP.nrm 40 ?_
  refine WP.reg k_mixed fun nm3 hnm3 => ?_
  refine RegC.m (op_move rfl) rfl rfl rfl ?_
  refine RegC.m (op_neq rfl) rfl rfl rfl ?_
  refine RegC.done ⟨.inl rfl, ?_⟩
  refine WP.nrm 40 ?_
  refine WP.cond (t := false) rfl ?_
  refine WP.nrm 40 ?_
  refine WP.reg k_mixed fun nm4 hnm4 => ?_
  refine RegC.m (op_assign rfl) rfl rfl rfl ?_
  refine RegC.done ⟨.inl rfl, ?_⟩
  refine WP.cold (b := nm2 0) 0 [(8, .vptr ([VS AVal.u8 full (b)] ++ ([.i ((blkN (b) : Int))] ++ [.i ((szN (b) : Int))])) (0))] rfl (frzE.cons rfl (.ptr 0) frzE.nil) ?_
  refine WP.nrm 40 ?_
  refine WP.reg k_mixed fun nm5 hnm5 => ?_
  refine RegC.m (op_loadVG rfl k_agg_151 (by simp <;> omega) (prW (by first | omega | (simp only [List.length_append, List.length_map, List.length_cons, List.length_nil, List.length_replicate, List.length_take, List.length_drop, List.length_set]; omega) | (simp <;> omega) | simp_all | rfl))) rfl rfl rfl ?_
  refine RegC.m (op_call rfl k_call_100 (many_calls full (b) (blkN (b)) (szN (b)) (by first | omega | (simp only [List.length_append, List.length_map, List.length_cons, List.length_nil, List.length_replicate, List.length_take, List.length_drop, List.length_set]; omega) | (simp <;> omega) | simp_all) (by first | omega | (simp only [List.length_append, List.length_map, List.length_cons, List.length_nil, List.length_replicate, List.length_take, List.length_drop, List.length_set]; omega) | (simp <;> omega) | simp_all) (by first | omega | (simp only [List.length_append, List.length_map, List.length_cons, List.length_nil, List.length_replicate, List.length_take, List.length_drop, List.length_set]; omega) | (simp <;> omega) | simp_all))) rfl rfl rfl ?_
  refine RegC.m (op_move rfl) rfl rfl rfl ?_
  refine RegC.done ⟨.inl rfl, ?_⟩
  refine WP.nrm 40 ?_
  refine WP.own 10 5 1 rfl (fun own1 => ?_)
  refine WP.loop4 (fun (j : Nat) (X : List UInt8) (m : Nat) (bn : Nat) => [(1, VS AVal.u8 f1 (head)), (3, .vptr ((k).map AVal.u8) (0)), (8, .vptr ([VS AVal.u8 full (b)] ++ ([.i ((blkN (b) : Int))] ++ [.i ((szN (b) : Int))])) (0)), (10, .os (bn) (0) (m) 1 false), (24, .i ((manyS (szN (b)) (blkN (b)) : Int))), (25, .i ((j : Int)))]) (fun (j : Nat) (X : List UInt8) (m : Nat) (bn : Nat) => [(bn, .vec 5 ((X).map AVal.u8))]) (fun (j : Nat) (X : List UInt8) (m : Nat) (bn : Nat) => m = X.length ∧ X = catB k b j ∧ j ≤ manyN b ∧ errB k head b j = 0 ∧ X.length ≤ j * 65536) (fun (j : Nat) (X : List UInt8) (m : Nat) (bn : Nat) => manyN b - j) (0) ([]) (0) (own1) (subE.cons rfl (subE.cons rfl (subE.cons rfl (subE.cons rfl (subE.cons rfl (subE.cons rfl (subE.nil))))))) (by (try simp only [List.set_cons_zero, List.set_cons_succ, List.cons_append, List.nil_append]); exact (.cons_cons _ (List.nil_sublist _))) ⟨rfl, rfl, by omega, rfl, by simp⟩ ?_
  intro j X m bn hI ih0
  obtain ⟨hm, hX, hj, hj0, hXl⟩ := hI
  have hMN : manyS (szN b) (blkN b) = manyN b := rfl
  refine WP.nrm 40 ?_
  refine WP.reg k_mixed fun nm6 hnm6 => ?_
  refine RegC.m (op_lss rfl) rfl rfl rfl ?_
  refine RegC.done ⟨.inl rfl, ?_⟩
  refine WP.nrm 40 ?_
  refine WP.condD rfl (fun h2 => ?_) (fun h2 => ?_)
  ·
    refine WP.nrm 40 ?_
    refine WP.reg k_mixed fun nm7 hnm7 => ?_
    refine RegC.m (op_move rfl) rfl rfl rfl ?_
    refine RegC.m (op_assign rfl) rfl rfl rfl ?_
    refine RegC.done ⟨.inl rfl, ?_⟩
    refine WP.nrm 40 ?_
    refine WP.reg k_mixed fun nm8 hnm8 => ?_
    refine RegC.m (op_loadVG rfl k_agg_151 (by simp <;> omega) (prW (by first | omega | (simp only [List.length_append, List.length_map, List.length_cons, List.length_nil, List.length_replicate, List.length_take, List.length_drop, List.length_set]; omega) | (simp <;> omega) | simp_all | rfl))) rfl rfl rfl ?_
    refine RegC.m (op_loadVG (cells := (k).map AVal.u8) rfl k_agg_23 (by first | omega | (simp only [List.length_append, List.length_map, List.length_cons, List.length_nil, List.length_replicate, List.length_take, List.length_drop, List.length_set]; omega) | (simp <;> omega) | simp_all | rfl) (prW (by first | omega | (simp only [List.length_append, List.length_map, List.length_cons, List.length_nil, List.length_replicate, List.length_take, List.length_drop, List.length_set]; omega) | (simp <;> omega) | simp_all | rfl))) rfl rfl rfl ?_
    refine RegC.m (op_move rfl) rfl rfl rfl ?_
    refine RegC.m (op_move rfl) rfl rfl rfl ?_
    refine RegC.m (op_call rfl k_call_103 (open_calls (k) (by first | omega | (simp only [List.length_append, List.length_map, List.length_cons, List.length_nil, List.length_replicate, List.length_take, List.length_drop, List.length_set]; omega) | (simp <;> omega) | simp_all | rfl) f1 full (head) (b) (by first | omega | (simp only [List.length_append, List.length_map, List.length_cons, List.length_nil, List.length_replicate, List.length_take, List.length_drop, List.length_set]; omega) | (simp <;> omega) | simp_all) (by first | omega | (simp only [List.length_append, List.length_map, List.length_cons, List.length_nil, List.length_replicate, List.length_take, List.length_drop, List.length_set]; omega) | (simp <;> omega) | simp_all) hE (j) (by first | omega | (simp only [List.length_append, List.length_map, List.length_cons, List.length_nil, List.length_replicate, List.length_take, List.length_drop, List.length_set]; omega) | (simp <;> omega) | simp_all))) rfl rfl rfl ?_
    refine RegC.m (op_move rfl) rfl rfl rfl ?_
    refine RegC.m (op_extract rfl rfl) rfl rfl rfl ?_
    refine RegC.m (op_extract rfl rfl) rfl rfl rfl ?_
    refine RegC.m (op_assign rfl) rfl rfl rfl ?_
    refine RegC.m (op_assign rfl) rfl rfl rfl ?_
    refine RegC.done ⟨.inl rfl, ?_⟩
    refine WP.nrm 40 ?_
    refine WP.reg k_mixed fun nm9 hnm9 => ?_
    refine RegC.m (op_move rfl) rfl rfl rfl ?_
    refine RegC.m (op_neq rfl) rfl rfl rfl ?_
    refine RegC.done ⟨.inl rfl, ?_⟩
    refine WP.nrm 40 ?_
    refine WP.condB rfl (fun h3 => ?_) (fun h3 => ?_)
    ·
      have he1 : ¬ openE k head b j = 0 := by simpa using h3
      have hst : errB k head b (manyN b) = openE k head b j := by rw [errB_stay (show j + 1 ≤ manyN b by omega) (by rw [errB, if_pos hj0]; exact he1), errB, if_pos hj0]
      refine WP.nrm 40 ?_
      refine WP.reg k_mixed fun nm10 hnm10 => ?_
      refine RegC.m (op_move rfl) rfl rfl rfl ?_
      refine RegC.m (op_assign rfl) rfl rfl rfl ?_
      refine RegC.m (op_assign rfl) rfl rfl rfl ?_
      refine RegC.done ⟨.inl rfl, ?_⟩
      refine WP.nrm 40 ?_
      refine WP.retS (ResV.many rfl rfl (.cons (.tmp rfl) (.cons (.tmp rfl) (RessOf.nil)))) (List.nil_sublist _) ?_
      exact ⟨by rw [hst]; rfl, rfl⟩
    ·
      have he0 : openE k head b j = 0 := by simpa using h3
      refine WP.nrm 40 ?_
      refine WP.reg k_mixed fun nm11 hnm11 => ?_
      refine RegC.m (op_move rfl) rfl rfl rfl ?_
      refine RegC.m (op_move rfl) rfl rfl rfl ?_
      refine RegC.wa (i := 0) (op_appL (f := AVal.u8) (l := X) (l2 := openB (k) (head) (b) (j)) (fun _ => rfl) rfl k_app_26_26 (by first | omega | (simp only [List.length_append, List.length_map, List.length_cons, List.length_nil, List.length_replicate, List.length_take, List.length_drop, List.length_set]; omega) | (simp <;> omega) | simp_all) (by have hql := openB_le k head o j (by omega); omega)) rfl rfl rfl rfl ?_
      refine RegC.m (op_assign rfl) rfl rfl rfl ?_
      refine RegC.done ⟨.inl rfl, ?_⟩
      refine WP.nrm 40 ?_
      refine WP.reg k_mixed fun nm12 hnm12 => ?_
      refine RegC.m (op_addI rfl (by first | omega | (simp only [List.length_append, List.length_map, List.length_cons, List.length_nil, List.length_replicate, List.length_take, List.length_drop, List.length_set]; omega) | (simp <;> omega) | simp_all)) rfl rfl rfl ?_
      refine RegC.m (op_move rfl) rfl rfl rfl ?_
      refine RegC.done ⟨.inl rfl, ?_⟩
      refine WP.nrm 40 ?_
      refine WP.jump (subE.cons rfl (subE.cons rfl (subE.cons rfl (subE.cons rfl (subE.cons rfl (subE.cons rfl (subE.nil))))))) (by (try simp only [List.set_cons_zero, List.set_cons_succ, List.cons_append, List.nil_append]); exact (.cons_cons _ (List.nil_sublist _))) (ih0 (j + 1) (X ++ openB (k) (head) (b) (j)) ((m + (openB (k) (head) (b) (j)).length)) (nm11 0) ?_ ?_)
      · have hg : goodB k head b j := openE_zero.1 he0; have hq : openB k head b j = plainB k b j := if_pos hg; have hql := plainB_le k o j (by omega); rw [← hq] at hql; exact ⟨by rw [List.length_append, hm], by rw [hq, catB_next, hX], by omega, by rw [errB, if_pos hj0]; exact openE_zero.2 hg, by rw [List.length_append]; omega⟩
      · omega
  ·
    exact absurd (by rw [← show j = manyN b by omega]; exact hj0) hA

theorem openText_ok (k : List UInt8) (hk : k.length = 32) (f1 full : Bool) (head b : List UInt8) (hh : head.length ≤ 4096) (hb : b.length ≤ 16777216) (hE : lookE b = 0) : ACalls Try.prog 68 [.agg (k.map AVal.u8), VS AVal.u8 f1 head, VS AVal.u8 full b] [] [] (.tup [VS AVal.u8 false (allB k head b), .i (errB k head b (manyN b))]) [] := by
  by_cases hA : errB k head b (manyN b) = 0
  · rw [allB, if_pos hA, hA]; exact cool2 (h := []) (fun b9 => openText_good b9 k hk f1 full head b hh hb hE hA) rfl
  · rw [allB, if_neg hA]; exact ACalls.weakRes (openText_err k hk f1 full head b hh hb hE hA)

theorem opened_bad (k : List UInt8) (hk : k.length = 32) (f1 full : Bool) (head b : List UInt8) (hh : head.length ≤ 4096) (hb : b.length ≤ 16777216) (hE : ¬ lookE b = 0) (i : Int) : ACalls Try.prog 33 [.agg ((k).map AVal.u8), VS AVal.u8 f1 (head), VS AVal.u8 full (b), .i (i)] [] [] (.bool true) [] := by
  refine ACalls.of_wp' (fn := Try.f33) (n := 122) Try.func33 rfl rfl ?_
  unfold Try.f33
  refine WP.nrm 40 ?_
  refine WP.reg k_mixed fun nm1 hnm1 => ?_
  refine RegC.m (op_boxD rfl) rfl rfl rfl ?_
  refine RegC.m (op_assign rfl) rfl rfl rfl ?_
  refine RegC.done ⟨.inl rfl, ?_⟩
  refine WP.nrm 40 ?_
  refine WP.reg k_mixed fun nm2 hnm2 => ?_
  refine RegC.m (op_move rfl) rfl rfl rfl ?_
  refine RegC.m (op_call rfl k_call_64 (blocks_bad full (b) (by first | omega | (simp only [List.length_append, List.length_map, List.length_cons, List.length_nil, List.length_replicate, List.length_take, List.length_drop, List.length_set]; omega) | (simp <;> omega) | simp_all) hE)) rfl rfl rfl ?_
  refine RegC.m (op_move rfl) rfl rfl rfl ?_
  refine RegC.m (op_extract rfl rfl) rfl rfl rfl ?_
  refine RegC.m (op_extract rfl rfl) rfl rfl rfl ?_
  refine RegC.m (op_extract rfl rfl) rfl rfl rfl ?_
  refine RegC.m (op_assign rfl) rfl rfl rfl ?_
  refine RegC.m (op_assign rfl) rfl rfl rfl ?_
  refine RegC.m (op_assign rfl) rfl rfl rfl ?_
  refine RegC.done ⟨.inl rfl, ?_⟩
  refine WP.nrm 40 ?_
  refine WP.reg k_mixed fun nm3 hnm3 => ?_
  refine RegC.m (op_move rfl) rfl rfl rfl ?_
  refine RegC.m (op_call rfl k_call_65 (blocksOf_bad full (b) (by first | omega | (simp only [List.length_append, List.length_map, List.length_cons, List.length_nil, List.length_replicate, List.length_take, List.length_drop, List.length_set]; omega) | (simp <;> omega) | simp_all) hE)) rfl rfl rfl ?_
  refine RegC.m (op_move rfl) rfl rfl rfl ?_
  refine RegC.m (op_extract rfl rfl) rfl rfl rfl ?_
  refine RegC.m (op_extract rfl rfl) rfl rfl rfl ?_
  refine RegC.m (op_extract rfl rfl) rfl rfl rfl ?_
  refine RegC.m (op_assign rfl) rfl rfl rfl ?_
  refine RegC.m (op_assign rfl) rfl rfl rfl ?_
  refine RegC.m (op_assign rfl) rfl rfl rfl ?_
  refine RegC.done ⟨.inl rfl, ?_⟩
  refine WP.nrm 40 ?_
  refine WP.reg k_mixed fun nm4 hnm4 => ?_
  refine RegC.m (op_move rfl) rfl rfl rfl ?_
  refine RegC.m (op_move rfl) rfl rfl rfl ?_
  refine RegC.m (OpV.boolE (t := (((lookE (b)) : Int) != (lookE (b)))) (u := false) (op_neq rfl) (by simp)) rfl rfl rfl ?_
  refine RegC.m (op_move rfl) rfl rfl rfl ?_
  refine RegC.m (op_move rfl) rfl rfl rfl ?_
  refine RegC.m (op_move rfl) rfl rfl rfl ?_
  refine RegC.m (op_neq rfl) rfl rfl rfl ?_
  refine RegC.m (op_pick rfl) rfl rfl rfl ?_
  refine RegC.m (op_move rfl) rfl rfl rfl ?_
  refine RegC.m (op_move rfl) rfl rfl rfl ?_
  refine RegC.m (op_move rfl) rfl rfl rfl ?_
  refine RegC.m (op_neq rfl) rfl rfl rfl ?_
  refine RegC.m (op_pick rfl) rfl rfl rfl ?_
  refine RegC.done ⟨.inl rfl, ?_⟩
  refine WP.nrm 40 ?_
  refine WP.cond (t := false) rfl ?_
  refine WP.nrm 40 ?_
  refine WP.reg k_mixed fun nm5 hnm5 => ?_
  refine RegC.m (op_loadVG (cells := (k).map AVal.u8) rfl k_agg_23 (by first | omega | (simp only [List.length_append, List.length_map, List.length_cons, List.length_nil, List.length_replicate, List.length_take, List.length_drop, List.length_set]; omega) | (simp <;> omega) | simp_all | rfl) (prW (by first | omega | (simp only [List.length_append, List.length_map, List.length_cons, List.length_nil, List.length_replicate, List.length_take, List.length_drop, List.length_set]; omega) | (simp <;> omega) | simp_all | rfl))) rfl rfl rfl ?_
  refine RegC.m (op_move rfl) rfl rfl rfl ?_
  refine RegC.m (op_move rfl) rfl rfl rfl ?_
  refine RegC.m (op_move rfl) rfl rfl rfl ?_
  refine RegC.m (op_call rfl k_call_66 (block_bad (k) (by first | omega | (simp only [List.length_append, List.length_map, List.length_cons, List.length_nil, List.length_replicate, List.length_take, List.length_drop, List.length_set]; omega) | (simp <;> omega) | simp_all | rfl) f1 full (head) (b) (by first | omega | (simp only [List.length_append, List.length_map, List.length_cons, List.length_nil, List.length_replicate, List.length_take, List.length_drop, List.length_set]; omega) | (simp <;> omega) | simp_all) (by first | omega | (simp only [List.length_append, List.length_map, List.length_cons, List.length_nil, List.length_replicate, List.length_take, List.length_drop, List.length_set]; omega) | (simp <;> omega) | simp_all) hE (i))) rfl rfl rfl ?_
  refine RegC.m (op_move rfl) rfl rfl rfl ?_
  refine RegC.m (op_extract rfl rfl) rfl rfl rfl ?_
  refine RegC.m (op_extract rfl rfl) rfl rfl rfl ?_
  refine RegC.m (op_assign rfl) rfl rfl rfl ?_
  refine RegC.m (op_assign rfl) rfl rfl rfl ?_
  refine RegC.done ⟨.inl rfl, ?_⟩
  refine WP.nrm 40 ?_
  refine WP.reg k_mixed fun nm6 hnm6 => ?_
  refine RegC.m (op_loadVG (cells := (k).map AVal.u8) rfl k_agg_23 (by first | omega | (simp only [List.length_append, List.length_map, List.length_cons, List.length_nil, List.length_replicate, List.length_take, List.length_drop, List.length_set]; omega) | (simp <;> omega) | simp_all | rfl) (prW (by first | omega | (simp only [List.length_append, List.length_map, List.length_cons, List.length_nil, List.length_replicate, List.length_take, List.length_drop, List.length_set]; omega) | (simp <;> omega) | simp_all | rfl))) rfl rfl rfl ?_
  refine RegC.m (op_move rfl) rfl rfl rfl ?_
  refine RegC.m (op_move rfl) rfl rfl rfl ?_
  refine RegC.m (op_move rfl) rfl rfl rfl ?_
  refine RegC.m (op_call rfl k_call_67 (blockOf_bad (k) (by first | omega | (simp only [List.length_append, List.length_map, List.length_cons, List.length_nil, List.length_replicate, List.length_take, List.length_drop, List.length_set]; omega) | (simp <;> omega) | simp_all | rfl) f1 full (head) (b) (by first | omega | (simp only [List.length_append, List.length_map, List.length_cons, List.length_nil, List.length_replicate, List.length_take, List.length_drop, List.length_set]; omega) | (simp <;> omega) | simp_all) (by first | omega | (simp only [List.length_append, List.length_map, List.length_cons, List.length_nil, List.length_replicate, List.length_take, List.length_drop, List.length_set]; omega) | (simp <;> omega) | simp_all) hE (i))) rfl rfl rfl ?_
  refine RegC.m (op_move rfl) rfl rfl rfl ?_
  refine RegC.m (op_extract rfl rfl) rfl rfl rfl ?_
  refine RegC.m (op_extract rfl rfl) rfl rfl rfl ?_
  refine RegC.m (op_assign rfl) rfl rfl rfl ?_
  refine RegC.m (op_assign rfl) rfl rfl rfl ?_
  refine RegC.done ⟨.inl rfl, ?_⟩
  refine WP.nrm 40 ?_
  refine WP.reg k_mixed fun nm7 hnm7 => ?_
  refine RegC.m (op_move rfl) rfl rfl rfl ?_
  refine RegC.m (op_move rfl) rfl rfl rfl ?_
  refine RegC.m (OpV.boolE (t := (((lookE (b)) : Int) != (lookE (b)))) (u := false) (op_neq rfl) (by simp)) rfl rfl rfl ?_
  refine RegC.m (op_move rfl) rfl rfl rfl ?_
  refine RegC.m (op_move rfl) rfl rfl rfl ?_
  refine RegC.m (op_move rfl) rfl rfl rfl ?_
  refine RegC.m (OpV.boolE (t := ((([] : List UInt8) : List UInt8) == ([] : List UInt8))) (u := true) (op_call rfl k_call_9 (equal_calls true true (([] : List UInt8)) (([] : List UInt8)))) (by simp)) rfl rfl rfl ?_
  refine RegC.m (op_not rfl) rfl rfl rfl ?_
  refine RegC.m (op_pick rfl) rfl rfl rfl ?_
  refine RegC.done ⟨.inl rfl, ?_⟩
  refine WP.nrm 40 ?_
  refine WP.cond (t := false) rfl ?_
  refine WP.nrm 40 ?_
  refine WP.reg k_mixed fun nm8 hnm8 => ?_
  refine RegC.m (op_loadVG (cells := (k).map AVal.u8) rfl k_agg_23 (by first | omega | (simp only [List.length_append, List.length_map, List.length_cons, List.length_nil, List.length_replicate, List.length_take, List.length_drop, List.length_set]; omega) | (simp <;> omega) | simp_all | rfl) (prW (by first | omega | (simp only [List.length_append, List.length_map, List.length_cons, List.length_nil, List.length_replicate, List.length_take, List.length_drop, List.length_set]; omega) | (simp <;> omega) | simp_all | rfl))) rfl rfl rfl ?_
  refine RegC.m (op_move rfl) rfl rfl rfl ?_
  refine RegC.m (op_move rfl) rfl rfl rfl ?_
  refine RegC.m (op_call rfl k_call_68 (openText_bad (k) (by first | omega | (simp only [List.length_append, List.length_map, List.length_cons, List.length_nil, List.length_replicate, List.length_take, List.length_drop, List.length_set]; omega) | (simp <;> omega) | simp_all | rfl) f1 full (head) (b) (by first | omega | (simp only [List.length_append, List.length_map, List.length_cons, List.length_nil, List.length_replicate, List.length_take, List.length_drop, List.length_set]; omega) | (simp <;> omega) | simp_all) (by first | omega | (simp only [List.length_append, List.length_map, List.length_cons, List.length_nil, List.length_replicate, List.length_take, List.length_drop, List.length_set]; omega) | (simp <;> omega) | simp_all) hE)) rfl rfl rfl ?_
  refine RegC.m (op_move rfl) rfl rfl rfl ?_
  refine RegC.m (op_extract rfl rfl) rfl rfl rfl ?_
  refine RegC.m (op_extract rfl rfl) rfl rfl rfl ?_
  refine RegC.m (op_assign rfl) rfl rfl rfl ?_
  refine RegC.m (op_assign rfl) rfl rfl rfl ?_
  refine RegC.done ⟨.inl rfl, ?_⟩
  refine WP.nrm 40 ?_
  refine WP.reg k_mixed fun nm9 hnm9 => ?_
  refine RegC.m (op_move rfl) rfl rfl rfl ?_
  refine RegC.m (op_lenV (f := AVal.u8) (l := head) rfl k_sl_26) rfl rfl rfl ?_
  refine RegC.m (OpV.boolF (op_gtr rfl) (by omega)) rfl rfl rfl ?_
  refine RegC.m (op_call rfl k_call_29 (when_calls (false) (5))) rfl rfl rfl ?_
  refine RegC.m (op_move rfl) rfl rfl rfl ?_
  refine RegC.m (OpV.weakR (op_buildSlD (vs := List.map AVal.i [(whenS (false) (5)), (lookE (b))]) rfl k_sl_106 k_zeroE_28 rfl rfl rfl (by omega))) rfl rfl rfl ?_
  refine RegC.m (op_call rfl k_call_28 (first_calls false ([(whenS (false) (5)), (lookE (b))]) (by simp))) rfl rfl rfl ?_
  refine RegC.m (op_assign rfl) rfl rfl rfl ?_
  refine RegC.done ⟨.inl rfl, ?_⟩
  refine WP.nrm 40 ?_
  refine WP.reg k_mixed fun nm10 hnm10 => ?_
  refine RegC.m (op_assign rfl) rfl rfl rfl ?_
  refine RegC.done ⟨.inl rfl, ?_⟩
  refine WP.nrm 40 ?_
  refine WP.reg k_mixed fun nm11 hnm11 => ?_
  refine RegC.m (op_assign rfl) rfl rfl rfl ?_
  refine RegC.done ⟨.inl rfl, ?_⟩
  refine WP.nrm 40 ?_
  refine WP.loop1 (fun (j : Nat) => [(1, VS AVal.u8 f1 (head)), (2, VS AVal.u8 full (b)), (4, .vptr ((k).map AVal.u8) (0)), (11, .i ((lookE (b)))), (13, .i (0)), (14, .i ((firstS ([(whenS (false) (5)), (lookE (b))])))), (18, VS AVal.u8 true (([] : List UInt8))), (19, VS AVal.u8 true (([] : List UInt8))), (20, .i ((j : Int)))]) (fun (j : Nat) => []) (fun (j : Nat) => j = 0) (fun (j : Nat) => 0) (0) (subE.cons rfl (subE.cons rfl (subE.cons rfl (subE.cons rfl (subE.cons rfl (subE.cons rfl (subE.cons rfl (subE.cons rfl (subE.cons rfl (subE.nil)))))))))) (by (try simp only [List.set_cons_zero, List.set_cons_succ, List.cons_append, List.nil_append]); exact (List.nil_sublist _)) rfl ?_
  intro j hI ih0
  refine WP.nrm 40 ?_
  refine WP.reg k_mixed fun nm12 hnm12 => ?_
  refine RegC.m (op_move rfl) rfl rfl rfl ?_
  refine RegC.m (OpV.boolE (t := (((firstS ([(whenS (false) (5)), (lookE (b))])) : Int) == 0)) (u := false) (op_eql rfl) (by simpa [firstS, whenS] using hE)) rfl rfl rfl ?_
  refine RegC.m (op_move rfl) rfl rfl rfl ?_
  refine RegC.skip rfl rfl ?_
  refine RegC.skip rfl rfl ?_
  refine RegC.skip rfl rfl ?_
  refine RegC.m (op_pick rfl) rfl rfl rfl ?_
  refine RegC.done ⟨.inl rfl, ?_⟩
  refine WP.nrm 40 ?_
  refine WP.cond (t := false) rfl ?_
  refine WP.nrm 40 ?_
  refine WP.reg k_mixed fun nm13 hnm13 => ?_
  refine RegC.m (op_move rfl) rfl rfl rfl ?_
  refine RegC.m (OpV.boolE (t := (((firstS ([(whenS (false) (5)), (lookE (b))])) : Int) != 0)) (u := true) (op_neq rfl) (by simpa [firstS, whenS] using hE)) rfl rfl rfl ?_
  refine RegC.done ⟨.inl rfl, ?_⟩
  refine WP.nrm 40 ?_
  refine WP.cond (t := true) rfl ?_
  refine WP.nrm 40 ?_
  refine WP.reg k_mixed fun nm14 hnm14 => ?_
  refine RegC.m (op_move rfl) rfl rfl rfl ?_
  refine RegC.m (op_lenV (f := AVal.u8) (l := ([] : List UInt8)) rfl k_sl_26) rfl rfl rfl ?_
  refine RegC.m (OpV.boolE (t := ((((([] : List UInt8)).length : Int) : Int) == 0)) (u := true) (op_eql rfl) (by simp)) rfl rfl rfl ?_
  refine RegC.m (op_move rfl) rfl rfl rfl ?_
  refine RegC.m (op_move rfl) rfl rfl rfl ?_
  refine RegC.m (op_move rfl) rfl rfl rfl ?_
  refine RegC.m (OpV.boolE (t := (((lookE (b)) : Int) == (firstS ([(whenS (false) (5)), (lookE (b))])))) (u := true) (op_eql rfl) (by simp [firstS, whenS])) rfl rfl rfl ?_
  refine RegC.m (op_pick rfl) rfl rfl rfl ?_
  refine RegC.m (op_assign rfl) rfl rfl rfl ?_
  refine RegC.done ⟨.inl rfl, ?_⟩
  refine WP.nrm 40 ?_
  refine WP.retS (ResV.one rfl (.tmp rfl)) (List.nil_sublist _) ?_
  exact ⟨rfl, rfl⟩

theorem opened_ok (k : List UInt8) (hk : k.length = 32) (f1 full : Bool) (head b : List UInt8) (hh : head.length ≤ 4096) (hb : b.length ≤ 16777216) (hE : lookE b = 0) (i : Int) : ACalls Try.prog 33 [.agg ((k).map AVal.u8), VS AVal.u8 f1 (head), VS AVal.u8 full (b), .i (i)] [] [] (.bool true) [] := by
  have o := ok_of hE
  have hlen := o.len
  have hlo := o.lo
  have hhi := o.hi
  have hsz := o.sz
  have hml : manyN b ≤ 16384 := manyS_le (szN b) (blkN b) (by omega) (by omega)
  refine ACalls.of_wp' (fn := Try.f33) (n := 122) Try.func33 rfl rfl ?_
  unfold Try.f33
  refine WP.nrm 40 ?_
  refine WP.reg k_mixed fun nm1 hnm1 => ?_
  refine RegC.m (op_boxD rfl) rfl rfl rfl ?_
  refine RegC.m (op_assign rfl) rfl rfl rfl ?_
  refine RegC.done ⟨.inl rfl, ?_⟩
  refine WP.nrm 40 ?_
  refine WP.reg k_mixed fun nm2 hnm2 => ?_
  refine RegC.m (op_move rfl) rfl rfl rfl ?_
  refine RegC.m (op_call rfl k_call_64 (blocks_ok full (b) (by first | omega | (simp only [List.length_append, List.length_map, List.length_cons, List.length_nil, List.length_replicate, List.length_take, List.length_drop, List.length_set]; omega) | (simp <;> omega) | simp_all) hE)) rfl rfl rfl ?_
  refine RegC.m (op_move rfl) rfl rfl rfl ?_
  refine RegC.m (op_extract rfl rfl) rfl rfl rfl ?_
  refine RegC.m (op_extract rfl rfl) rfl rfl rfl ?_
  refine RegC.m (op_extract rfl rfl) rfl rfl rfl ?_
  refine RegC.m (op_assign rfl) rfl rfl rfl ?_
  refine RegC.m (op_assign rfl) rfl rfl rfl ?_
  refine RegC.m (op_assign rfl) rfl rfl rfl ?_
  refine RegC.done ⟨.inl rfl, ?_⟩
  refine WP.nrm 40 ?_
  refine WP.reg k_mixed fun nm3 hnm3 => ?_
  refine RegC.m (op_move rfl) rfl rfl rfl ?_
  refine RegC.m (op_call rfl k_call_65 (blocksOf_ok full (b) (by first | omega | (simp only [List.length_append, List.length_map, List.length_cons, List.length_nil, List.length_replicate, List.length_take, List.length_drop, List.length_set]; omega) | (simp <;> omega) | simp_all) hE)) rfl rfl rfl ?_
  refine RegC.m (op_move rfl) rfl rfl rfl ?_
  refine RegC.m (op_extract rfl rfl) rfl rfl rfl ?_
  refine RegC.m (op_extract rfl rfl) rfl rfl rfl ?_
  refine RegC.m (op_extract rfl rfl) rfl rfl rfl ?_
  refine RegC.m (op_assign rfl) rfl rfl rfl ?_
  refine RegC.m (op_assign rfl) rfl rfl rfl ?_
  refine RegC.m (op_assign rfl) rfl rfl rfl ?_
  refine RegC.done ⟨.inl rfl, ?_⟩
  refine WP.nrm 40 ?_
  refine WP.reg k_mixed fun nm4 hnm4 => ?_
  refine RegC.m (op_move rfl) rfl rfl rfl ?_
  refine RegC.m (op_move rfl) rfl rfl rfl ?_
  refine RegC.m (op_neq rfl) rfl rfl rfl ?_
  refine RegC.m (op_move rfl) rfl rfl rfl ?_
  refine RegC.m (op_move rfl) rfl rfl rfl ?_
  refine RegC.m (op_move rfl) rfl rfl rfl ?_
  refine RegC.m (OpV.boolE (t := (((blkN (b) : Int) : Int) != (blkN (b) : Int))) (u := false) (op_neq rfl) (by simp)) rfl rfl rfl ?_
  refine RegC.m (op_pick rfl) rfl rfl rfl ?_
  refine RegC.m (op_move rfl) rfl rfl rfl ?_
  refine RegC.m (op_move rfl) rfl rfl rfl ?_
  refine RegC.m (op_move rfl) rfl rfl rfl ?_
  refine RegC.m (OpV.boolE (t := (((manyN (b) : Int) : Int) != (manyN (b) : Int))) (u := false) (op_neq rfl) (by simp)) rfl rfl rfl ?_
  refine RegC.m (op_pick rfl) rfl rfl rfl ?_
  refine RegC.done ⟨.inl rfl, ?_⟩
  refine WP.nrm 40 ?_
  refine WP.cond (t := false) rfl ?_
  refine WP.nrm 40 ?_
  refine WP.reg k_mixed fun nm5 hnm5 => ?_
  refine RegC.m (op_loadVG (cells := (k).map AVal.u8) rfl k_agg_23 (by first | omega | (simp only [List.length_append, List.length_map, List.length_cons, List.length_nil, List.length_replicate, List.length_take, List.length_drop, List.length_set]; omega) | (simp <;> omega) | simp_all | rfl) (prW (by first | omega | (simp only [List.length_append, List.length_map, List.length_cons, List.length_nil, List.length_replicate, List.length_take, List.length_drop, List.length_set]; omega) | (simp <;> omega) | simp_all | rfl))) rfl rfl rfl ?_
  refine RegC.m (op_move rfl) rfl rfl rfl ?_
  refine RegC.m (op_move rfl) rfl rfl rfl ?_
  refine RegC.m (op_move rfl) rfl rfl rfl ?_
  refine RegC.m (op_call rfl k_call_66 (block_ok (k) (by first | omega | (simp only [List.length_append, List.length_map, List.length_cons, List.length_nil, List.length_replicate, List.length_take, List.length_drop, List.length_set]; omega) | (simp <;> omega) | simp_all | rfl) f1 full (head) (b) (by first | omega | (simp only [List.length_append, List.length_map, List.length_cons, List.length_nil, List.length_replicate, List.length_take, List.length_drop, List.length_set]; omega) | (simp <;> omega) | simp_all) (by first | omega | (simp only [List.length_append, List.length_map, List.length_cons, List.length_nil, List.length_replicate, List.length_take, List.length_drop, List.length_set]; omega) | (simp <;> omega) | simp_all) hE (i))) rfl rfl rfl ?_
  refine RegC.m (op_move rfl) rfl rfl rfl ?_
  refine RegC.m (op_extract rfl rfl) rfl rfl rfl ?_
  refine RegC.m (op_extract rfl rfl) rfl rfl rfl ?_
  refine RegC.m (op_assign rfl) rfl rfl rfl ?_
  refine RegC.m (op_assign rfl) rfl rfl rfl ?_
  refine RegC.done ⟨.inl rfl, ?_⟩
  refine WP.nrm 40 ?_
  refine WP.reg k_mixed fun nm6 hnm6 => ?_
  refine RegC.m (op_loadVG (cells := (k).map AVal.u8) rfl k_agg_23 (by first | omega | (simp only [List.length_append, List.length_map, List.length_cons, List.length_nil, List.length_replicate, List.length_take, List.length_drop, List.length_set]; omega) | (simp <;> omega) | simp_all | rfl) (prW (by first | omega | (simp only [List.length_append, List.length_map, List.length_cons, List.length_nil, List.length_replicate, List.length_take, List.length_drop, List.length_set]; omega) | (simp <;> omega) | simp_all | rfl))) rfl rfl rfl ?_
  refine RegC.m (op_move rfl) rfl rfl rfl ?_
  refine RegC.m (op_move rfl) rfl rfl rfl ?_
  refine RegC.m (op_move rfl) rfl rfl rfl ?_
  refine RegC.m (op_call rfl k_call_67 (blockOf_ok (k) (by first | omega | (simp only [List.length_append, List.length_map, List.length_cons, List.length_nil, List.length_replicate, List.length_take, List.length_drop, List.length_set]; omega) | (simp <;> omega) | simp_all | rfl) f1 full (head) (b) (by first | omega | (simp only [List.length_append, List.length_map, List.length_cons, List.length_nil, List.length_replicate, List.length_take, List.length_drop, List.length_set]; omega) | (simp <;> omega) | simp_all) (by first | omega | (simp only [List.length_append, List.length_map, List.length_cons, List.length_nil, List.length_replicate, List.length_take, List.length_drop, List.length_set]; omega) | (simp <;> omega) | simp_all) hE (i))) rfl rfl rfl ?_
  refine RegC.m (op_move rfl) rfl rfl rfl ?_
  refine RegC.m (op_extract rfl rfl) rfl rfl rfl ?_
  refine RegC.m (op_extract rfl rfl) rfl rfl rfl ?_
  refine RegC.m (op_assign rfl) rfl rfl rfl ?_
  refine RegC.m (op_assign rfl) rfl rfl rfl ?_
  refine RegC.done ⟨.inl rfl, ?_⟩
  refine WP.nrm 40 ?_
  refine WP.reg k_mixed fun nm7 hnm7 => ?_
  refine RegC.m (op_move rfl) rfl rfl rfl ?_
  refine RegC.m (op_move rfl) rfl rfl rfl ?_
  refine RegC.m (OpV.boolE (t := (((blkE (k) (head) (b) (i)) : Int) != (blkE (k) (head) (b) (i)))) (u := false) (op_neq rfl) (by simp)) rfl rfl rfl ?_
  refine RegC.m (op_move rfl) rfl rfl rfl ?_
  refine RegC.m (op_move rfl) rfl rfl rfl ?_
  refine RegC.m (op_move rfl) rfl rfl rfl ?_
  refine RegC.m (OpV.boolE (t := ((blkB (k) (head) (b) (i) : List UInt8) == blkB (k) (head) (b) (i))) (u := true) (op_call rfl k_call_9 (equal_calls false false (blkB (k) (head) (b) (i)) (blkB (k) (head) (b) (i)))) (by simp)) rfl rfl rfl ?_
  refine RegC.m (op_not rfl) rfl rfl rfl ?_
  refine RegC.m (op_pick rfl) rfl rfl rfl ?_
  refine RegC.done ⟨.inl rfl, ?_⟩
  refine WP.nrm 40 ?_
  refine WP.cond (t := false) rfl ?_
  refine WP.nrm 40 ?_
  refine WP.reg k_mixed fun nm8 hnm8 => ?_
  refine RegC.m (op_loadVG (cells := (k).map AVal.u8) rfl k_agg_23 (by first | omega | (simp only [List.length_append, List.length_map, List.length_cons, List.length_nil, List.length_replicate, List.length_take, List.length_drop, List.length_set]; omega) | (simp <;> omega) | simp_all | rfl) (prW (by first | omega | (simp only [List.length_append, List.length_map, List.length_cons, List.length_nil, List.length_replicate, List.length_take, List.length_drop, List.length_set]; omega) | (simp <;> omega) | simp_all | rfl))) rfl rfl rfl ?_
  refine RegC.m (op_move rfl) rfl rfl rfl ?_
  refine RegC.m (op_move rfl) rfl rfl rfl ?_
  refine RegC.m (op_call rfl k_call_68 (openText_ok (k) (by first | omega | (simp only [List.length_append, List.length_map, List.length_cons, List.length_nil, List.length_replicate, List.length_take, List.length_drop, List.length_set]; omega) | (simp <;> omega) | simp_all | rfl) f1 full (head) (b) (by first | omega | (simp only [List.length_append, List.length_map, List.length_cons, List.length_nil, List.length_replicate, List.length_take, List.length_drop, List.length_set]; omega) | (simp <;> omega) | simp_all) (by first | omega | (simp only [List.length_append, List.length_map, List.length_cons, List.length_nil, List.length_replicate, List.length_take, List.length_drop, List.length_set]; omega) | (simp <;> omega) | simp_all) hE)) rfl rfl rfl ?_
  refine RegC.m (op_move rfl) rfl rfl rfl ?_
  refine RegC.m (op_extract rfl rfl) rfl rfl rfl ?_
  refine RegC.m (op_extract rfl rfl) rfl rfl rfl ?_
  refine RegC.m (op_assign rfl) rfl rfl rfl ?_
  refine RegC.m (op_assign rfl) rfl rfl rfl ?_
  refine RegC.done ⟨.inl rfl, ?_⟩
  refine WP.nrm 40 ?_
  refine WP.reg k_mixed fun nm9 hnm9 => ?_
  refine RegC.m (op_move rfl) rfl rfl rfl ?_
  refine RegC.m (op_lenV (f := AVal.u8) (l := head) rfl k_sl_26) rfl rfl rfl ?_
  refine RegC.m (OpV.boolF (op_gtr rfl) (by omega)) rfl rfl rfl ?_
  refine RegC.m (op_call rfl k_call_29 (when_calls (false) (5))) rfl rfl rfl ?_
  refine RegC.m (op_move rfl) rfl rfl rfl ?_
  refine RegC.m (OpV.weakR (op_buildSlD (vs := List.map AVal.i [(whenS (false) (5)), 0]) rfl k_sl_106 k_zeroE_28 rfl rfl rfl (by omega))) rfl rfl rfl ?_
  refine RegC.m (op_call rfl k_call_28 (first_calls false ([(whenS (false) (5)), 0]) (by simp))) rfl rfl rfl ?_
  refine RegC.m (op_assign rfl) rfl rfl rfl ?_
  refine RegC.done ⟨.inl rfl, ?_⟩
  refine WP.nrm 40 ?_
  refine WP.reg k_mixed fun nm10 hnm10 => ?_
  refine RegC.m (op_assign rfl) rfl rfl rfl ?_
  refine RegC.done ⟨.inl rfl, ?_⟩
  refine WP.nrm 40 ?_
  refine WP.reg k_mixed fun nm11 hnm11 => ?_
  refine RegC.m (op_assign rfl) rfl rfl rfl ?_
  refine RegC.done ⟨.inl rfl, ?_⟩
  refine WP.nrm 40 ?_
  refine WP.own 19 5 1 rfl (fun own1 => ?_)
  refine WP.loop5 (fun (j : Nat) (e : Int) (X : List UInt8) (m : Nat) (bn : Nat) => [(1, VS AVal.u8 f1 (head)), (2, VS AVal.u8 full (b)), (4, .vptr ((k).map AVal.u8) (0)), (11, .i ((errB (k) (head) (b) (manyN (b))))), (13, .i ((manyN (b) : Int))), (14, .i (e)), (18, VS AVal.u8 false (allB (k) (head) (b))), (19, .os (bn) (0) (m) 1 false), (20, .i ((j : Int)))]) (fun (j : Nat) (e : Int) (X : List UInt8) (m : Nat) (bn : Nat) => [(bn, .vec 5 ((X).map AVal.u8))]) (fun (j : Nat) (e : Int) (X : List UInt8) (m : Nat) (bn : Nat) => m = X.length ∧ j ≤ manyN b ∧ X.length ≤ j * 65536 ∧ e = errB k head b j ∧ (e = 0 → X = catB k b j)) (fun (j : Nat) (e : Int) (X : List UInt8) (m : Nat) (bn : Nat) => manyN b - j) (0) ((firstS ([(whenS (false) (5)), 0]))) ([]) (0) (own1) (subE.cons rfl (subE.cons rfl (subE.cons rfl (subE.cons rfl (subE.cons rfl (subE.cons rfl (subE.cons rfl (subE.cons rfl (subE.cons rfl (subE.nil)))))))))) (by (try simp only [List.set_cons_zero, List.set_cons_succ, List.cons_append, List.nil_append]); exact (.cons_cons _ (List.nil_sublist _))) ⟨rfl, by omega, by simp, by simp [firstS, whenS, errB], fun _ => rfl⟩ ?_
  intro j e X m bn hI ih0
  obtain ⟨hm, hj, hXl, heq, hX⟩ := hI
  refine WP.nrm 40 ?_
  refine WP.reg k_mixed fun nm12 hnm12 => ?_
  refine RegC.m (op_move rfl) rfl rfl rfl ?_
  rcases Bool.eq_false_or_eq_true ((e : Int) == 0) with h2 | h2
  ·
    have hbe : e = 0 := by simpa using h2
    refine RegC.m (OpV.boolE (op_eql rfl) h2) rfl rfl rfl ?_
    refine RegC.m (op_move rfl) rfl rfl rfl ?_
    refine RegC.m (op_move rfl) rfl rfl rfl ?_
    refine RegC.m (op_move rfl) rfl rfl rfl ?_
    refine RegC.m (op_lss rfl) rfl rfl rfl ?_
    refine RegC.m (op_pick rfl) rfl rfl rfl ?_
    refine RegC.done ⟨.inl rfl, ?_⟩
    refine WP.nrm 40 ?_
    refine WP.condD rfl (fun h3 => ?_) (fun h3 => ?_)
    ·
      refine WP.nrm 40 ?_
      refine WP.reg k_mixed fun nm13 hnm13 => ?_
      refine RegC.m (op_loadVG (cells := (k).map AVal.u8) rfl k_agg_23 (by first | omega | (simp only [List.length_append, List.length_map, List.length_cons, List.length_nil, List.length_replicate, List.length_take, List.length_drop, List.length_set]; omega) | (simp <;> omega) | simp_all | rfl) (prW (by first | omega | (simp only [List.length_append, List.length_map, List.length_cons, List.length_nil, List.length_replicate, List.length_take, List.length_drop, List.length_set]; omega) | (simp <;> omega) | simp_all | rfl))) rfl rfl rfl ?_
      refine RegC.m (op_move rfl) rfl rfl rfl ?_
      refine RegC.m (op_move rfl) rfl rfl rfl ?_
      refine RegC.m (op_move rfl) rfl rfl rfl ?_
      refine RegC.m (op_call rfl k_call_67 (blockOf_ok (k) (by first | omega | (simp only [List.length_append, List.length_map, List.length_cons, List.length_nil, List.length_replicate, List.length_take, List.length_drop, List.length_set]; omega) | (simp <;> omega) | simp_all | rfl) f1 full (head) (b) (by first | omega | (simp only [List.length_append, List.length_map, List.length_cons, List.length_nil, List.length_replicate, List.length_take, List.length_drop, List.length_set]; omega) | (simp <;> omega) | simp_all) (by first | omega | (simp only [List.length_append, List.length_map, List.length_cons, List.length_nil, List.length_replicate, List.length_take, List.length_drop, List.length_set]; omega) | (simp <;> omega) | simp_all) hE ((j : Int)))) rfl rfl rfl ?_
      refine RegC.m (op_move rfl) rfl rfl rfl ?_
      refine RegC.m (op_extract rfl rfl) rfl rfl rfl ?_
      refine RegC.m (op_extract rfl rfl) rfl rfl rfl ?_
      refine RegC.m (op_assign rfl) rfl rfl rfl ?_
      refine RegC.m (op_assign rfl) rfl rfl rfl ?_
      refine RegC.done ⟨.inl rfl, ?_⟩
      refine WP.nrm 40 ?_
      refine WP.reg k_mixed fun nm14 hnm14 => ?_
      refine RegC.m (op_move rfl) rfl rfl rfl ?_
      refine RegC.m (op_move rfl) rfl rfl rfl ?_
      refine RegC.wa (i := 0) (op_appL (f := AVal.u8) (l := X) (l2 := blkB (k) (head) (b) ((j : Int))) (fun _ => rfl) rfl k_app_26_26 (by first | omega | (simp only [List.length_append, List.length_map, List.length_cons, List.length_nil, List.length_replicate, List.length_take, List.length_drop, List.length_set]; omega) | (simp <;> omega) | simp_all) (by have hql := blkB_le k head o (j : Int); omega)) rfl rfl rfl rfl ?_
      refine RegC.m (op_assign rfl) rfl rfl rfl ?_
      refine RegC.done ⟨.inl rfl, ?_⟩
      refine WP.nrm 40 ?_
      refine WP.reg k_mixed fun nm15 hnm15 => ?_
      refine RegC.m (op_move rfl) rfl rfl rfl ?_
      refine RegC.m (op_addI rfl (by first | omega | (simp only [List.length_append, List.length_map, List.length_cons, List.length_nil, List.length_replicate, List.length_take, List.length_drop, List.length_set]; omega) | (simp <;> omega) | simp_all)) rfl rfl rfl ?_
      refine RegC.m (op_assign rfl) rfl rfl rfl ?_
      refine RegC.done ⟨.inl rfl, ?_⟩
      refine WP.nrm 40 ?_
      refine WP.jump (subE.cons rfl (subE.cons rfl (subE.cons rfl (subE.cons rfl (subE.cons rfl (subE.cons rfl (subE.cons rfl (subE.cons rfl (subE.cons rfl (subE.nil)))))))))) (by (try simp only [List.set_cons_zero, List.set_cons_succ, List.cons_append, List.nil_append]); exact (.cons_cons _ (List.nil_sublist _))) (ih0 (j + 1) ((blkE (k) (head) (b) ((j : Int)))) (X ++ blkB (k) (head) (b) ((j : Int))) ((m + (blkB (k) (head) (b) ((j : Int))).length)) (nm14 0) ?_ ?_)
      · have hjm : j < manyN b := (by omega); rw [blkB_nat k head b j hjm, blkE_nat k head b j hjm]; have hql := openB_le k head o j hjm; exact ⟨by rw [List.length_append, hm], by omega, by rw [List.length_append]; omega, by rw [errB, if_pos (by rw [← heq]; exact hbe)], fun h0 => by rw [hX hbe, catB_next, openB, if_pos (openE_zero.1 h0)]⟩
      · omega
    ·
      refine WP.nrm 40 ?_
      refine WP.reg k_mixed fun nm16 hnm16 => ?_
      refine RegC.m (op_move rfl) rfl rfl rfl ?_
      refine RegC.m (op_neq rfl) rfl rfl rfl ?_
      refine RegC.done ⟨.inl rfl, ?_⟩
      refine WP.nrm 40 ?_
      refine WP.condB rfl (fun h4 => ?_) (fun h4 => ?_)
      ·
        have hne : ¬ e = 0 := by simpa using h4
        have hst : errB k head b (manyN b) = e := by rw [heq]; exact errB_stay hj (by rw [← heq]; exact hne)
        have hal : allB k head b = [] := by rw [allB, if_neg (by rw [hst]; exact hne)]
        refine WP.nrm 40 ?_
        refine WP.reg k_mixed fun nm17 hnm17 => ?_
        refine RegC.m (op_move rfl) rfl rfl rfl ?_
        refine RegC.m (op_lenV (f := AVal.u8) (l := allB (k) (head) (b)) rfl k_sl_26) rfl rfl rfl ?_
        refine RegC.m (OpV.boolE (t := ((((allB (k) (head) (b)).length : Int) : Int) == 0)) (u := true) (op_eql rfl) (by rw [hal]; rfl)) rfl rfl rfl ?_
        refine RegC.m (op_move rfl) rfl rfl rfl ?_
        refine RegC.m (op_move rfl) rfl rfl rfl ?_
        refine RegC.m (op_move rfl) rfl rfl rfl ?_
        refine RegC.m (OpV.boolE (t := (((errB (k) (head) (b) (manyN (b))) : Int) == e)) (u := true) (op_eql rfl) (by rw [hst]; simp)) rfl rfl rfl ?_
        refine RegC.m (op_pick rfl) rfl rfl rfl ?_
        refine RegC.m (op_assign rfl) rfl rfl rfl ?_
        refine RegC.done ⟨.inl rfl, ?_⟩
        refine WP.nrm 40 ?_
        refine WP.retS (ResV.one rfl (.tmp rfl)) (List.nil_sublist _) ?_
        exact ⟨rfl, rfl⟩
      ·
        have he0 : e = 0 := by simpa using h4
        have hjm : j = manyN b := by omega
        have hX2 := hX he0
        rw [hjm] at hX2 heq
        have hst : errB k head b (manyN b) = 0 := by rw [← heq]; exact he0
        have hal : allB k head b = X := by rw [allB, if_pos hst, hX2]
        refine WP.cold (b := bn) 0 [(19, VS AVal.u8 false (X))] rfl (frzE.cons rfl (frz_os (by first | omega | (simp only [List.length_append, List.length_map, List.length_cons, List.length_nil, List.length_replicate, List.length_take, List.length_drop, List.length_set]; omega) | (simp <;> omega) | simp_all)) frzE.nil) ?_
        refine WP.nrm 40 ?_
        refine WP.reg k_mixed fun nm18 hnm18 => ?_
        refine RegC.m (op_move rfl) rfl rfl rfl ?_
        refine RegC.m (OpV.boolE (t := (((errB (k) (head) (b) (manyN (b))) : Int) == 0)) (u := true) (op_eql rfl) (by rw [hst]; rfl)) rfl rfl rfl ?_
        refine RegC.m (op_move rfl) rfl rfl rfl ?_
        refine RegC.m (op_move rfl) rfl rfl rfl ?_
        refine RegC.m (op_move rfl) rfl rfl rfl ?_
        refine RegC.m (OpV.boolE (t := ((allB (k) (head) (b) : List UInt8) == X)) (u := true) (op_call rfl k_call_9 (equal_calls false false (allB (k) (head) (b)) (X))) (by rw [hal]; simp)) rfl rfl rfl ?_
        refine RegC.m (op_pick rfl) rfl rfl rfl ?_
        refine RegC.m (op_assign rfl) rfl rfl rfl ?_
        refine RegC.done ⟨.inl rfl, ?_⟩
        refine WP.nrm 40 ?_
        refine WP.retS (ResV.one rfl (.tmp rfl)) (List.nil_sublist _) ?_
        exact ⟨rfl, rfl⟩
  ·
    have hbe : ¬ e = 0 := by simpa using h2
    refine RegC.m (OpV.boolE (op_eql rfl) h2) rfl rfl rfl ?_
    refine RegC.m (op_move rfl) rfl rfl rfl ?_
    refine RegC.skip rfl rfl ?_
    refine RegC.skip rfl rfl ?_
    refine RegC.skip rfl rfl ?_
    refine RegC.m (op_pick rfl) rfl rfl rfl ?_
    refine RegC.done ⟨.inl rfl, ?_⟩
    refine WP.nrm 40 ?_
    refine WP.cond (t := false) rfl ?_
    refine WP.nrm 40 ?_
    refine WP.reg k_mixed fun nm19 hnm19 => ?_
    refine RegC.m (op_move rfl) rfl rfl rfl ?_
    refine RegC.m (op_neq rfl) rfl rfl rfl ?_
    refine RegC.done ⟨.inl rfl, ?_⟩
    refine WP.nrm 40 ?_
    refine WP.condB rfl (fun h5 => ?_) (fun h5 => ?_)
    ·
      have hne : ¬ e = 0 := by simpa using h5
      have hst : errB k head b (manyN b) = e := by rw [heq]; exact errB_stay hj (by rw [← heq]; exact hne)
      have hal : allB k head b = [] := by rw [allB, if_neg (by rw [hst]; exact hne)]
      refine WP.nrm 40 ?_
      refine WP.reg k_mixed fun nm20 hnm20 => ?_
      refine RegC.m (op_move rfl) rfl rfl rfl ?_
      refine RegC.m (op_lenV (f := AVal.u8) (l := allB (k) (head) (b)) rfl k_sl_26) rfl rfl rfl ?_
      refine RegC.m (OpV.boolE (t := ((((allB (k) (head) (b)).length : Int) : Int) == 0)) (u := true) (op_eql rfl) (by rw [hal]; rfl)) rfl rfl rfl ?_
      refine RegC.m (op_move rfl) rfl rfl rfl ?_
      refine RegC.m (op_move rfl) rfl rfl rfl ?_
      refine RegC.m (op_move rfl) rfl rfl rfl ?_
      refine RegC.m (OpV.boolE (t := (((errB (k) (head) (b) (manyN (b))) : Int) == e)) (u := true) (op_eql rfl) (by rw [hst]; simp)) rfl rfl rfl ?_
      refine RegC.m (op_pick rfl) rfl rfl rfl ?_
      refine RegC.m (op_assign rfl) rfl rfl rfl ?_
      refine RegC.done ⟨.inl rfl, ?_⟩
      refine WP.nrm 40 ?_
      refine WP.retS (ResV.one rfl (.tmp rfl)) (List.nil_sublist _) ?_
      exact ⟨rfl, rfl⟩
    ·
      have he0 : e = 0 := by simpa using h5
      have hjm : j = manyN b := by omega
      have hX2 := hX he0
      rw [hjm] at hX2 heq
      have hst : errB k head b (manyN b) = 0 := by rw [← heq]; exact he0
      have hal : allB k head b = X := by rw [allB, if_pos hst, hX2]
      refine WP.cold (b := bn) 0 [(19, VS AVal.u8 false (X))] rfl (frzE.cons rfl (frz_os (by first | omega | (simp only [List.length_append, List.length_map, List.length_cons, List.length_nil, List.length_replicate, List.length_take, List.length_drop, List.length_set]; omega) | (simp <;> omega) | simp_all)) frzE.nil) ?_
      refine WP.nrm 40 ?_
      refine WP.reg k_mixed fun nm21 hnm21 => ?_
      refine RegC.m (op_move rfl) rfl rfl rfl ?_
      refine RegC.m (OpV.boolE (t := (((errB (k) (head) (b) (manyN (b))) : Int) == 0)) (u := true) (op_eql rfl) (by rw [hst]; rfl)) rfl rfl rfl ?_
      refine RegC.m (op_move rfl) rfl rfl rfl ?_
      refine RegC.m (op_move rfl) rfl rfl rfl ?_
      refine RegC.m (op_move rfl) rfl rfl rfl ?_
      refine RegC.m (OpV.boolE (t := ((allB (k) (head) (b) : List UInt8) == X)) (u := true) (op_call rfl k_call_9 (equal_calls false false (allB (k) (head) (b)) (X))) (by rw [hal]; simp)) rfl rfl rfl ?_
      refine RegC.m (op_pick rfl) rfl rfl rfl ?_
      refine RegC.m (op_assign rfl) rfl rfl rfl ?_
      refine RegC.done ⟨.inl rfl, ?_⟩
      refine WP.nrm 40 ?_
      refine WP.retS (ResV.one rfl (.tmp rfl)) (List.nil_sublist _) ?_
      exact ⟨rfl, rfl⟩

theorem opened_calls (k : List UInt8) (hk : k.length = 32) (f1 full : Bool) (head b : List UInt8) (hh : head.length ≤ 4096) (hb : b.length ≤ 16777216) (i : Int) : ACalls Try.prog 33 [.agg (k.map AVal.u8), VS AVal.u8 f1 head, VS AVal.u8 full b, .i i] [] [] (.bool true) [] := by
  by_cases hE : lookE b = 0
  · exact opened_ok k hk f1 full head b hh hb hE i
  · exact opened_bad k hk f1 full head b hh hb hE i
end Go.Proofs.Try
