import Derived.Test.YtdnccchcflaphaaK3
import Derived.Test.YtdnccchcflaphaaS6
namespace Go.Proofs.Try
open Go Go.Kw
set_option linter.unusedVariables false
set_option linter.unusedSimpArgs false
set_option maxRecDepth 100000
set_option maxHeartbeats 400000
theorem block_v (b : Nat) (s r : List UInt8) (h t : Nat) (hs : s.length = 64) (hr : r.length = 32) (x : List UInt8) (hx : 32 ≤ x.length) : ACalls Try.prog 74 [.ptr (b) (0), .vptr ((x).map AVal.u8) (0)] [(b, .vec 82 (((s).map AVal.u8) ++ (((r).map AVal.u8) ++ ([.i ((h : Int))] ++ [.i ((t : Int))]))))] [] (.tup []) [(b, .vec 82 (((absorb s x).map AVal.u8) ++ (((r).map AVal.u8) ++ ([.i ((h : Int))] ++ [.i ((t : Int))]))))] := by
  refine ACalls.of_wp' (fn := Try.f74) (n := 33) Try.func74 rfl rfl ?_
  unfold Try.f74
  refine WP.nrm 40 ?_
  refine WP.reg k_mixed fun nm1 hnm1 => ?_
  refine RegC.m (op_move rfl) rfl rfl rfl ?_
  refine RegC.m (op_move rfl) rfl rfl rfl ?_
  refine RegC.done ⟨.inl rfl, ?_⟩
  refine WP.nrm 40 ?_
  refine WP.loop2 (fun (i : Int) (S : List UInt8) => [(0, .ptr (b) (0)), (6, .vptr ((x).map AVal.u8) (0)), (7, .i (i))]) (fun (i : Int) (S : List UInt8) => [(b, .vec 82 (((S).map AVal.u8) ++ (((r).map AVal.u8) ++ ([.i ((h : Int))] ++ [.i ((t : Int))]))))]) (fun (i : Int) (S : List UInt8) => ∃ j : Nat, i = j ∧ j ≤ 32 ∧ S.length = 64 ∧ loopS 32 (xorF x) j S = xor32 s x) (fun (i : Int) (S : List UInt8) => (32 - i).toNat) _ _ (subE.cons rfl (subE.cons rfl (subE.cons rfl (subE.nil)))) (.cons_cons _ (List.nil_sublist _)) ⟨0, rfl, by omega, by first | (with_reducible assumption) | simp | simp [*], rfl⟩ ?_
  intro i S hI ih0
  obtain ⟨j, rfl, hj, lS, qS⟩ := hI
  refine WP.nrm 40 ?_
  refine WP.reg k_mixed fun nm2 hnm2 => ?_
  refine RegC.m (op_lss rfl) rfl rfl rfl ?_
  refine RegC.done ⟨.inl rfl, ?_⟩
  refine WP.nrm 40 ?_
  refine WP.condD rfl (fun h1 => ?_) (fun h1 => ?_)
  ·
    refine WP.nrm 40 ?_
    refine WP.reg k_mixed fun nm3 hnm3 => ?_
    refine RegC.m (op_move rfl) rfl rfl rfl ?_
    refine RegC.m (op_nilCheckV rfl) rfl rfl rfl ?_
    refine RegC.m (op_iVA (j) rfl k_arr_22 (by first | omega | (simp only [List.length_append, List.length_map, List.length_cons, List.length_nil, List.length_replicate, List.length_take, List.length_drop, List.length_set]; omega) | (simp <;> omega) | simp_all) (by first | omega | (simp only [List.length_append, List.length_map, List.length_cons, List.length_nil, List.length_replicate, List.length_take, List.length_drop, List.length_set]; omega) | (simp <;> omega) | simp_all)) rfl rfl rfl ?_
    refine RegC.m (op_loadVM (f := AVal.u8) (l := x) (n := j) rfl k_scal_5 (by first | omega | (simp only [List.length_append, List.length_map, List.length_cons, List.length_nil, List.length_replicate, List.length_take, List.length_drop, List.length_set]; omega) | (simp <;> omega) | simp_all)) rfl rfl rfl ?_
    refine RegC.m (op_assign rfl) rfl rfl rfl ?_
    refine RegC.m (op_assign rfl) rfl rfl rfl ?_
    refine RegC.done ⟨.inr rfl, ?_⟩
    refine WP.nrm 40 ?_
    refine WP.reg k_mixed fun nm4 hnm4 => ?_
    refine RegC.m (op_move rfl) rfl rfl rfl ?_
    refine RegC.m (op_move rfl) rfl rfl rfl ?_
    refine RegC.m (op_nilCheck rfl) rfl rfl rfl ?_
    refine RegC.m (op_fieldE (off := 0) rfl k_fld_82_0 rfl) rfl rfl rfl ?_
    refine RegC.m (op_iAo (off := 0) (r := j) (j) rfl k_arr_76 (by first | omega | (simp only [List.length_append, List.length_map, List.length_cons, List.length_nil, List.length_replicate, List.length_take, List.length_drop, List.length_set]; omega) | (simp <;> omega) | simp_all) (by first | omega | (simp only [List.length_append, List.length_map, List.length_cons, List.length_nil, List.length_replicate, List.length_take, List.length_drop, List.length_set]; omega) | (simp <;> omega) | simp_all) (by omega)) rfl rfl rfl ?_
    refine RegC.q (i := 0) (op_load (off := j) rfl k_scal_5 (sgH (getM (f := AVal.u8) (l := S) (n := j) (by first | omega | (simp only [List.length_append, List.length_map, List.length_cons, List.length_nil, List.length_replicate, List.length_take, List.length_drop, List.length_set]; omega) | (simp <;> omega) | simp_all)))) rfl rfl rfl rfl ?_
    refine RegC.m (op_move rfl) rfl rfl rfl ?_
    refine RegC.m (op_xor8 rfl) rfl rfl rfl ?_
    refine RegC.m (op_nilCheck rfl) rfl rfl rfl ?_
    refine RegC.m (op_fieldE (off := 0) rfl k_fld_82_0 rfl) rfl rfl rfl ?_
    refine RegC.m (op_iAo (off := 0) (r := j) (j) rfl k_arr_76 (by first | omega | (simp only [List.length_append, List.length_map, List.length_cons, List.length_nil, List.length_replicate, List.length_take, List.length_drop, List.length_set]; omega) | (simp <;> omega) | simp_all) (by first | omega | (simp only [List.length_append, List.length_map, List.length_cons, List.length_nil, List.length_replicate, List.length_take, List.length_drop, List.length_set]; omega) | (simp <;> omega) | simp_all) (by omega)) rfl rfl rfl ?_
    refine RegC.w (i := 0) (op_storeX (off := j) (v := .u8 (((S)[j]! ^^^ (x)[j]!))) rfl k_scal_5 rfl (by simp <;> omega) (suH (by simp <;> omega) (suM (f := AVal.u8) (l := S) (i := j) (((S)[j]! ^^^ (x)[j]!))))) rfl rfl rfl rfl ?_
    refine RegC.done ⟨.inr rfl, ?_⟩
    refine WP.nrm 40 ?_
    refine WP.reg k_mixed fun nm5 hnm5 => ?_
    refine RegC.m (op_addI rfl (by first | omega | (simp only [List.length_append, List.length_map, List.length_cons, List.length_nil, List.length_replicate, List.length_take, List.length_drop, List.length_set]; omega) | (simp <;> omega) | simp_all)) rfl rfl rfl ?_
    refine RegC.m (op_move rfl) rfl rfl rfl ?_
    refine RegC.done ⟨.inl rfl, ?_⟩
    refine WP.nrm 40 ?_
    refine WP.jump (subE.cons rfl (subE.cons rfl (subE.cons rfl (subE.nil)))) (.cons_cons _ (List.nil_sublist _)) (ih0 _ _ ?_ ?_)
    · exact ⟨j + 1, by push_cast; rfl, by omega, by simp [lS], by rw [← qS, loopS_next (by omega : j < 32)]; rfl⟩
    · omega
  ·
    have ej : j = 32 := by omega
    subst ej
    rw [loopS_end] at qS
    refine WP.nrm 40 ?_
    refine WP.reg k_mixed fun nm6 hnm6 => ?_
    refine RegC.m (op_move rfl) rfl rfl rfl ?_
    refine RegC.m (op_move rfl) rfl rfl rfl ?_
    refine RegC.m (op_nilCheck rfl) rfl rfl rfl ?_
    refine RegC.m (op_fieldE (off := 0) rfl k_fld_82_0 rfl) rfl rfl rfl ?_
    refine RegC.q (i := 0) (op_loadG (off := 0) rfl k_agg_76 (by simp <;> omega) (prH (by simp <;> omega) (prW (by first | (simp only [List.length_append, List.length_map, List.length_cons, List.length_nil, List.length_replicate, List.length_take, List.length_drop, List.length_set]; omega) | (simp <;> omega) | simp_all | rfl)))) rfl rfl rfl rfl ?_
    refine RegC.m (op_call rfl k_call_70 (stir_calls (S) (by first | omega | (simp only [List.length_append, List.length_map, List.length_cons, List.length_nil, List.length_replicate, List.length_take, List.length_drop, List.length_set]; omega) | (simp <;> omega) | simp_all))) rfl rfl rfl ?_
    refine RegC.m (op_nilCheck rfl) rfl rfl rfl ?_
    refine RegC.m (op_fieldE (off := 0) rfl k_fld_82_0 rfl) rfl rfl rfl ?_
    refine RegC.w (i := 0) (op_storeG (off := 0) rfl k_agg_76 (by first | (simp only [List.length_append, List.length_map, List.length_cons, List.length_nil, List.length_replicate, List.length_take, List.length_drop, List.length_set]; omega) | (simp <;> omega) | simp_all | rfl) (by first | exact allS (fun _ => rfl) | simp [AVal.scalar]) (by simp <;> omega) (puH (by simp <;> omega) (puW (by first | (simp only [List.length_append, List.length_map, List.length_cons, List.length_nil, List.length_replicate, List.length_take, List.length_drop, List.length_set]; omega) | (simp <;> omega) | simp_all | rfl)))) rfl rfl rfl rfl ?_
    refine RegC.done ⟨.inl rfl, ?_⟩
    refine WP.nrm 40 ?_
    refine WP.finS (ResV.many rfl rfl (RessOf.nil)) (.cons_cons _ (List.nil_sublist _)) ?_
    exact ⟨rfl, by rw [qS]; rfl⟩

theorem block_a (b : Nat) (s r : List UInt8) (h t : Nat) (hs : s.length = 64) (hr : r.length = 32) : ACalls Try.prog 74 [.ptr (b) (0), .ptr (b) (64)] [(b, .vec 82 (((s).map AVal.u8) ++ (((r).map AVal.u8) ++ ([.i ((h : Int))] ++ [.i ((t : Int))]))))] [] (.tup []) [(b, .vec 82 (((absorb s r).map AVal.u8) ++ (((r).map AVal.u8) ++ ([.i ((h : Int))] ++ [.i ((t : Int))]))))] := by
  refine ACalls.of_wp' (fn := Try.f74) (n := 33) Try.func74 rfl rfl ?_
  unfold Try.f74
  refine WP.nrm 40 ?_
  refine WP.reg k_mixed fun nm1 hnm1 => ?_
  refine RegC.m (op_move rfl) rfl rfl rfl ?_
  refine RegC.m (op_move rfl) rfl rfl rfl ?_
  refine RegC.done ⟨.inl rfl, ?_⟩
  refine WP.nrm 40 ?_
  refine WP.loop2 (fun (i : Int) (S : List UInt8) => [(0, .ptr (b) (0)), (6, .ptr (b) (64)), (7, .i (i))]) (fun (i : Int) (S : List UInt8) => [(b, .vec 82 (((S).map AVal.u8) ++ (((r).map AVal.u8) ++ ([.i ((h : Int))] ++ [.i ((t : Int))]))))]) (fun (i : Int) (S : List UInt8) => ∃ j : Nat, i = j ∧ j ≤ 32 ∧ S.length = 64 ∧ loopS 32 (xorF r) j S = xor32 s r) (fun (i : Int) (S : List UInt8) => (32 - i).toNat) _ _ (subE.cons rfl (subE.cons rfl (subE.cons rfl (subE.nil)))) (.cons_cons _ (List.nil_sublist _)) ⟨0, rfl, by omega, by first | (with_reducible assumption) | simp | simp [*], rfl⟩ ?_
  intro i S hI ih0
  obtain ⟨j, rfl, hj, lS, qS⟩ := hI
  refine WP.nrm 40 ?_
  refine WP.reg k_mixed fun nm2 hnm2 => ?_
  refine RegC.m (op_lss rfl) rfl rfl rfl ?_
  refine RegC.done ⟨.inl rfl, ?_⟩
  refine WP.nrm 40 ?_
  refine WP.condD rfl (fun h1 => ?_) (fun h1 => ?_)
  ·
    refine WP.nrm 40 ?_
    refine WP.reg k_mixed fun nm3 hnm3 => ?_
    refine RegC.m (op_move rfl) rfl rfl rfl ?_
    refine RegC.m (op_nilCheck rfl) rfl rfl rfl ?_
    refine RegC.m (op_iAo (off := 64) (r := (64 + j)) (j) rfl k_arr_22 (by first | omega | (simp only [List.length_append, List.length_map, List.length_cons, List.length_nil, List.length_replicate, List.length_take, List.length_drop, List.length_set]; omega) | (simp <;> omega) | simp_all) (by first | omega | (simp only [List.length_append, List.length_map, List.length_cons, List.length_nil, List.length_replicate, List.length_take, List.length_drop, List.length_set]; omega) | (simp <;> omega) | simp_all) (by omega)) rfl rfl rfl ?_
    refine RegC.q (i := 0) (op_load (off := (64 + j)) rfl k_scal_5 (sgN 64 (j) (by omega) (by first | (simp only [List.length_append, List.length_map, List.length_cons, List.length_nil, List.length_replicate, List.length_take, List.length_drop, List.length_set]; omega) | (simp <;> omega) | simp_all | rfl) (sgH (getM (f := AVal.u8) (l := r) (n := j) (by first | omega | (simp only [List.length_append, List.length_map, List.length_cons, List.length_nil, List.length_replicate, List.length_take, List.length_drop, List.length_set]; omega) | (simp <;> omega) | simp_all))))) rfl rfl rfl rfl ?_
    refine RegC.m (op_assign rfl) rfl rfl rfl ?_
    refine RegC.m (op_assign rfl) rfl rfl rfl ?_
    refine RegC.done ⟨.inr rfl, ?_⟩
    refine WP.nrm 40 ?_
    refine WP.reg k_mixed fun nm4 hnm4 => ?_
    refine RegC.m (op_move rfl) rfl rfl rfl ?_
    refine RegC.m (op_move rfl) rfl rfl rfl ?_
    refine RegC.m (op_nilCheck rfl) rfl rfl rfl ?_
    refine RegC.m (op_fieldE (off := 0) rfl k_fld_82_0 rfl) rfl rfl rfl ?_
    refine RegC.m (op_iAo (off := 0) (r := j) (j) rfl k_arr_76 (by first | omega | (simp only [List.length_append, List.length_map, List.length_cons, List.length_nil, List.length_replicate, List.length_take, List.length_drop, List.length_set]; omega) | (simp <;> omega) | simp_all) (by first | omega | (simp only [List.length_append, List.length_map, List.length_cons, List.length_nil, List.length_replicate, List.length_take, List.length_drop, List.length_set]; omega) | (simp <;> omega) | simp_all) (by omega)) rfl rfl rfl ?_
    refine RegC.q (i := 0) (op_load (off := j) rfl k_scal_5 (sgH (getM (f := AVal.u8) (l := S) (n := j) (by first | omega | (simp only [List.length_append, List.length_map, List.length_cons, List.length_nil, List.length_replicate, List.length_take, List.length_drop, List.length_set]; omega) | (simp <;> omega) | simp_all)))) rfl rfl rfl rfl ?_
    refine RegC.m (op_move rfl) rfl rfl rfl ?_
    refine RegC.m (op_xor8 rfl) rfl rfl rfl ?_
    refine RegC.m (op_nilCheck rfl) rfl rfl rfl ?_
    refine RegC.m (op_fieldE (off := 0) rfl k_fld_82_0 rfl) rfl rfl rfl ?_
    refine RegC.m (op_iAo (off := 0) (r := j) (j) rfl k_arr_76 (by first | omega | (simp only [List.length_append, List.length_map, List.length_cons, List.length_nil, List.length_replicate, List.length_take, List.length_drop, List.length_set]; omega) | (simp <;> omega) | simp_all) (by first | omega | (simp only [List.length_append, List.length_map, List.length_cons, List.length_nil, List.length_replicate, List.length_take, List.length_drop, List.length_set]; omega) | (simp <;> omega) | simp_all) (by omega)) rfl rfl rfl ?_
    refine RegC.w (i := 0) (op_storeX (off := j) (v := .u8 (((S)[j]! ^^^ (r)[j]!))) rfl k_scal_5 rfl (by simp <;> omega) (suH (by simp <;> omega) (suM (f := AVal.u8) (l := S) (i := j) (((S)[j]! ^^^ (r)[j]!))))) rfl rfl rfl rfl ?_
    refine RegC.done ⟨.inr rfl, ?_⟩
    refine WP.nrm 40 ?_
    refine WP.reg k_mixed fun nm5 hnm5 => ?_
    refine RegC.m (op_addI rfl (by first | omega | (simp only [List.length_append, List.length_map, List.length_cons, List.length_nil, List.length_replicate, List.length_take, List.length_drop, List.length_set]; omega) | (simp <;> omega) | simp_all)) rfl rfl rfl ?_
    refine RegC.m (op_move rfl) rfl rfl rfl ?_
    refine RegC.done ⟨.inl rfl, ?_⟩
    refine WP.nrm 40 ?_
    refine WP.jump (subE.cons rfl (subE.cons rfl (subE.cons rfl (subE.nil)))) (.cons_cons _ (List.nil_sublist _)) (ih0 _ _ ?_ ?_)
    · exact ⟨j + 1, by push_cast; rfl, by omega, by simp [lS], by rw [← qS, loopS_next (by omega : j < 32)]; rfl⟩
    · omega
  ·
    have ej : j = 32 := by omega
    subst ej
    rw [loopS_end] at qS
    refine WP.nrm 40 ?_
    refine WP.reg k_mixed fun nm6 hnm6 => ?_
    refine RegC.m (op_move rfl) rfl rfl rfl ?_
    refine RegC.m (op_move rfl) rfl rfl rfl ?_
    refine RegC.m (op_nilCheck rfl) rfl rfl rfl ?_
    refine RegC.m (op_fieldE (off := 0) rfl k_fld_82_0 rfl) rfl rfl rfl ?_
    refine RegC.q (i := 0) (op_loadG (off := 0) rfl k_agg_76 (by simp <;> omega) (prH (by simp <;> omega) (prW (by first | (simp only [List.length_append, List.length_map, List.length_cons, List.length_nil, List.length_replicate, List.length_take, List.length_drop, List.length_set]; omega) | (simp <;> omega) | simp_all | rfl)))) rfl rfl rfl rfl ?_
    refine RegC.m (op_call rfl k_call_70 (stir_calls (S) (by first | omega | (simp only [List.length_append, List.length_map, List.length_cons, List.length_nil, List.length_replicate, List.length_take, List.length_drop, List.length_set]; omega) | (simp <;> omega) | simp_all))) rfl rfl rfl ?_
    refine RegC.m (op_nilCheck rfl) rfl rfl rfl ?_
    refine RegC.m (op_fieldE (off := 0) rfl k_fld_82_0 rfl) rfl rfl rfl ?_
    refine RegC.w (i := 0) (op_storeG (off := 0) rfl k_agg_76 (by first | (simp only [List.length_append, List.length_map, List.length_cons, List.length_nil, List.length_replicate, List.length_take, List.length_drop, List.length_set]; omega) | (simp <;> omega) | simp_all | rfl) (by first | exact allS (fun _ => rfl) | simp [AVal.scalar]) (by simp <;> omega) (puH (by simp <;> omega) (puW (by first | (simp only [List.length_append, List.length_map, List.length_cons, List.length_nil, List.length_replicate, List.length_take, List.length_drop, List.length_set]; omega) | (simp <;> omega) | simp_all | rfl)))) rfl rfl rfl rfl ?_
    refine RegC.done ⟨.inl rfl, ?_⟩
    refine WP.nrm 40 ?_
    refine WP.finS (ResV.many rfl rfl (RessOf.nil)) (.cons_cons _ (List.nil_sublist _)) ?_
    exact ⟨rfl, by rw [qS]; rfl⟩

theorem take_A (b : Nat) (s r : List UInt8) (t : Nat) (full : Bool) (x : List UInt8) (hs : s.length = 64) (hr : r.length = 32) : ACalls Try.prog 38 [.ptr (b) (0), VS AVal.u8 full (x)] [(b, .vec 82 (((s).map AVal.u8) ++ (((r).map AVal.u8) ++ ([.i ((0 : Int))] ++ [.i ((t : Int))]))))] [] (.tup []) [(b, .vec 82 ((((takeS ⟨s, r, 0⟩ x).s).map AVal.u8) ++ ((((takeS ⟨s, r, 0⟩ x).r).map AVal.u8) ++ ([.i (((takeS ⟨s, r, 0⟩ x).h : Int))] ++ [.i ((t : Int))]))))] := by
  refine ACalls.of_wp' (fn := Try.f38) (n := 62) Try.func38 rfl rfl ?_
  unfold Try.f38
  refine WP.nrm 40 ?_
  refine WP.reg k_mixed fun nm1 hnm1 => ?_
  refine RegC.m (op_move rfl) rfl rfl rfl ?_
  refine RegC.m (op_nilCheck rfl) rfl rfl rfl ?_
  refine RegC.m (op_fieldE (off := 0) rfl k_fld_82_2 rfl) rfl rfl rfl ?_
  refine RegC.q (i := 0) (op_load (off := 96) rfl k_scal_3 (sgN 64 32 (by omega) (by first | (simp only [List.length_append, List.length_map, List.length_cons, List.length_nil, List.length_replicate, List.length_take, List.length_drop, List.length_set]; omega) | (simp <;> omega) | simp_all | rfl) (sgN 32 (0) (by omega) (by first | (simp only [List.length_append, List.length_map, List.length_cons, List.length_nil, List.length_replicate, List.length_take, List.length_drop, List.length_set]; omega) | (simp <;> omega) | simp_all | rfl) (sgH rfl)))) rfl rfl rfl rfl ?_
  refine RegC.m (OpV.boolF (op_gtr rfl) (by omega)) rfl rfl rfl ?_
  refine RegC.done ⟨.inl rfl, ?_⟩
  refine WP.nrm 40 ?_
  refine WP.cond (t := false) rfl ?_
  refine WP.nrm 40 ?_
  refine WP.loop2 (fun (y : List UInt8) (S : List UInt8) => [(0, .ptr (b) (0)), (1, VS AVal.u8 full (y))]) (fun (y : List UInt8) (S : List UInt8) => [(b, .vec 82 (((S).map AVal.u8) ++ (((r).map AVal.u8) ++ ([.i ((0 : Int))] ++ [.i ((t : Int))]))))]) (fun (y : List UInt8) (S : List UInt8) => ∃ j : Nat, y = (x).drop (32 * j) ∧ 32 * j ≤ (x).length ∧ S.length = 64 ∧ loopS ((x).length / 32) (eatF (x)) j S = eat (s) (x)) (fun (y : List UInt8) (S : List UInt8) => y.length) (x) (s) (subE.cons rfl (subE.cons rfl (subE.nil))) (by (try simp only [List.set_cons_zero, List.set_cons_succ, List.cons_append, List.nil_append]); exact (.cons_cons _ (List.nil_sublist _))) ⟨0, by simp, by omega, by first | (with_reducible assumption) | simp, eat_def _ _⟩ ?_
  intro y S hI ih0
  obtain ⟨j, hy, hj, lS, qS⟩ := hI
  refine WP.nrm 40 ?_
  refine WP.reg k_mixed fun nm2 hnm2 => ?_
  refine RegC.m (op_move rfl) rfl rfl rfl ?_
  refine RegC.m (op_lenV (f := AVal.u8) (l := y) rfl k_sl_26) rfl rfl rfl ?_
  refine RegC.m (op_geq rfl) rfl rfl rfl ?_
  refine RegC.done ⟨.inl rfl, ?_⟩
  refine WP.nrm 40 ?_
  refine WP.condD rfl (fun h1 => ?_) (fun h1 => ?_)
  ·
    refine WP.nrm 40 ?_
    refine WP.reg k_mixed fun nm3 hnm3 => ?_
    refine RegC.m (op_move rfl) rfl rfl rfl ?_
    refine RegC.m (op_move rfl) rfl rfl rfl ?_
    refine RegC.m (op_toArrM (f := AVal.u8) (l := y) rfl k_arr_22 (by first | omega | (simp only [List.length_append, List.length_map, List.length_cons, List.length_nil, List.length_replicate, List.length_take, List.length_drop, List.length_set]; omega) | (simp <;> omega) | simp_all) (by omega)) rfl rfl rfl ?_
    refine RegC.w (i := 0) (op_call rfl k_call_74 (block_v (b) (S) (r) (0) (t) (by first | omega | (simp only [List.length_append, List.length_map, List.length_cons, List.length_nil, List.length_replicate, List.length_take, List.length_drop, List.length_set]; omega) | (simp <;> omega) | simp_all) (by first | omega | (simp only [List.length_append, List.length_map, List.length_cons, List.length_nil, List.length_replicate, List.length_take, List.length_drop, List.length_set]; omega) | (simp <;> omega) | simp_all) (y) (by first | omega | (simp only [List.length_append, List.length_map, List.length_cons, List.length_nil, List.length_replicate, List.length_take, List.length_drop, List.length_set]; omega) | (simp <;> omega) | simp_all))) rfl rfl rfl rfl ?_
    refine RegC.done ⟨.inl rfl, ?_⟩
    refine WP.nrm 40 ?_
    refine WP.reg k_mixed fun nm4 hnm4 => ?_
    refine RegC.m (op_move rfl) rfl rfl rfl ?_
    refine RegC.m (op_sV10 (f := AVal.u8) (l := y) (32) rfl k_sl_26 (by first | omega | (simp only [List.length_append, List.length_map, List.length_cons, List.length_nil, List.length_replicate, List.length_take, List.length_drop, List.length_set]; omega) | (simp <;> omega) | simp_all) (by first | omega | (simp only [List.length_append, List.length_map, List.length_cons, List.length_nil, List.length_replicate, List.length_take, List.length_drop, List.length_set]; omega) | (simp <;> omega) | simp_all)) rfl rfl rfl ?_
    refine RegC.m (op_assign rfl) rfl rfl rfl ?_
    refine RegC.done ⟨.inl rfl, ?_⟩
    refine WP.nrm 40 ?_
    refine WP.jump (subE.cons rfl (subE.cons rfl (subE.nil))) (.cons_cons _ (List.nil_sublist _)) (ih0 _ _ ?_ ?_)
    · exact eat_step _ _ _ _ j hy hj qS (by omega)
    · simp; omega
  ·
    refine WP.nrm 40 ?_
    refine WP.reg k_mixed fun nm5 hnm5 => ?_
    refine RegC.m (op_move rfl) rfl rfl rfl ?_
    refine RegC.m (op_move rfl) rfl rfl rfl ?_
    refine RegC.m (op_nilCheck rfl) rfl rfl rfl ?_
    refine RegC.m (op_fieldE (off := 0) rfl k_fld_82_1 rfl) rfl rfl rfl ?_
    refine RegC.q (i := 0) (op_sAo00 (off := 64) rfl k_arr_22 (by simp <;> omega)) rfl rfl rfl rfl ?_
    refine RegC.m (op_move rfl) rfl rfl rfl ?_
    refine RegC.w (i := 0) (op_copyG (f := AVal.u8) (l2 := y) (off := 64) (len := 32) (m := y.length) (fun _ => rfl) rfl rfl k_sl_26 (by simp <;> omega) (by first | rfl | omega) (puN 64 (0) (by omega) (by first | (simp only [List.length_append, List.length_map, List.length_cons, List.length_nil, List.length_replicate, List.length_take, List.length_drop, List.length_set]; omega) | (simp <;> omega) | simp_all | rfl) (puH (by simp <;> omega) (puMt (f := AVal.u8) (l := r) (l2 := y))))) rfl rfl rfl rfl ?_
    refine RegC.m (op_nilCheck rfl) rfl rfl rfl ?_
    refine RegC.m (op_fieldE (off := 0) rfl k_fld_82_2 rfl) rfl rfl rfl ?_
    refine RegC.w (i := 0) (op_storeX (off := 96) (v := .i (((y.length : Nat) : Int))) rfl k_scal_3 rfl (by simp <;> omega) (suN 64 32 (by omega) (by first | (simp only [List.length_append, List.length_map, List.length_cons, List.length_nil, List.length_replicate, List.length_take, List.length_drop, List.length_set]; omega) | (simp <;> omega) | simp_all | rfl) (suN 32 (0) (by omega) (by first | (simp only [List.length_append, List.length_map, List.length_cons, List.length_nil, List.length_replicate, List.length_take, List.length_drop, List.length_set]; omega) | (simp <;> omega) | simp_all | rfl) (suH (by simp) suO)))) rfl rfl rfl rfl ?_
    refine RegC.done ⟨.inl rfl, ?_⟩
    refine WP.nrm 40 ?_
    refine WP.finS (ResV.many rfl rfl (RessOf.nil)) (.cons_cons _ (List.nil_sublist _)) ?_
    obtain ⟨e1, e2, e3⟩ := endTake (s) (r) (x) y S j hy hj qS (by omega); exact ⟨rfl, by rw [e2, e3, takeS_A, ← e1]⟩

theorem take_B (b : Nat) (s r : List UInt8) (h : Nat) (t : Nat) (full : Bool) (x : List UInt8) (hs : s.length = 64) (hr : r.length = 32) (h0 : 0 < h) (hx : h + x.length < 32) : ACalls Try.prog 38 [.ptr (b) (0), VS AVal.u8 full (x)] [(b, .vec 82 (((s).map AVal.u8) ++ (((r).map AVal.u8) ++ ([.i ((h : Int))] ++ [.i ((t : Int))]))))] [] (.tup []) [(b, .vec 82 ((((takeS ⟨s, r, h⟩ x).s).map AVal.u8) ++ ((((takeS ⟨s, r, h⟩ x).r).map AVal.u8) ++ ([.i (((takeS ⟨s, r, h⟩ x).h : Int))] ++ [.i ((t : Int))]))))] := by
  refine ACalls.of_wp' (fn := Try.f38) (n := 62) Try.func38 rfl rfl ?_
  unfold Try.f38
  refine WP.nrm 40 ?_
  refine WP.reg k_mixed fun nm1 hnm1 => ?_
  refine RegC.m (op_move rfl) rfl rfl rfl ?_
  refine RegC.m (op_nilCheck rfl) rfl rfl rfl ?_
  refine RegC.m (op_fieldE (off := 0) rfl k_fld_82_2 rfl) rfl rfl rfl ?_
  refine RegC.q (i := 0) (op_load (off := 96) rfl k_scal_3 (sgN 64 32 (by omega) (by first | (simp only [List.length_append, List.length_map, List.length_cons, List.length_nil, List.length_replicate, List.length_take, List.length_drop, List.length_set]; omega) | (simp <;> omega) | simp_all | rfl) (sgN 32 (0) (by omega) (by first | (simp only [List.length_append, List.length_map, List.length_cons, List.length_nil, List.length_replicate, List.length_take, List.length_drop, List.length_set]; omega) | (simp <;> omega) | simp_all | rfl) (sgH rfl)))) rfl rfl rfl rfl ?_
  refine RegC.m (OpV.boolT (op_gtr rfl) (by omega)) rfl rfl rfl ?_
  refine RegC.done ⟨.inl rfl, ?_⟩
  refine WP.nrm 40 ?_
  refine WP.cond (t := true) rfl ?_
  refine WP.nrm 40 ?_
  refine WP.reg k_mixed fun nm2 hnm2 => ?_
  refine RegC.m (op_move rfl) rfl rfl rfl ?_
  refine RegC.m (op_nilCheck rfl) rfl rfl rfl ?_
  refine RegC.m (op_fieldE (off := 0) rfl k_fld_82_1 rfl) rfl rfl rfl ?_
  refine RegC.m (op_move rfl) rfl rfl rfl ?_
  refine RegC.m (op_nilCheck rfl) rfl rfl rfl ?_
  refine RegC.m (op_fieldE (off := 0) rfl k_fld_82_2 rfl) rfl rfl rfl ?_
  refine RegC.q (i := 0) (op_load (off := 96) rfl k_scal_3 (sgN 64 32 (by omega) (by first | (simp only [List.length_append, List.length_map, List.length_cons, List.length_nil, List.length_replicate, List.length_take, List.length_drop, List.length_set]; omega) | (simp <;> omega) | simp_all | rfl) (sgN 32 (0) (by omega) (by first | (simp only [List.length_append, List.length_map, List.length_cons, List.length_nil, List.length_replicate, List.length_take, List.length_drop, List.length_set]; omega) | (simp <;> omega) | simp_all | rfl) (sgH rfl)))) rfl rfl rfl rfl ?_
  refine RegC.q (i := 0) (op_sAo10 (off := 64) (r := (64 + h)) (h) rfl k_arr_22 (by first | omega | (simp only [List.length_append, List.length_map, List.length_cons, List.length_nil, List.length_replicate, List.length_take, List.length_drop, List.length_set]; omega) | (simp <;> omega) | simp_all) (by first | omega | (simp only [List.length_append, List.length_map, List.length_cons, List.length_nil, List.length_replicate, List.length_take, List.length_drop, List.length_set]; omega) | (simp <;> omega) | simp_all) (by simp <;> omega) (by omega)) rfl rfl rfl rfl ?_
  refine RegC.m (op_move rfl) rfl rfl rfl ?_
  refine RegC.w (i := 0) (op_copyG (f := AVal.u8) (l2 := x) (off := (64 + h)) (len := (32 - h)) (m := x.length) (fun _ => rfl) rfl rfl k_sl_26 (by simp <;> omega) (by first | rfl | omega) (puN 64 (h) (by omega) (by first | (simp only [List.length_append, List.length_map, List.length_cons, List.length_nil, List.length_replicate, List.length_take, List.length_drop, List.length_set]; omega) | (simp <;> omega) | simp_all | rfl) (puH (by simp <;> omega) (puMt (f := AVal.u8) (l := r) (l2 := x))))) rfl rfl rfl rfl ?_
  refine RegC.m (op_assign rfl) rfl rfl rfl ?_
  refine RegC.done ⟨.inr rfl, ?_⟩
  refine WP.nrm 40 ?_
  refine WP.reg k_mixed fun nm3 hnm3 => ?_
  refine RegC.m (op_move rfl) rfl rfl rfl ?_
  refine RegC.m (op_nilCheck rfl) rfl rfl rfl ?_
  refine RegC.m (op_fieldE (off := 0) rfl k_fld_82_2 rfl) rfl rfl rfl ?_
  refine RegC.q (i := 0) (op_load (off := 96) rfl k_scal_3 (sgN 64 32 (by omega) (by first | (simp only [List.length_append, List.length_map, List.length_cons, List.length_nil, List.length_replicate, List.length_take, List.length_drop, List.length_set]; omega) | (simp <;> omega) | simp_all | rfl) (sgN 32 (0) (by omega) (by first | (simp only [List.length_append, List.length_map, List.length_cons, List.length_nil, List.length_replicate, List.length_take, List.length_drop, List.length_set]; omega) | (simp <;> omega) | simp_all | rfl) (sgH rfl)))) rfl rfl rfl rfl ?_
  refine RegC.m (op_move rfl) rfl rfl rfl ?_
  refine RegC.m (op_addI rfl (by first | omega | (simp only [List.length_append, List.length_map, List.length_cons, List.length_nil, List.length_replicate, List.length_take, List.length_drop, List.length_set]; omega) | (simp <;> omega) | simp_all)) rfl rfl rfl ?_
  refine RegC.m (op_nilCheck rfl) rfl rfl rfl ?_
  refine RegC.m (op_fieldE (off := 0) rfl k_fld_82_2 rfl) rfl rfl rfl ?_
  refine RegC.w (i := 0) (op_storeX (off := 96) (v := .i (((h : Int) + ((x.length : Nat) : Int)))) rfl k_scal_3 rfl (by simp <;> omega) (suN 64 32 (by omega) (by first | (simp only [List.length_append, List.length_map, List.length_cons, List.length_nil, List.length_replicate, List.length_take, List.length_drop, List.length_set]; omega) | (simp <;> omega) | simp_all | rfl) (suN 32 (0) (by omega) (by first | (simp only [List.length_append, List.length_map, List.length_cons, List.length_nil, List.length_replicate, List.length_take, List.length_drop, List.length_set]; omega) | (simp <;> omega) | simp_all | rfl) (suH (by simp) suO)))) rfl rfl rfl rfl ?_
  refine RegC.done ⟨.inl rfl, ?_⟩
  refine WP.nrm 40 ?_
  refine WP.reg k_mixed fun nm4 hnm4 => ?_
  refine RegC.m (op_move rfl) rfl rfl rfl ?_
  refine RegC.m (op_move rfl) rfl rfl rfl ?_
  refine RegC.m (op_sV10 (f := AVal.u8) (l := x) ((x.length)) rfl k_sl_26 (by first | omega | (simp only [List.length_append, List.length_map, List.length_cons, List.length_nil, List.length_replicate, List.length_take, List.length_drop, List.length_set]; omega) | (simp <;> omega) | simp_all) (by first | omega | (simp only [List.length_append, List.length_map, List.length_cons, List.length_nil, List.length_replicate, List.length_take, List.length_drop, List.length_set]; omega) | (simp <;> omega) | simp_all)) rfl rfl rfl ?_
  refine RegC.m (op_assign rfl) rfl rfl rfl ?_
  refine RegC.done ⟨.inl rfl, ?_⟩
  refine WP.nrm 40 ?_
  refine WP.reg k_mixed fun nm5 hnm5 => ?_
  refine RegC.m (op_move rfl) rfl rfl rfl ?_
  refine RegC.m (op_nilCheck rfl) rfl rfl rfl ?_
  refine RegC.m (op_fieldE (off := 0) rfl k_fld_82_2 rfl) rfl rfl rfl ?_
  refine RegC.q (i := 0) (op_load (off := 96) rfl k_scal_3 (sgN 64 32 (by omega) (by first | (simp only [List.length_append, List.length_map, List.length_cons, List.length_nil, List.length_replicate, List.length_take, List.length_drop, List.length_set]; omega) | (simp <;> omega) | simp_all | rfl) (sgN 32 (0) (by omega) (by first | (simp only [List.length_append, List.length_map, List.length_cons, List.length_nil, List.length_replicate, List.length_take, List.length_drop, List.length_set]; omega) | (simp <;> omega) | simp_all | rfl) (sgH rfl)))) rfl rfl rfl rfl ?_
  refine RegC.m (OpV.boolT (op_lss rfl) (by omega)) rfl rfl rfl ?_
  refine RegC.done ⟨.inl rfl, ?_⟩
  refine WP.nrm 40 ?_
  refine WP.cond (t := true) rfl ?_
  refine WP.nrm 40 ?_
  refine WP.retS (ResV.many rfl rfl (RessOf.nil)) (.cons_cons _ (List.nil_sublist _)) ?_
  exact ⟨rfl, by rw [takeS_B s r x h h0 hx]; push_cast; rfl⟩

theorem take_C (b : Nat) (s r : List UInt8) (h : Nat) (t : Nat) (full : Bool) (x : List UInt8) (hs : s.length = 64) (hr : r.length = 32) (h0 : 0 < h) (hh : h < 32) (hx : 32 ≤ h + x.length) : ACalls Try.prog 38 [.ptr (b) (0), VS AVal.u8 full (x)] [(b, .vec 82 (((s).map AVal.u8) ++ (((r).map AVal.u8) ++ ([.i ((h : Int))] ++ [.i ((t : Int))]))))] [] (.tup []) [(b, .vec 82 ((((takeS ⟨s, r, h⟩ x).s).map AVal.u8) ++ ((((takeS ⟨s, r, h⟩ x).r).map AVal.u8) ++ ([.i (((takeS ⟨s, r, h⟩ x).h : Int))] ++ [.i ((t : Int))]))))] := by
  refine ACalls.of_wp' (fn := Try.f38) (n := 62) Try.func38 rfl rfl ?_
  unfold Try.f38
  refine WP.nrm 40 ?_
  refine WP.reg k_mixed fun nm1 hnm1 => ?_
  refine RegC.m (op_move rfl) rfl rfl rfl ?_
  refine RegC.m (op_nilCheck rfl) rfl rfl rfl ?_
  refine RegC.m (op_fieldE (off := 0) rfl k_fld_82_2 rfl) rfl rfl rfl ?_
  refine RegC.q (i := 0) (op_load (off := 96) rfl k_scal_3 (sgN 64 32 (by omega) (by first | (simp only [List.length_append, List.length_map, List.length_cons, List.length_nil, List.length_replicate, List.length_take, List.length_drop, List.length_set]; omega) | (simp <;> omega) | simp_all | rfl) (sgN 32 (0) (by omega) (by first | (simp only [List.length_append, List.length_map, List.length_cons, List.length_nil, List.length_replicate, List.length_take, List.length_drop, List.length_set]; omega) | (simp <;> omega) | simp_all | rfl) (sgH rfl)))) rfl rfl rfl rfl ?_
  refine RegC.m (OpV.boolT (op_gtr rfl) (by omega)) rfl rfl rfl ?_
  refine RegC.done ⟨.inl rfl, ?_⟩
  refine WP.nrm 40 ?_
  refine WP.cond (t := true) rfl ?_
  refine WP.nrm 40 ?_
  refine WP.reg k_mixed fun nm2 hnm2 => ?_
  refine RegC.m (op_move rfl) rfl rfl rfl ?_
  refine RegC.m (op_nilCheck rfl) rfl rfl rfl ?_
  refine RegC.m (op_fieldE (off := 0) rfl k_fld_82_1 rfl) rfl rfl rfl ?_
  refine RegC.m (op_move rfl) rfl rfl rfl ?_
  refine RegC.m (op_nilCheck rfl) rfl rfl rfl ?_
  refine RegC.m (op_fieldE (off := 0) rfl k_fld_82_2 rfl) rfl rfl rfl ?_
  refine RegC.q (i := 0) (op_load (off := 96) rfl k_scal_3 (sgN 64 32 (by omega) (by first | (simp only [List.length_append, List.length_map, List.length_cons, List.length_nil, List.length_replicate, List.length_take, List.length_drop, List.length_set]; omega) | (simp <;> omega) | simp_all | rfl) (sgN 32 (0) (by omega) (by first | (simp only [List.length_append, List.length_map, List.length_cons, List.length_nil, List.length_replicate, List.length_take, List.length_drop, List.length_set]; omega) | (simp <;> omega) | simp_all | rfl) (sgH rfl)))) rfl rfl rfl rfl ?_
  refine RegC.q (i := 0) (op_sAo10 (off := 64) (r := (64 + h)) (h) rfl k_arr_22 (by first | omega | (simp only [List.length_append, List.length_map, List.length_cons, List.length_nil, List.length_replicate, List.length_take, List.length_drop, List.length_set]; omega) | (simp <;> omega) | simp_all) (by first | omega | (simp only [List.length_append, List.length_map, List.length_cons, List.length_nil, List.length_replicate, List.length_take, List.length_drop, List.length_set]; omega) | (simp <;> omega) | simp_all) (by simp <;> omega) (by omega)) rfl rfl rfl rfl ?_
  refine RegC.m (op_move rfl) rfl rfl rfl ?_
  refine RegC.w (i := 0) (op_copyG (f := AVal.u8) (l2 := x) (off := (64 + h)) (len := (32 - h)) (m := (32 - h)) (fun _ => rfl) rfl rfl k_sl_26 (by simp <;> omega) (by first | rfl | omega) (puN 64 (h) (by omega) (by first | (simp only [List.length_append, List.length_map, List.length_cons, List.length_nil, List.length_replicate, List.length_take, List.length_drop, List.length_set]; omega) | (simp <;> omega) | simp_all | rfl) (puH (by simp <;> omega) (puMt (f := AVal.u8) (l := r) (l2 := x))))) rfl rfl rfl rfl ?_
  refine RegC.m (op_assign rfl) rfl rfl rfl ?_
  refine RegC.done ⟨.inr rfl, ?_⟩
  refine WP.nrm 40 ?_
  refine WP.reg k_mixed fun nm3 hnm3 => ?_
  refine RegC.m (op_move rfl) rfl rfl rfl ?_
  refine RegC.m (op_nilCheck rfl) rfl rfl rfl ?_
  refine RegC.m (op_fieldE (off := 0) rfl k_fld_82_2 rfl) rfl rfl rfl ?_
  refine RegC.q (i := 0) (op_load (off := 96) rfl k_scal_3 (sgN 64 32 (by omega) (by first | (simp only [List.length_append, List.length_map, List.length_cons, List.length_nil, List.length_replicate, List.length_take, List.length_drop, List.length_set]; omega) | (simp <;> omega) | simp_all | rfl) (sgN 32 (0) (by omega) (by first | (simp only [List.length_append, List.length_map, List.length_cons, List.length_nil, List.length_replicate, List.length_take, List.length_drop, List.length_set]; omega) | (simp <;> omega) | simp_all | rfl) (sgH rfl)))) rfl rfl rfl rfl ?_
  refine RegC.m (op_move rfl) rfl rfl rfl ?_
  refine RegC.m (op_addI rfl (by first | omega | (simp only [List.length_append, List.length_map, List.length_cons, List.length_nil, List.length_replicate, List.length_take, List.length_drop, List.length_set]; omega) | (simp <;> omega) | simp_all)) rfl rfl rfl ?_
  refine RegC.m (op_nilCheck rfl) rfl rfl rfl ?_
  refine RegC.m (op_fieldE (off := 0) rfl k_fld_82_2 rfl) rfl rfl rfl ?_
  refine RegC.w (i := 0) (op_storeX (off := 96) (v := .i (((h : Int) + (((32 - h) : Nat) : Int)))) rfl k_scal_3 rfl (by simp <;> omega) (suN 64 32 (by omega) (by first | (simp only [List.length_append, List.length_map, List.length_cons, List.length_nil, List.length_replicate, List.length_take, List.length_drop, List.length_set]; omega) | (simp <;> omega) | simp_all | rfl) (suN 32 (0) (by omega) (by first | (simp only [List.length_append, List.length_map, List.length_cons, List.length_nil, List.length_replicate, List.length_take, List.length_drop, List.length_set]; omega) | (simp <;> omega) | simp_all | rfl) (suH (by simp) suO)))) rfl rfl rfl rfl ?_
  refine RegC.done ⟨.inl rfl, ?_⟩
  refine WP.nrm 40 ?_
  refine WP.reg k_mixed fun nm4 hnm4 => ?_
  refine RegC.m (op_move rfl) rfl rfl rfl ?_
  refine RegC.m (op_move rfl) rfl rfl rfl ?_
  refine RegC.m (op_sV10 (f := AVal.u8) (l := x) (((32 - h))) rfl k_sl_26 (by first | omega | (simp only [List.length_append, List.length_map, List.length_cons, List.length_nil, List.length_replicate, List.length_take, List.length_drop, List.length_set]; omega) | (simp <;> omega) | simp_all) (by first | omega | (simp only [List.length_append, List.length_map, List.length_cons, List.length_nil, List.length_replicate, List.length_take, List.length_drop, List.length_set]; omega) | (simp <;> omega) | simp_all)) rfl rfl rfl ?_
  refine RegC.m (op_assign rfl) rfl rfl rfl ?_
  refine RegC.done ⟨.inl rfl, ?_⟩
  refine WP.nrm 40 ?_
  refine WP.reg k_mixed fun nm5 hnm5 => ?_
  refine RegC.m (op_move rfl) rfl rfl rfl ?_
  refine RegC.m (op_nilCheck rfl) rfl rfl rfl ?_
  refine RegC.m (op_fieldE (off := 0) rfl k_fld_82_2 rfl) rfl rfl rfl ?_
  refine RegC.q (i := 0) (op_load (off := 96) rfl k_scal_3 (sgN 64 32 (by omega) (by first | (simp only [List.length_append, List.length_map, List.length_cons, List.length_nil, List.length_replicate, List.length_take, List.length_drop, List.length_set]; omega) | (simp <;> omega) | simp_all | rfl) (sgN 32 (0) (by omega) (by first | (simp only [List.length_append, List.length_map, List.length_cons, List.length_nil, List.length_replicate, List.length_take, List.length_drop, List.length_set]; omega) | (simp <;> omega) | simp_all | rfl) (sgH rfl)))) rfl rfl rfl rfl ?_
  refine RegC.m (OpV.boolF (op_lss rfl) (by omega)) rfl rfl rfl ?_
  refine RegC.done ⟨.inl rfl, ?_⟩
  refine WP.nrm 40 ?_
  refine WP.cond (t := false) rfl ?_
  refine WP.nrm 40 ?_
  refine WP.reg k_mixed fun nm6 hnm6 => ?_
  refine RegC.m (op_move rfl) rfl rfl rfl ?_
  refine RegC.m (op_move rfl) rfl rfl rfl ?_
  refine RegC.m (op_nilCheck rfl) rfl rfl rfl ?_
  refine RegC.m (op_fieldE (off := 0) rfl k_fld_82_1 rfl) rfl rfl rfl ?_
  refine RegC.w (i := 0) (op_call rfl k_call_74 (block_a (b) (s) ((r).take (h) ++ (x).take ((32 - h)) ++ (r).drop (h + (32 - h))) ((h + ((32 - h)))) (t) (by first | omega | (simp only [List.length_append, List.length_map, List.length_cons, List.length_nil, List.length_replicate, List.length_take, List.length_drop, List.length_set]; omega) | (simp <;> omega) | simp_all) (by first | omega | (simp only [List.length_append, List.length_map, List.length_cons, List.length_nil, List.length_replicate, List.length_take, List.length_drop, List.length_set]; omega) | (simp <;> omega) | simp_all))) rfl rfl rfl rfl ?_
  refine RegC.done ⟨.inl rfl, ?_⟩
  refine WP.nrm 40 ?_
  refine WP.reg k_mixed fun nm7 hnm7 => ?_
  refine RegC.m (op_move rfl) rfl rfl rfl ?_
  refine RegC.m (op_nilCheck rfl) rfl rfl rfl ?_
  refine RegC.m (op_fieldE (off := 0) rfl k_fld_82_2 rfl) rfl rfl rfl ?_
  refine RegC.w (i := 0) (op_storeX (off := 96) (v := .i (0)) rfl k_scal_3 rfl (by simp <;> omega) (suN 64 32 (by omega) (by first | (simp only [List.length_append, List.length_map, List.length_cons, List.length_nil, List.length_replicate, List.length_take, List.length_drop, List.length_set]; omega) | (simp <;> omega) | simp_all | rfl) (suN 32 (0) (by omega) (by first | (simp only [List.length_append, List.length_map, List.length_cons, List.length_nil, List.length_replicate, List.length_take, List.length_drop, List.length_set]; omega) | (simp <;> omega) | simp_all | rfl) (suH (by simp) suO)))) rfl rfl rfl rfl ?_
  refine RegC.done ⟨.inl rfl, ?_⟩
  refine WP.nrm 40 ?_
  refine WP.loop2 (fun (y : List UInt8) (S : List UInt8) => [(0, .ptr (b) (0)), (1, VS AVal.u8 full (y))]) (fun (y : List UInt8) (S : List UInt8) => [(b, .vec 82 (((S).map AVal.u8) ++ ((((r).take (h) ++ (x).take ((32 - h)) ++ (r).drop (h + (32 - h))).map AVal.u8) ++ ([.i (0)] ++ [.i ((t : Int))]))))]) (fun (y : List UInt8) (S : List UInt8) => ∃ j : Nat, y = ((x).drop (((32 - h)))).drop (32 * j) ∧ 32 * j ≤ ((x).drop (((32 - h)))).length ∧ S.length = 64 ∧ loopS (((x).drop (((32 - h)))).length / 32) (eatF ((x).drop (((32 - h))))) j S = eat (absorb (s) ((r).take (h) ++ (x).take ((32 - h)) ++ (r).drop (h + (32 - h)))) ((x).drop (((32 - h))))) (fun (y : List UInt8) (S : List UInt8) => y.length) ((x).drop (((32 - h)))) (absorb (s) ((r).take (h) ++ (x).take ((32 - h)) ++ (r).drop (h + (32 - h)))) (subE.cons rfl (subE.cons rfl (subE.nil))) (by (try simp only [List.set_cons_zero, List.set_cons_succ, List.cons_append, List.nil_append]); exact (.cons_cons _ (List.nil_sublist _))) ⟨0, by simp, by omega, by first | (with_reducible assumption) | simp, eat_def _ _⟩ ?_
  intro y S hI ih0
  obtain ⟨j, hy, hj, lS, qS⟩ := hI
  refine WP.nrm 40 ?_
  refine WP.reg k_mixed fun nm8 hnm8 => ?_
  refine RegC.m (op_move rfl) rfl rfl rfl ?_
  refine RegC.m (op_lenV (f := AVal.u8) (l := y) rfl k_sl_26) rfl rfl rfl ?_
  refine RegC.m (op_geq rfl) rfl rfl rfl ?_
  refine RegC.done ⟨.inl rfl, ?_⟩
  refine WP.nrm 40 ?_
  refine WP.condD rfl (fun h1 => ?_) (fun h1 => ?_)
  ·
    refine WP.nrm 40 ?_
    refine WP.reg k_mixed fun nm9 hnm9 => ?_
    refine RegC.m (op_move rfl) rfl rfl rfl ?_
    refine RegC.m (op_move rfl) rfl rfl rfl ?_
    refine RegC.m (op_toArrM (f := AVal.u8) (l := y) rfl k_arr_22 (by first | omega | (simp only [List.length_append, List.length_map, List.length_cons, List.length_nil, List.length_replicate, List.length_take, List.length_drop, List.length_set]; omega) | (simp <;> omega) | simp_all) (by omega)) rfl rfl rfl ?_
    refine RegC.w (i := 0) (op_call rfl k_call_74 (block_v (b) (S) ((r).take (h) ++ (x).take ((32 - h)) ++ (r).drop (h + (32 - h))) (0) (t) (by first | omega | (simp only [List.length_append, List.length_map, List.length_cons, List.length_nil, List.length_replicate, List.length_take, List.length_drop, List.length_set]; omega) | (simp <;> omega) | simp_all) (by first | omega | (simp only [List.length_append, List.length_map, List.length_cons, List.length_nil, List.length_replicate, List.length_take, List.length_drop, List.length_set]; omega) | (simp <;> omega) | simp_all) (y) (by first | omega | (simp only [List.length_append, List.length_map, List.length_cons, List.length_nil, List.length_replicate, List.length_take, List.length_drop, List.length_set]; omega) | (simp <;> omega) | simp_all))) rfl rfl rfl rfl ?_
    refine RegC.done ⟨.inl rfl, ?_⟩
    refine WP.nrm 40 ?_
    refine WP.reg k_mixed fun nm10 hnm10 => ?_
    refine RegC.m (op_move rfl) rfl rfl rfl ?_
    refine RegC.m (op_sV10 (f := AVal.u8) (l := y) (32) rfl k_sl_26 (by first | omega | (simp only [List.length_append, List.length_map, List.length_cons, List.length_nil, List.length_replicate, List.length_take, List.length_drop, List.length_set]; omega) | (simp <;> omega) | simp_all) (by first | omega | (simp only [List.length_append, List.length_map, List.length_cons, List.length_nil, List.length_replicate, List.length_take, List.length_drop, List.length_set]; omega) | (simp <;> omega) | simp_all)) rfl rfl rfl ?_
    refine RegC.m (op_assign rfl) rfl rfl rfl ?_
    refine RegC.done ⟨.inl rfl, ?_⟩
    refine WP.nrm 40 ?_
    refine WP.jump (subE.cons rfl (subE.cons rfl (subE.nil))) (.cons_cons _ (List.nil_sublist _)) (ih0 _ _ ?_ ?_)
    · exact eat_step _ _ _ _ j hy hj qS (by omega)
    · simp; omega
  ·
    refine WP.nrm 40 ?_
    refine WP.reg k_mixed fun nm11 hnm11 => ?_
    refine RegC.m (op_move rfl) rfl rfl rfl ?_
    refine RegC.m (op_move rfl) rfl rfl rfl ?_
    refine RegC.m (op_nilCheck rfl) rfl rfl rfl ?_
    refine RegC.m (op_fieldE (off := 0) rfl k_fld_82_1 rfl) rfl rfl rfl ?_
    refine RegC.q (i := 0) (op_sAo00 (off := 64) rfl k_arr_22 (by simp <;> omega)) rfl rfl rfl rfl ?_
    refine RegC.m (op_move rfl) rfl rfl rfl ?_
    refine RegC.w (i := 0) (op_copyG (f := AVal.u8) (l2 := y) (off := 64) (len := 32) (m := y.length) (fun _ => rfl) rfl rfl k_sl_26 (by simp <;> omega) (by first | rfl | omega) (puN 64 (0) (by omega) (by first | (simp only [List.length_append, List.length_map, List.length_cons, List.length_nil, List.length_replicate, List.length_take, List.length_drop, List.length_set]; omega) | (simp <;> omega) | simp_all | rfl) (puH (by simp <;> omega) (puMt (f := AVal.u8) (l := (r).take (h) ++ (x).take ((32 - h)) ++ (r).drop (h + (32 - h))) (l2 := y))))) rfl rfl rfl rfl ?_
    refine RegC.m (op_nilCheck rfl) rfl rfl rfl ?_
    refine RegC.m (op_fieldE (off := 0) rfl k_fld_82_2 rfl) rfl rfl rfl ?_
    refine RegC.w (i := 0) (op_storeX (off := 96) (v := .i (((y.length : Nat) : Int))) rfl k_scal_3 rfl (by simp <;> omega) (suN 64 32 (by omega) (by first | (simp only [List.length_append, List.length_map, List.length_cons, List.length_nil, List.length_replicate, List.length_take, List.length_drop, List.length_set]; omega) | (simp <;> omega) | simp_all | rfl) (suN 32 (0) (by omega) (by first | (simp only [List.length_append, List.length_map, List.length_cons, List.length_nil, List.length_replicate, List.length_take, List.length_drop, List.length_set]; omega) | (simp <;> omega) | simp_all | rfl) (suH (by simp) suO)))) rfl rfl rfl rfl ?_
    refine RegC.done ⟨.inl rfl, ?_⟩
    refine WP.nrm 40 ?_
    refine WP.finS (ResV.many rfl rfl (RessOf.nil)) (.cons_cons _ (List.nil_sublist _)) ?_
    obtain ⟨e1, e2, e3⟩ := endTake (absorb (s) ((r).take (h) ++ (x).take ((32 - h)) ++ (r).drop (h + (32 - h)))) ((r).take (h) ++ (x).take ((32 - h)) ++ (r).drop (h + (32 - h))) ((x).drop (((32 - h)))) y S j hy hj qS (by omega); exact ⟨rfl, by rw [e2, e3, takeS_C s r x h h0 hh hx, ← e1]⟩

theorem take_calls (b : Nat) (z : Sm) (t : Nat) (full : Bool) (x : List UInt8) (hz : z.ok) : ACalls Try.prog 38 [.ptr b 0, VS AVal.u8 full x] [(b, .vec 82 (((z.s).map AVal.u8) ++ (((z.r).map AVal.u8) ++ ([.i ((z.h : Int))] ++ [.i ((t : Int))]))))] [] (.tup []) [(b, .vec 82 ((((takeS z x).s).map AVal.u8) ++ ((((takeS z x).r).map AVal.u8) ++ ([.i (((takeS z x).h : Int))] ++ [.i ((t : Int))]))))] := by
  obtain ⟨s, r, h⟩ := z
  obtain ⟨hs, hr, hh⟩ := hz
  rcases Nat.eq_zero_or_pos h with h0 | h0
  · have h0' : h = 0 := h0
    subst h0'; exact take_A b s r t full x hs hr
  · by_cases hx : h + x.length < 32
    · exact take_B b s r h t full x hs hr h0 hx
    · exact take_C b s r h t full x hs hr h0 hh (by omega)

theorem newSummer_calls (b' : Nat) (d : Nat) (hd : d ≤ 255) : ACalls Try.prog 13 [.i ((d : Int))] [] [b'] (.tup [.ptr b' 0, .i 0]) [(b', .vec 82 (((initS d).map AVal.u8) ++ (((List.replicate 32 (0 : UInt8)).map AVal.u8) ++ ([.i ((0 : Int))] ++ [.i ((0 : Int))]))))] := by
  refine ACalls.of_wp' (fn := Try.f13) (n := 20) Try.func13 rfl rfl ?_
  unfold Try.f13
  refine WP.nrm 40 ?_
  refine WP.reg k_mixed fun nm1 hnm1 => ?_
  refine RegC.m (op_assign rfl) rfl rfl rfl ?_
  refine RegC.m (op_assign rfl) rfl rfl rfl ?_
  refine RegC.done ⟨.inl rfl, ?_⟩
  refine WP.nrm 40 ?_
  refine WP.reg k_mixed fun nm2 hnm2 => ?_
  refine RegC.m (op_move rfl) rfl rfl rfl ?_
  refine RegC.m (OpV.boolF (op_lss rfl) (by omega)) rfl rfl rfl ?_
  refine RegC.m (op_move rfl) rfl rfl rfl ?_
  refine RegC.m (op_move rfl) rfl rfl rfl ?_
  refine RegC.m (OpV.boolF (op_gtr rfl) (by omega)) rfl rfl rfl ?_
  refine RegC.m (op_pick rfl) rfl rfl rfl ?_
  refine RegC.done ⟨.inl rfl, ?_⟩
  refine WP.nrm 40 ?_
  refine WP.cond (t := false) rfl ?_
  refine WP.nrm 40 ?_
  refine WP.reg k_mixed fun nm3 hnm3 => ?_
  refine RegC.m (op_build (vs := []) rfl (Option.some_get k_plS_82).symm k_zeroS_82 rfl (by simp)) rfl rfl rfl ?_
  refine RegC.a (op_boxA rfl) rfl rfl rfl ?_
  refine RegC.m (op_assign rfl) rfl rfl rfl ?_
  refine RegC.done ⟨.inl rfl, ?_⟩
  refine WP.nrm 40 ?_
  refine WP.reg k_mixed fun nm4 hnm4 => ?_
  refine RegC.m (op_move rfl) rfl rfl rfl ?_
  refine RegC.m (op_move rfl) rfl rfl rfl ?_
  refine RegC.m (op_cv rfl k_und_3 k_undI_5 (cv_i_8 (by first | exact Int.natCast_nonneg _ | omega))) rfl rfl rfl ?_
  refine RegC.m (op_nilCheck rfl) rfl rfl rfl ?_
  refine RegC.m (op_fieldE (off := 0) rfl k_fld_82_0 rfl) rfl rfl rfl ?_
  refine RegC.m (op_iAo (off := 0) (r := 63) (63) rfl k_arr_76 (by first | omega | (simp only [List.length_append, List.length_map, List.length_cons, List.length_nil, List.length_replicate, List.length_take, List.length_drop, List.length_set]; omega) | (simp <;> omega) | simp_all) (by first | omega | (simp only [List.length_append, List.length_map, List.length_cons, List.length_nil, List.length_replicate, List.length_take, List.length_drop, List.length_set]; omega) | (simp <;> omega) | simp_all) (by omega)) rfl rfl rfl ?_
  refine RegC.w (i := 0) (op_storeX (off := 63) (v := .u8 (UInt8.ofNat (d))) rfl k_scal_5 rfl (by simp <;> omega) (suH (by simp <;> omega) (suM (f := AVal.u8) (l := List.replicate 64 (0 : UInt8)) (i := 63) (UInt8.ofNat (d))))) rfl rfl rfl rfl ?_
  refine RegC.done ⟨.inl rfl, ?_⟩
  refine WP.nrm 40 ?_
  refine WP.reg k_mixed fun nm5 hnm5 => ?_
  refine RegC.m (op_move rfl) rfl rfl rfl ?_
  refine RegC.m (op_assign rfl) rfl rfl rfl ?_
  refine RegC.m (op_assign rfl) rfl rfl rfl ?_
  refine RegC.done ⟨.inl rfl, ?_⟩
  refine WP.nrm 40 ?_
  refine WP.ret1S (b' := b') (vf := fun q => .tup [.ptr q (0), .i (0)]) 0 (ResV.many rfl rfl (.cons (.tmp rfl) (.cons (.tmp rfl) (RessOf.nil)))) rfl (by simp) (tup_named (x := fun q => .ptr q (0)) ptr_named) (.cons_cons _ (List.nil_sublist _)) ?_
  exact ⟨rfl, rfl⟩

theorem newSummer_bad (d : Int) (hd : d < 0 ∨ 255 < d) : ACalls Try.prog 13 [.i (d)] [] [] (.tup [.nilp, .i 3]) [] := by
  refine ACalls.of_wp' (fn := Try.f13) (n := 20) Try.func13 rfl rfl ?_
  unfold Try.f13
  refine WP.nrm 40 ?_
  refine WP.reg k_mixed fun nm1 hnm1 => ?_
  refine RegC.m (op_assign rfl) rfl rfl rfl ?_
  refine RegC.m (op_assign rfl) rfl rfl rfl ?_
  refine RegC.done ⟨.inl rfl, ?_⟩
  refine WP.nrm 40 ?_
  refine WP.reg k_mixed fun nm2 hnm2 => ?_
  refine RegC.m (op_move rfl) rfl rfl rfl ?_
  rcases Decidable.em ((d : Int) < 0) with h1 | h1
  ·
    refine RegC.m (OpV.boolT (op_lss rfl) h1) rfl rfl rfl ?_
    refine RegC.m (op_move rfl) rfl rfl rfl ?_
    refine RegC.skip rfl rfl ?_
    refine RegC.skip rfl rfl ?_
    refine RegC.m (op_pick rfl) rfl rfl rfl ?_
    refine RegC.done ⟨.inl rfl, ?_⟩
    refine WP.nrm 40 ?_
    refine WP.cond (t := true) rfl ?_
    refine WP.nrm 40 ?_
    refine WP.reg k_mixed fun nm3 hnm3 => ?_
    refine RegC.m (op_assign rfl) rfl rfl rfl ?_
    refine RegC.m (op_assign rfl) rfl rfl rfl ?_
    refine RegC.done ⟨.inl rfl, ?_⟩
    refine WP.nrm 40 ?_
    refine WP.retS (ResV.many rfl rfl (.cons (.tmp rfl) (.cons (.tmp rfl) (RessOf.nil)))) (List.nil_sublist _) ?_
    exact ⟨rfl, rfl⟩
  ·
    refine RegC.m (OpV.boolF (op_lss rfl) h1) rfl rfl rfl ?_
    refine RegC.m (op_move rfl) rfl rfl rfl ?_
    refine RegC.m (op_move rfl) rfl rfl rfl ?_
    refine RegC.m (op_gtr rfl) rfl rfl rfl ?_
    refine RegC.m (op_pick rfl) rfl rfl rfl ?_
    refine RegC.done ⟨.inl rfl, ?_⟩
    refine WP.nrm 40 ?_
    refine WP.condD rfl (fun h2 => ?_) (fun h2 => ?_)
    ·
      refine WP.nrm 40 ?_
      refine WP.reg k_mixed fun nm4 hnm4 => ?_
      refine RegC.m (op_assign rfl) rfl rfl rfl ?_
      refine RegC.m (op_assign rfl) rfl rfl rfl ?_
      refine RegC.done ⟨.inl rfl, ?_⟩
      refine WP.nrm 40 ?_
      refine WP.retS (ResV.many rfl rfl (.cons (.tmp rfl) (.cons (.tmp rfl) (RessOf.nil)))) (List.nil_sublist _) ?_
      exact ⟨rfl, rfl⟩
    ·
      exfalso; omega

theorem copy_calls (b b' : Nat) (z : Sm) (t : Nat) (hz : z.ok) : ACalls Try.prog 14 [.ptr (b) (0)] [(b, .vec 82 (((z.s).map AVal.u8) ++ (((z.r).map AVal.u8) ++ ([.i ((z.h : Int))] ++ [.i ((t : Int))]))))] [b'] (.ptr b' 0) [(b, .vec 82 (((z.s).map AVal.u8) ++ (((z.r).map AVal.u8) ++ ([.i ((z.h : Int))] ++ [.i ((t : Int))])))), (b', .vec 82 (((z.s).map AVal.u8) ++ (((z.r).map AVal.u8) ++ ([.i ((z.h : Int))] ++ [.i ((t : Int))]))))] := by
  obtain ⟨hs, hr, hh⟩ := hz
  refine ACalls.of_wp' (fn := Try.f14) (n := 7) Try.func14 rfl rfl ?_
  unfold Try.f14
  refine WP.nrm 40 ?_
  refine WP.reg k_mixed fun nm1 hnm1 => ?_
  refine RegC.m (op_assign rfl) rfl rfl rfl ?_
  refine RegC.done ⟨.inl rfl, ?_⟩
  refine WP.nrm 40 ?_
  refine WP.reg k_mixed fun nm2 hnm2 => ?_
  refine RegC.m (op_move rfl) rfl rfl rfl ?_
  refine RegC.m (op_nilCheck rfl) rfl rfl rfl ?_
  refine RegC.q (i := 0) (op_loadW rfl k_agg_82 (by first | (simp only [List.length_append, List.length_map, List.length_cons, List.length_nil, List.length_replicate, List.length_take, List.length_drop, List.length_set]; omega) | (simp <;> omega) | simp_all | rfl)) rfl rfl rfl rfl ?_
  refine RegC.a (op_alloc rfl k_zeroS_82) rfl rfl rfl ?_
  refine RegC.w (i := 1) (op_storeW rfl k_agg_82 (by first | (simp only [List.length_append, List.length_map, List.length_cons, List.length_nil, List.length_replicate, List.length_take, List.length_drop, List.length_set]; omega) | (simp <;> omega) | simp_all | rfl) (by first | (simp only [List.length_append, List.length_map, List.length_cons, List.length_nil, List.length_replicate, List.length_take, List.length_drop, List.length_set]; omega) | (simp <;> omega) | simp_all | rfl) (by simp [AVal.scalar])) rfl rfl rfl rfl ?_
  refine RegC.done ⟨.inl rfl, ?_⟩
  refine WP.nrm 40 ?_
  refine WP.reg k_mixed fun nm3 hnm3 => ?_
  refine RegC.m (op_assign rfl) rfl rfl rfl ?_
  refine RegC.done ⟨.inl rfl, ?_⟩
  refine WP.nrm 40 ?_
  refine WP.ret1S (b' := b') (vf := fun q => .ptr q (0)) 1 (ResV.one rfl (.tmp rfl)) rfl (by simp) ptr_named (.cons_cons _ (.cons_cons _ (List.nil_sublist _))) ?_
  exact ⟨rfl, rfl⟩

theorem write_calls (b : Nat) (z : Sm) (t : Nat) (full : Bool) (x : List UInt8) (hz : z.ok) (ht : t + x.length ≤ 1048576) : ACalls Try.prog 16 [.ptr (b) (0), VS AVal.u8 full (x)] [(b, .vec 82 (((z.s).map AVal.u8) ++ (((z.r).map AVal.u8) ++ ([.i ((z.h : Int))] ++ [.i ((t : Int))]))))] [] (.i 0) [(b, .vec 82 ((((takeS z x).s).map AVal.u8) ++ ((((takeS z x).r).map AVal.u8) ++ ([.i (((takeS z x).h : Int))] ++ [.i (((t + x.length) : Int))]))))] := by
  obtain ⟨hs, hr, hh⟩ := id hz
  refine ACalls.of_wp' (fn := Try.f16) (n := 25) Try.func16 rfl rfl ?_
  unfold Try.f16
  refine WP.nrm 40 ?_
  refine WP.reg k_mixed fun nm1 hnm1 => ?_
  refine RegC.m (op_assign rfl) rfl rfl rfl ?_
  refine RegC.done ⟨.inl rfl, ?_⟩
  refine WP.nrm 40 ?_
  refine WP.reg k_mixed fun nm2 hnm2 => ?_
  refine RegC.m (op_move rfl) rfl rfl rfl ?_
  refine RegC.m (op_lenV (f := AVal.u8) (l := x) rfl k_sl_26) rfl rfl rfl ?_
  refine RegC.m (op_move rfl) rfl rfl rfl ?_
  refine RegC.m (op_nilCheck rfl) rfl rfl rfl ?_
  refine RegC.m (op_fieldE (off := 0) rfl k_fld_82_3 rfl) rfl rfl rfl ?_
  refine RegC.q (i := 0) (op_load (off := 97) rfl k_scal_3 (sgN 64 33 (by omega) (by first | (simp only [List.length_append, List.length_map, List.length_cons, List.length_nil, List.length_replicate, List.length_take, List.length_drop, List.length_set]; omega) | (simp <;> omega) | simp_all | rfl) (sgN 32 1 (by omega) (by first | (simp only [List.length_append, List.length_map, List.length_cons, List.length_nil, List.length_replicate, List.length_take, List.length_drop, List.length_set]; omega) | (simp <;> omega) | simp_all | rfl) (sgN 1 (0) (by omega) (by first | (simp only [List.length_append, List.length_map, List.length_cons, List.length_nil, List.length_replicate, List.length_take, List.length_drop, List.length_set]; omega) | (simp <;> omega) | simp_all | rfl) rfl)))) rfl rfl rfl rfl ?_
  refine RegC.m (op_subI rfl (by first | omega | (simp only [List.length_append, List.length_map, List.length_cons, List.length_nil, List.length_replicate, List.length_take, List.length_drop, List.length_set]; omega) | (simp <;> omega) | simp_all)) rfl rfl rfl ?_
  refine RegC.m (OpV.boolF (op_gtr rfl) (by omega)) rfl rfl rfl ?_
  refine RegC.done ⟨.inl rfl, ?_⟩
  refine WP.nrm 40 ?_
  refine WP.cond (t := false) rfl ?_
  refine WP.nrm 40 ?_
  refine WP.reg k_mixed fun nm3 hnm3 => ?_
  refine RegC.m (op_move rfl) rfl rfl rfl ?_
  refine RegC.m (op_nilCheck rfl) rfl rfl rfl ?_
  refine RegC.m (op_fieldE (off := 0) rfl k_fld_82_3 rfl) rfl rfl rfl ?_
  refine RegC.q (i := 0) (op_load (off := 97) rfl k_scal_3 (sgN 64 33 (by omega) (by first | (simp only [List.length_append, List.length_map, List.length_cons, List.length_nil, List.length_replicate, List.length_take, List.length_drop, List.length_set]; omega) | (simp <;> omega) | simp_all | rfl) (sgN 32 1 (by omega) (by first | (simp only [List.length_append, List.length_map, List.length_cons, List.length_nil, List.length_replicate, List.length_take, List.length_drop, List.length_set]; omega) | (simp <;> omega) | simp_all | rfl) (sgN 1 (0) (by omega) (by first | (simp only [List.length_append, List.length_map, List.length_cons, List.length_nil, List.length_replicate, List.length_take, List.length_drop, List.length_set]; omega) | (simp <;> omega) | simp_all | rfl) rfl)))) rfl rfl rfl rfl ?_
  refine RegC.m (op_move rfl) rfl rfl rfl ?_
  refine RegC.m (op_lenV (f := AVal.u8) (l := x) rfl k_sl_26) rfl rfl rfl ?_
  refine RegC.m (op_addI rfl (by first | omega | (simp only [List.length_append, List.length_map, List.length_cons, List.length_nil, List.length_replicate, List.length_take, List.length_drop, List.length_set]; omega) | (simp <;> omega) | simp_all)) rfl rfl rfl ?_
  refine RegC.m (op_nilCheck rfl) rfl rfl rfl ?_
  refine RegC.m (op_fieldE (off := 0) rfl k_fld_82_3 rfl) rfl rfl rfl ?_
  refine RegC.w (i := 0) (op_storeX (off := 97) (v := .i (((t : Int) + ((x).length : Int)))) rfl k_scal_3 rfl (by simp <;> omega) (suN 64 33 (by omega) (by first | (simp only [List.length_append, List.length_map, List.length_cons, List.length_nil, List.length_replicate, List.length_take, List.length_drop, List.length_set]; omega) | (simp <;> omega) | simp_all | rfl) (suN 32 1 (by omega) (by first | (simp only [List.length_append, List.length_map, List.length_cons, List.length_nil, List.length_replicate, List.length_take, List.length_drop, List.length_set]; omega) | (simp <;> omega) | simp_all | rfl) (suN 1 (0) (by omega) (by first | (simp only [List.length_append, List.length_map, List.length_cons, List.length_nil, List.length_replicate, List.length_take, List.length_drop, List.length_set]; omega) | (simp <;> omega) | simp_all | rfl) suO)))) rfl rfl rfl rfl ?_
  refine RegC.done ⟨.inl rfl, ?_⟩
  refine WP.nrm 40 ?_
  refine WP.reg k_mixed fun nm4 hnm4 => ?_
  refine RegC.m (op_move rfl) rfl rfl rfl ?_
  refine RegC.m (op_move rfl) rfl rfl rfl ?_
  refine RegC.w (i := 0) (op_call rfl k_call_38 (take_calls (b) z ((t + (x).length)) full (x) (by first | (with_reducible assumption) | exact takeS_ok _ (by assumption)))) rfl rfl rfl rfl ?_
  refine RegC.done ⟨.inl rfl, ?_⟩
  refine WP.nrm 40 ?_
  refine WP.reg k_mixed fun nm5 hnm5 => ?_
  refine RegC.m (op_assign rfl) rfl rfl rfl ?_
  refine RegC.done ⟨.inl rfl, ?_⟩
  refine WP.nrm 40 ?_
  refine WP.retS (ResV.one rfl (.tmp rfl)) (.cons_cons _ (List.nil_sublist _)) ?_
  exact ⟨rfl, by push_cast; rfl⟩

theorem write_large (b : Nat) (z : Sm) (t : Nat) (full : Bool) (x : List UInt8) (hz : z.ok) (ht0 : t ≤ 1048576) (ht : 1048576 < t + x.length) : ACalls Try.prog 16 [.ptr (b) (0), VS AVal.u8 full (x)] [(b, .vec 82 (((z.s).map AVal.u8) ++ (((z.r).map AVal.u8) ++ ([.i ((z.h : Int))] ++ [.i ((t : Int))]))))] [] (.i 5) [(b, .vec 82 (((z.s).map AVal.u8) ++ (((z.r).map AVal.u8) ++ ([.i ((z.h : Int))] ++ [.i ((t : Int))]))))] := by
  obtain ⟨hs, hr, hh⟩ := id hz
  refine ACalls.of_wp' (fn := Try.f16) (n := 25) Try.func16 rfl rfl ?_
  unfold Try.f16
  refine WP.nrm 40 ?_
  refine WP.reg k_mixed fun nm1 hnm1 => ?_
  refine RegC.m (op_assign rfl) rfl rfl rfl ?_
  refine RegC.done ⟨.inl rfl, ?_⟩
  refine WP.nrm 40 ?_
  refine WP.reg k_mixed fun nm2 hnm2 => ?_
  refine RegC.m (op_move rfl) rfl rfl rfl ?_
  refine RegC.m (op_lenV (f := AVal.u8) (l := x) rfl k_sl_26) rfl rfl rfl ?_
  refine RegC.m (op_move rfl) rfl rfl rfl ?_
  refine RegC.m (op_nilCheck rfl) rfl rfl rfl ?_
  refine RegC.m (op_fieldE (off := 0) rfl k_fld_82_3 rfl) rfl rfl rfl ?_
  refine RegC.q (i := 0) (op_load (off := 97) rfl k_scal_3 (sgN 64 33 (by omega) (by first | (simp only [List.length_append, List.length_map, List.length_cons, List.length_nil, List.length_replicate, List.length_take, List.length_drop, List.length_set]; omega) | (simp <;> omega) | simp_all | rfl) (sgN 32 1 (by omega) (by first | (simp only [List.length_append, List.length_map, List.length_cons, List.length_nil, List.length_replicate, List.length_take, List.length_drop, List.length_set]; omega) | (simp <;> omega) | simp_all | rfl) (sgN 1 (0) (by omega) (by first | (simp only [List.length_append, List.length_map, List.length_cons, List.length_nil, List.length_replicate, List.length_take, List.length_drop, List.length_set]; omega) | (simp <;> omega) | simp_all | rfl) rfl)))) rfl rfl rfl rfl ?_
  refine RegC.m (op_subI rfl (by first | omega | (simp only [List.length_append, List.length_map, List.length_cons, List.length_nil, List.length_replicate, List.length_take, List.length_drop, List.length_set]; omega) | (simp <;> omega) | simp_all)) rfl rfl rfl ?_
  refine RegC.m (OpV.boolT (op_gtr rfl) (by omega)) rfl rfl rfl ?_
  refine RegC.done ⟨.inl rfl, ?_⟩
  refine WP.nrm 40 ?_
  refine WP.cond (t := true) rfl ?_
  refine WP.nrm 40 ?_
  refine WP.reg k_mixed fun nm3 hnm3 => ?_
  refine RegC.m (op_assign rfl) rfl rfl rfl ?_
  refine RegC.done ⟨.inl rfl, ?_⟩
  refine WP.nrm 40 ?_
  refine WP.retS (ResV.one rfl (.tmp rfl)) (.cons_cons _ (List.nil_sublist _)) ?_
  exact ⟨rfl, rfl⟩

theorem end_pos (b : Nat) (z : Sm) (t : Nat) (hz : z.ok) (hp : 0 < (takeS z [128]).h) : ACalls Try.prog 39 [.ptr (b) (0)] [(b, .vec 82 (((z.s).map AVal.u8) ++ (((z.r).map AVal.u8) ++ ([.i ((z.h : Int))] ++ [.i ((t : Int))]))))] [] (.agg ((endS z t).map AVal.u8)) [(b, .vec 82 (((z.s).map AVal.u8) ++ (((z.r).map AVal.u8) ++ ([.i ((z.h : Int))] ++ [.i ((t : Int))]))))] := by
  have hz1 := takeS_ok [128] hz
  obtain ⟨hs, hr, hh⟩ := id hz
  obtain ⟨hs1, hr1, hh1⟩ := id hz1
  have hz2 := takeS_ok (List.replicate (32 - (takeS z [128]).h) 0) hz1
  obtain ⟨hs2, hr2, hh2⟩ := id hz2
  refine ACalls.of_wp' (fn := Try.f39) (n := 39) Try.func39 rfl rfl ?_
  unfold Try.f39
  refine WP.nrm 40 ?_
  refine WP.reg k_mixed fun nm1 hnm1 => ?_
  refine RegC.a (op_alloc rfl k_zero_76) rfl rfl rfl ?_
  refine RegC.done ⟨.inl rfl, ?_⟩
  refine WP.nrm 40 ?_
  refine WP.reg k_mixed fun nm2 hnm2 => ?_
  refine RegC.m (op_move rfl) rfl rfl rfl ?_
  refine RegC.qa (i := 0) (op_call rfl k_call_14 (copy_calls (b) (nm2 0) z (t) (by first | (with_reducible assumption) | exact takeS_ok _ (by assumption)))) rfl rfl rfl rfl ?_
  refine RegC.m (op_assign rfl) rfl rfl rfl ?_
  refine RegC.done ⟨.inl rfl, ?_⟩
  refine WP.nrm 40 ?_
  refine WP.reg k_mixed fun nm3 hnm3 => ?_
  refine RegC.m (op_move rfl) rfl rfl rfl ?_
  refine RegC.a (op_buildSlM (vs := List.map AVal.u8 [(128 : UInt8)]) rfl k_sl_26 k_zeroE_5 rfl rfl rfl (by omega)) rfl rfl rfl ?_
  refine RegC.wq (i := 2) (j := 3) (op_call rfl k_call_38 (lend21 (take_calls (nm2 0) z (t) true ([(128 : UInt8)]) (by first | (with_reducible assumption) | exact takeS_ok _ (by assumption))) (frz_os (by simp)) rfl (noRefO_vec (by simp [noRefs_append, noRefs_8, noRefs, noRef])))) rfl rfl rfl rfl rfl rfl ?_
  refine RegC.done ⟨.inl rfl, ?_⟩
  refine WP.nrm 40 ?_
  refine WP.reg k_mixed fun nm4 hnm4 => ?_
  refine RegC.m (op_move rfl) rfl rfl rfl ?_
  refine RegC.m (op_nilCheck rfl) rfl rfl rfl ?_
  refine RegC.m (op_fieldE (off := 0) rfl k_fld_82_2 rfl) rfl rfl rfl ?_
  refine RegC.q (i := 2) (op_load (off := 96) rfl k_scal_3 (sgN 64 32 (by omega) (by first | (simp only [List.length_append, List.length_map, List.length_cons, List.length_nil, List.length_replicate, List.length_take, List.length_drop, List.length_set]; omega) | (simp <;> omega) | simp_all | rfl) (sgN 32 (0) (by omega) (by first | (simp only [List.length_append, List.length_map, List.length_cons, List.length_nil, List.length_replicate, List.length_take, List.length_drop, List.length_set]; omega) | (simp <;> omega) | simp_all | rfl) (sgH rfl)))) rfl rfl rfl rfl ?_
  refine RegC.m (OpV.boolT (op_gtr rfl) (by omega)) rfl rfl rfl ?_
  refine RegC.done ⟨.inl rfl, ?_⟩
  refine WP.nrm 40 ?_
  refine WP.cond (t := true) rfl ?_
  refine WP.nrm 40 ?_
  refine WP.reg k_mixed fun nm5 hnm5 => ?_
  refine RegC.m (op_move rfl) rfl rfl rfl ?_
  refine RegC.m (op_move rfl) rfl rfl rfl ?_
  refine RegC.m (op_nilCheck rfl) rfl rfl rfl ?_
  refine RegC.m (op_fieldE (off := 0) rfl k_fld_82_2 rfl) rfl rfl rfl ?_
  refine RegC.q (i := 2) (op_load (off := 96) rfl k_scal_3 (sgN 64 32 (by omega) (by first | (simp only [List.length_append, List.length_map, List.length_cons, List.length_nil, List.length_replicate, List.length_take, List.length_drop, List.length_set]; omega) | (simp <;> omega) | simp_all | rfl) (sgN 32 (0) (by omega) (by first | (simp only [List.length_append, List.length_map, List.length_cons, List.length_nil, List.length_replicate, List.length_take, List.length_drop, List.length_set]; omega) | (simp <;> omega) | simp_all | rfl) (sgH rfl)))) rfl rfl rfl rfl ?_
  refine RegC.m (op_subI rfl (by first | omega | (simp only [List.length_append, List.length_map, List.length_cons, List.length_nil, List.length_replicate, List.length_take, List.length_drop, List.length_set]; omega) | (simp <;> omega) | simp_all)) rfl rfl rfl ?_
  refine RegC.a (op_makeM (f := AVal.u8) (z := (0 : UInt8)) (m := 32 - (takeS z [128]).h) (c := 32 - (takeS z [128]).h) rfl k_sl_26 k_zeroE_5 (by first | omega | (simp only [List.length_append, List.length_map, List.length_cons, List.length_nil, List.length_replicate, List.length_take, List.length_drop, List.length_set]; omega) | (simp <;> omega) | simp_all) (by first | omega | (simp only [List.length_append, List.length_map, List.length_cons, List.length_nil, List.length_replicate, List.length_take, List.length_drop, List.length_set]; omega) | (simp <;> omega) | simp_all) (by first | omega | (simp only [List.length_append, List.length_map, List.length_cons, List.length_nil, List.length_replicate, List.length_take, List.length_drop, List.length_set]; omega) | (simp <;> omega) | simp_all) (by first | omega | (simp only [List.length_append, List.length_map, List.length_cons, List.length_nil, List.length_replicate, List.length_take, List.length_drop, List.length_set]; omega) | (simp <;> omega) | simp_all) (by first | omega | (simp only [List.length_append, List.length_map, List.length_cons, List.length_nil, List.length_replicate, List.length_take, List.length_drop, List.length_set]; omega) | (simp <;> omega) | simp_all)) rfl rfl rfl ?_
  refine RegC.wq (i := 2) (j := 4) (op_call rfl k_call_38 (lend21 (take_calls (nm2 0) (takeS z ([(128 : UInt8)])) (t) false (List.replicate (32 - (takeS z [128]).h) (0 : UInt8)) (by first | (with_reducible assumption) | exact takeS_ok _ (by assumption))) (frz_os (by simp)) rfl (noRefO_vec (by simp [noRefs_append, noRefs_8, noRefs, noRef])))) rfl rfl rfl rfl rfl rfl ?_
  refine RegC.done ⟨.inl rfl, ?_⟩
  refine WP.nrm 40 ?_
  refine WP.reg k_mixed fun nm6 hnm6 => ?_
  refine RegC.a (op_alloc rfl k_zero_22) rfl rfl rfl ?_
  refine RegC.done ⟨.inl rfl, ?_⟩
  refine WP.nrm 40 ?_
  refine WP.reg k_mixed fun nm7 hnm7 => ?_
  refine RegC.m (op_move rfl) rfl rfl rfl ?_
  refine RegC.m (op_nilCheck rfl) rfl rfl rfl ?_
  refine RegC.m (op_fieldE (off := 0) rfl k_fld_82_3 rfl) rfl rfl rfl ?_
  refine RegC.q (i := 0) (op_load (off := 97) rfl k_scal_3 (sgN 64 33 (by omega) (by first | (simp only [List.length_append, List.length_map, List.length_cons, List.length_nil, List.length_replicate, List.length_take, List.length_drop, List.length_set]; omega) | (simp <;> omega) | simp_all | rfl) (sgN 32 1 (by omega) (by first | (simp only [List.length_append, List.length_map, List.length_cons, List.length_nil, List.length_replicate, List.length_take, List.length_drop, List.length_set]; omega) | (simp <;> omega) | simp_all | rfl) (sgN 1 (0) (by omega) (by first | (simp only [List.length_append, List.length_map, List.length_cons, List.length_nil, List.length_replicate, List.length_take, List.length_drop, List.length_set]; omega) | (simp <;> omega) | simp_all | rfl) rfl)))) rfl rfl rfl rfl ?_
  refine RegC.m (op_cv rfl k_und_3 k_undI_78 (cv_i_64 (by first | exact Int.natCast_nonneg _ | omega))) rfl rfl rfl ?_
  refine RegC.m (op_call rfl k_call_69 (longOctets_calls (UInt64.ofNat (t)))) rfl rfl rfl ?_
  refine RegC.a (op_alloc rfl k_zero_114) rfl rfl rfl ?_
  refine RegC.w (i := 6) (op_storeW rfl k_agg_114 (by first | omega | (simp only [List.length_append, List.length_map, List.length_cons, List.length_nil, List.length_replicate, List.length_take, List.length_drop, List.length_set]; omega) | (simp <;> omega) | simp_all) (by first | omega | (simp only [List.length_append, List.length_map, List.length_cons, List.length_nil, List.length_replicate, List.length_take, List.length_drop, List.length_set]; omega) | (simp <;> omega) | simp_all) (by first | exact allS (fun _ => rfl) | simp [AVal.scalar])) rfl rfl rfl rfl ?_
  refine RegC.done ⟨.inl rfl, ?_⟩
  refine WP.nrm 40 ?_
  refine WP.reg k_mixed fun nm8 hnm8 => ?_
  refine RegC.q (i := 5) (op_sA10 (24) rfl k_arr_22 (by first | omega | (simp only [List.length_append, List.length_map, List.length_cons, List.length_nil, List.length_replicate, List.length_take, List.length_drop, List.length_set]; omega) | (simp <;> omega) | simp_all) (by first | omega | (simp only [List.length_append, List.length_map, List.length_cons, List.length_nil, List.length_replicate, List.length_take, List.length_drop, List.length_set]; omega) | (simp <;> omega) | simp_all) (by first | omega | (simp only [List.length_append, List.length_map, List.length_cons, List.length_nil, List.length_replicate, List.length_take, List.length_drop, List.length_set]; omega) | (simp <;> omega) | simp_all)) rfl rfl rfl rfl ?_
  refine RegC.q (i := 6) (op_sA00 rfl k_arr_114 (by first | omega | (simp only [List.length_append, List.length_map, List.length_cons, List.length_nil, List.length_replicate, List.length_take, List.length_drop, List.length_set]; omega) | (simp <;> omega) | simp_all)) rfl rfl rfl rfl ?_
  refine RegC.wq (i := 5) (j := 6) (OpV.toH (op_copyMO (l := List.replicate 32 (0 : UInt8)) (l2 := longS (UInt64.ofNat (t))) (f := AVal.u8) (fun _ => rfl) rfl rfl k_sl_26 (by first | omega | (simp only [List.length_append, List.length_map, List.length_cons, List.length_nil, List.length_replicate, List.length_take, List.length_drop, List.length_set]; omega) | (simp <;> omega) | simp_all) (by first | omega | (simp only [List.length_append, List.length_map, List.length_cons, List.length_nil, List.length_replicate, List.length_take, List.length_drop, List.length_set]; omega) | (simp <;> omega) | simp_all)) rfl (by rw [last_raw])) rfl rfl rfl rfl rfl rfl ?_
  refine RegC.done ⟨.inr rfl, ?_⟩
  refine WP.nrm 40 ?_
  refine WP.reg k_mixed fun nm9 hnm9 => ?_
  refine RegC.m (op_move rfl) rfl rfl rfl ?_
  refine RegC.wq (i := 2) (j := 5) (op_call rfl k_call_74 (lend21 (block_v (nm2 0) ((takeS (takeS z ([(128 : UInt8)])) (List.replicate (32 - (takeS z [128]).h) (0 : UInt8))).s) ((takeS (takeS z ([(128 : UInt8)])) (List.replicate (32 - (takeS z [128]).h) (0 : UInt8))).r) ((takeS (takeS z ([(128 : UInt8)])) (List.replicate (32 - (takeS z [128]).h) (0 : UInt8))).h) (t) (by first | omega | (simp only [List.length_append, List.length_map, List.length_cons, List.length_nil, List.length_replicate, List.length_take, List.length_drop, List.length_set]; omega) | (simp <;> omega) | simp_all) (by first | omega | (simp only [List.length_append, List.length_map, List.length_cons, List.length_nil, List.length_replicate, List.length_take, List.length_drop, List.length_set]; omega) | (simp <;> omega) | simp_all) (lastB t) (by first | omega | (simp only [List.length_append, List.length_map, List.length_cons, List.length_nil, List.length_replicate, List.length_take, List.length_drop, List.length_set]; omega) | (simp <;> omega) | simp_all)) (.ptr 0) rfl (noRefO_vec (by simp [noRefs_append, noRefs_8, noRefs, noRef])))) rfl rfl rfl rfl rfl rfl ?_
  refine RegC.done ⟨.inl rfl, ?_⟩
  refine WP.nrm 40 ?_
  refine WP.reg k_mixed fun nm10 hnm10 => ?_
  refine RegC.m (op_move rfl) rfl rfl rfl ?_
  refine RegC.m (op_nilCheck rfl) rfl rfl rfl ?_
  refine RegC.m (op_fieldE (off := 0) rfl k_fld_82_0 rfl) rfl rfl rfl ?_
  refine RegC.q (i := 2) (op_loadG (off := 0) rfl k_agg_76 (by simp <;> omega) (prH (by simp <;> omega) (prW (by first | (simp only [List.length_append, List.length_map, List.length_cons, List.length_nil, List.length_replicate, List.length_take, List.length_drop, List.length_set]; omega) | (simp <;> omega) | simp_all | rfl)))) rfl rfl rfl rfl ?_
  refine RegC.w (i := 1) (op_storeW rfl k_agg_76 (by first | omega | (simp only [List.length_append, List.length_map, List.length_cons, List.length_nil, List.length_replicate, List.length_take, List.length_drop, List.length_set]; omega) | (simp <;> omega) | simp_all) (by first | omega | (simp only [List.length_append, List.length_map, List.length_cons, List.length_nil, List.length_replicate, List.length_take, List.length_drop, List.length_set]; omega) | (simp <;> omega) | simp_all) (by first | exact allS (fun _ => rfl) | simp [AVal.scalar])) rfl rfl rfl rfl ?_
  refine RegC.done ⟨.inl rfl, ?_⟩
  refine WP.nrm 40 ?_
  refine WP.retS (ResV.one rfl (.cellW 1 rfl rfl k_agg_76 (by first | omega | (simp only [List.length_append, List.length_map, List.length_cons, List.length_nil, List.length_replicate, List.length_take, List.length_drop, List.length_set]; omega) | (simp <;> omega) | simp_all))) (.cons_cons _ (List.nil_sublist _)) ?_
  exact ⟨by simp [endS, endZ, hp], rfl⟩

theorem end_zero (b : Nat) (z : Sm) (t : Nat) (hz : z.ok) (hp : (takeS z [128]).h = 0) : ACalls Try.prog 39 [.ptr (b) (0)] [(b, .vec 82 (((z.s).map AVal.u8) ++ (((z.r).map AVal.u8) ++ ([.i ((z.h : Int))] ++ [.i ((t : Int))]))))] [] (.agg ((endS z t).map AVal.u8)) [(b, .vec 82 (((z.s).map AVal.u8) ++ (((z.r).map AVal.u8) ++ ([.i ((z.h : Int))] ++ [.i ((t : Int))]))))] := by
  have hz1 := takeS_ok [128] hz
  obtain ⟨hs, hr, hh⟩ := id hz
  obtain ⟨hs1, hr1, hh1⟩ := id hz1
  have hz2 := takeS_ok (List.replicate (32 - (takeS z [128]).h) 0) hz1
  obtain ⟨hs2, hr2, hh2⟩ := id hz2
  refine ACalls.of_wp' (fn := Try.f39) (n := 39) Try.func39 rfl rfl ?_
  unfold Try.f39
  refine WP.nrm 40 ?_
  refine WP.reg k_mixed fun nm1 hnm1 => ?_
  refine RegC.a (op_alloc rfl k_zero_76) rfl rfl rfl ?_
  refine RegC.done ⟨.inl rfl, ?_⟩
  refine WP.nrm 40 ?_
  refine WP.reg k_mixed fun nm2 hnm2 => ?_
  refine RegC.m (op_move rfl) rfl rfl rfl ?_
  refine RegC.qa (i := 0) (op_call rfl k_call_14 (copy_calls (b) (nm2 0) z (t) (by first | (with_reducible assumption) | exact takeS_ok _ (by assumption)))) rfl rfl rfl rfl ?_
  refine RegC.m (op_assign rfl) rfl rfl rfl ?_
  refine RegC.done ⟨.inl rfl, ?_⟩
  refine WP.nrm 40 ?_
  refine WP.reg k_mixed fun nm3 hnm3 => ?_
  refine RegC.m (op_move rfl) rfl rfl rfl ?_
  refine RegC.a (op_buildSlM (vs := List.map AVal.u8 [(128 : UInt8)]) rfl k_sl_26 k_zeroE_5 rfl rfl rfl (by omega)) rfl rfl rfl ?_
  refine RegC.wq (i := 2) (j := 3) (op_call rfl k_call_38 (lend21 (take_calls (nm2 0) z (t) true ([(128 : UInt8)]) (by first | (with_reducible assumption) | exact takeS_ok _ (by assumption))) (frz_os (by simp)) rfl (noRefO_vec (by simp [noRefs_append, noRefs_8, noRefs, noRef])))) rfl rfl rfl rfl rfl rfl ?_
  refine RegC.done ⟨.inl rfl, ?_⟩
  refine WP.nrm 40 ?_
  refine WP.reg k_mixed fun nm4 hnm4 => ?_
  refine RegC.m (op_move rfl) rfl rfl rfl ?_
  refine RegC.m (op_nilCheck rfl) rfl rfl rfl ?_
  refine RegC.m (op_fieldE (off := 0) rfl k_fld_82_2 rfl) rfl rfl rfl ?_
  refine RegC.q (i := 2) (op_load (off := 96) rfl k_scal_3 (sgN 64 32 (by omega) (by first | (simp only [List.length_append, List.length_map, List.length_cons, List.length_nil, List.length_replicate, List.length_take, List.length_drop, List.length_set]; omega) | (simp <;> omega) | simp_all | rfl) (sgN 32 (0) (by omega) (by first | (simp only [List.length_append, List.length_map, List.length_cons, List.length_nil, List.length_replicate, List.length_take, List.length_drop, List.length_set]; omega) | (simp <;> omega) | simp_all | rfl) (sgH rfl)))) rfl rfl rfl rfl ?_
  refine RegC.m (OpV.boolF (op_gtr rfl) (by omega)) rfl rfl rfl ?_
  refine RegC.done ⟨.inl rfl, ?_⟩
  refine WP.nrm 40 ?_
  refine WP.cond (t := false) rfl ?_
  refine WP.nrm 40 ?_
  refine WP.reg k_mixed fun nm5 hnm5 => ?_
  refine RegC.a (op_alloc rfl k_zero_22) rfl rfl rfl ?_
  refine RegC.done ⟨.inl rfl, ?_⟩
  refine WP.nrm 40 ?_
  refine WP.reg k_mixed fun nm6 hnm6 => ?_
  refine RegC.m (op_move rfl) rfl rfl rfl ?_
  refine RegC.m (op_nilCheck rfl) rfl rfl rfl ?_
  refine RegC.m (op_fieldE (off := 0) rfl k_fld_82_3 rfl) rfl rfl rfl ?_
  refine RegC.q (i := 0) (op_load (off := 97) rfl k_scal_3 (sgN 64 33 (by omega) (by first | (simp only [List.length_append, List.length_map, List.length_cons, List.length_nil, List.length_replicate, List.length_take, List.length_drop, List.length_set]; omega) | (simp <;> omega) | simp_all | rfl) (sgN 32 1 (by omega) (by first | (simp only [List.length_append, List.length_map, List.length_cons, List.length_nil, List.length_replicate, List.length_take, List.length_drop, List.length_set]; omega) | (simp <;> omega) | simp_all | rfl) (sgN 1 (0) (by omega) (by first | (simp only [List.length_append, List.length_map, List.length_cons, List.length_nil, List.length_replicate, List.length_take, List.length_drop, List.length_set]; omega) | (simp <;> omega) | simp_all | rfl) rfl)))) rfl rfl rfl rfl ?_
  refine RegC.m (op_cv rfl k_und_3 k_undI_78 (cv_i_64 (by first | exact Int.natCast_nonneg _ | omega))) rfl rfl rfl ?_
  refine RegC.m (op_call rfl k_call_69 (longOctets_calls (UInt64.ofNat (t)))) rfl rfl rfl ?_
  refine RegC.a (op_alloc rfl k_zero_114) rfl rfl rfl ?_
  refine RegC.w (i := 5) (op_storeW rfl k_agg_114 (by first | omega | (simp only [List.length_append, List.length_map, List.length_cons, List.length_nil, List.length_replicate, List.length_take, List.length_drop, List.length_set]; omega) | (simp <;> omega) | simp_all) (by first | omega | (simp only [List.length_append, List.length_map, List.length_cons, List.length_nil, List.length_replicate, List.length_take, List.length_drop, List.length_set]; omega) | (simp <;> omega) | simp_all) (by first | exact allS (fun _ => rfl) | simp [AVal.scalar])) rfl rfl rfl rfl ?_
  refine RegC.done ⟨.inl rfl, ?_⟩
  refine WP.nrm 40 ?_
  refine WP.reg k_mixed fun nm7 hnm7 => ?_
  refine RegC.q (i := 4) (op_sA10 (24) rfl k_arr_22 (by first | omega | (simp only [List.length_append, List.length_map, List.length_cons, List.length_nil, List.length_replicate, List.length_take, List.length_drop, List.length_set]; omega) | (simp <;> omega) | simp_all) (by first | omega | (simp only [List.length_append, List.length_map, List.length_cons, List.length_nil, List.length_replicate, List.length_take, List.length_drop, List.length_set]; omega) | (simp <;> omega) | simp_all) (by first | omega | (simp only [List.length_append, List.length_map, List.length_cons, List.length_nil, List.length_replicate, List.length_take, List.length_drop, List.length_set]; omega) | (simp <;> omega) | simp_all)) rfl rfl rfl rfl ?_
  refine RegC.q (i := 5) (op_sA00 rfl k_arr_114 (by first | omega | (simp only [List.length_append, List.length_map, List.length_cons, List.length_nil, List.length_replicate, List.length_take, List.length_drop, List.length_set]; omega) | (simp <;> omega) | simp_all)) rfl rfl rfl rfl ?_
  refine RegC.wq (i := 4) (j := 5) (OpV.toH (op_copyMO (l := List.replicate 32 (0 : UInt8)) (l2 := longS (UInt64.ofNat (t))) (f := AVal.u8) (fun _ => rfl) rfl rfl k_sl_26 (by first | omega | (simp only [List.length_append, List.length_map, List.length_cons, List.length_nil, List.length_replicate, List.length_take, List.length_drop, List.length_set]; omega) | (simp <;> omega) | simp_all) (by first | omega | (simp only [List.length_append, List.length_map, List.length_cons, List.length_nil, List.length_replicate, List.length_take, List.length_drop, List.length_set]; omega) | (simp <;> omega) | simp_all)) rfl (by rw [last_raw])) rfl rfl rfl rfl rfl rfl ?_
  refine RegC.done ⟨.inr rfl, ?_⟩
  refine WP.nrm 40 ?_
  refine WP.reg k_mixed fun nm8 hnm8 => ?_
  refine RegC.m (op_move rfl) rfl rfl rfl ?_
  refine RegC.wq (i := 2) (j := 4) (op_call rfl k_call_74 (lend21 (block_v (nm2 0) ((takeS z ([(128 : UInt8)])).s) ((takeS z ([(128 : UInt8)])).r) ((takeS z ([(128 : UInt8)])).h) (t) (by first | omega | (simp only [List.length_append, List.length_map, List.length_cons, List.length_nil, List.length_replicate, List.length_take, List.length_drop, List.length_set]; omega) | (simp <;> omega) | simp_all) (by first | omega | (simp only [List.length_append, List.length_map, List.length_cons, List.length_nil, List.length_replicate, List.length_take, List.length_drop, List.length_set]; omega) | (simp <;> omega) | simp_all) (lastB t) (by first | omega | (simp only [List.length_append, List.length_map, List.length_cons, List.length_nil, List.length_replicate, List.length_take, List.length_drop, List.length_set]; omega) | (simp <;> omega) | simp_all)) (.ptr 0) rfl (noRefO_vec (by simp [noRefs_append, noRefs_8, noRefs, noRef])))) rfl rfl rfl rfl rfl rfl ?_
  refine RegC.done ⟨.inl rfl, ?_⟩
  refine WP.nrm 40 ?_
  refine WP.reg k_mixed fun nm9 hnm9 => ?_
  refine RegC.m (op_move rfl) rfl rfl rfl ?_
  refine RegC.m (op_nilCheck rfl) rfl rfl rfl ?_
  refine RegC.m (op_fieldE (off := 0) rfl k_fld_82_0 rfl) rfl rfl rfl ?_
  refine RegC.q (i := 2) (op_loadG (off := 0) rfl k_agg_76 (by simp <;> omega) (prH (by simp <;> omega) (prW (by first | (simp only [List.length_append, List.length_map, List.length_cons, List.length_nil, List.length_replicate, List.length_take, List.length_drop, List.length_set]; omega) | (simp <;> omega) | simp_all | rfl)))) rfl rfl rfl rfl ?_
  refine RegC.w (i := 1) (op_storeW rfl k_agg_76 (by first | omega | (simp only [List.length_append, List.length_map, List.length_cons, List.length_nil, List.length_replicate, List.length_take, List.length_drop, List.length_set]; omega) | (simp <;> omega) | simp_all) (by first | omega | (simp only [List.length_append, List.length_map, List.length_cons, List.length_nil, List.length_replicate, List.length_take, List.length_drop, List.length_set]; omega) | (simp <;> omega) | simp_all) (by first | exact allS (fun _ => rfl) | simp [AVal.scalar])) rfl rfl rfl rfl ?_
  refine RegC.done ⟨.inl rfl, ?_⟩
  refine WP.nrm 40 ?_
  refine WP.retS (ResV.one rfl (.cellW 1 rfl rfl k_agg_76 (by first | omega | (simp only [List.length_append, List.length_map, List.length_cons, List.length_nil, List.length_replicate, List.length_take, List.length_drop, List.length_set]; omega) | (simp <;> omega) | simp_all))) (.cons_cons _ (List.nil_sublist _)) ?_
  exact ⟨by simp [endS, endZ, hp], rfl⟩

theorem end_calls (b : Nat) (z : Sm) (t : Nat) (hz : z.ok) : ACalls Try.prog 39 [.ptr b 0] [(b, .vec 82 (((z.s).map AVal.u8) ++ (((z.r).map AVal.u8) ++ ([.i ((z.h : Int))] ++ [.i ((t : Int))]))))] [] (.agg ((endS z t).map AVal.u8)) [(b, .vec 82 (((z.s).map AVal.u8) ++ (((z.r).map AVal.u8) ++ ([.i ((z.h : Int))] ++ [.i ((t : Int))]))))] := by
  rcases Nat.eq_zero_or_pos (takeS z [128]).h with h | h
  · exact end_zero b z t hz h
  · exact end_pos b z t hz h

theorem sum_calls (b : Nat) (z : Sm) (t : Nat) (hz : z.ok) : ACalls Try.prog 17 [.ptr (b) (0)] [(b, .vec 82 (((z.s).map AVal.u8) ++ (((z.r).map AVal.u8) ++ ([.i ((z.h : Int))] ++ [.i ((t : Int))]))))] [] (.agg ((sumS z t).map AVal.u8)) [(b, .vec 82 (((z.s).map AVal.u8) ++ (((z.r).map AVal.u8) ++ ([.i ((z.h : Int))] ++ [.i ((t : Int))]))))] := by
  obtain ⟨hs, hr, hh⟩ := id hz
  refine ACalls.of_wp' (fn := Try.f17) (n := 9) Try.func17 rfl rfl ?_
  unfold Try.f17
  refine WP.nrm 40 ?_
  refine WP.reg k_mixed fun nm1 hnm1 => ?_
  refine RegC.a (op_alloc rfl k_zero_43) rfl rfl rfl ?_
  refine RegC.done ⟨.inl rfl, ?_⟩
  refine WP.nrm 40 ?_
  refine WP.reg k_mixed fun nm2 hnm2 => ?_
  refine RegC.m (op_move rfl) rfl rfl rfl ?_
  refine RegC.q (i := 0) (op_call rfl k_call_39 (end_calls (b) z (t) (by first | (with_reducible assumption) | exact takeS_ok _ (by assumption)))) rfl rfl rfl rfl ?_
  refine RegC.a (op_alloc rfl k_zero_76) rfl rfl rfl ?_
  refine RegC.w (i := 2) (op_storeW rfl k_agg_76 (by first | omega | (simp only [List.length_append, List.length_map, List.length_cons, List.length_nil, List.length_replicate, List.length_take, List.length_drop, List.length_set]; omega) | (simp <;> omega) | simp_all) (by first | omega | (simp only [List.length_append, List.length_map, List.length_cons, List.length_nil, List.length_replicate, List.length_take, List.length_drop, List.length_set]; omega) | (simp <;> omega) | simp_all) (by first | exact allS (fun _ => rfl) | simp [AVal.scalar])) rfl rfl rfl rfl ?_
  refine RegC.done ⟨.inl rfl, ?_⟩
  refine WP.nrm 40 ?_
  refine WP.reg k_mixed fun nm3 hnm3 => ?_
  refine RegC.q (i := 2) (op_sA01 (32) rfl k_arr_76 (by first | omega | (simp only [List.length_append, List.length_map, List.length_cons, List.length_nil, List.length_replicate, List.length_take, List.length_drop, List.length_set]; omega) | (simp <;> omega) | simp_all) (by first | omega | (simp only [List.length_append, List.length_map, List.length_cons, List.length_nil, List.length_replicate, List.length_take, List.length_drop, List.length_set]; omega) | (simp <;> omega) | simp_all) (by first | omega | (simp only [List.length_append, List.length_map, List.length_cons, List.length_nil, List.length_replicate, List.length_take, List.length_drop, List.length_set]; omega) | (simp <;> omega) | simp_all)) rfl rfl rfl rfl ?_
  refine RegC.m (op_toArr rfl k_arr_43 (by first | omega | (simp only [List.length_append, List.length_map, List.length_cons, List.length_nil, List.length_replicate, List.length_take, List.length_drop, List.length_set]; omega) | (simp <;> omega) | simp_all) (by first | omega | (simp only [List.length_append, List.length_map, List.length_cons, List.length_nil, List.length_replicate, List.length_take, List.length_drop, List.length_set]; omega) | (simp <;> omega) | simp_all)) rfl rfl rfl ?_
  refine RegC.q (i := 2) (op_loadP (f := AVal.u8) (l := endS z (t)) (off := 0) rfl k_agg_43 (by first | omega | (simp only [List.length_append, List.length_map, List.length_cons, List.length_nil, List.length_replicate, List.length_take, List.length_drop, List.length_set]; omega) | (simp <;> omega) | simp_all)) rfl rfl rfl rfl ?_
  refine RegC.w (i := 1) (op_storeW rfl k_agg_43 (by first | omega | (simp only [List.length_append, List.length_map, List.length_cons, List.length_nil, List.length_replicate, List.length_take, List.length_drop, List.length_set]; omega) | (simp <;> omega) | simp_all) (by first | omega | (simp only [List.length_append, List.length_map, List.length_cons, List.length_nil, List.length_replicate, List.length_take, List.length_drop, List.length_set]; omega) | (simp <;> omega) | simp_all) (by first | exact allS (fun _ => rfl) | simp [AVal.scalar])) rfl rfl rfl rfl ?_
  refine RegC.done ⟨.inl rfl, ?_⟩
  refine WP.nrm 40 ?_
  refine WP.retS (ResV.one rfl (.cellW 1 rfl rfl k_agg_43 (by first | omega | (simp only [List.length_append, List.length_map, List.length_cons, List.length_nil, List.length_replicate, List.length_take, List.length_drop, List.length_set]; omega) | (simp <;> omega) | simp_all))) (.cons_cons _ (List.nil_sublist _)) ?_
  exact ⟨by simp [sumS], rfl⟩

theorem clone_ne (b' : Nat) (full : Bool) (l : List UInt8) (hl : l ≠ []) (hb : l.length ≤ 16777216) : ACalls Try.prog 15 [VS AVal.u8 full (l)] [] [b'] (.os b' 0 l.length 1 false) [(b', .vec 5 ((l : List UInt8).map AVal.u8))] := by
  refine ACalls.of_wp' (fn := Try.f15) (n := 8) Try.func15 rfl rfl ?_
  unfold Try.f15
  refine WP.nrm 40 ?_
  refine WP.reg k_mixed fun nm1 hnm1 => ?_
  refine RegC.m (op_assign rfl) rfl rfl rfl ?_
  refine RegC.done ⟨.inl rfl, ?_⟩
  refine WP.nrm 40 ?_
  refine WP.reg k_mixed fun nm2 hnm2 => ?_
  refine RegC.m (op_move rfl) rfl rfl rfl ?_
  refine RegC.m (op_eqVNil rfl k_undSl_26 (by simpa using hl)) rfl rfl rfl ?_
  refine RegC.done ⟨.inl rfl, ?_⟩
  refine WP.nrm 40 ?_
  refine WP.cond (t := false) rfl ?_
  refine WP.nrm 40 ?_
  refine WP.reg k_mixed fun nm3 hnm3 => ?_
  refine RegC.a (op_buildSlM (vs := List.map AVal.u8 []) rfl k_sl_26 k_zeroE_5 rfl rfl rfl (by omega)) rfl rfl rfl ?_
  refine RegC.m (op_move rfl) rfl rfl rfl ?_
  refine RegC.wa (i := 0) (op_appM (f := AVal.u8) (l := []) (l2 := l) (fun _ => rfl) rfl k_app_26_26 (by first | omega | (simp only [List.length_append, List.length_map, List.length_cons, List.length_nil, List.length_replicate, List.length_take, List.length_drop, List.length_set]; omega) | (simp <;> omega) | simp_all)) rfl rfl rfl rfl ?_
  refine RegC.m (op_assign rfl) rfl rfl rfl ?_
  refine RegC.done ⟨.inl rfl, ?_⟩
  refine WP.nrm 40 ?_
  refine WP.ret1S (b' := b') (vf := fun q => OS q false ([] ++ l)) 0 (ResV.one rfl (.tmp rfl)) rfl (by simp) os_named (.cons_cons _ (List.nil_sublist _)) ?_
  exact ⟨rfl, rfl⟩

theorem clone_nil (b' : Nat) : ACalls Try.prog 15 [.ns true] [] [b'] (.os b' 0 0 1 false) [(b', .vec 5 (([] : List UInt8).map AVal.u8))] := by
  refine ACalls.of_wp' (fn := Try.f15) (n := 8) Try.func15 rfl rfl ?_
  unfold Try.f15
  refine WP.nrm 40 ?_
  refine WP.reg k_mixed fun nm1 hnm1 => ?_
  refine RegC.m (op_assign rfl) rfl rfl rfl ?_
  refine RegC.done ⟨.inl rfl, ?_⟩
  refine WP.nrm 40 ?_
  refine WP.reg k_mixed fun nm2 hnm2 => ?_
  refine RegC.m (op_move rfl) rfl rfl rfl ?_
  refine RegC.m (op_eqNs rfl k_undSl_26) rfl rfl rfl ?_
  refine RegC.done ⟨.inl rfl, ?_⟩
  refine WP.nrm 40 ?_
  refine WP.cond (t := true) rfl ?_
  refine WP.nrm 40 ?_
  refine WP.reg k_mixed fun nm3 hnm3 => ?_
  refine RegC.m (op_assign rfl) rfl rfl rfl ?_
  refine RegC.done ⟨.inl rfl, ?_⟩
  refine WP.nrm 40 ?_
  refine WP.own 2 5 1 rfl (fun q0 => ?_)
  refine WP.ret1S (b' := b') (vf := fun q => .os q (0) (0) 1 false) 0 (ResV.one rfl (.tmp rfl)) rfl (by simp) os_named (.cons_cons _ (List.nil_sublist _)) ?_
  exact ⟨rfl, rfl⟩

theorem clone_e (b' : Nat) : ACalls Try.prog 15 [.ns false] [] [b'] (.os b' 0 0 1 false) [(b', .vec 5 (([] : List UInt8).map AVal.u8))] := by
  refine ACalls.of_wp' (fn := Try.f15) (n := 8) Try.func15 rfl rfl ?_
  unfold Try.f15
  refine WP.nrm 40 ?_
  refine WP.reg k_mixed fun nm1 hnm1 => ?_
  refine RegC.m (op_assign rfl) rfl rfl rfl ?_
  refine RegC.done ⟨.inl rfl, ?_⟩
  refine WP.nrm 40 ?_
  refine WP.reg k_mixed fun nm2 hnm2 => ?_
  refine RegC.m (op_move rfl) rfl rfl rfl ?_
  refine RegC.m (op_eqNs rfl k_undSl_26) rfl rfl rfl ?_
  refine RegC.done ⟨.inl rfl, ?_⟩
  refine WP.nrm 40 ?_
  refine WP.cond (t := false) rfl ?_
  refine WP.backNil 0 false rfl ?_
  refine WP.nrm 40 ?_
  refine WP.reg k_mixed fun nm3 hnm3 => ?_
  refine RegC.a (op_buildSlM (vs := List.map AVal.u8 []) rfl k_sl_26 k_zeroE_5 rfl rfl rfl (by omega)) rfl rfl rfl ?_
  refine RegC.m (op_move rfl) rfl rfl rfl ?_
  refine RegC.wa (i := 0) (op_appM (f := AVal.u8) (l := []) (l2 := ([] : List UInt8)) (fun _ => rfl) rfl k_app_26_26 (by first | omega | (simp only [List.length_append, List.length_map, List.length_cons, List.length_nil, List.length_replicate, List.length_take, List.length_drop, List.length_set]; omega) | (simp <;> omega) | simp_all)) rfl rfl rfl rfl ?_
  refine RegC.m (op_assign rfl) rfl rfl rfl ?_
  refine RegC.done ⟨.inl rfl, ?_⟩
  refine WP.nrm 40 ?_
  refine WP.ret1S (b' := b') (vf := fun q => OS q false ([] ++ ([] : List UInt8))) 0 (ResV.one rfl (.tmp rfl)) rfl (by simp) os_named (.cons_cons _ (List.nil_sublist _)) ?_
  exact ⟨rfl, rfl⟩

theorem clone_calls (b' : Nat) (full : Bool) (l : List UInt8) (hb : l.length ≤ 16777216) : ACalls Try.prog 15 [VS AVal.u8 full l] [] [b'] (.os b' 0 l.length 1 false) [(b', .vec 5 (l.map AVal.u8))] := by
  by_cases hl : l = []
  · subst hl
    refine ACalls.nsCase fun nil => ?_
    cases nil
    · exact clone_e b'
    · exact clone_nil b'
  · exact clone_ne b' full l hl hb

theorem state1_calls (full : Bool) (d : Nat) (text : List UInt8) (hd : d ≤ 255) (ht : text.length ≤ 1048576) : ACalls Try.prog 40 [.i ((d : Int)), VS AVal.u8 full (text)] [] [] (.agg ((state1 d text).map AVal.u8)) [] := by
  have hpad := padN_lt text.length
  have hpl := padded_length text
  refine ACalls.of_wp' (fn := Try.f40) (n := 50) Try.func40 rfl rfl ?_
  unfold Try.f40
  refine WP.nrm 40 ?_
  refine WP.reg k_mixed fun nm1 hnm1 => ?_
  refine RegC.a (op_alloc rfl k_zero_76) rfl rfl rfl ?_
  refine RegC.done ⟨.inl rfl, ?_⟩
  refine WP.nrm 40 ?_
  refine WP.reg k_mixed fun nm2 hnm2 => ?_
  refine RegC.a (op_alloc rfl k_zero_76) rfl rfl rfl ?_
  refine RegC.done ⟨.inl rfl, ?_⟩
  refine WP.nrm 40 ?_
  refine WP.reg k_mixed fun nm3 hnm3 => ?_
  refine RegC.m (op_move rfl) rfl rfl rfl ?_
  refine RegC.m (op_cv rfl k_und_3 k_undI_5 (cv_i_8 (by first | exact Int.natCast_nonneg _ | omega))) rfl rfl rfl ?_
  refine RegC.m (op_iA (63) rfl k_arr_76 (by first | omega | (simp only [List.length_append, List.length_map, List.length_cons, List.length_nil, List.length_replicate, List.length_take, List.length_drop, List.length_set]; omega) | (simp <;> omega) | simp_all) (by first | omega | (simp only [List.length_append, List.length_map, List.length_cons, List.length_nil, List.length_replicate, List.length_take, List.length_drop, List.length_set]; omega) | (simp <;> omega) | simp_all)) rfl rfl rfl ?_
  refine RegC.w (i := 1) (op_storeM (f := AVal.u8) (l := List.replicate 64 (0 : UInt8)) (n := 63) (v := UInt8.ofNat (d)) rfl k_scal_5 rfl (by first | omega | (simp only [List.length_append, List.length_map, List.length_cons, List.length_nil, List.length_replicate, List.length_take, List.length_drop, List.length_set]; omega) | (simp <;> omega) | simp_all)) rfl rfl rfl rfl ?_
  refine RegC.done ⟨.inl rfl, ?_⟩
  refine WP.nrm 40 ?_
  refine WP.reg k_mixed fun nm4 hnm4 => ?_
  refine RegC.m (op_move rfl) rfl rfl rfl ?_
  refine RegC.a (op_call rfl k_call_15 (clone_calls (nm4 0) full (text) (by first | omega | (simp only [List.length_append, List.length_map, List.length_cons, List.length_nil, List.length_replicate, List.length_take, List.length_drop, List.length_set]; omega) | (simp <;> omega) | simp_all))) rfl rfl rfl ?_
  refine RegC.a (op_buildSlM (vs := List.map AVal.u8 [(128 : UInt8)]) rfl k_sl_26 k_zeroE_5 rfl rfl rfl (by omega)) rfl rfl rfl ?_
  refine RegC.wqa (i := 2) (j := 3) (OpV.toH (op_appLO (f := AVal.u8) (l := text) (l2 := [(128 : UInt8)]) (lo := 0) (n := ([(128 : UInt8)]).length) (fun _ => rfl) rfl k_app_26_26 (by first | omega | (simp only [List.length_append, List.length_map, List.length_cons, List.length_nil, List.length_replicate, List.length_take, List.length_drop, List.length_set]; omega) | (simp <;> omega) | simp_all) (by first | omega | (simp only [List.length_append, List.length_map, List.length_cons, List.length_nil, List.length_replicate, List.length_take, List.length_drop, List.length_set]; omega) | (simp <;> omega) | simp_all) (by first | omega | (simp only [List.length_append, List.length_map, List.length_cons, List.length_nil, List.length_replicate, List.length_take, List.length_drop, List.length_set]; omega) | (simp <;> omega) | simp_all)) rfl (toH2 (l' := text ++ [128] ++ List.replicate (0) 0) (by simp))) rfl rfl rfl rfl rfl rfl ?_
  refine RegC.m (op_assign rfl) rfl rfl rfl ?_
  refine RegC.done ⟨.inl rfl, ?_⟩
  refine WP.nrm 40 ?_
  refine WP.loop2 (fun (p : Nat) (bn : Nat) => [(1, VS AVal.u8 full (text)), (4, .ptr (nm1 0) (0)), (5, .ptr (nm2 0) (0)), (6, .os (bn) (0) ((text.length + 1 + p)) 1 false)]) (fun (p : Nat) (bn : Nat) => [(nm1 0, .vec 76 ((List.replicate 64 (0 : UInt8)).map AVal.u8)), (nm2 0, .vec 76 (((List.replicate 64 (0 : UInt8)).set (63) (UInt8.ofNat (d))).map AVal.u8)), (bn, .vec 5 ((text ++ [128] ++ List.replicate (p) 0).map AVal.u8))]) (fun (p : Nat) (bn : Nat) => p ≤ padN text.length) (fun (p : Nat) (bn : Nat) => padN text.length - p) (0) (nm4 2) (subE.cons rfl (subE.cons rfl (subE.cons rfl (subE.cons rfl (subE.nil))))) (by (try simp only [List.set_cons_zero, List.set_cons_succ, List.cons_append, List.nil_append]); exact (.cons_cons _ (.cons_cons _ (.cons_cons _ (List.nil_sublist _))))) (Nat.zero_le _) ?_
  intro p bn hI ih0
  refine WP.nrm 40 ?_
  refine WP.reg k_mixed fun nm5 hnm5 => ?_
  refine RegC.m (op_move rfl) rfl rfl rfl ?_
  refine RegC.m (op_lenO rfl k_sl_26) rfl rfl rfl ?_
  refine RegC.m (op_remI rfl (by first | omega | (simp only [List.length_append, List.length_map, List.length_cons, List.length_nil, List.length_replicate, List.length_take, List.length_drop, List.length_set]; omega) | (simp <;> omega) | simp_all)) rfl rfl rfl ?_
  refine RegC.m (op_neq rfl) rfl rfl rfl ?_
  refine RegC.done ⟨.inl rfl, ?_⟩
  refine WP.nrm 40 ?_
  refine WP.condB rfl (fun h1 => ?_) (fun h1 => ?_)
  ·
    refine WP.nrm 40 ?_
    refine WP.reg k_mixed fun nm6 hnm6 => ?_
    refine RegC.m (op_move rfl) rfl rfl rfl ?_
    refine RegC.a (op_buildSlM (vs := List.map AVal.u8 [(0 : UInt8)]) rfl k_sl_26 k_zeroE_5 rfl rfl rfl (by omega)) rfl rfl rfl ?_
    refine RegC.wqa (i := 2) (j := 3) (OpV.toH (op_appLO (f := AVal.u8) (l := text ++ [128] ++ List.replicate (p) 0) (l2 := [(0 : UInt8)]) (lo := 0) (n := ([(0 : UInt8)]).length) (fun _ => rfl) rfl k_app_26_26 (by first | omega | (simp only [List.length_append, List.length_map, List.length_cons, List.length_nil, List.length_replicate, List.length_take, List.length_drop, List.length_set]; omega) | (simp <;> omega) | simp_all) (by first | omega | (simp only [List.length_append, List.length_map, List.length_cons, List.length_nil, List.length_replicate, List.length_take, List.length_drop, List.length_set]; omega) | (simp <;> omega) | simp_all) (by first | omega | (simp only [List.length_append, List.length_map, List.length_cons, List.length_nil, List.length_replicate, List.length_take, List.length_drop, List.length_set]; omega) | (simp <;> omega) | simp_all)) rfl (toH2 (l' := text ++ [128] ++ List.replicate ((p + 1)) 0) (pad_step _ _))) rfl rfl rfl rfl rfl rfl ?_
    refine RegC.m (op_assign rfl) rfl rfl rfl ?_
    refine RegC.done ⟨.inl rfl, ?_⟩
    refine WP.nrm 40 ?_
    refine WP.jump (subE.cons rfl (subE.cons rfl (subE.cons rfl (subE.cons rfl (subE.nil))))) (.cons_cons _ (.cons_cons _ (.cons_cons _ (List.nil_sublist _)))) (ih0 _ _ ?_ ?_)
    · exact padN_next _ _ hI h1
    · have := padN_next _ _ hI h1; omega
  ·
    have hp : p = padN text.length := padN_end _ _ hI h1
    refine WP.nrm 40 ?_
    refine WP.reg k_mixed fun nm7 hnm7 => ?_
    refine RegC.m (op_move rfl) rfl rfl rfl ?_
    refine RegC.wa (i := 2) (op_appZ (l := text ++ [128] ++ List.replicate (p) 0) (tS := 9) 24 rfl k_app_26_9 k_undS_9 k_undI_3 k_zero1_5 (by omega) (by first | omega | (simp only [List.length_append, List.length_map, List.length_cons, List.length_nil, List.length_replicate, List.length_take, List.length_drop, List.length_set]; omega) | (simp <;> omega) | simp_all) (by first | omega | (simp only [List.length_append, List.length_map, List.length_cons, List.length_nil, List.length_replicate, List.length_take, List.length_drop, List.length_set]; omega) | (simp <;> omega) | simp_all)) rfl rfl rfl rfl ?_
    refine RegC.m (op_assign rfl) rfl rfl rfl ?_
    refine RegC.done ⟨.inl rfl, ?_⟩
    refine WP.nrm 40 ?_
    refine WP.reg k_mixed fun nm8 hnm8 => ?_
    refine RegC.m (op_move rfl) rfl rfl rfl ?_
    refine RegC.m (op_move rfl) rfl rfl rfl ?_
    refine RegC.m (op_lenV (f := AVal.u8) (l := text) rfl k_sl_26) rfl rfl rfl ?_
    refine RegC.a (op_call rfl k_call_36 (long1_calls (nm8 0) ((text).length) (by first | omega | (simp only [List.length_append, List.length_map, List.length_cons, List.length_nil, List.length_replicate, List.length_take, List.length_drop, List.length_set]; omega) | (simp <;> omega) | simp_all))) rfl rfl rfl ?_
    refine RegC.wqa (i := 2) (j := 3) (OpV.toH (op_appLO (f := AVal.u8) (l := text ++ [128] ++ List.replicate (p) 0 ++ List.replicate 24 0) (l2 := long1 ((text).length)) (lo := 0) (n := 8) (fun _ => rfl) rfl k_app_26_26 (by first | omega | (simp only [List.length_append, List.length_map, List.length_cons, List.length_nil, List.length_replicate, List.length_take, List.length_drop, List.length_set]; omega) | (simp <;> omega) | simp_all) (by first | omega | (simp only [List.length_append, List.length_map, List.length_cons, List.length_nil, List.length_replicate, List.length_take, List.length_drop, List.length_set]; omega) | (simp <;> omega) | simp_all) (by first | omega | (simp only [List.length_append, List.length_map, List.length_cons, List.length_nil, List.length_replicate, List.length_take, List.length_drop, List.length_set]; omega) | (simp <;> omega) | simp_all)) (osN (n' := ((padded text).length - 32 * 0)) (by omega)) (toH2 (l' := padded text) (by rw [hp]; simp [padded, long1_take]))) rfl rfl rfl rfl rfl rfl ?_
    refine RegC.m (op_assign rfl) rfl rfl rfl ?_
    refine RegC.done ⟨.inl rfl, ?_⟩
    refine WP.nrm 40 ?_
    refine WP.loop2 (fun (j : Nat) (S : List UInt8) => [(4, .ptr (nm1 0) (0)), (5, .ptr (nm2 0) (0)), (6, .os (nm8 1) ((32 * j)) (((padded text).length - 32 * j)) 1 false)]) (fun (j : Nat) (S : List UInt8) => [(nm1 0, .vec 76 ((List.replicate 64 (0 : UInt8)).map AVal.u8)), (nm2 0, .vec 76 ((S).map AVal.u8)), (nm8 1, .vec 5 ((padded text).map AVal.u8))]) (fun (j : Nat) (S : List UInt8) => 32 * j ≤ (padded text).length ∧ S.length = 64 ∧ loopS ((padded text).length / 32) (eat1F (padded text)) j S = state1 d text) (fun (j : Nat) (S : List UInt8) => (padded text).length - 32 * j) (0) (initS d) (subE.cons rfl (subE.cons rfl (subE.cons rfl (subE.nil)))) (by (try simp only [List.set_cons_zero, List.set_cons_succ, List.cons_append, List.nil_append]); exact (.cons_cons _ (.cons_cons _ (.cons_cons _ (List.nil_sublist _))))) ⟨Nat.zero_le _, by simp, eat1_def _ _⟩ ?_
    intro j S hI ih1
    obtain ⟨hj, lS, qS⟩ := hI
    refine WP.nrm 40 ?_
    refine WP.reg k_mixed fun nm9 hnm9 => ?_
    refine RegC.m (op_move rfl) rfl rfl rfl ?_
    refine RegC.m (op_lenO rfl k_sl_26) rfl rfl rfl ?_
    refine RegC.m (op_gtr rfl) rfl rfl rfl ?_
    refine RegC.done ⟨.inl rfl, ?_⟩
    refine WP.nrm 40 ?_
    refine WP.condD rfl (fun h2 => ?_) (fun h2 => ?_)
    ·
      have hm := padded_mod text
      have hj32 : 32 * j + 32 ≤ (padded text).length := by omega
      refine WP.nrm 40 ?_
      refine WP.reg k_mixed fun nm10 hnm10 => ?_
      refine RegC.m (op_move rfl) rfl rfl rfl ?_
      refine RegC.done ⟨.inl rfl, ?_⟩
      refine WP.nrm 40 ?_
      refine WP.loop2 (fun (i : Int) (X : List UInt8) => [(4, .ptr (nm1 0) (0)), (5, .ptr (nm2 0) (0)), (6, .os (nm8 1) ((32 * j)) (((padded text).length - 32 * j)) 1 false), (32, .i (i))]) (fun (i : Int) (X : List UInt8) => [(nm1 0, .vec 76 ((List.replicate 64 (0 : UInt8)).map AVal.u8)), (nm2 0, .vec 76 ((X).map AVal.u8)), (nm8 1, .vec 5 ((padded text).map AVal.u8))]) (fun (i : Int) (X : List UInt8) => ∃ c : Nat, i = c ∧ c ≤ 32 ∧ X.length = 64 ∧ loopS 32 (xorG (padded text) (32 * j)) c X = loopS 32 (xorG (padded text) (32 * j)) 0 S) (fun (i : Int) (X : List UInt8) => (32 - i).toNat) (0) (S) (subE.cons rfl (subE.cons rfl (subE.cons rfl (subE.cons rfl (subE.nil))))) (by (try simp only [List.set_cons_zero, List.set_cons_succ, List.cons_append, List.nil_append]); exact (.cons_cons _ (.cons_cons _ (.cons_cons _ (List.nil_sublist _))))) ⟨0, rfl, by omega, by assumption, rfl⟩ ?_
      intro i X hI ih2
      obtain ⟨c, rfl, hc, lX, qX⟩ := hI
      refine WP.nrm 40 ?_
      refine WP.reg k_mixed fun nm11 hnm11 => ?_
      refine RegC.m (op_lss rfl) rfl rfl rfl ?_
      refine RegC.done ⟨.inl rfl, ?_⟩
      refine WP.nrm 40 ?_
      refine WP.condD rfl (fun h3 => ?_) (fun h3 => ?_)
      ·
        refine WP.nrm 40 ?_
        refine WP.reg k_mixed fun nm12 hnm12 => ?_
        refine RegC.m (op_move rfl) rfl rfl rfl ?_
        refine RegC.m (op_assign rfl) rfl rfl rfl ?_
        refine RegC.done ⟨.inl rfl, ?_⟩
        refine WP.nrm 40 ?_
        refine WP.reg k_mixed fun nm13 hnm13 => ?_
        refine RegC.m (op_move rfl) rfl rfl rfl ?_
        refine RegC.m (op_iA (c) rfl k_arr_76 (by first | omega | (simp only [List.length_append, List.length_map, List.length_cons, List.length_nil, List.length_replicate, List.length_take, List.length_drop, List.length_set]; omega) | (simp <;> omega) | simp_all) (by first | omega | (simp only [List.length_append, List.length_map, List.length_cons, List.length_nil, List.length_replicate, List.length_take, List.length_drop, List.length_set]; omega) | (simp <;> omega) | simp_all)) rfl rfl rfl ?_
        refine RegC.q (i := 1) (op_loadM (f := AVal.u8) (l := X) (n := c) rfl k_scal_5 (by first | omega | (simp only [List.length_append, List.length_map, List.length_cons, List.length_nil, List.length_replicate, List.length_take, List.length_drop, List.length_set]; omega) | (simp <;> omega) | simp_all)) rfl rfl rfl rfl ?_
        refine RegC.m (op_move rfl) rfl rfl rfl ?_
        refine RegC.m (op_move rfl) rfl rfl rfl ?_
        refine RegC.m (op_iOo (r := (32 * j + c)) (c) rfl k_sl_26 (by first | omega | (simp only [List.length_append, List.length_map, List.length_cons, List.length_nil, List.length_replicate, List.length_take, List.length_drop, List.length_set]; omega) | (simp <;> omega) | simp_all) (by first | omega | (simp only [List.length_append, List.length_map, List.length_cons, List.length_nil, List.length_replicate, List.length_take, List.length_drop, List.length_set]; omega) | (simp <;> omega) | simp_all) (by omega)) rfl rfl rfl ?_
        refine RegC.q (i := 2) (op_loadM (f := AVal.u8) (l := padded text) (n := (32 * j + c)) rfl k_scal_5 (by first | omega | (simp only [List.length_append, List.length_map, List.length_cons, List.length_nil, List.length_replicate, List.length_take, List.length_drop, List.length_set]; omega) | (simp <;> omega) | simp_all)) rfl rfl rfl rfl ?_
        refine RegC.m (op_xor8 rfl) rfl rfl rfl ?_
        refine RegC.m (op_iA (c) rfl k_arr_76 (by first | omega | (simp only [List.length_append, List.length_map, List.length_cons, List.length_nil, List.length_replicate, List.length_take, List.length_drop, List.length_set]; omega) | (simp <;> omega) | simp_all) (by first | omega | (simp only [List.length_append, List.length_map, List.length_cons, List.length_nil, List.length_replicate, List.length_take, List.length_drop, List.length_set]; omega) | (simp <;> omega) | simp_all)) rfl rfl rfl ?_
        refine RegC.w (i := 1) (op_storeM (f := AVal.u8) (l := X) (n := c) (v := ((X)[c]! ^^^ (padded text)[(32 * j + c)]!)) rfl k_scal_5 rfl (by first | omega | (simp only [List.length_append, List.length_map, List.length_cons, List.length_nil, List.length_replicate, List.length_take, List.length_drop, List.length_set]; omega) | (simp <;> omega) | simp_all)) rfl rfl rfl rfl ?_
        refine RegC.done ⟨.inr rfl, ?_⟩
        refine WP.nrm 40 ?_
        refine WP.reg k_mixed fun nm14 hnm14 => ?_
        refine RegC.m (op_addI rfl (by first | omega | (simp only [List.length_append, List.length_map, List.length_cons, List.length_nil, List.length_replicate, List.length_take, List.length_drop, List.length_set]; omega) | (simp <;> omega) | simp_all)) rfl rfl rfl ?_
        refine RegC.m (op_move rfl) rfl rfl rfl ?_
        refine RegC.done ⟨.inl rfl, ?_⟩
        refine WP.nrm 40 ?_
        refine WP.jump (subE.cons rfl (subE.cons rfl (subE.cons rfl (subE.cons rfl (subE.nil))))) (.cons_cons _ (.cons_cons _ (.cons_cons _ (List.nil_sublist _)))) (ih2 _ _ ?_ ?_)
        · exact ⟨c + 1, by push_cast; rfl, by omega, by simp [lX], by rw [← qX, loopS_next (by omega : c < 32)]; rfl⟩
        · omega
      ·
        have ec : c = 32 := by omega
        subst ec
        rw [loopS_end, xorG_drop _ _ _ (by omega)] at qX
        have hX := qX
        refine WP.nrm 40 ?_
        refine WP.reg k_mixed fun nm15 hnm15 => ?_
        refine RegC.q (i := 1) (op_loadW rfl k_agg_76 (by first | omega | (simp only [List.length_append, List.length_map, List.length_cons, List.length_nil, List.length_replicate, List.length_take, List.length_drop, List.length_set]; omega) | (simp <;> omega) | simp_all)) rfl rfl rfl rfl ?_
        refine RegC.m (op_call rfl k_call_37 (stir1_calls (X) (by first | omega | (simp only [List.length_append, List.length_map, List.length_cons, List.length_nil, List.length_replicate, List.length_take, List.length_drop, List.length_set]; omega) | (simp <;> omega) | simp_all))) rfl rfl rfl ?_
        refine RegC.w (i := 1) (op_storeW rfl k_agg_76 (by first | omega | (simp only [List.length_append, List.length_map, List.length_cons, List.length_nil, List.length_replicate, List.length_take, List.length_drop, List.length_set]; omega) | (simp <;> omega) | simp_all) (by first | omega | (simp only [List.length_append, List.length_map, List.length_cons, List.length_nil, List.length_replicate, List.length_take, List.length_drop, List.length_set]; omega) | (simp <;> omega) | simp_all) (by first | exact allS (fun _ => rfl) | simp [AVal.scalar])) rfl rfl rfl rfl ?_
        refine RegC.done ⟨.inl rfl, ?_⟩
        refine WP.nrm 40 ?_
        refine WP.reg k_mixed fun nm16 hnm16 => ?_
        refine RegC.m (op_move rfl) rfl rfl rfl ?_
        refine RegC.m (op_sO10 (r := (32 * (j + 1))) (m := ((padded text).length - 32 * (j + 1))) (32) rfl k_sl_26 (by first | omega | (simp only [List.length_append, List.length_map, List.length_cons, List.length_nil, List.length_replicate, List.length_take, List.length_drop, List.length_set]; omega) | (simp <;> omega) | simp_all) (by first | omega | (simp only [List.length_append, List.length_map, List.length_cons, List.length_nil, List.length_replicate, List.length_take, List.length_drop, List.length_set]; omega) | (simp <;> omega) | simp_all) (by first | omega | (simp only [List.length_append, List.length_map, List.length_cons, List.length_nil, List.length_replicate, List.length_take, List.length_drop, List.length_set]; omega) | (simp <;> omega) | simp_all) (by omega) (by omega)) rfl rfl rfl ?_
        refine RegC.m (op_assign rfl) rfl rfl rfl ?_
        refine RegC.done ⟨.inl rfl, ?_⟩
        refine WP.nrm 40 ?_
        refine WP.jump (subE.cons rfl (subE.cons rfl (subE.cons rfl (subE.nil)))) (.cons_cons _ (.cons_cons _ (.cons_cons _ (List.nil_sublist _)))) (ih1 _ _ ?_ ?_)
        · exact ⟨by omega, by simp, by rw [hX, ← qS, loopS_next (by omega : j < (padded text).length / 32)]; rfl⟩
        · omega
    ·
      have hm := padded_mod text
      have ej : j = (padded text).length / 32 := by omega
      subst ej
      rw [loopS_end] at qS
      refine WP.nrm 40 ?_
      refine WP.reg k_mixed fun nm17 hnm17 => ?_
      refine RegC.q (i := 1) (op_loadW rfl k_agg_76 (by first | omega | (simp only [List.length_append, List.length_map, List.length_cons, List.length_nil, List.length_replicate, List.length_take, List.length_drop, List.length_set]; omega) | (simp <;> omega) | simp_all)) rfl rfl rfl rfl ?_
      refine RegC.w (i := 0) (op_storeW rfl k_agg_76 (by first | omega | (simp only [List.length_append, List.length_map, List.length_cons, List.length_nil, List.length_replicate, List.length_take, List.length_drop, List.length_set]; omega) | (simp <;> omega) | simp_all) (by first | omega | (simp only [List.length_append, List.length_map, List.length_cons, List.length_nil, List.length_replicate, List.length_take, List.length_drop, List.length_set]; omega) | (simp <;> omega) | simp_all) (by first | exact allS (fun _ => rfl) | simp [AVal.scalar])) rfl rfl rfl rfl ?_
      refine RegC.done ⟨.inl rfl, ?_⟩
      refine WP.nrm 40 ?_
      refine WP.retS (ResV.one rfl (.cellW 0 rfl rfl k_agg_76 (by first | omega | (simp only [List.length_append, List.length_map, List.length_cons, List.length_nil, List.length_replicate, List.length_take, List.length_drop, List.length_set]; omega) | (simp <;> omega) | simp_all))) (List.nil_sublist _) ?_
      exact ⟨by rw [qS], rfl⟩

theorem sum1_calls (full : Bool) (d : Nat) (text : List UInt8) (hd : d ≤ 255) (ht : text.length ≤ 1048576) : ACalls Try.prog 18 [.i ((d : Int)), VS AVal.u8 full (text)] [] [] (.agg ((sum1 d text).map AVal.u8)) [] := by
  refine ACalls.of_wp' (fn := Try.f18) (n := 13) Try.func18 rfl rfl ?_
  unfold Try.f18
  refine WP.nrm 40 ?_
  refine WP.reg k_mixed fun nm1 hnm1 => ?_
  refine RegC.a (op_alloc rfl k_zero_43) rfl rfl rfl ?_
  refine RegC.done ⟨.inl rfl, ?_⟩
  refine WP.nrm 40 ?_
  refine WP.reg k_mixed fun nm2 hnm2 => ?_
  refine RegC.m (op_move rfl) rfl rfl rfl ?_
  refine RegC.m (op_move rfl) rfl rfl rfl ?_
  refine RegC.m (op_call rfl k_call_40 (state1_calls full (d) (text) (by first | omega | (simp only [List.length_append, List.length_map, List.length_cons, List.length_nil, List.length_replicate, List.length_take, List.length_drop, List.length_set]; omega) | (simp <;> omega) | simp_all) (by first | omega | (simp only [List.length_append, List.length_map, List.length_cons, List.length_nil, List.length_replicate, List.length_take, List.length_drop, List.length_set]; omega) | (simp <;> omega) | simp_all))) rfl rfl rfl ?_
  refine RegC.a (op_alloc rfl k_zero_76) rfl rfl rfl ?_
  refine RegC.w (i := 1) (op_storeW rfl k_agg_76 (by first | omega | (simp only [List.length_append, List.length_map, List.length_cons, List.length_nil, List.length_replicate, List.length_take, List.length_drop, List.length_set]; omega) | (simp <;> omega) | simp_all) (by first | omega | (simp only [List.length_append, List.length_map, List.length_cons, List.length_nil, List.length_replicate, List.length_take, List.length_drop, List.length_set]; omega) | (simp <;> omega) | simp_all) (by first | exact allS (fun _ => rfl) | simp [AVal.scalar])) rfl rfl rfl rfl ?_
  refine RegC.done ⟨.inl rfl, ?_⟩
  refine WP.nrm 40 ?_
  refine WP.reg k_mixed fun nm3 hnm3 => ?_
  refine RegC.q (i := 0) (op_sA00 rfl k_arr_43 (by first | omega | (simp only [List.length_append, List.length_map, List.length_cons, List.length_nil, List.length_replicate, List.length_take, List.length_drop, List.length_set]; omega) | (simp <;> omega) | simp_all)) rfl rfl rfl rfl ?_
  refine RegC.q (i := 1) (op_sA01 (32) rfl k_arr_76 (by first | omega | (simp only [List.length_append, List.length_map, List.length_cons, List.length_nil, List.length_replicate, List.length_take, List.length_drop, List.length_set]; omega) | (simp <;> omega) | simp_all) (by first | omega | (simp only [List.length_append, List.length_map, List.length_cons, List.length_nil, List.length_replicate, List.length_take, List.length_drop, List.length_set]; omega) | (simp <;> omega) | simp_all) (by first | omega | (simp only [List.length_append, List.length_map, List.length_cons, List.length_nil, List.length_replicate, List.length_take, List.length_drop, List.length_set]; omega) | (simp <;> omega) | simp_all)) rfl rfl rfl rfl ?_
  refine RegC.wq (i := 0) (j := 1) (OpV.toH (op_copyMO (l := List.replicate 32 (0 : UInt8)) (l2 := state1 (d) (text)) (f := AVal.u8) (fun _ => rfl) rfl rfl k_sl_26 (by first | omega | (simp only [List.length_append, List.length_map, List.length_cons, List.length_nil, List.length_replicate, List.length_take, List.length_drop, List.length_set]; omega) | (simp <;> omega) | simp_all) (by first | omega | (simp only [List.length_append, List.length_map, List.length_cons, List.length_nil, List.length_replicate, List.length_take, List.length_drop, List.length_set]; omega) | (simp <;> omega) | simp_all)) rfl (by rw [sum1_raw])) rfl rfl rfl rfl rfl rfl ?_
  refine RegC.done ⟨.inr rfl, ?_⟩
  refine WP.nrm 40 ?_
  refine WP.reg k_mixed fun nm4 hnm4 => ?_
  refine RegC.q (i := 0) (op_loadW rfl k_agg_43 (by first | omega | (simp only [List.length_append, List.length_map, List.length_cons, List.length_nil, List.length_replicate, List.length_take, List.length_drop, List.length_set]; omega) | (simp <;> omega) | simp_all)) rfl rfl rfl rfl ?_
  refine RegC.w (i := 0) (op_storeW rfl k_agg_43 (by first | omega | (simp only [List.length_append, List.length_map, List.length_cons, List.length_nil, List.length_replicate, List.length_take, List.length_drop, List.length_set]; omega) | (simp <;> omega) | simp_all) (by first | omega | (simp only [List.length_append, List.length_map, List.length_cons, List.length_nil, List.length_replicate, List.length_take, List.length_drop, List.length_set]; omega) | (simp <;> omega) | simp_all) (by first | exact allS (fun _ => rfl) | simp [AVal.scalar])) rfl rfl rfl rfl ?_
  refine RegC.done ⟨.inl rfl, ?_⟩
  refine WP.nrm 40 ?_
  refine WP.retS (ResV.one rfl (.cellW 0 rfl rfl k_agg_43 (by first | omega | (simp only [List.length_append, List.length_map, List.length_cons, List.length_nil, List.length_replicate, List.length_take, List.length_drop, List.length_set]; omega) | (simp <;> omega) | simp_all))) (List.nil_sublist _) ?_
  exact ⟨rfl, rfl⟩
end Go.Proofs.Try
