import Derived.Test.YtdnccchcflaphaaK1
import Derived.Test.YtdnccchcflaphaaS2
namespace Go.Proofs.Try
open Go Go.Kw
set_option linter.unusedVariables false
set_option linter.unusedSimpArgs false
set_option maxRecDepth 100000
set_option maxHeartbeats 400000
theorem law1_range_big (full : Bool) (text : List UInt8) (k n : List UInt8) (hk : k.length = 32) (hn : n.length = 16) (fr many : Int) (h : fr < 0 ∨ fr > 1099511627776 ∨ many < 0) (ht : 1048576 < text.length) : ACalls Try.prog 3 [.agg ((k).map AVal.u8), .agg ((n).map AVal.u8), .i (fr), .i (many), VS AVal.u8 full (text)] [] [] (.bool true) [] := by
  refine ACalls.of_wp' (fn := Try.f3) (n := 109) Try.func3 rfl rfl ?_
  unfold Try.f3
  refine WP.nrm 40 ?_
  refine WP.reg k_mixed fun nm1 hnm1 => ?_
  refine RegC.a (op_boxA rfl) rfl rfl rfl ?_
  refine RegC.a (op_boxA rfl) rfl rfl rfl ?_
  refine RegC.m (op_assign rfl) rfl rfl rfl ?_
  refine RegC.done ⟨.inl rfl, ?_⟩
  refine WP.nrm 40 ?_
  refine WP.reg k_mixed fun nm2 hnm2 => ?_
  refine RegC.m (op_call rfl k_call_7 (landed_calls )) rfl rfl rfl ?_
  refine RegC.m (op_not rfl) rfl rfl rfl ?_
  refine RegC.done ⟨.inl rfl, ?_⟩
  refine WP.nrm 40 ?_
  refine WP.cond (t := false) rfl ?_
  refine WP.nrm 40 ?_
  refine WP.reg k_mixed fun nm3 hnm3 => ?_
  refine RegC.q (i := 0) (op_loadW rfl k_agg_23 (by first | omega | (simp <;> omega) | simp_all)) rfl rfl rfl rfl ?_
  refine RegC.q (i := 1) (op_loadW rfl k_agg_25 (by first | omega | (simp <;> omega) | simp_all)) rfl rfl rfl rfl ?_
  refine RegC.m (op_move rfl) rfl rfl rfl ?_
  refine RegC.m (op_move rfl) rfl rfl rfl ?_
  refine RegC.m (op_call rfl k_call_8 (stream_range (k) (n) (by first | omega | (simp <;> omega) | simp_all) (by first | omega | (simp <;> omega) | simp_all) _ _ (by first | omega | (simp <;> omega) | simp_all))) rfl rfl rfl ?_
  refine RegC.m (op_move rfl) rfl rfl rfl ?_
  refine RegC.m (op_extract rfl rfl) rfl rfl rfl ?_
  refine RegC.m (op_extract rfl rfl) rfl rfl rfl ?_
  refine RegC.m (op_assign rfl) rfl rfl rfl ?_
  refine RegC.m (op_assign rfl) rfl rfl rfl ?_
  refine RegC.done ⟨.inl rfl, ?_⟩
  refine WP.nrm 40 ?_
  refine WP.reg k_mixed fun nm4 hnm4 => ?_
  refine RegC.m (op_move rfl) rfl rfl rfl ?_
  rcases Decidable.em ((fr : Int) < 0) with h1 | h1
  ·
    refine RegC.m (OpV.boolT (op_lss rfl) h1) rfl rfl rfl ?_
    refine RegC.m (op_move rfl) rfl rfl rfl ?_
    refine RegC.skip rfl rfl ?_
    refine RegC.skip rfl rfl ?_
    refine RegC.m (op_pick rfl) rfl rfl rfl ?_
    refine RegC.m (op_move rfl) rfl rfl rfl ?_
    refine RegC.skip rfl rfl ?_
    refine RegC.skip rfl rfl ?_
    refine RegC.m (op_pick rfl) rfl rfl rfl ?_
    refine RegC.m (op_assign rfl) rfl rfl rfl ?_
    refine RegC.done ⟨.inl rfl, ?_⟩
    refine WP.nrm 40 ?_
    refine WP.cond (t := true) rfl ?_
    refine WP.nrm 40 ?_
    refine WP.reg k_mixed fun nm5 hnm5 => ?_
    refine RegC.m (op_move rfl) rfl rfl rfl ?_
    refine RegC.m (op_neq rfl) rfl rfl rfl ?_
    refine RegC.m (op_move rfl) rfl rfl rfl ?_
    refine RegC.m (op_move rfl) rfl rfl rfl ?_
    refine RegC.m (op_lenV (f := AVal.u8) (l := ([] : List UInt8)) rfl k_sl_26) rfl rfl rfl ?_
    refine RegC.m (OpV.boolF (op_gtr rfl) (by simp)) rfl rfl rfl ?_
    refine RegC.m (op_pick rfl) rfl rfl rfl ?_
    refine RegC.done ⟨.inl rfl, ?_⟩
    refine WP.nrm 40 ?_
    refine WP.cond (t := false) rfl ?_
    refine WP.nrm 40 ?_
    refine WP.reg k_mixed fun nm6 hnm6 => ?_
    refine RegC.q (i := 0) (op_loadW rfl k_agg_23 (by first | omega | (simp <;> omega) | simp_all)) rfl rfl rfl rfl ?_
    refine RegC.q (i := 1) (op_loadW rfl k_agg_25 (by first | omega | (simp <;> omega) | simp_all)) rfl rfl rfl rfl ?_
    refine RegC.m (op_move rfl) rfl rfl rfl ?_
    refine RegC.m (op_call rfl k_call_11 (cover_large full (text) (k) (n) (by first | omega | (simp <;> omega) | simp_all) (by first | omega | (simp <;> omega) | simp_all) (by first | omega | (simp <;> omega) | simp_all))) rfl rfl rfl ?_
    refine RegC.m (op_move rfl) rfl rfl rfl ?_
    refine RegC.m (op_extract rfl rfl) rfl rfl rfl ?_
    refine RegC.m (op_extract rfl rfl) rfl rfl rfl ?_
    refine RegC.m (op_assign rfl) rfl rfl rfl ?_
    refine RegC.m (op_assign rfl) rfl rfl rfl ?_
    refine RegC.done ⟨.inl rfl, ?_⟩
    refine WP.nrm 40 ?_
    refine WP.reg k_mixed fun nm7 hnm7 => ?_
    refine RegC.m (op_move rfl) rfl rfl rfl ?_
    refine RegC.m (op_lenV (f := AVal.u8) (l := text) rfl k_sl_26) rfl rfl rfl ?_
    refine RegC.m (OpV.boolT (op_gtr rfl) (by omega)) rfl rfl rfl ?_
    refine RegC.done ⟨.inl rfl, ?_⟩
    refine WP.nrm 40 ?_
    refine WP.cond (t := true) rfl ?_
    refine WP.nrm 40 ?_
    refine WP.reg k_mixed fun nm8 hnm8 => ?_
    refine RegC.m (op_move rfl) rfl rfl rfl ?_
    refine RegC.m (op_eql rfl) rfl rfl rfl ?_
    refine RegC.m (op_move rfl) rfl rfl rfl ?_
    refine RegC.m (op_move rfl) rfl rfl rfl ?_
    refine RegC.m (op_lenV (f := AVal.u8) (l := ([] : List UInt8)) rfl k_sl_26) rfl rfl rfl ?_
    refine RegC.m (OpV.boolE (t := ((((([] : List UInt8)).length : Int) : Int) == 0)) (u := true) (op_eql rfl) (by simp)) rfl rfl rfl ?_
    refine RegC.m (op_pick rfl) rfl rfl rfl ?_
    refine RegC.m (op_assign rfl) rfl rfl rfl ?_
    refine RegC.done ⟨.inl rfl, ?_⟩
    refine WP.nrm 40 ?_
    refine WP.retS (ResV.one rfl (.tmp rfl)) (List.nil_sublist _) ?_
    exact ⟨rfl, rfl⟩
  ·
    refine RegC.m (OpV.boolF (op_lss rfl) h1) rfl rfl rfl ?_
    refine RegC.m (op_move rfl) rfl rfl rfl ?_
    refine RegC.m (op_move rfl) rfl rfl rfl ?_
    rcases Decidable.em ((fr : Int) > 1099511627776) with h2 | h2
    ·
      refine RegC.m (OpV.boolT (op_gtr rfl) h2) rfl rfl rfl ?_
      refine RegC.m (op_pick rfl) rfl rfl rfl ?_
      refine RegC.m (op_move rfl) rfl rfl rfl ?_
      refine RegC.skip rfl rfl ?_
      refine RegC.skip rfl rfl ?_
      refine RegC.m (op_pick rfl) rfl rfl rfl ?_
      refine RegC.m (op_assign rfl) rfl rfl rfl ?_
      refine RegC.done ⟨.inl rfl, ?_⟩
      refine WP.nrm 40 ?_
      refine WP.cond (t := true) rfl ?_
      refine WP.nrm 40 ?_
      refine WP.reg k_mixed fun nm9 hnm9 => ?_
      refine RegC.m (op_move rfl) rfl rfl rfl ?_
      refine RegC.m (op_neq rfl) rfl rfl rfl ?_
      refine RegC.m (op_move rfl) rfl rfl rfl ?_
      refine RegC.m (op_move rfl) rfl rfl rfl ?_
      refine RegC.m (op_lenV (f := AVal.u8) (l := ([] : List UInt8)) rfl k_sl_26) rfl rfl rfl ?_
      refine RegC.m (OpV.boolF (op_gtr rfl) (by simp)) rfl rfl rfl ?_
      refine RegC.m (op_pick rfl) rfl rfl rfl ?_
      refine RegC.done ⟨.inl rfl, ?_⟩
      refine WP.nrm 40 ?_
      refine WP.cond (t := false) rfl ?_
      refine WP.nrm 40 ?_
      refine WP.reg k_mixed fun nm10 hnm10 => ?_
      refine RegC.q (i := 0) (op_loadW rfl k_agg_23 (by first | omega | (simp <;> omega) | simp_all)) rfl rfl rfl rfl ?_
      refine RegC.q (i := 1) (op_loadW rfl k_agg_25 (by first | omega | (simp <;> omega) | simp_all)) rfl rfl rfl rfl ?_
      refine RegC.m (op_move rfl) rfl rfl rfl ?_
      refine RegC.m (op_call rfl k_call_11 (cover_large full (text) (k) (n) (by first | omega | (simp <;> omega) | simp_all) (by first | omega | (simp <;> omega) | simp_all) (by first | omega | (simp <;> omega) | simp_all))) rfl rfl rfl ?_
      refine RegC.m (op_move rfl) rfl rfl rfl ?_
      refine RegC.m (op_extract rfl rfl) rfl rfl rfl ?_
      refine RegC.m (op_extract rfl rfl) rfl rfl rfl ?_
      refine RegC.m (op_assign rfl) rfl rfl rfl ?_
      refine RegC.m (op_assign rfl) rfl rfl rfl ?_
      refine RegC.done ⟨.inl rfl, ?_⟩
      refine WP.nrm 40 ?_
      refine WP.reg k_mixed fun nm11 hnm11 => ?_
      refine RegC.m (op_move rfl) rfl rfl rfl ?_
      refine RegC.m (op_lenV (f := AVal.u8) (l := text) rfl k_sl_26) rfl rfl rfl ?_
      refine RegC.m (OpV.boolT (op_gtr rfl) (by omega)) rfl rfl rfl ?_
      refine RegC.done ⟨.inl rfl, ?_⟩
      refine WP.nrm 40 ?_
      refine WP.cond (t := true) rfl ?_
      refine WP.nrm 40 ?_
      refine WP.reg k_mixed fun nm12 hnm12 => ?_
      refine RegC.m (op_move rfl) rfl rfl rfl ?_
      refine RegC.m (op_eql rfl) rfl rfl rfl ?_
      refine RegC.m (op_move rfl) rfl rfl rfl ?_
      refine RegC.m (op_move rfl) rfl rfl rfl ?_
      refine RegC.m (op_lenV (f := AVal.u8) (l := ([] : List UInt8)) rfl k_sl_26) rfl rfl rfl ?_
      refine RegC.m (OpV.boolE (t := ((((([] : List UInt8)).length : Int) : Int) == 0)) (u := true) (op_eql rfl) (by simp)) rfl rfl rfl ?_
      refine RegC.m (op_pick rfl) rfl rfl rfl ?_
      refine RegC.m (op_assign rfl) rfl rfl rfl ?_
      refine RegC.done ⟨.inl rfl, ?_⟩
      refine WP.nrm 40 ?_
      refine WP.retS (ResV.one rfl (.tmp rfl)) (List.nil_sublist _) ?_
      exact ⟨rfl, rfl⟩
    ·
      refine RegC.m (OpV.boolF (op_gtr rfl) h2) rfl rfl rfl ?_
      refine RegC.m (op_pick rfl) rfl rfl rfl ?_
      refine RegC.m (op_move rfl) rfl rfl rfl ?_
      refine RegC.m (op_move rfl) rfl rfl rfl ?_
      refine RegC.m (op_lss rfl) rfl rfl rfl ?_
      refine RegC.m (op_pick rfl) rfl rfl rfl ?_
      refine RegC.m (op_assign rfl) rfl rfl rfl ?_
      refine RegC.done ⟨.inl rfl, ?_⟩
      refine WP.nrm 40 ?_
      refine WP.condD rfl (fun h3 => ?_) (fun h3 => ?_)
      ·
        refine WP.nrm 40 ?_
        refine WP.reg k_mixed fun nm13 hnm13 => ?_
        refine RegC.m (op_move rfl) rfl rfl rfl ?_
        refine RegC.m (op_neq rfl) rfl rfl rfl ?_
        refine RegC.m (op_move rfl) rfl rfl rfl ?_
        refine RegC.m (op_move rfl) rfl rfl rfl ?_
        refine RegC.m (op_lenV (f := AVal.u8) (l := ([] : List UInt8)) rfl k_sl_26) rfl rfl rfl ?_
        refine RegC.m (OpV.boolF (op_gtr rfl) (by simp)) rfl rfl rfl ?_
        refine RegC.m (op_pick rfl) rfl rfl rfl ?_
        refine RegC.done ⟨.inl rfl, ?_⟩
        refine WP.nrm 40 ?_
        refine WP.cond (t := false) rfl ?_
        refine WP.nrm 40 ?_
        refine WP.reg k_mixed fun nm14 hnm14 => ?_
        refine RegC.q (i := 0) (op_loadW rfl k_agg_23 (by first | omega | (simp <;> omega) | simp_all)) rfl rfl rfl rfl ?_
        refine RegC.q (i := 1) (op_loadW rfl k_agg_25 (by first | omega | (simp <;> omega) | simp_all)) rfl rfl rfl rfl ?_
        refine RegC.m (op_move rfl) rfl rfl rfl ?_
        refine RegC.m (op_call rfl k_call_11 (cover_large full (text) (k) (n) (by first | omega | (simp <;> omega) | simp_all) (by first | omega | (simp <;> omega) | simp_all) (by first | omega | (simp <;> omega) | simp_all))) rfl rfl rfl ?_
        refine RegC.m (op_move rfl) rfl rfl rfl ?_
        refine RegC.m (op_extract rfl rfl) rfl rfl rfl ?_
        refine RegC.m (op_extract rfl rfl) rfl rfl rfl ?_
        refine RegC.m (op_assign rfl) rfl rfl rfl ?_
        refine RegC.m (op_assign rfl) rfl rfl rfl ?_
        refine RegC.done ⟨.inl rfl, ?_⟩
        refine WP.nrm 40 ?_
        refine WP.reg k_mixed fun nm15 hnm15 => ?_
        refine RegC.m (op_move rfl) rfl rfl rfl ?_
        refine RegC.m (op_lenV (f := AVal.u8) (l := text) rfl k_sl_26) rfl rfl rfl ?_
        refine RegC.m (OpV.boolT (op_gtr rfl) (by omega)) rfl rfl rfl ?_
        refine RegC.done ⟨.inl rfl, ?_⟩
        refine WP.nrm 40 ?_
        refine WP.cond (t := true) rfl ?_
        refine WP.nrm 40 ?_
        refine WP.reg k_mixed fun nm16 hnm16 => ?_
        refine RegC.m (op_move rfl) rfl rfl rfl ?_
        refine RegC.m (op_eql rfl) rfl rfl rfl ?_
        refine RegC.m (op_move rfl) rfl rfl rfl ?_
        refine RegC.m (op_move rfl) rfl rfl rfl ?_
        refine RegC.m (op_lenV (f := AVal.u8) (l := ([] : List UInt8)) rfl k_sl_26) rfl rfl rfl ?_
        refine RegC.m (OpV.boolE (t := ((((([] : List UInt8)).length : Int) : Int) == 0)) (u := true) (op_eql rfl) (by simp)) rfl rfl rfl ?_
        refine RegC.m (op_pick rfl) rfl rfl rfl ?_
        refine RegC.m (op_assign rfl) rfl rfl rfl ?_
        refine RegC.done ⟨.inl rfl, ?_⟩
        refine WP.nrm 40 ?_
        refine WP.retS (ResV.one rfl (.tmp rfl)) (List.nil_sublist _) ?_
        exact ⟨rfl, rfl⟩
      ·
        exfalso; omega

theorem law1_range_small (full : Bool) (text : List UInt8) (k n : List UInt8) (hk : k.length = 32) (hn : n.length = 16) (fr many : Int) (h : fr < 0 ∨ fr > 1099511627776 ∨ many < 0) (ht : text.length ≤ 1048576) : ACalls Try.prog 3 [.agg ((k).map AVal.u8), .agg ((n).map AVal.u8), .i (fr), .i (many), VS AVal.u8 full (text)] [] [] (.bool true) [] := by
  refine ACalls.of_wp' (fn := Try.f3) (n := 109) Try.func3 rfl rfl ?_
  unfold Try.f3
  refine WP.nrm 40 ?_
  refine WP.reg k_mixed fun nm1 hnm1 => ?_
  refine RegC.a (op_boxA rfl) rfl rfl rfl ?_
  refine RegC.a (op_boxA rfl) rfl rfl rfl ?_
  refine RegC.m (op_assign rfl) rfl rfl rfl ?_
  refine RegC.done ⟨.inl rfl, ?_⟩
  refine WP.nrm 40 ?_
  refine WP.reg k_mixed fun nm2 hnm2 => ?_
  refine RegC.m (op_call rfl k_call_7 (landed_calls )) rfl rfl rfl ?_
  refine RegC.m (op_not rfl) rfl rfl rfl ?_
  refine RegC.done ⟨.inl rfl, ?_⟩
  refine WP.nrm 40 ?_
  refine WP.cond (t := false) rfl ?_
  refine WP.nrm 40 ?_
  refine WP.reg k_mixed fun nm3 hnm3 => ?_
  refine RegC.q (i := 0) (op_loadW rfl k_agg_23 (by first | omega | (simp <;> omega) | simp_all)) rfl rfl rfl rfl ?_
  refine RegC.q (i := 1) (op_loadW rfl k_agg_25 (by first | omega | (simp <;> omega) | simp_all)) rfl rfl rfl rfl ?_
  refine RegC.m (op_move rfl) rfl rfl rfl ?_
  refine RegC.m (op_move rfl) rfl rfl rfl ?_
  refine RegC.m (op_call rfl k_call_8 (stream_range (k) (n) (by first | omega | (simp <;> omega) | simp_all) (by first | omega | (simp <;> omega) | simp_all) _ _ (by first | omega | (simp <;> omega) | simp_all))) rfl rfl rfl ?_
  refine RegC.m (op_move rfl) rfl rfl rfl ?_
  refine RegC.m (op_extract rfl rfl) rfl rfl rfl ?_
  refine RegC.m (op_extract rfl rfl) rfl rfl rfl ?_
  refine RegC.m (op_assign rfl) rfl rfl rfl ?_
  refine RegC.m (op_assign rfl) rfl rfl rfl ?_
  refine RegC.done ⟨.inl rfl, ?_⟩
  refine WP.nrm 40 ?_
  refine WP.reg k_mixed fun nm4 hnm4 => ?_
  refine RegC.m (op_move rfl) rfl rfl rfl ?_
  rcases Decidable.em ((fr : Int) < 0) with h1 | h1
  ·
    refine RegC.m (OpV.boolT (op_lss rfl) h1) rfl rfl rfl ?_
    refine RegC.m (op_move rfl) rfl rfl rfl ?_
    refine RegC.skip rfl rfl ?_
    refine RegC.skip rfl rfl ?_
    refine RegC.m (op_pick rfl) rfl rfl rfl ?_
    refine RegC.m (op_move rfl) rfl rfl rfl ?_
    refine RegC.skip rfl rfl ?_
    refine RegC.skip rfl rfl ?_
    refine RegC.m (op_pick rfl) rfl rfl rfl ?_
    refine RegC.m (op_assign rfl) rfl rfl rfl ?_
    refine RegC.done ⟨.inl rfl, ?_⟩
    refine WP.nrm 40 ?_
    refine WP.cond (t := true) rfl ?_
    refine WP.nrm 40 ?_
    refine WP.reg k_mixed fun nm5 hnm5 => ?_
    refine RegC.m (op_move rfl) rfl rfl rfl ?_
    refine RegC.m (op_neq rfl) rfl rfl rfl ?_
    refine RegC.m (op_move rfl) rfl rfl rfl ?_
    refine RegC.m (op_move rfl) rfl rfl rfl ?_
    refine RegC.m (op_lenV (f := AVal.u8) (l := ([] : List UInt8)) rfl k_sl_26) rfl rfl rfl ?_
    refine RegC.m (OpV.boolF (op_gtr rfl) (by simp)) rfl rfl rfl ?_
    refine RegC.m (op_pick rfl) rfl rfl rfl ?_
    refine RegC.done ⟨.inl rfl, ?_⟩
    refine WP.nrm 40 ?_
    refine WP.cond (t := false) rfl ?_
    refine WP.nrm 40 ?_
    refine WP.reg k_mixed fun nm6 hnm6 => ?_
    refine RegC.q (i := 0) (op_loadW rfl k_agg_23 (by first | omega | (simp <;> omega) | simp_all)) rfl rfl rfl rfl ?_
    refine RegC.q (i := 1) (op_loadW rfl k_agg_25 (by first | omega | (simp <;> omega) | simp_all)) rfl rfl rfl rfl ?_
    refine RegC.m (op_move rfl) rfl rfl rfl ?_
    refine RegC.m (op_call rfl k_call_11 (cool2 (h := []) (fun b => cover_calls b full (text) (k) (n) (by first | omega | (simp <;> omega) | simp_all) (by first | omega | (simp <;> omega) | simp_all) (by first | omega | (simp <;> omega) | simp_all)) (by simp))) rfl rfl rfl ?_
    refine RegC.m (op_move rfl) rfl rfl rfl ?_
    refine RegC.m (op_extract rfl rfl) rfl rfl rfl ?_
    refine RegC.m (op_extract rfl rfl) rfl rfl rfl ?_
    refine RegC.m (op_assign rfl) rfl rfl rfl ?_
    refine RegC.m (op_assign rfl) rfl rfl rfl ?_
    refine RegC.done ⟨.inl rfl, ?_⟩
    refine WP.nrm 40 ?_
    refine WP.reg k_mixed fun nm7 hnm7 => ?_
    refine RegC.m (op_move rfl) rfl rfl rfl ?_
    refine RegC.m (op_lenV (f := AVal.u8) (l := text) rfl k_sl_26) rfl rfl rfl ?_
    refine RegC.m (OpV.boolF (op_gtr rfl) (by omega)) rfl rfl rfl ?_
    refine RegC.done ⟨.inl rfl, ?_⟩
    refine WP.nrm 40 ?_
    refine WP.cond (t := false) rfl ?_
    refine WP.nrm 40 ?_
    refine WP.reg k_mixed fun nm8 hnm8 => ?_
    refine RegC.q (i := 0) (op_loadW rfl k_agg_23 (by first | omega | (simp <;> omega) | simp_all)) rfl rfl rfl rfl ?_
    refine RegC.q (i := 1) (op_loadW rfl k_agg_25 (by first | omega | (simp <;> omega) | simp_all)) rfl rfl rfl rfl ?_
    refine RegC.m (op_move rfl) rfl rfl rfl ?_
    refine RegC.m (op_call rfl k_call_11 (cool2 (h := []) (fun b => cover_calls b false (coverS (k) (n) (text)) (k) (n) (by first | omega | (simp <;> omega) | simp_all) (by first | omega | (simp <;> omega) | simp_all) (by first | omega | (simp <;> omega) | simp_all)) (by simp))) rfl rfl rfl ?_
    refine RegC.m (op_move rfl) rfl rfl rfl ?_
    refine RegC.m (op_extract rfl rfl) rfl rfl rfl ?_
    refine RegC.m (op_extract rfl rfl) rfl rfl rfl ?_
    refine RegC.m (op_assign rfl) rfl rfl rfl ?_
    refine RegC.m (op_assign rfl) rfl rfl rfl ?_
    refine RegC.done ⟨.inl rfl, ?_⟩
    refine WP.nrm 40 ?_
    refine WP.reg k_mixed fun nm9 hnm9 => ?_
    refine RegC.m (op_move rfl) rfl rfl rfl ?_
    refine RegC.m (op_eql rfl) rfl rfl rfl ?_
    refine RegC.m (op_move rfl) rfl rfl rfl ?_
    refine RegC.m (op_move rfl) rfl rfl rfl ?_
    refine RegC.m (op_eql rfl) rfl rfl rfl ?_
    refine RegC.m (op_pick rfl) rfl rfl rfl ?_
    refine RegC.m (op_move rfl) rfl rfl rfl ?_
    refine RegC.m (op_move rfl) rfl rfl rfl ?_
    refine RegC.q (i := 0) (op_loadW rfl k_agg_23 (by first | omega | (simp <;> omega) | simp_all)) rfl rfl rfl rfl ?_
    refine RegC.q (i := 1) (op_loadW rfl k_agg_25 (by first | omega | (simp <;> omega) | simp_all)) rfl rfl rfl rfl ?_
    refine RegC.m (op_move rfl) rfl rfl rfl ?_
    refine RegC.m (op_call rfl k_call_12 (cool1 (h := []) (fun b => cover1_calls b full (text) (k) (n) (by first | omega | (simp <;> omega) | simp_all) (by first | omega | (simp <;> omega) | simp_all) (by first | omega | (simp <;> omega) | simp_all)) (by simp))) rfl rfl rfl ?_
    refine RegC.m (OpV.boolE (t := ((coverS (k) (n) (text) : List UInt8) == cover1 (k) (n) (text))) (u := true) (op_call rfl k_call_9 (equal_calls false false (coverS (k) (n) (text)) (cover1 (k) (n) (text)))) (covers_same k n text hk hn ht)) rfl rfl rfl ?_
    refine RegC.m (op_pick rfl) rfl rfl rfl ?_
    refine RegC.m (op_move rfl) rfl rfl rfl ?_
    refine RegC.m (op_move rfl) rfl rfl rfl ?_
    refine RegC.m (op_move rfl) rfl rfl rfl ?_
    refine RegC.m (OpV.boolE (t := ((coverS (k) (n) (coverS (k) (n) (text)) : List UInt8) == text)) (u := true) (op_call rfl k_call_9 (equal_calls false full (coverS (k) (n) (coverS (k) (n) (text))) (text))) (covers_back k n text)) rfl rfl rfl ?_
    refine RegC.m (op_pick rfl) rfl rfl rfl ?_
    refine RegC.m (op_assign rfl) rfl rfl rfl ?_
    refine RegC.done ⟨.inl rfl, ?_⟩
    refine WP.nrm 40 ?_
    refine WP.retS (ResV.one rfl (.tmp rfl)) (List.nil_sublist _) ?_
    exact ⟨rfl, rfl⟩
  ·
    refine RegC.m (OpV.boolF (op_lss rfl) h1) rfl rfl rfl ?_
    refine RegC.m (op_move rfl) rfl rfl rfl ?_
    refine RegC.m (op_move rfl) rfl rfl rfl ?_
    rcases Decidable.em ((fr : Int) > 1099511627776) with h2 | h2
    ·
      refine RegC.m (OpV.boolT (op_gtr rfl) h2) rfl rfl rfl ?_
      refine RegC.m (op_pick rfl) rfl rfl rfl ?_
      refine RegC.m (op_move rfl) rfl rfl rfl ?_
      refine RegC.skip rfl rfl ?_
      refine RegC.skip rfl rfl ?_
      refine RegC.m (op_pick rfl) rfl rfl rfl ?_
      refine RegC.m (op_assign rfl) rfl rfl rfl ?_
      refine RegC.done ⟨.inl rfl, ?_⟩
      refine WP.nrm 40 ?_
      refine WP.cond (t := true) rfl ?_
      refine WP.nrm 40 ?_
      refine WP.reg k_mixed fun nm10 hnm10 => ?_
      refine RegC.m (op_move rfl) rfl rfl rfl ?_
      refine RegC.m (op_neq rfl) rfl rfl rfl ?_
      refine RegC.m (op_move rfl) rfl rfl rfl ?_
      refine RegC.m (op_move rfl) rfl rfl rfl ?_
      refine RegC.m (op_lenV (f := AVal.u8) (l := ([] : List UInt8)) rfl k_sl_26) rfl rfl rfl ?_
      refine RegC.m (OpV.boolF (op_gtr rfl) (by simp)) rfl rfl rfl ?_
      refine RegC.m (op_pick rfl) rfl rfl rfl ?_
      refine RegC.done ⟨.inl rfl, ?_⟩
      refine WP.nrm 40 ?_
      refine WP.cond (t := false) rfl ?_
      refine WP.nrm 40 ?_
      refine WP.reg k_mixed fun nm11 hnm11 => ?_
      refine RegC.q (i := 0) (op_loadW rfl k_agg_23 (by first | omega | (simp <;> omega) | simp_all)) rfl rfl rfl rfl ?_
      refine RegC.q (i := 1) (op_loadW rfl k_agg_25 (by first | omega | (simp <;> omega) | simp_all)) rfl rfl rfl rfl ?_
      refine RegC.m (op_move rfl) rfl rfl rfl ?_
      refine RegC.m (op_call rfl k_call_11 (cool2 (h := []) (fun b => cover_calls b full (text) (k) (n) (by first | omega | (simp <;> omega) | simp_all) (by first | omega | (simp <;> omega) | simp_all) (by first | omega | (simp <;> omega) | simp_all)) (by simp))) rfl rfl rfl ?_
      refine RegC.m (op_move rfl) rfl rfl rfl ?_
      refine RegC.m (op_extract rfl rfl) rfl rfl rfl ?_
      refine RegC.m (op_extract rfl rfl) rfl rfl rfl ?_
      refine RegC.m (op_assign rfl) rfl rfl rfl ?_
      refine RegC.m (op_assign rfl) rfl rfl rfl ?_
      refine RegC.done ⟨.inl rfl, ?_⟩
      refine WP.nrm 40 ?_
      refine WP.reg k_mixed fun nm12 hnm12 => ?_
      refine RegC.m (op_move rfl) rfl rfl rfl ?_
      refine RegC.m (op_lenV (f := AVal.u8) (l := text) rfl k_sl_26) rfl rfl rfl ?_
      refine RegC.m (OpV.boolF (op_gtr rfl) (by omega)) rfl rfl rfl ?_
      refine RegC.done ⟨.inl rfl, ?_⟩
      refine WP.nrm 40 ?_
      refine WP.cond (t := false) rfl ?_
      refine WP.nrm 40 ?_
      refine WP.reg k_mixed fun nm13 hnm13 => ?_
      refine RegC.q (i := 0) (op_loadW rfl k_agg_23 (by first | omega | (simp <;> omega) | simp_all)) rfl rfl rfl rfl ?_
      refine RegC.q (i := 1) (op_loadW rfl k_agg_25 (by first | omega | (simp <;> omega) | simp_all)) rfl rfl rfl rfl ?_
      refine RegC.m (op_move rfl) rfl rfl rfl ?_
      refine RegC.m (op_call rfl k_call_11 (cool2 (h := []) (fun b => cover_calls b false (coverS (k) (n) (text)) (k) (n) (by first | omega | (simp <;> omega) | simp_all) (by first | omega | (simp <;> omega) | simp_all) (by first | omega | (simp <;> omega) | simp_all)) (by simp))) rfl rfl rfl ?_
      refine RegC.m (op_move rfl) rfl rfl rfl ?_
      refine RegC.m (op_extract rfl rfl) rfl rfl rfl ?_
      refine RegC.m (op_extract rfl rfl) rfl rfl rfl ?_
      refine RegC.m (op_assign rfl) rfl rfl rfl ?_
      refine RegC.m (op_assign rfl) rfl rfl rfl ?_
      refine RegC.done ⟨.inl rfl, ?_⟩
      refine WP.nrm 40 ?_
      refine WP.reg k_mixed fun nm14 hnm14 => ?_
      refine RegC.m (op_move rfl) rfl rfl rfl ?_
      refine RegC.m (op_eql rfl) rfl rfl rfl ?_
      refine RegC.m (op_move rfl) rfl rfl rfl ?_
      refine RegC.m (op_move rfl) rfl rfl rfl ?_
      refine RegC.m (op_eql rfl) rfl rfl rfl ?_
      refine RegC.m (op_pick rfl) rfl rfl rfl ?_
      refine RegC.m (op_move rfl) rfl rfl rfl ?_
      refine RegC.m (op_move rfl) rfl rfl rfl ?_
      refine RegC.q (i := 0) (op_loadW rfl k_agg_23 (by first | omega | (simp <;> omega) | simp_all)) rfl rfl rfl rfl ?_
      refine RegC.q (i := 1) (op_loadW rfl k_agg_25 (by first | omega | (simp <;> omega) | simp_all)) rfl rfl rfl rfl ?_
      refine RegC.m (op_move rfl) rfl rfl rfl ?_
      refine RegC.m (op_call rfl k_call_12 (cool1 (h := []) (fun b => cover1_calls b full (text) (k) (n) (by first | omega | (simp <;> omega) | simp_all) (by first | omega | (simp <;> omega) | simp_all) (by first | omega | (simp <;> omega) | simp_all)) (by simp))) rfl rfl rfl ?_
      refine RegC.m (OpV.boolE (t := ((coverS (k) (n) (text) : List UInt8) == cover1 (k) (n) (text))) (u := true) (op_call rfl k_call_9 (equal_calls false false (coverS (k) (n) (text)) (cover1 (k) (n) (text)))) (covers_same k n text hk hn ht)) rfl rfl rfl ?_
      refine RegC.m (op_pick rfl) rfl rfl rfl ?_
      refine RegC.m (op_move rfl) rfl rfl rfl ?_
      refine RegC.m (op_move rfl) rfl rfl rfl ?_
      refine RegC.m (op_move rfl) rfl rfl rfl ?_
      refine RegC.m (OpV.boolE (t := ((coverS (k) (n) (coverS (k) (n) (text)) : List UInt8) == text)) (u := true) (op_call rfl k_call_9 (equal_calls false full (coverS (k) (n) (coverS (k) (n) (text))) (text))) (covers_back k n text)) rfl rfl rfl ?_
      refine RegC.m (op_pick rfl) rfl rfl rfl ?_
      refine RegC.m (op_assign rfl) rfl rfl rfl ?_
      refine RegC.done ⟨.inl rfl, ?_⟩
      refine WP.nrm 40 ?_
      refine WP.retS (ResV.one rfl (.tmp rfl)) (List.nil_sublist _) ?_
      exact ⟨rfl, rfl⟩
    ·
      refine RegC.m (OpV.boolF (op_gtr rfl) h2) rfl rfl rfl ?_
      refine RegC.m (op_pick rfl) rfl rfl rfl ?_
      refine RegC.m (op_move rfl) rfl rfl rfl ?_
      refine RegC.m (op_move rfl) rfl rfl rfl ?_
      refine RegC.m (op_lss rfl) rfl rfl rfl ?_
      refine RegC.m (op_pick rfl) rfl rfl rfl ?_
      refine RegC.m (op_assign rfl) rfl rfl rfl ?_
      refine RegC.done ⟨.inl rfl, ?_⟩
      refine WP.nrm 40 ?_
      refine WP.condD rfl (fun h3 => ?_) (fun h3 => ?_)
      ·
        refine WP.nrm 40 ?_
        refine WP.reg k_mixed fun nm15 hnm15 => ?_
        refine RegC.m (op_move rfl) rfl rfl rfl ?_
        refine RegC.m (op_neq rfl) rfl rfl rfl ?_
        refine RegC.m (op_move rfl) rfl rfl rfl ?_
        refine RegC.m (op_move rfl) rfl rfl rfl ?_
        refine RegC.m (op_lenV (f := AVal.u8) (l := ([] : List UInt8)) rfl k_sl_26) rfl rfl rfl ?_
        refine RegC.m (OpV.boolF (op_gtr rfl) (by simp)) rfl rfl rfl ?_
        refine RegC.m (op_pick rfl) rfl rfl rfl ?_
        refine RegC.done ⟨.inl rfl, ?_⟩
        refine WP.nrm 40 ?_
        refine WP.cond (t := false) rfl ?_
        refine WP.nrm 40 ?_
        refine WP.reg k_mixed fun nm16 hnm16 => ?_
        refine RegC.q (i := 0) (op_loadW rfl k_agg_23 (by first | omega | (simp <;> omega) | simp_all)) rfl rfl rfl rfl ?_
        refine RegC.q (i := 1) (op_loadW rfl k_agg_25 (by first | omega | (simp <;> omega) | simp_all)) rfl rfl rfl rfl ?_
        refine RegC.m (op_move rfl) rfl rfl rfl ?_
        refine RegC.m (op_call rfl k_call_11 (cool2 (h := []) (fun b => cover_calls b full (text) (k) (n) (by first | omega | (simp <;> omega) | simp_all) (by first | omega | (simp <;> omega) | simp_all) (by first | omega | (simp <;> omega) | simp_all)) (by simp))) rfl rfl rfl ?_
        refine RegC.m (op_move rfl) rfl rfl rfl ?_
        refine RegC.m (op_extract rfl rfl) rfl rfl rfl ?_
        refine RegC.m (op_extract rfl rfl) rfl rfl rfl ?_
        refine RegC.m (op_assign rfl) rfl rfl rfl ?_
        refine RegC.m (op_assign rfl) rfl rfl rfl ?_
        refine RegC.done ⟨.inl rfl, ?_⟩
        refine WP.nrm 40 ?_
        refine WP.reg k_mixed fun nm17 hnm17 => ?_
        refine RegC.m (op_move rfl) rfl rfl rfl ?_
        refine RegC.m (op_lenV (f := AVal.u8) (l := text) rfl k_sl_26) rfl rfl rfl ?_
        refine RegC.m (OpV.boolF (op_gtr rfl) (by omega)) rfl rfl rfl ?_
        refine RegC.done ⟨.inl rfl, ?_⟩
        refine WP.nrm 40 ?_
        refine WP.cond (t := false) rfl ?_
        refine WP.nrm 40 ?_
        refine WP.reg k_mixed fun nm18 hnm18 => ?_
        refine RegC.q (i := 0) (op_loadW rfl k_agg_23 (by first | omega | (simp <;> omega) | simp_all)) rfl rfl rfl rfl ?_
        refine RegC.q (i := 1) (op_loadW rfl k_agg_25 (by first | omega | (simp <;> omega) | simp_all)) rfl rfl rfl rfl ?_
        refine RegC.m (op_move rfl) rfl rfl rfl ?_
        refine RegC.m (op_call rfl k_call_11 (cool2 (h := []) (fun b => cover_calls b false (coverS (k) (n) (text)) (k) (n) (by first | omega | (simp <;> omega) | simp_all) (by first | omega | (simp <;> omega) | simp_all) (by first | omega | (simp <;> omega) | simp_all)) (by simp))) rfl rfl rfl ?_
        refine RegC.m (op_move rfl) rfl rfl rfl ?_
        refine RegC.m (op_extract rfl rfl) rfl rfl rfl ?_
        refine RegC.m (op_extract rfl rfl) rfl rfl rfl ?_
        refine RegC.m (op_assign rfl) rfl rfl rfl ?_
        refine RegC.m (op_assign rfl) rfl rfl rfl ?_
        refine RegC.done ⟨.inl rfl, ?_⟩
        refine WP.nrm 40 ?_
        refine WP.reg k_mixed fun nm19 hnm19 => ?_
        refine RegC.m (op_move rfl) rfl rfl rfl ?_
        refine RegC.m (op_eql rfl) rfl rfl rfl ?_
        refine RegC.m (op_move rfl) rfl rfl rfl ?_
        refine RegC.m (op_move rfl) rfl rfl rfl ?_
        refine RegC.m (op_eql rfl) rfl rfl rfl ?_
        refine RegC.m (op_pick rfl) rfl rfl rfl ?_
        refine RegC.m (op_move rfl) rfl rfl rfl ?_
        refine RegC.m (op_move rfl) rfl rfl rfl ?_
        refine RegC.q (i := 0) (op_loadW rfl k_agg_23 (by first | omega | (simp <;> omega) | simp_all)) rfl rfl rfl rfl ?_
        refine RegC.q (i := 1) (op_loadW rfl k_agg_25 (by first | omega | (simp <;> omega) | simp_all)) rfl rfl rfl rfl ?_
        refine RegC.m (op_move rfl) rfl rfl rfl ?_
        refine RegC.m (op_call rfl k_call_12 (cool1 (h := []) (fun b => cover1_calls b full (text) (k) (n) (by first | omega | (simp <;> omega) | simp_all) (by first | omega | (simp <;> omega) | simp_all) (by first | omega | (simp <;> omega) | simp_all)) (by simp))) rfl rfl rfl ?_
        refine RegC.m (OpV.boolE (t := ((coverS (k) (n) (text) : List UInt8) == cover1 (k) (n) (text))) (u := true) (op_call rfl k_call_9 (equal_calls false false (coverS (k) (n) (text)) (cover1 (k) (n) (text)))) (covers_same k n text hk hn ht)) rfl rfl rfl ?_
        refine RegC.m (op_pick rfl) rfl rfl rfl ?_
        refine RegC.m (op_move rfl) rfl rfl rfl ?_
        refine RegC.m (op_move rfl) rfl rfl rfl ?_
        refine RegC.m (op_move rfl) rfl rfl rfl ?_
        refine RegC.m (OpV.boolE (t := ((coverS (k) (n) (coverS (k) (n) (text)) : List UInt8) == text)) (u := true) (op_call rfl k_call_9 (equal_calls false full (coverS (k) (n) (coverS (k) (n) (text))) (text))) (covers_back k n text)) rfl rfl rfl ?_
        refine RegC.m (op_pick rfl) rfl rfl rfl ?_
        refine RegC.m (op_assign rfl) rfl rfl rfl ?_
        refine RegC.done ⟨.inl rfl, ?_⟩
        refine WP.nrm 40 ?_
        refine WP.retS (ResV.one rfl (.tmp rfl)) (List.nil_sublist _) ?_
        exact ⟨rfl, rfl⟩
      ·
        exfalso; omega

theorem law1_large_big (full : Bool) (text : List UInt8) (k n : List UInt8) (hk : k.length = 32) (hn : n.length = 16) (fr many : Int) (h1 : 0 ≤ fr) (h2 : fr ≤ 1099511627776) (h3 : many > 1048576) (ht : 1048576 < text.length) : ACalls Try.prog 3 [.agg ((k).map AVal.u8), .agg ((n).map AVal.u8), .i (fr), .i (many), VS AVal.u8 full (text)] [] [] (.bool true) [] := by
  refine ACalls.of_wp' (fn := Try.f3) (n := 109) Try.func3 rfl rfl ?_
  unfold Try.f3
  refine WP.nrm 40 ?_
  refine WP.reg k_mixed fun nm1 hnm1 => ?_
  refine RegC.a (op_boxA rfl) rfl rfl rfl ?_
  refine RegC.a (op_boxA rfl) rfl rfl rfl ?_
  refine RegC.m (op_assign rfl) rfl rfl rfl ?_
  refine RegC.done ⟨.inl rfl, ?_⟩
  refine WP.nrm 40 ?_
  refine WP.reg k_mixed fun nm2 hnm2 => ?_
  refine RegC.m (op_call rfl k_call_7 (landed_calls )) rfl rfl rfl ?_
  refine RegC.m (op_not rfl) rfl rfl rfl ?_
  refine RegC.done ⟨.inl rfl, ?_⟩
  refine WP.nrm 40 ?_
  refine WP.cond (t := false) rfl ?_
  refine WP.nrm 40 ?_
  refine WP.reg k_mixed fun nm3 hnm3 => ?_
  refine RegC.q (i := 0) (op_loadW rfl k_agg_23 (by first | omega | (simp <;> omega) | simp_all)) rfl rfl rfl rfl ?_
  refine RegC.q (i := 1) (op_loadW rfl k_agg_25 (by first | omega | (simp <;> omega) | simp_all)) rfl rfl rfl rfl ?_
  refine RegC.m (op_move rfl) rfl rfl rfl ?_
  refine RegC.m (op_move rfl) rfl rfl rfl ?_
  refine RegC.m (op_call rfl k_call_8 (stream_large (k) (n) (by first | omega | (simp <;> omega) | simp_all) (by first | omega | (simp <;> omega) | simp_all) _ _ (by first | omega | (simp <;> omega) | simp_all) (by first | omega | (simp <;> omega) | simp_all) (by first | omega | (simp <;> omega) | simp_all))) rfl rfl rfl ?_
  refine RegC.m (op_move rfl) rfl rfl rfl ?_
  refine RegC.m (op_extract rfl rfl) rfl rfl rfl ?_
  refine RegC.m (op_extract rfl rfl) rfl rfl rfl ?_
  refine RegC.m (op_assign rfl) rfl rfl rfl ?_
  refine RegC.m (op_assign rfl) rfl rfl rfl ?_
  refine RegC.done ⟨.inl rfl, ?_⟩
  refine WP.nrm 40 ?_
  refine WP.reg k_mixed fun nm4 hnm4 => ?_
  refine RegC.m (op_move rfl) rfl rfl rfl ?_
  refine RegC.m (OpV.boolF (op_lss rfl) (by omega)) rfl rfl rfl ?_
  refine RegC.m (op_move rfl) rfl rfl rfl ?_
  refine RegC.m (op_move rfl) rfl rfl rfl ?_
  refine RegC.m (OpV.boolF (op_gtr rfl) (by omega)) rfl rfl rfl ?_
  refine RegC.m (op_pick rfl) rfl rfl rfl ?_
  refine RegC.m (op_move rfl) rfl rfl rfl ?_
  refine RegC.m (op_move rfl) rfl rfl rfl ?_
  refine RegC.m (OpV.boolF (op_lss rfl) (by omega)) rfl rfl rfl ?_
  refine RegC.m (op_pick rfl) rfl rfl rfl ?_
  refine RegC.m (op_assign rfl) rfl rfl rfl ?_
  refine RegC.done ⟨.inl rfl, ?_⟩
  refine WP.nrm 40 ?_
  refine WP.cond (t := false) rfl ?_
  refine WP.nrm 40 ?_
  refine WP.reg k_mixed fun nm5 hnm5 => ?_
  refine RegC.m (op_move rfl) rfl rfl rfl ?_
  refine RegC.m (OpV.boolT (op_gtr rfl) (by omega)) rfl rfl rfl ?_
  refine RegC.m (op_assign rfl) rfl rfl rfl ?_
  refine RegC.done ⟨.inl rfl, ?_⟩
  refine WP.nrm 40 ?_
  refine WP.cond (t := true) rfl ?_
  refine WP.nrm 40 ?_
  refine WP.reg k_mixed fun nm6 hnm6 => ?_
  refine RegC.m (op_move rfl) rfl rfl rfl ?_
  refine RegC.m (op_neq rfl) rfl rfl rfl ?_
  refine RegC.m (op_move rfl) rfl rfl rfl ?_
  refine RegC.m (op_move rfl) rfl rfl rfl ?_
  refine RegC.m (op_lenV (f := AVal.u8) (l := ([] : List UInt8)) rfl k_sl_26) rfl rfl rfl ?_
  refine RegC.m (OpV.boolF (op_gtr rfl) (by simp)) rfl rfl rfl ?_
  refine RegC.m (op_pick rfl) rfl rfl rfl ?_
  refine RegC.done ⟨.inl rfl, ?_⟩
  refine WP.nrm 40 ?_
  refine WP.cond (t := false) rfl ?_
  refine WP.nrm 40 ?_
  refine WP.reg k_mixed fun nm7 hnm7 => ?_
  refine RegC.q (i := 0) (op_loadW rfl k_agg_23 (by first | omega | (simp <;> omega) | simp_all)) rfl rfl rfl rfl ?_
  refine RegC.q (i := 1) (op_loadW rfl k_agg_25 (by first | omega | (simp <;> omega) | simp_all)) rfl rfl rfl rfl ?_
  refine RegC.m (op_move rfl) rfl rfl rfl ?_
  refine RegC.m (op_call rfl k_call_11 (cover_large full (text) (k) (n) (by first | omega | (simp <;> omega) | simp_all) (by first | omega | (simp <;> omega) | simp_all) (by first | omega | (simp <;> omega) | simp_all))) rfl rfl rfl ?_
  refine RegC.m (op_move rfl) rfl rfl rfl ?_
  refine RegC.m (op_extract rfl rfl) rfl rfl rfl ?_
  refine RegC.m (op_extract rfl rfl) rfl rfl rfl ?_
  refine RegC.m (op_assign rfl) rfl rfl rfl ?_
  refine RegC.m (op_assign rfl) rfl rfl rfl ?_
  refine RegC.done ⟨.inl rfl, ?_⟩
  refine WP.nrm 40 ?_
  refine WP.reg k_mixed fun nm8 hnm8 => ?_
  refine RegC.m (op_move rfl) rfl rfl rfl ?_
  refine RegC.m (op_lenV (f := AVal.u8) (l := text) rfl k_sl_26) rfl rfl rfl ?_
  refine RegC.m (OpV.boolT (op_gtr rfl) (by omega)) rfl rfl rfl ?_
  refine RegC.done ⟨.inl rfl, ?_⟩
  refine WP.nrm 40 ?_
  refine WP.cond (t := true) rfl ?_
  refine WP.nrm 40 ?_
  refine WP.reg k_mixed fun nm9 hnm9 => ?_
  refine RegC.m (op_move rfl) rfl rfl rfl ?_
  refine RegC.m (op_eql rfl) rfl rfl rfl ?_
  refine RegC.m (op_move rfl) rfl rfl rfl ?_
  refine RegC.m (op_move rfl) rfl rfl rfl ?_
  refine RegC.m (op_lenV (f := AVal.u8) (l := ([] : List UInt8)) rfl k_sl_26) rfl rfl rfl ?_
  refine RegC.m (OpV.boolE (t := ((((([] : List UInt8)).length : Int) : Int) == 0)) (u := true) (op_eql rfl) (by simp)) rfl rfl rfl ?_
  refine RegC.m (op_pick rfl) rfl rfl rfl ?_
  refine RegC.m (op_assign rfl) rfl rfl rfl ?_
  refine RegC.done ⟨.inl rfl, ?_⟩
  refine WP.nrm 40 ?_
  refine WP.retS (ResV.one rfl (.tmp rfl)) (List.nil_sublist _) ?_
  exact ⟨rfl, rfl⟩

theorem law1_large_small (full : Bool) (text : List UInt8) (k n : List UInt8) (hk : k.length = 32) (hn : n.length = 16) (fr many : Int) (h1 : 0 ≤ fr) (h2 : fr ≤ 1099511627776) (h3 : many > 1048576) (ht : text.length ≤ 1048576) : ACalls Try.prog 3 [.agg ((k).map AVal.u8), .agg ((n).map AVal.u8), .i (fr), .i (many), VS AVal.u8 full (text)] [] [] (.bool true) [] := by
  refine ACalls.of_wp' (fn := Try.f3) (n := 109) Try.func3 rfl rfl ?_
  unfold Try.f3
  refine WP.nrm 40 ?_
  refine WP.reg k_mixed fun nm1 hnm1 => ?_
  refine RegC.a (op_boxA rfl) rfl rfl rfl ?_
  refine RegC.a (op_boxA rfl) rfl rfl rfl ?_
  refine RegC.m (op_assign rfl) rfl rfl rfl ?_
  refine RegC.done ⟨.inl rfl, ?_⟩
  refine WP.nrm 40 ?_
  refine WP.reg k_mixed fun nm2 hnm2 => ?_
  refine RegC.m (op_call rfl k_call_7 (landed_calls )) rfl rfl rfl ?_
  refine RegC.m (op_not rfl) rfl rfl rfl ?_
  refine RegC.done ⟨.inl rfl, ?_⟩
  refine WP.nrm 40 ?_
  refine WP.cond (t := false) rfl ?_
  refine WP.nrm 40 ?_
  refine WP.reg k_mixed fun nm3 hnm3 => ?_
  refine RegC.q (i := 0) (op_loadW rfl k_agg_23 (by first | omega | (simp <;> omega) | simp_all)) rfl rfl rfl rfl ?_
  refine RegC.q (i := 1) (op_loadW rfl k_agg_25 (by first | omega | (simp <;> omega) | simp_all)) rfl rfl rfl rfl ?_
  refine RegC.m (op_move rfl) rfl rfl rfl ?_
  refine RegC.m (op_move rfl) rfl rfl rfl ?_
  refine RegC.m (op_call rfl k_call_8 (stream_large (k) (n) (by first | omega | (simp <;> omega) | simp_all) (by first | omega | (simp <;> omega) | simp_all) _ _ (by first | omega | (simp <;> omega) | simp_all) (by first | omega | (simp <;> omega) | simp_all) (by first | omega | (simp <;> omega) | simp_all))) rfl rfl rfl ?_
  refine RegC.m (op_move rfl) rfl rfl rfl ?_
  refine RegC.m (op_extract rfl rfl) rfl rfl rfl ?_
  refine RegC.m (op_extract rfl rfl) rfl rfl rfl ?_
  refine RegC.m (op_assign rfl) rfl rfl rfl ?_
  refine RegC.m (op_assign rfl) rfl rfl rfl ?_
  refine RegC.done ⟨.inl rfl, ?_⟩
  refine WP.nrm 40 ?_
  refine WP.reg k_mixed fun nm4 hnm4 => ?_
  refine RegC.m (op_move rfl) rfl rfl rfl ?_
  refine RegC.m (OpV.boolF (op_lss rfl) (by omega)) rfl rfl rfl ?_
  refine RegC.m (op_move rfl) rfl rfl rfl ?_
  refine RegC.m (op_move rfl) rfl rfl rfl ?_
  refine RegC.m (OpV.boolF (op_gtr rfl) (by omega)) rfl rfl rfl ?_
  refine RegC.m (op_pick rfl) rfl rfl rfl ?_
  refine RegC.m (op_move rfl) rfl rfl rfl ?_
  refine RegC.m (op_move rfl) rfl rfl rfl ?_
  refine RegC.m (OpV.boolF (op_lss rfl) (by omega)) rfl rfl rfl ?_
  refine RegC.m (op_pick rfl) rfl rfl rfl ?_
  refine RegC.m (op_assign rfl) rfl rfl rfl ?_
  refine RegC.done ⟨.inl rfl, ?_⟩
  refine WP.nrm 40 ?_
  refine WP.cond (t := false) rfl ?_
  refine WP.nrm 40 ?_
  refine WP.reg k_mixed fun nm5 hnm5 => ?_
  refine RegC.m (op_move rfl) rfl rfl rfl ?_
  refine RegC.m (OpV.boolT (op_gtr rfl) (by omega)) rfl rfl rfl ?_
  refine RegC.m (op_assign rfl) rfl rfl rfl ?_
  refine RegC.done ⟨.inl rfl, ?_⟩
  refine WP.nrm 40 ?_
  refine WP.cond (t := true) rfl ?_
  refine WP.nrm 40 ?_
  refine WP.reg k_mixed fun nm6 hnm6 => ?_
  refine RegC.m (op_move rfl) rfl rfl rfl ?_
  refine RegC.m (op_neq rfl) rfl rfl rfl ?_
  refine RegC.m (op_move rfl) rfl rfl rfl ?_
  refine RegC.m (op_move rfl) rfl rfl rfl ?_
  refine RegC.m (op_lenV (f := AVal.u8) (l := ([] : List UInt8)) rfl k_sl_26) rfl rfl rfl ?_
  refine RegC.m (OpV.boolF (op_gtr rfl) (by simp)) rfl rfl rfl ?_
  refine RegC.m (op_pick rfl) rfl rfl rfl ?_
  refine RegC.done ⟨.inl rfl, ?_⟩
  refine WP.nrm 40 ?_
  refine WP.cond (t := false) rfl ?_
  refine WP.nrm 40 ?_
  refine WP.reg k_mixed fun nm7 hnm7 => ?_
  refine RegC.q (i := 0) (op_loadW rfl k_agg_23 (by first | omega | (simp <;> omega) | simp_all)) rfl rfl rfl rfl ?_
  refine RegC.q (i := 1) (op_loadW rfl k_agg_25 (by first | omega | (simp <;> omega) | simp_all)) rfl rfl rfl rfl ?_
  refine RegC.m (op_move rfl) rfl rfl rfl ?_
  refine RegC.m (op_call rfl k_call_11 (cool2 (h := []) (fun b => cover_calls b full (text) (k) (n) (by first | omega | (simp <;> omega) | simp_all) (by first | omega | (simp <;> omega) | simp_all) (by first | omega | (simp <;> omega) | simp_all)) (by simp))) rfl rfl rfl ?_
  refine RegC.m (op_move rfl) rfl rfl rfl ?_
  refine RegC.m (op_extract rfl rfl) rfl rfl rfl ?_
  refine RegC.m (op_extract rfl rfl) rfl rfl rfl ?_
  refine RegC.m (op_assign rfl) rfl rfl rfl ?_
  refine RegC.m (op_assign rfl) rfl rfl rfl ?_
  refine RegC.done ⟨.inl rfl, ?_⟩
  refine WP.nrm 40 ?_
  refine WP.reg k_mixed fun nm8 hnm8 => ?_
  refine RegC.m (op_move rfl) rfl rfl rfl ?_
  refine RegC.m (op_lenV (f := AVal.u8) (l := text) rfl k_sl_26) rfl rfl rfl ?_
  refine RegC.m (OpV.boolF (op_gtr rfl) (by omega)) rfl rfl rfl ?_
  refine RegC.done ⟨.inl rfl, ?_⟩
  refine WP.nrm 40 ?_
  refine WP.cond (t := false) rfl ?_
  refine WP.nrm 40 ?_
  refine WP.reg k_mixed fun nm9 hnm9 => ?_
  refine RegC.q (i := 0) (op_loadW rfl k_agg_23 (by first | omega | (simp <;> omega) | simp_all)) rfl rfl rfl rfl ?_
  refine RegC.q (i := 1) (op_loadW rfl k_agg_25 (by first | omega | (simp <;> omega) | simp_all)) rfl rfl rfl rfl ?_
  refine RegC.m (op_move rfl) rfl rfl rfl ?_
  refine RegC.m (op_call rfl k_call_11 (cool2 (h := []) (fun b => cover_calls b false (coverS (k) (n) (text)) (k) (n) (by first | omega | (simp <;> omega) | simp_all) (by first | omega | (simp <;> omega) | simp_all) (by first | omega | (simp <;> omega) | simp_all)) (by simp))) rfl rfl rfl ?_
  refine RegC.m (op_move rfl) rfl rfl rfl ?_
  refine RegC.m (op_extract rfl rfl) rfl rfl rfl ?_
  refine RegC.m (op_extract rfl rfl) rfl rfl rfl ?_
  refine RegC.m (op_assign rfl) rfl rfl rfl ?_
  refine RegC.m (op_assign rfl) rfl rfl rfl ?_
  refine RegC.done ⟨.inl rfl, ?_⟩
  refine WP.nrm 40 ?_
  refine WP.reg k_mixed fun nm10 hnm10 => ?_
  refine RegC.m (op_move rfl) rfl rfl rfl ?_
  refine RegC.m (op_eql rfl) rfl rfl rfl ?_
  refine RegC.m (op_move rfl) rfl rfl rfl ?_
  refine RegC.m (op_move rfl) rfl rfl rfl ?_
  refine RegC.m (op_eql rfl) rfl rfl rfl ?_
  refine RegC.m (op_pick rfl) rfl rfl rfl ?_
  refine RegC.m (op_move rfl) rfl rfl rfl ?_
  refine RegC.m (op_move rfl) rfl rfl rfl ?_
  refine RegC.q (i := 0) (op_loadW rfl k_agg_23 (by first | omega | (simp <;> omega) | simp_all)) rfl rfl rfl rfl ?_
  refine RegC.q (i := 1) (op_loadW rfl k_agg_25 (by first | omega | (simp <;> omega) | simp_all)) rfl rfl rfl rfl ?_
  refine RegC.m (op_move rfl) rfl rfl rfl ?_
  refine RegC.m (op_call rfl k_call_12 (cool1 (h := []) (fun b => cover1_calls b full (text) (k) (n) (by first | omega | (simp <;> omega) | simp_all) (by first | omega | (simp <;> omega) | simp_all) (by first | omega | (simp <;> omega) | simp_all)) (by simp))) rfl rfl rfl ?_
  refine RegC.m (OpV.boolE (t := ((coverS (k) (n) (text) : List UInt8) == cover1 (k) (n) (text))) (u := true) (op_call rfl k_call_9 (equal_calls false false (coverS (k) (n) (text)) (cover1 (k) (n) (text)))) (covers_same k n text hk hn ht)) rfl rfl rfl ?_
  refine RegC.m (op_pick rfl) rfl rfl rfl ?_
  refine RegC.m (op_move rfl) rfl rfl rfl ?_
  refine RegC.m (op_move rfl) rfl rfl rfl ?_
  refine RegC.m (op_move rfl) rfl rfl rfl ?_
  refine RegC.m (OpV.boolE (t := ((coverS (k) (n) (coverS (k) (n) (text)) : List UInt8) == text)) (u := true) (op_call rfl k_call_9 (equal_calls false full (coverS (k) (n) (coverS (k) (n) (text))) (text))) (covers_back k n text)) rfl rfl rfl ?_
  refine RegC.m (op_pick rfl) rfl rfl rfl ?_
  refine RegC.m (op_assign rfl) rfl rfl rfl ?_
  refine RegC.done ⟨.inl rfl, ?_⟩
  refine WP.nrm 40 ?_
  refine WP.retS (ResV.one rfl (.tmp rfl)) (List.nil_sublist _) ?_
  exact ⟨rfl, rfl⟩

theorem law1_ok_big (full : Bool) (text : List UInt8) (k n : List UInt8) (hk : k.length = 32) (hn : n.length = 16) (fr many : Nat) (h1 : fr ≤ 1099511627776) (h2 : many ≤ 1048576) (ht : 1048576 < text.length) : ACalls Try.prog 3 [.agg ((k).map AVal.u8), .agg ((n).map AVal.u8), .i ((fr : Int)), .i ((many : Int)), VS AVal.u8 full (text)] [] [] (.bool true) [] := by
  refine ACalls.of_wp' (fn := Try.f3) (n := 109) Try.func3 rfl rfl ?_
  unfold Try.f3
  refine WP.nrm 40 ?_
  refine WP.reg k_mixed fun nm1 hnm1 => ?_
  refine RegC.a (op_boxA rfl) rfl rfl rfl ?_
  refine RegC.a (op_boxA rfl) rfl rfl rfl ?_
  refine RegC.m (op_assign rfl) rfl rfl rfl ?_
  refine RegC.done ⟨.inl rfl, ?_⟩
  refine WP.nrm 40 ?_
  refine WP.reg k_mixed fun nm2 hnm2 => ?_
  refine RegC.m (op_call rfl k_call_7 (landed_calls )) rfl rfl rfl ?_
  refine RegC.m (op_not rfl) rfl rfl rfl ?_
  refine RegC.done ⟨.inl rfl, ?_⟩
  refine WP.nrm 40 ?_
  refine WP.cond (t := false) rfl ?_
  refine WP.nrm 40 ?_
  refine WP.reg k_mixed fun nm3 hnm3 => ?_
  refine RegC.q (i := 0) (op_loadW rfl k_agg_23 (by first | omega | (simp <;> omega) | simp_all)) rfl rfl rfl rfl ?_
  refine RegC.q (i := 1) (op_loadW rfl k_agg_25 (by first | omega | (simp <;> omega) | simp_all)) rfl rfl rfl rfl ?_
  refine RegC.m (op_move rfl) rfl rfl rfl ?_
  refine RegC.m (op_move rfl) rfl rfl rfl ?_
  refine RegC.m (op_call rfl k_call_8 (cool2 (h := []) (fun b => stream_calls b (k) (n) (by first | omega | (simp <;> omega) | simp_all) (by first | omega | (simp <;> omega) | simp_all) (fr) (many) (by first | omega | (simp <;> omega) | simp_all) (by first | omega | (simp <;> omega) | simp_all)) (by simp))) rfl rfl rfl ?_
  refine RegC.m (op_move rfl) rfl rfl rfl ?_
  refine RegC.m (op_extract rfl rfl) rfl rfl rfl ?_
  refine RegC.m (op_extract rfl rfl) rfl rfl rfl ?_
  refine RegC.m (op_assign rfl) rfl rfl rfl ?_
  refine RegC.m (op_assign rfl) rfl rfl rfl ?_
  refine RegC.done ⟨.inl rfl, ?_⟩
  refine WP.nrm 40 ?_
  refine WP.reg k_mixed fun nm4 hnm4 => ?_
  refine RegC.m (op_move rfl) rfl rfl rfl ?_
  refine RegC.m (OpV.boolF (op_lss rfl) (by omega)) rfl rfl rfl ?_
  refine RegC.m (op_move rfl) rfl rfl rfl ?_
  refine RegC.m (op_move rfl) rfl rfl rfl ?_
  refine RegC.m (OpV.boolF (op_gtr rfl) (by omega)) rfl rfl rfl ?_
  refine RegC.m (op_pick rfl) rfl rfl rfl ?_
  refine RegC.m (op_move rfl) rfl rfl rfl ?_
  refine RegC.m (op_move rfl) rfl rfl rfl ?_
  refine RegC.m (OpV.boolF (op_lss rfl) (by omega)) rfl rfl rfl ?_
  refine RegC.m (op_pick rfl) rfl rfl rfl ?_
  refine RegC.m (op_assign rfl) rfl rfl rfl ?_
  refine RegC.done ⟨.inl rfl, ?_⟩
  refine WP.nrm 40 ?_
  refine WP.cond (t := false) rfl ?_
  refine WP.nrm 40 ?_
  refine WP.reg k_mixed fun nm5 hnm5 => ?_
  refine RegC.m (op_move rfl) rfl rfl rfl ?_
  refine RegC.m (OpV.boolF (op_gtr rfl) (by omega)) rfl rfl rfl ?_
  refine RegC.m (op_assign rfl) rfl rfl rfl ?_
  refine RegC.done ⟨.inl rfl, ?_⟩
  refine WP.nrm 40 ?_
  refine WP.cond (t := false) rfl ?_
  refine WP.nrm 40 ?_
  refine WP.reg k_mixed fun nm6 hnm6 => ?_
  refine RegC.m (op_move rfl) rfl rfl rfl ?_
  refine RegC.m (op_neq rfl) rfl rfl rfl ?_
  refine RegC.m (op_move rfl) rfl rfl rfl ?_
  refine RegC.m (op_move rfl) rfl rfl rfl ?_
  refine RegC.q (i := 0) (op_loadW rfl k_agg_23 (by first | omega | (simp <;> omega) | simp_all)) rfl rfl rfl rfl ?_
  refine RegC.q (i := 1) (op_loadW rfl k_agg_25 (by first | omega | (simp <;> omega) | simp_all)) rfl rfl rfl rfl ?_
  refine RegC.m (op_move rfl) rfl rfl rfl ?_
  refine RegC.m (op_move rfl) rfl rfl rfl ?_
  refine RegC.m (op_call rfl k_call_10 (cool1 (h := []) (fun b => stream1_calls b (k) (n) (by first | omega | (simp <;> omega) | simp_all) (by first | omega | (simp <;> omega) | simp_all) (fr) (many) (by first | omega | (simp <;> omega) | simp_all) (by first | omega | (simp <;> omega) | simp_all)) (by simp))) rfl rfl rfl ?_
  refine RegC.m (OpV.boolE (t := ((streamS (k) (n) (fr) (many) : List UInt8) == stream1 (k) (n) (fr) (many))) (u := true) (op_call rfl k_call_9 (equal_calls false false (streamS (k) (n) (fr) (many)) (stream1 (k) (n) (fr) (many)))) (streams_same k n fr many hk hn h1 h2)) rfl rfl rfl ?_
  refine RegC.m (op_not rfl) rfl rfl rfl ?_
  refine RegC.m (op_pick rfl) rfl rfl rfl ?_
  refine RegC.done ⟨.inl rfl, ?_⟩
  refine WP.nrm 40 ?_
  refine WP.cond (t := false) rfl ?_
  refine WP.nrm 40 ?_
  refine WP.reg k_mixed fun nm7 hnm7 => ?_
  refine RegC.q (i := 0) (op_loadW rfl k_agg_23 (by first | omega | (simp <;> omega) | simp_all)) rfl rfl rfl rfl ?_
  refine RegC.q (i := 1) (op_loadW rfl k_agg_25 (by first | omega | (simp <;> omega) | simp_all)) rfl rfl rfl rfl ?_
  refine RegC.m (op_move rfl) rfl rfl rfl ?_
  refine RegC.m (op_call rfl k_call_11 (cover_large full (text) (k) (n) (by first | omega | (simp <;> omega) | simp_all) (by first | omega | (simp <;> omega) | simp_all) (by first | omega | (simp <;> omega) | simp_all))) rfl rfl rfl ?_
  refine RegC.m (op_move rfl) rfl rfl rfl ?_
  refine RegC.m (op_extract rfl rfl) rfl rfl rfl ?_
  refine RegC.m (op_extract rfl rfl) rfl rfl rfl ?_
  refine RegC.m (op_assign rfl) rfl rfl rfl ?_
  refine RegC.m (op_assign rfl) rfl rfl rfl ?_
  refine RegC.done ⟨.inl rfl, ?_⟩
  refine WP.nrm 40 ?_
  refine WP.reg k_mixed fun nm8 hnm8 => ?_
  refine RegC.m (op_move rfl) rfl rfl rfl ?_
  refine RegC.m (op_lenV (f := AVal.u8) (l := text) rfl k_sl_26) rfl rfl rfl ?_
  refine RegC.m (OpV.boolT (op_gtr rfl) (by omega)) rfl rfl rfl ?_
  refine RegC.done ⟨.inl rfl, ?_⟩
  refine WP.nrm 40 ?_
  refine WP.cond (t := true) rfl ?_
  refine WP.nrm 40 ?_
  refine WP.reg k_mixed fun nm9 hnm9 => ?_
  refine RegC.m (op_move rfl) rfl rfl rfl ?_
  refine RegC.m (op_eql rfl) rfl rfl rfl ?_
  refine RegC.m (op_move rfl) rfl rfl rfl ?_
  refine RegC.m (op_move rfl) rfl rfl rfl ?_
  refine RegC.m (op_lenV (f := AVal.u8) (l := ([] : List UInt8)) rfl k_sl_26) rfl rfl rfl ?_
  refine RegC.m (OpV.boolE (t := ((((([] : List UInt8)).length : Int) : Int) == 0)) (u := true) (op_eql rfl) (by simp)) rfl rfl rfl ?_
  refine RegC.m (op_pick rfl) rfl rfl rfl ?_
  refine RegC.m (op_assign rfl) rfl rfl rfl ?_
  refine RegC.done ⟨.inl rfl, ?_⟩
  refine WP.nrm 40 ?_
  refine WP.retS (ResV.one rfl (.tmp rfl)) (List.nil_sublist _) ?_
  exact ⟨rfl, rfl⟩

theorem law1_ok_small (full : Bool) (text : List UInt8) (k n : List UInt8) (hk : k.length = 32) (hn : n.length = 16) (fr many : Nat) (h1 : fr ≤ 1099511627776) (h2 : many ≤ 1048576) (ht : text.length ≤ 1048576) : ACalls Try.prog 3 [.agg ((k).map AVal.u8), .agg ((n).map AVal.u8), .i ((fr : Int)), .i ((many : Int)), VS AVal.u8 full (text)] [] [] (.bool true) [] := by
  refine ACalls.of_wp' (fn := Try.f3) (n := 109) Try.func3 rfl rfl ?_
  unfold Try.f3
  refine WP.nrm 40 ?_
  refine WP.reg k_mixed fun nm1 hnm1 => ?_
  refine RegC.a (op_boxA rfl) rfl rfl rfl ?_
  refine RegC.a (op_boxA rfl) rfl rfl rfl ?_
  refine RegC.m (op_assign rfl) rfl rfl rfl ?_
  refine RegC.done ⟨.inl rfl, ?_⟩
  refine WP.nrm 40 ?_
  refine WP.reg k_mixed fun nm2 hnm2 => ?_
  refine RegC.m (op_call rfl k_call_7 (landed_calls )) rfl rfl rfl ?_
  refine RegC.m (op_not rfl) rfl rfl rfl ?_
  refine RegC.done ⟨.inl rfl, ?_⟩
  refine WP.nrm 40 ?_
  refine WP.cond (t := false) rfl ?_
  refine WP.nrm 40 ?_
  refine WP.reg k_mixed fun nm3 hnm3 => ?_
  refine RegC.q (i := 0) (op_loadW rfl k_agg_23 (by first | omega | (simp <;> omega) | simp_all)) rfl rfl rfl rfl ?_
  refine RegC.q (i := 1) (op_loadW rfl k_agg_25 (by first | omega | (simp <;> omega) | simp_all)) rfl rfl rfl rfl ?_
  refine RegC.m (op_move rfl) rfl rfl rfl ?_
  refine RegC.m (op_move rfl) rfl rfl rfl ?_
  refine RegC.m (op_call rfl k_call_8 (cool2 (h := []) (fun b => stream_calls b (k) (n) (by first | omega | (simp <;> omega) | simp_all) (by first | omega | (simp <;> omega) | simp_all) (fr) (many) (by first | omega | (simp <;> omega) | simp_all) (by first | omega | (simp <;> omega) | simp_all)) (by simp))) rfl rfl rfl ?_
  refine RegC.m (op_move rfl) rfl rfl rfl ?_
  refine RegC.m (op_extract rfl rfl) rfl rfl rfl ?_
  refine RegC.m (op_extract rfl rfl) rfl rfl rfl ?_
  refine RegC.m (op_assign rfl) rfl rfl rfl ?_
  refine RegC.m (op_assign rfl) rfl rfl rfl ?_
  refine RegC.done ⟨.inl rfl, ?_⟩
  refine WP.nrm 40 ?_
  refine WP.reg k_mixed fun nm4 hnm4 => ?_
  refine RegC.m (op_move rfl) rfl rfl rfl ?_
  refine RegC.m (OpV.boolF (op_lss rfl) (by omega)) rfl rfl rfl ?_
  refine RegC.m (op_move rfl) rfl rfl rfl ?_
  refine RegC.m (op_move rfl) rfl rfl rfl ?_
  refine RegC.m (OpV.boolF (op_gtr rfl) (by omega)) rfl rfl rfl ?_
  refine RegC.m (op_pick rfl) rfl rfl rfl ?_
  refine RegC.m (op_move rfl) rfl rfl rfl ?_
  refine RegC.m (op_move rfl) rfl rfl rfl ?_
  refine RegC.m (OpV.boolF (op_lss rfl) (by omega)) rfl rfl rfl ?_
  refine RegC.m (op_pick rfl) rfl rfl rfl ?_
  refine RegC.m (op_assign rfl) rfl rfl rfl ?_
  refine RegC.done ⟨.inl rfl, ?_⟩
  refine WP.nrm 40 ?_
  refine WP.cond (t := false) rfl ?_
  refine WP.nrm 40 ?_
  refine WP.reg k_mixed fun nm5 hnm5 => ?_
  refine RegC.m (op_move rfl) rfl rfl rfl ?_
  refine RegC.m (OpV.boolF (op_gtr rfl) (by omega)) rfl rfl rfl ?_
  refine RegC.m (op_assign rfl) rfl rfl rfl ?_
  refine RegC.done ⟨.inl rfl, ?_⟩
  refine WP.nrm 40 ?_
  refine WP.cond (t := false) rfl ?_
  refine WP.nrm 40 ?_
  refine WP.reg k_mixed fun nm6 hnm6 => ?_
  refine RegC.m (op_move rfl) rfl rfl rfl ?_
  refine RegC.m (op_neq rfl) rfl rfl rfl ?_
  refine RegC.m (op_move rfl) rfl rfl rfl ?_
  refine RegC.m (op_move rfl) rfl rfl rfl ?_
  refine RegC.q (i := 0) (op_loadW rfl k_agg_23 (by first | omega | (simp <;> omega) | simp_all)) rfl rfl rfl rfl ?_
  refine RegC.q (i := 1) (op_loadW rfl k_agg_25 (by first | omega | (simp <;> omega) | simp_all)) rfl rfl rfl rfl ?_
  refine RegC.m (op_move rfl) rfl rfl rfl ?_
  refine RegC.m (op_move rfl) rfl rfl rfl ?_
  refine RegC.m (op_call rfl k_call_10 (cool1 (h := []) (fun b => stream1_calls b (k) (n) (by first | omega | (simp <;> omega) | simp_all) (by first | omega | (simp <;> omega) | simp_all) (fr) (many) (by first | omega | (simp <;> omega) | simp_all) (by first | omega | (simp <;> omega) | simp_all)) (by simp))) rfl rfl rfl ?_
  refine RegC.m (OpV.boolE (t := ((streamS (k) (n) (fr) (many) : List UInt8) == stream1 (k) (n) (fr) (many))) (u := true) (op_call rfl k_call_9 (equal_calls false false (streamS (k) (n) (fr) (many)) (stream1 (k) (n) (fr) (many)))) (streams_same k n fr many hk hn h1 h2)) rfl rfl rfl ?_
  refine RegC.m (op_not rfl) rfl rfl rfl ?_
  refine RegC.m (op_pick rfl) rfl rfl rfl ?_
  refine RegC.done ⟨.inl rfl, ?_⟩
  refine WP.nrm 40 ?_
  refine WP.cond (t := false) rfl ?_
  refine WP.nrm 40 ?_
  refine WP.reg k_mixed fun nm7 hnm7 => ?_
  refine RegC.q (i := 0) (op_loadW rfl k_agg_23 (by first | omega | (simp <;> omega) | simp_all)) rfl rfl rfl rfl ?_
  refine RegC.q (i := 1) (op_loadW rfl k_agg_25 (by first | omega | (simp <;> omega) | simp_all)) rfl rfl rfl rfl ?_
  refine RegC.m (op_move rfl) rfl rfl rfl ?_
  refine RegC.m (op_call rfl k_call_11 (cool2 (h := []) (fun b => cover_calls b full (text) (k) (n) (by first | omega | (simp <;> omega) | simp_all) (by first | omega | (simp <;> omega) | simp_all) (by first | omega | (simp <;> omega) | simp_all)) (by simp))) rfl rfl rfl ?_
  refine RegC.m (op_move rfl) rfl rfl rfl ?_
  refine RegC.m (op_extract rfl rfl) rfl rfl rfl ?_
  refine RegC.m (op_extract rfl rfl) rfl rfl rfl ?_
  refine RegC.m (op_assign rfl) rfl rfl rfl ?_
  refine RegC.m (op_assign rfl) rfl rfl rfl ?_
  refine RegC.done ⟨.inl rfl, ?_⟩
  refine WP.nrm 40 ?_
  refine WP.reg k_mixed fun nm8 hnm8 => ?_
  refine RegC.m (op_move rfl) rfl rfl rfl ?_
  refine RegC.m (op_lenV (f := AVal.u8) (l := text) rfl k_sl_26) rfl rfl rfl ?_
  refine RegC.m (OpV.boolF (op_gtr rfl) (by omega)) rfl rfl rfl ?_
  refine RegC.done ⟨.inl rfl, ?_⟩
  refine WP.nrm 40 ?_
  refine WP.cond (t := false) rfl ?_
  refine WP.nrm 40 ?_
  refine WP.reg k_mixed fun nm9 hnm9 => ?_
  refine RegC.q (i := 0) (op_loadW rfl k_agg_23 (by first | omega | (simp <;> omega) | simp_all)) rfl rfl rfl rfl ?_
  refine RegC.q (i := 1) (op_loadW rfl k_agg_25 (by first | omega | (simp <;> omega) | simp_all)) rfl rfl rfl rfl ?_
  refine RegC.m (op_move rfl) rfl rfl rfl ?_
  refine RegC.m (op_call rfl k_call_11 (cool2 (h := []) (fun b => cover_calls b false (coverS (k) (n) (text)) (k) (n) (by first | omega | (simp <;> omega) | simp_all) (by first | omega | (simp <;> omega) | simp_all) (by first | omega | (simp <;> omega) | simp_all)) (by simp))) rfl rfl rfl ?_
  refine RegC.m (op_move rfl) rfl rfl rfl ?_
  refine RegC.m (op_extract rfl rfl) rfl rfl rfl ?_
  refine RegC.m (op_extract rfl rfl) rfl rfl rfl ?_
  refine RegC.m (op_assign rfl) rfl rfl rfl ?_
  refine RegC.m (op_assign rfl) rfl rfl rfl ?_
  refine RegC.done ⟨.inl rfl, ?_⟩
  refine WP.nrm 40 ?_
  refine WP.reg k_mixed fun nm10 hnm10 => ?_
  refine RegC.m (op_move rfl) rfl rfl rfl ?_
  refine RegC.m (op_eql rfl) rfl rfl rfl ?_
  refine RegC.m (op_move rfl) rfl rfl rfl ?_
  refine RegC.m (op_move rfl) rfl rfl rfl ?_
  refine RegC.m (op_eql rfl) rfl rfl rfl ?_
  refine RegC.m (op_pick rfl) rfl rfl rfl ?_
  refine RegC.m (op_move rfl) rfl rfl rfl ?_
  refine RegC.m (op_move rfl) rfl rfl rfl ?_
  refine RegC.q (i := 0) (op_loadW rfl k_agg_23 (by first | omega | (simp <;> omega) | simp_all)) rfl rfl rfl rfl ?_
  refine RegC.q (i := 1) (op_loadW rfl k_agg_25 (by first | omega | (simp <;> omega) | simp_all)) rfl rfl rfl rfl ?_
  refine RegC.m (op_move rfl) rfl rfl rfl ?_
  refine RegC.m (op_call rfl k_call_12 (cool1 (h := []) (fun b => cover1_calls b full (text) (k) (n) (by first | omega | (simp <;> omega) | simp_all) (by first | omega | (simp <;> omega) | simp_all) (by first | omega | (simp <;> omega) | simp_all)) (by simp))) rfl rfl rfl ?_
  refine RegC.m (OpV.boolE (t := ((coverS (k) (n) (text) : List UInt8) == cover1 (k) (n) (text))) (u := true) (op_call rfl k_call_9 (equal_calls false false (coverS (k) (n) (text)) (cover1 (k) (n) (text)))) (covers_same k n text hk hn ht)) rfl rfl rfl ?_
  refine RegC.m (op_pick rfl) rfl rfl rfl ?_
  refine RegC.m (op_move rfl) rfl rfl rfl ?_
  refine RegC.m (op_move rfl) rfl rfl rfl ?_
  refine RegC.m (op_move rfl) rfl rfl rfl ?_
  refine RegC.m (OpV.boolE (t := ((coverS (k) (n) (coverS (k) (n) (text)) : List UInt8) == text)) (u := true) (op_call rfl k_call_9 (equal_calls false full (coverS (k) (n) (coverS (k) (n) (text))) (text))) (covers_back k n text)) rfl rfl rfl ?_
  refine RegC.m (op_pick rfl) rfl rfl rfl ?_
  refine RegC.m (op_assign rfl) rfl rfl rfl ?_
  refine RegC.done ⟨.inl rfl, ?_⟩
  refine WP.nrm 40 ?_
  refine WP.retS (ResV.one rfl (.tmp rfl)) (List.nil_sublist _) ?_
  exact ⟨rfl, rfl⟩
end Go.Proofs.Try
