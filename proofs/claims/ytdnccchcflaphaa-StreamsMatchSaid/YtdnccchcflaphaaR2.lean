/- For every key, nonce, place, number and text the statement StreamsMatch answers true and leaves its arguments as they were. No conditions. -/
import Derived.Test.YtdnccchcflaphaaR1
namespace Go.Proofs.Ytdnccchcflaphaa.streamsMatch
open Go Go.Kw Go.Proofs.Try
open Go.ChangeShapes Go.WideShapes Go.RowKit
set_option linter.unusedVariables false
theorem same_of {W W' : World} (h : ∀ c, c < W.heap.size → W'.heap[c]? = W.heap[c]?) (p : MemPlace) (hp : p.block < W.heap.size) : W.sameAt W' p := by
  cases p <;> simp [World.sameAt, World.cell?, MemPlace.block] at hp ⊢ <;> simp [h _ hp]
set_option maxRecDepth 100000 in
theorem lifted (os : Os) (started : os.Started) (H : Type) (enc : TypeId × Value → H) :
    ReturnsInHanded {} Try.checked os 3 .any (Rows.streamsMatchSpec.pre6 enc Try.prog Try.f3 Rows.streamsMatchRow.domain false) (Rows.streamsMatchSpec.post enc Try.prog Try.f3 false true false false) := by
  refine returnsInHanded_of_change (C := Try.checked) own started (by kernel_rfl) Try.func3
    (ChangeSpec.witness6 (enc := enc) (C := Try.checked) false ⟨#[], #[.agg (Array.replicate 32 (.int .u8 0)), .agg (Array.replicate 16 (.int .u8 0)), .int .i64 0, .int .i64 0, .slice none 0 0], []⟩ 8 (by kernel_rfl) (by kernel_rfl) (by kernel_rfl) (by kernel_rfl)) ?_
  intro W base args ds gs before hval0 hW hcnd _
  have hval : ∀ (j : Nat) t v, Try.f3.params[j]? = some t → args[j]? = some v → Value.okWide Try.prog W .any base t v := hval0
  have hW' := hW
  obtain ⟨p, q, hA0, hV, rfl, hfz, hnd⟩ := hW
  have hA : DataW.TrodAll enc Try.prog W 0 (fun _ => true) true Try.f3.params.toList args.toList ds p := hA0
  rw [Try.params3] at hA hval
  obtain ⟨v0, vs0, d0, ds0, p0, q0, hargs, rfl, rfl, h0, r0⟩ := trodAll_cons hA
  obtain ⟨v1, vs1, d1, ds1, p1, q1, e1, rfl, rfl, h1, r1⟩ := trodAll_cons r0
  obtain ⟨v2, vs2, d2, ds2, p2, q2, e2, rfl, rfl, h2, r2⟩ := trodAll_cons r1
  obtain ⟨v3, vs3, d3, ds3, p3, q3, e3, rfl, rfl, h3, r3⟩ := trodAll_cons r2
  obtain ⟨v4, vs4, d4, ds4, p4, q4, e4, rfl, rfl, h4, r4⟩ := trodAll_cons r3
  obtain ⟨rfl, rfl, rfl⟩ := trodAll_nil r4
  subst e1 e2 e3 e4
  obtain rfl : args = #[v0, v1, v2, v3, v4] := by cases args; simp_all
  obtain ⟨rfl, rfl⟩ := trodVars_none hV
  have hlt := hW'.lt
  obtain ⟨k, hk, rfl⟩ := arg_arr8 (e := 5) (n := 32) Try.underlying23 Try.underlying5 (by kernel_rfl) (by kernel_rfl) (by omega) (hval 0 23 v0 rfl rfl)
  obtain ⟨n, hn, rfl⟩ := arg_arr8 (e := 5) (n := 16) Try.underlying25 Try.underlying5 (by kernel_rfl) (by kernel_rfl) (by omega) (hval 1 25 v1 rfl rfl)
  have k2 := h2
  have k3 := h3
  obtain ⟨fr, rfl, rfl, rfl, w2⟩ := open_int Try.underlying3 (hval 2 3 v2 rfl rfl) h2
  obtain ⟨many, rfl, rfl, rfl, w3⟩ := open_int Try.underlying3 (hval 3 3 v3 rfl rfl) h3
  obtain ⟨text, ht⟩ := arg_sl8 Try.underlying26 Try.underlying5 (by kernel_rfl) (hval 4 26 v4 rfl rfl) h4
  refine ((law k n text hk hn fr many).row W _ ?_).mono fun e W' he => ?_
  · simp only [VRels]
    exact ⟨_, _, rfl, by simp only [VRel]; exact ⟨_, rfl, rels_u8 k⟩, _, _, rfl, by simp only [VRel]; exact ⟨_, rfl, rels_u8 n⟩, _, _, rfl, by simp [VRel], _, _, rfl, by simp [VRel], _, _, rfl, ht, rfl⟩
  · obtain ⟨⟨v', ρ, Im, rfl, hv⟩, ho, hu, hs, hh⟩ := he
    simp only [VRel] at hv
    subst hv
    refine ⟨_, rfl, post_kept (pa := _) (pv := []) hW' (fun _ _ _ => trodAll_cons_mk (shut_bool Try.underlying4 _) trodAll_mk0) (fun sp hsp => ?_) (fun _ _ => rfl) (List.append_nil _).symm (kept_of ho hu hh) hh (ok_one (by kernel_rfl) rfl (okWide_bool_mk Try.underlying4 _))⟩
    have A0 := WideElems.Trod_stays (sp' := sp) (by kernel_rfl) (by kernel_rfl) (of_decide_eq_true (by kernel_rfl)) h0 (fun x hx => same_of hh x (hlt x (by simp [hx]))) (fun x hx => hsp x (by simp [hx]))
    have A1 := WideElems.Trod_stays (sp' := sp) (by kernel_rfl) (by kernel_rfl) (of_decide_eq_true (by kernel_rfl)) h1 (fun x hx => same_of hh x (hlt x (by simp [hx]))) (fun x hx => hsp x (by simp [hx]))
    have A4 := WideElems.Trod_stays (sp' := sp) (by kernel_rfl) (by kernel_rfl) (of_decide_eq_true (by kernel_rfl)) h4 (fun x hx => same_of hh x (hlt x (by simp [hx]))) (fun x hx => hsp x (by simp [hx]))
    exact ⟨p0, _, A0, ⟨p1, _, A1, ⟨[], _, shut_int Try.underlying3 w2, ⟨[], _, shut_int Try.underlying3 w3, ⟨p4, [], A4, rfl, rfl⟩, rfl⟩, rfl⟩, rfl⟩, by simp⟩
set_option maxRecDepth 100000 in
theorem over : Rows.streamsMatchRow.holds Try.pinned (OpenSpec.ofChange Rows.streamsMatchSpec) :=
  OpenClaim.holds_of_wide 3 Try.f3 rfl rfl rfl rfl rfl rfl rfl ⟨rfl, rfl, rfl, rfl, rfl⟩ rfl rfl rfl rfl rfl (by kernel_rfl) Try.func3 (by kernel_rfl)
    (of_decide_eq_true (by kernel_rfl)) (by unfold Func.isWrapper; first | (rw [if_pos (by decide +kernel)]; kernel_rfl) | (rw [if_neg (by decide +kernel)]; exact ⟨rfl, rfl⟩))
    (fun os started H enc _ => lifted os started H enc)
theorem proved : Rows.StreamsMatchSaid :=
  over
#print axioms proved
end Go.Proofs.Ytdnccchcflaphaa.streamsMatch
