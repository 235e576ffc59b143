/- For every pair of keys, nonce, head, text, block, place and octet the statement TextsAreSealed answers true and leaves its arguments as they were. No conditions. -/
import Derived.Test.YtdnccchcflaphaaK16
import Derived.Test.YtdnccchcflaphaaRows
import Derived.WalkKit
import Derived.ProofKit
import Derived.OpenShut
import Derived.Carry
namespace Go.Proofs.Ytdnccchcflaphaa.textsAreSealed
open Go Go.Kw Go.Proofs.Try
open Go.ChangeShapes Go.WideShapes Go.RowKit
set_option linter.unusedVariables false
theorem own : ownKnob Try.prog.godebug = none := by kernel_rfl
theorem same_of {W W' : World} (h : ∀ c, c < W.heap.size → W'.heap[c]? = W.heap[c]?) (p : MemPlace) (hp : p.block < W.heap.size) : W.sameAt W' p := by
  cases p <;> simp [World.sameAt, World.cell?, MemPlace.block] at hp ⊢ <;> simp [h _ hp]
theorem law (k other n head text : List UInt8) (hk : k.length = 32) (ho : other.length = 32) (hn : n.length = 16) (block i at0 : Int) (by0 : UInt8) (cut : Int) :
    ACalls Try.prog 6 [.agg (k.map AVal.u8), .agg (other.map AVal.u8), .agg (n.map AVal.u8), VS AVal.u8 false head, VS AVal.u8 false text, .i block, .i i, .i at0, .u8 by0, .i cut] [] [] (.bool true) [] := by
  by_cases h : block < 16 ∨ 65536 < block
  · exact law6_range k hk other ho n hn false false head text block h i at0 by0 cut
  · obtain ⟨b, rfl⟩ := Int.eq_ofNat_of_zero_le (show 0 ≤ block by omega)
    by_cases h2 : 4096 < head.length ∨ 262144 < text.length
    · exact law6_large k hk other ho n hn false false head text b (by omega) (by omega) h2 i at0 by0 cut
    · exact law6_ok k hk other ho n hn false false head text b (by omega) (by omega) (by omega) (by omega) i at0 by0 cut
theorem u8_of {n : Int} (h : (Lit.int .u8 n).wf = true) : ∃ b : UInt8, n = (b.toNat : Int) := by
  simp [Lit.wf, IntKind.min, IntKind.max, IntKind.signed, IntKind.bits] at h
  refine ⟨UInt8.ofNat n.toNat, ?_⟩
  rw [UInt8.toNat_ofNat']
  omega
set_option maxRecDepth 100000 in
theorem lifted (os : Os) (started : os.Started) (H : Type) (enc : TypeId × Value → H) :
    ReturnsInHanded {} Try.checked os 6 .any (Rows.textsAreSealedSpec.pre6 enc Try.prog Try.f6 Rows.textsAreSealedRow.domain false) (Rows.textsAreSealedSpec.post enc Try.prog Try.f6 false true false false) := by
  refine returnsInHanded_of_change (C := Try.checked) own started (by kernel_rfl) Try.func6
    (ChangeSpec.witness6 (enc := enc) (C := Try.checked) false ⟨#[], #[.agg (Array.replicate 32 (.int .u8 0)), .agg (Array.replicate 32 (.int .u8 0)), .agg (Array.replicate 16 (.int .u8 0)), .slice none 0 0, .slice none 0 0, .int .i64 0, .int .i64 0, .int .i64 0, .int .u8 0, .int .i64 0], []⟩ 8 (by kernel_rfl) (by kernel_rfl) (by kernel_rfl) (by kernel_rfl)) ?_
  intro W base args ds gs before hval0 hW hcnd _
  have hval : ∀ (j : Nat) t v, Try.f6.params[j]? = some t → args[j]? = some v → Value.okWide Try.prog W .any base t v := hval0
  have hW' := hW
  obtain ⟨p, q, hA0, hV, rfl, hfz, hnd⟩ := hW
  have hA : DataW.TrodAll enc Try.prog W 0 (fun _ => true) true Try.f6.params.toList args.toList ds p := hA0
  rw [Try.params6] at hA hval
  obtain ⟨v0, vs0, d0, ds0, p0, q0, hargs, rfl, rfl, h0, r0⟩ := trodAll_cons hA
  obtain ⟨v1, vs1, d1, ds1, p1, q1, e1, rfl, rfl, h1, r1⟩ := trodAll_cons r0
  obtain ⟨v2, vs2, d2, ds2, p2, q2, e2, rfl, rfl, h2, r2⟩ := trodAll_cons r1
  obtain ⟨v3, vs3, d3, ds3, p3, q3, e3, rfl, rfl, h3, r3⟩ := trodAll_cons r2
  obtain ⟨v4, vs4, d4, ds4, p4, q4, e4, rfl, rfl, h4, r4⟩ := trodAll_cons r3
  obtain ⟨v5, vs5, d5, ds5, p5, q5, e5, rfl, rfl, h5, r5⟩ := trodAll_cons r4
  obtain ⟨v6, vs6, d6, ds6, p6, q6, e6, rfl, rfl, h6, r6⟩ := trodAll_cons r5
  obtain ⟨v7, vs7, d7, ds7, p7, q7, e7, rfl, rfl, h7, r7⟩ := trodAll_cons r6
  obtain ⟨v8, vs8, d8, ds8, p8, q8, e8, rfl, rfl, h8, r8⟩ := trodAll_cons r7
  obtain ⟨v9, vs9, d9, ds9, p9, q9, e9, rfl, rfl, h9, r9⟩ := trodAll_cons r8
  obtain ⟨rfl, rfl, rfl⟩ := trodAll_nil r9
  subst e1 e2 e3 e4 e5 e6 e7 e8 e9
  obtain rfl : args = #[v0, v1, v2, v3, v4, v5, v6, v7, v8, v9] := by cases args; simp_all
  obtain ⟨rfl, rfl⟩ := trodVars_none hV
  have hlt := hW'.lt
  obtain ⟨k, hk, rfl⟩ := arg_arr8 (e := 5) (n := 32) Try.underlying23 Try.underlying5 (by kernel_rfl) (by kernel_rfl) (by omega) (hval 0 23 v0 rfl rfl)
  obtain ⟨other, ho, rfl⟩ := arg_arr8 (e := 5) (n := 32) Try.underlying23 Try.underlying5 (by kernel_rfl) (by kernel_rfl) (by omega) (hval 1 23 v1 rfl rfl)
  obtain ⟨n, hn, rfl⟩ := arg_arr8 (e := 5) (n := 16) Try.underlying25 Try.underlying5 (by kernel_rfl) (by kernel_rfl) (by omega) (hval 2 25 v2 rfl rfl)
  obtain ⟨head, th⟩ := arg_sl8 Try.underlying26 Try.underlying5 (by kernel_rfl) (hval 3 26 v3 rfl rfl) h3
  obtain ⟨text, tt⟩ := arg_sl8 Try.underlying26 Try.underlying5 (by kernel_rfl) (hval 4 26 v4 rfl rfl) h4
  obtain ⟨block, rfl, rfl, rfl, w5⟩ := open_int Try.underlying3 (hval 5 3 v5 rfl rfl) h5
  obtain ⟨i, rfl, rfl, rfl, w6⟩ := open_int Try.underlying3 (hval 6 3 v6 rfl rfl) h6
  obtain ⟨at0, rfl, rfl, rfl, w7⟩ := open_int Try.underlying3 (hval 7 3 v7 rfl rfl) h7
  obtain ⟨n8, rfl, rfl, rfl, w8⟩ := open_int Try.underlying5 (hval 8 5 v8 rfl rfl) h8
  obtain ⟨cut, rfl, rfl, rfl, w9⟩ := open_int Try.underlying3 (hval 9 3 v9 rfl rfl) h9
  obtain ⟨by0, rfl⟩ := u8_of w8
  refine ((law k other n head text hk ho hn block i at0 by0 cut).row W _ ?_).mono fun e W' he => ?_
  · simp only [VRels]
    exact ⟨_, _, rfl, by simp only [VRel]; exact ⟨_, rfl, rels_u8 k⟩, _, _, rfl, by simp only [VRel]; exact ⟨_, rfl, rels_u8 other⟩, _, _, rfl, by simp only [VRel]; exact ⟨_, rfl, rels_u8 n⟩, _, _, rfl, th, _, _, rfl, tt, _, _, rfl, by simp [VRel], _, _, rfl, by simp [VRel], _, _, rfl, by simp [VRel], _, _, rfl, by simp [VRel], _, _, rfl, by simp [VRel], rfl⟩
  · obtain ⟨⟨v', ρ, Im, rfl, hv⟩, ho', hu, hs, hh⟩ := he
    simp only [VRel] at hv
    subst hv
    refine ⟨_, rfl, post_kept (pa := _) (pv := []) hW' (fun _ _ _ => trodAll_cons_mk (shut_bool Try.underlying4 _) trodAll_mk0) (fun sp hsp => ?_) (fun _ _ => rfl) (List.append_nil _).symm (kept_of ho' hu hh) hh (ok_one (by kernel_rfl) rfl (okWide_bool_mk Try.underlying4 _))⟩
    have A0 := WideElems.Trod_stays (sp' := sp) (by kernel_rfl) (by kernel_rfl) (of_decide_eq_true (by kernel_rfl)) h0 (fun x hx => same_of hh x (hlt x (by simp [hx]))) (fun x hx => hsp x (by simp [hx]))
    have A1 := WideElems.Trod_stays (sp' := sp) (by kernel_rfl) (by kernel_rfl) (of_decide_eq_true (by kernel_rfl)) h1 (fun x hx => same_of hh x (hlt x (by simp [hx]))) (fun x hx => hsp x (by simp [hx]))
    have A2 := WideElems.Trod_stays (sp' := sp) (by kernel_rfl) (by kernel_rfl) (of_decide_eq_true (by kernel_rfl)) h2 (fun x hx => same_of hh x (hlt x (by simp [hx]))) (fun x hx => hsp x (by simp [hx]))
    have A3 := WideElems.Trod_stays (sp' := sp) (by kernel_rfl) (by kernel_rfl) (of_decide_eq_true (by kernel_rfl)) h3 (fun x hx => same_of hh x (hlt x (by simp [hx]))) (fun x hx => hsp x (by simp [hx]))
    have A4 := WideElems.Trod_stays (sp' := sp) (by kernel_rfl) (by kernel_rfl) (of_decide_eq_true (by kernel_rfl)) h4 (fun x hx => same_of hh x (hlt x (by simp [hx]))) (fun x hx => hsp x (by simp [hx]))
    exact ⟨p0, _, A0, ⟨p1, _, A1, ⟨p2, _, A2, ⟨p3, _, A3, ⟨p4, _, A4, ⟨[], _, shut_int Try.underlying3 w5, ⟨[], _, shut_int Try.underlying3 w6, ⟨[], _, shut_int Try.underlying3 w7, ⟨[], _, shut_int Try.underlying5 w8, ⟨[], _, shut_int Try.underlying3 w9, rfl, rfl⟩, rfl⟩, rfl⟩, rfl⟩, rfl⟩, rfl⟩, rfl⟩, rfl⟩, rfl⟩, by simp⟩
set_option maxRecDepth 100000 in
theorem over : Rows.textsAreSealedRow.holds Try.pinned (OpenSpec.ofChange Rows.textsAreSealedSpec) :=
  OpenClaim.holds_of_wide 6 Try.f6 rfl rfl rfl rfl rfl rfl rfl ⟨rfl, rfl, rfl, rfl, rfl⟩ rfl rfl rfl rfl rfl (by kernel_rfl) Try.func6 (by kernel_rfl)
    (of_decide_eq_true (by kernel_rfl)) (by unfold Func.isWrapper; first | (rw [if_pos (by decide +kernel)]; kernel_rfl) | (rw [if_neg (by decide +kernel)]; exact ⟨rfl, rfl⟩))
    (fun os started H enc _ => lifted os started H enc)
theorem proved : Rows.TextsAreSealedSaid :=
  over
#print axioms proved
end Go.Proofs.Ytdnccchcflaphaa.textsAreSealed
