/- For every domain, every list of texts and every number the statement SummersMatch answers true and leaves its arguments as they were. No conditions. -/
import Derived.Test.YtdnccchcflaphaaK5
import Derived.Test.YtdnccchcflaphaaRows
import Derived.WalkKit
import Derived.ProofKit
import Derived.OpenShut
import Derived.Carry
import Derived.SizedLaws
namespace Go.Proofs.Ytdnccchcflaphaa.summersMatch
open Go Go.Kw Go.Proofs.Try
open Go.ChangeShapes Go.WideShapes Go.RowKit
set_option linter.unusedVariables false
theorem own : ownKnob Try.prog.godebug = none := by kernel_rfl
theorem same_of {W W' : World} (h : ∀ c, c < W.heap.size → W'.heap[c]? = W.heap[c]?) (p : MemPlace) (hp : p.block < W.heap.size) : W.sameAt W' p := by
  cases p <;> simp [World.sameAt, World.cell?, MemPlace.block] at hp ⊢ <;> simp [h _ hp]
theorem law (parts : List (List UInt8)) (d copied : Int) (hL : parts.length ≤ 140737488351232) (hP : ∀ p ∈ parts, p.length ≤ 140737488351232) : ACalls Try.prog 4 [.i d, VS PB false parts, .i copied] [] [] (.bool true) [] := by
  by_cases h : d < 0 ∨ 255 < d
  · exact law2_bad false parts d copied h
  · obtain ⟨n, rfl⟩ := Int.eq_ofNat_of_zero_le (show 0 ≤ d by omega)
    exact law2_ok false parts n copied (by omega) hP hL
theorem flat_one {α β : Type} (f : α → β) : ∀ l : List α, (l.flatMap fun a => [f a]) = l.map f
  | [] => rfl
  | a :: l => by rw [List.flatMap_cons, flat_one f l]; rfl
theorem bytes5 : Try.prog.bytesOf 5 = 1 := by kernel_rfl
theorem bytes26 : Try.prog.bytesOf 26 = 24 := by kernel_rfl
theorem cells5 : Try.prog.cellsOf 5 = 1 := by kernel_rfl
theorem cells26 : Try.prog.cellsOf 26 = 1 := by kernel_rfl
theorem cells36 : Try.prog.cellsOf 36 = 1 := by kernel_rfl
set_option maxRecDepth 100000 in
theorem arg_parts {H : Type} {enc : TypeId × Value → H} {W : World} {b0 : Nat} {r : Reach} {v : Value} {d : DataW H} {ps : List MemPlace} {base : Nat} {sp : Nat → Bool} {held : Bool}
    (hval : Value.okWide Try.prog W r b0 36 v) (h : DataW.Trod enc Try.prog W base sp held 36 v d ps) (hw : ∀ y ∈ DataW.weights Try.prog 36 d, y ≤ reachBytes) :
    ∃ parts : List (List UInt8), parts.length ≤ 140737488351232 ∧ (∀ p ∈ parts, p.length ≤ 140737488351232) ∧ VRel Try.prog (fun _ => none) (fun c => c < W.heap.size) W (VS PB false parts) v := by
  have r1 : Rd enc Try.prog W 26 _ _ := Rd.sl (Rd.u8 Try.underlying5 cells5) Try.underlying26 cells5 (by omega) cells26
  have r2 : Rd enc Try.prog W 36 _ _ := Rd.sl r1 Try.underlying36 cells26 (by omega) cells36
  obtain ⟨l, ⟨h1, h2⟩, h3⟩ := Rd.argS r2 Try.underlying36 hval h hw
  rw [bytes26] at h1
  refine ⟨l, ?_, fun p hp => ?_, ?_⟩
  · simp only [reachBytes] at h1; omega
  · have := (h2 p hp).1
    rw [bytes5] at this
    simp only [reachBytes] at this; omega
  · have e : (l.flatMap fun a => [AVal.vs a.length false (a.flatMap fun b => [AVal.u8 b])]) = l.map PB := by
      rw [flat_one]
      refine List.map_congr_left fun a _ => ?_
      rw [flat_one]
    rw [e] at h3
    exact h3
set_option maxRecDepth 100000 in
theorem lifted (os : Os) (started : os.Started) (H : Type) (enc : TypeId × Value → H) :
    ReturnsInHanded {} Try.checked os 4 .any (Rows.summersMatchSpec.pre6 enc Try.prog Try.f4 Rows.summersMatchRow.domain false) (Rows.summersMatchSpec.post enc Try.prog Try.f4 false true false false) := by
  refine returnsInHanded_of_change_sized (C := Try.checked) own started (by kernel_rfl) Try.func4
    (ChangeSpec.witness6 (enc := enc) (C := Try.checked) false ⟨#[], #[.int .i64 0, .slice none 0 0, .int .i64 0], []⟩ 8 (by kernel_rfl) (by kernel_rfl) (by kernel_rfl) (by kernel_rfl)) ?_
  intro W base args ds gs before hval0 hW hcnd hsz0 _
  have hval : ∀ (j : Nat) t v, Try.f4.params[j]? = some t → args[j]? = some v → Value.okWide Try.prog W .any base t v := hval0
  have hsz : (DataW.weightsEach Try.prog (Try.f4.params.toList ++ Rows.summersMatchSpec.plain.varTypes Try.prog) (ds ++ gs)).all (· ≤ reachBytes) = true := hsz0
  have hW' := hW
  obtain ⟨p, q, hA0, hV, rfl, hfz, hnd⟩ := hW
  have hA : DataW.TrodAll enc Try.prog W 0 (fun _ => true) true Try.f4.params.toList args.toList ds p := hA0
  rw [Try.params4] at hA hval hsz
  obtain ⟨v0, vs0, d0, ds0, p0, q0, hargs, rfl, rfl, h0, r0⟩ := trodAll_cons hA
  obtain ⟨v1, vs1, d1, ds1, p1, q1, e1, rfl, rfl, h1, r1⟩ := trodAll_cons r0
  obtain ⟨v2, vs2, d2, ds2, p2, q2, e2, rfl, rfl, h2, r2⟩ := trodAll_cons r1
  obtain ⟨rfl, rfl, rfl⟩ := trodAll_nil r2
  subst e1 e2
  obtain rfl : args = #[v0, v1, v2] := by cases args; simp_all
  obtain ⟨rfl, rfl⟩ := trodVars_none hV
  have hlt := hW'.lt
  obtain ⟨dom, rfl, rfl, rfl, w0⟩ := open_int Try.underlying3 (hval 0 3 v0 rfl rfl) h0
  obtain ⟨copied, rfl, rfl, rfl, w2⟩ := open_int Try.underlying3 (hval 2 3 v2 rfl rfl) h2
  obtain ⟨parts, hL, hP, ht⟩ := arg_parts (hval 1 36 v1 rfl rfl) h1 (fun y hy => of_decide_eq_true (List.all_eq_true.1 hsz _ (DataW.weights_mem_each (j := 1) (t := 36) rfl rfl y hy)))
  refine ((law parts dom copied hL hP).row W _ ?_).mono fun e W' he => ?_
  · simp only [VRels]
    exact ⟨_, _, rfl, by simp [VRel], _, _, rfl, ht, _, _, rfl, by simp [VRel], rfl⟩
  · obtain ⟨⟨v', ρ, Im, rfl, hv⟩, ho, hu, hs, hh⟩ := he
    simp only [VRel] at hv
    subst hv
    refine ⟨_, rfl, post_kept (pa := _) (pv := []) hW' (fun _ _ _ => trodAll_cons_mk (shut_bool Try.underlying4 _) trodAll_mk0) (fun sp hsp => ?_) (fun _ _ => rfl) (List.append_nil _).symm (kept_of ho hu hh) hh (ok_one (by kernel_rfl) rfl (okWide_bool_mk Try.underlying4 _))⟩
    have A1 := WideElems.Trod_stays (sp' := sp) (by kernel_rfl) (by kernel_rfl) (of_decide_eq_true (by kernel_rfl)) h1 (fun x hx => same_of hh x (hlt x (by simp [hx]))) (fun x hx => hsp x (by simp [hx]))
    exact ⟨[], _, shut_int Try.underlying3 w0, ⟨p1, _, A1, ⟨[], _, shut_int Try.underlying3 w2, rfl, rfl⟩, rfl⟩, by simp⟩
set_option maxRecDepth 100000 in
theorem over : Rows.summersMatchRow.holds Try.pinned (OpenSpec.ofChange Rows.summersMatchSpec) :=
  OpenClaim.holds_of_wide 4 Try.f4 rfl rfl rfl rfl rfl rfl rfl ⟨rfl, rfl, rfl, rfl, rfl⟩ rfl rfl rfl rfl rfl (by kernel_rfl) Try.func4 (by kernel_rfl)
    (of_decide_eq_true (by kernel_rfl)) (by unfold Func.isWrapper; first | (rw [if_pos (by decide +kernel)]; kernel_rfl) | (rw [if_neg (by decide +kernel)]; exact ⟨rfl, rfl⟩))
    (fun os started H enc _ => lifted os started H enc)
theorem proved : Rows.SummersMatchSaid :=
  over
#print axioms proved
end Go.Proofs.Ytdnccchcflaphaa.summersMatch
