/-
  No cell of these rows narrows 'for every input' (looked for: loops, veiled, ifaces, maps, wideKeys, modest, calm, conditions, laid).
  DERIVED. THE GIVEN ROWS OF THIS SEAT. 4 by the template 'for every input the law returns true; each argument reads behind the call as it read before'; 0 by the template 'total and deterministic' (their statements: YtdnccchcflaphaaTotals.lean).
  GIVEN WITH THE SEED: the statements are not yours to turn. If you find one false, say at which input.
  Laid BY PROGRAM, IN A SANDBOX (cutbox-rows.mjs): the forced cells as the released guide's own fill.sh prints them over the translation 8929fe8869536d43… (all of the seat's roots in one cut). By AI agents, Wed Nov 11 2026. No macro, syntax, notation, axiom, sorry.
-/
import Derived.Test.YtdnccchcflaphaaChecked
import GoSem.Claim
import GoSem.ClaimJoined
import GoSem.ClaimMapViews
import Derived.JoinedTies
import Derived.KernelRfl
namespace Go.Proofs.Ytdnccchcflaphaa
/- THE CELL 'sum', in the pinned program and in every row, IS THE sha256 OF THE DUMP (.gsa) THAT YtdnccchcflaphaaProg.lean LOADS. Nothing in Lean hashes anything: it is a label: what it is worth is what the hold of that sum in a sandbox is worth. -/
noncomputable def Try.pinned : Pinned := { name := "ytdnccchcflaphaa", sum := "8929fe8869536d435d1c278e4598391a2551d8f5d2ed988a61d8d4100973a66d", checked := Try.checked }
namespace Rows
def none {H : Type} : Left H := { results := [], args := [] }

/-- 'keylaw1.StreamsMatch': WHATEVER THE INPUT: true; the input reads as it did. -/
def streamsMatchSpec : ChangeSpec := { name := "streamsMatch", fn := fun _ => fun
  | [d1, d2, d3, d4, d5] => { results := [.lit (.bool true)], args := [d1, d2, d3, d4, d5] }
  | _ => none }
def streamsMatchRow : OpenClaim := { program := "ytdnccchcflaphaa", sum := "8929fe8869536d435d1c278e4598391a2551d8f5d2ed988a61d8d4100973a66d", func := "keywarden/keylaw1.StreamsMatch", spec := "streamsMatch", plainKeys := false, apart := false }
def StreamsMatchSaid : Prop := streamsMatchRow.holds Try.pinned (OpenSpec.ofChange streamsMatchSpec)

/-- ITS FALSE NEIGHBOUR: 'it returns false'. Refute it at one input. -/
def streamsMatchWrong : ChangeSpec := { name := "streamsMatch", fn := fun _ => fun
  | [d1, d2, d3, d4, d5] => { results := [.lit (.bool false)], args := [d1, d2, d3, d4, d5] }
  | _ => none }
def StreamsMatchWrongFalsely : Prop := streamsMatchRow.holds Try.pinned (OpenSpec.ofChange streamsMatchWrong)

/-- 'keylaw1.SummersMatch': WHATEVER THE INPUT: true; the input reads as it did. -/
def summersMatchSpec : ChangeSpec := { name := "summersMatch", fn := fun _ => fun
  | [d1, d2, d3] => { results := [.lit (.bool true)], args := [d1, d2, d3] }
  | _ => none }
def summersMatchRow : OpenClaim := { program := "ytdnccchcflaphaa", sum := "8929fe8869536d435d1c278e4598391a2551d8f5d2ed988a61d8d4100973a66d", func := "keywarden/keylaw1.SummersMatch", spec := "summersMatch", plainKeys := false, apart := false }
def SummersMatchSaid : Prop := summersMatchRow.holds Try.pinned (OpenSpec.ofChange summersMatchSpec)

/-- ITS FALSE NEIGHBOUR: 'it returns false'. Refute it at one input. -/
def summersMatchWrong : ChangeSpec := { name := "summersMatch", fn := fun _ => fun
  | [d1, d2, d3] => { results := [.lit (.bool false)], args := [d1, d2, d3] }
  | _ => none }
def SummersMatchWrongFalsely : Prop := summersMatchRow.holds Try.pinned (OpenSpec.ofChange summersMatchWrong)

/-- 'keylaw2.SplitsMatch': WHATEVER THE INPUT: true; the input reads as it did. -/
def splitsMatchSpec : ChangeSpec := { name := "splitsMatch", fn := fun _ => fun
  | [d1, d2, d3, d4, d5] => { results := [.lit (.bool true)], args := [d1, d2, d3, d4, d5] }
  | _ => none }
def splitsMatchRow : OpenClaim := { program := "ytdnccchcflaphaa", sum := "8929fe8869536d435d1c278e4598391a2551d8f5d2ed988a61d8d4100973a66d", func := "keywarden/keylaw2.SplitsMatch", spec := "splitsMatch", inPlace := ["internal/bytealg.Compare"], unfollowed := true, recurses := true, plainKeys := false, apart := false }
def SplitsMatchSaid : Prop := splitsMatchRow.holds Try.pinned (OpenSpec.ofChange splitsMatchSpec)

/-- ITS FALSE NEIGHBOUR: 'it returns false'. Refute it at one input. -/
def splitsMatchWrong : ChangeSpec := { name := "splitsMatch", fn := fun _ => fun
  | [d1, d2, d3, d4, d5] => { results := [.lit (.bool false)], args := [d1, d2, d3, d4, d5] }
  | _ => none }
def SplitsMatchWrongFalsely : Prop := splitsMatchRow.holds Try.pinned (OpenSpec.ofChange splitsMatchWrong)

/-- 'keylaw2.TextsAreSealed': WHATEVER THE INPUT: true; the input reads as it did. -/
def textsAreSealedSpec : ChangeSpec := { name := "textsAreSealed", fn := fun _ => fun
  | [d1, d2, d3, d4, d5, d6, d7, d8, d9, d10] => { results := [.lit (.bool true)], args := [d1, d2, d3, d4, d5, d6, d7, d8, d9, d10] }
  | _ => none }
def textsAreSealedRow : OpenClaim := { program := "ytdnccchcflaphaa", sum := "8929fe8869536d435d1c278e4598391a2551d8f5d2ed988a61d8d4100973a66d", func := "keywarden/keylaw2.TextsAreSealed", spec := "textsAreSealed", plainKeys := false, apart := false }
def TextsAreSealedSaid : Prop := textsAreSealedRow.holds Try.pinned (OpenSpec.ofChange textsAreSealedSpec)

/-- ITS FALSE NEIGHBOUR: 'it returns false'. Refute it at one input. -/
def textsAreSealedWrong : ChangeSpec := { name := "textsAreSealed", fn := fun _ => fun
  | [d1, d2, d3, d4, d5, d6, d7, d8, d9, d10] => { results := [.lit (.bool false)], args := [d1, d2, d3, d4, d5, d6, d7, d8, d9, d10] }
  | _ => none }
def TextsAreSealedWrongFalsely : Prop := textsAreSealedRow.holds Try.pinned (OpenSpec.ofChange textsAreSealedWrong)

/- THE SECOND FORM. 'bulk': how many values and letters a reading holds, each counted each time it is reached (what is shared counts as often as it is met; a slice's spare places count too). A statement '..UptoSaid' is the law's where the arguments, and the package variables that the reading takes, are together of bulk at most 1048576: NARROWER than '..Said'. Prove '..Said' where nothing that the law and all that it calls make is longer than what came in: it says more and counts as full. Else prove '..UptoSaid'. A law counts once. -/
mutual
def uptoBulk {H : Type} : DataW H → Nat
  | .lit (.string bytes) => bytes.length + 1
  | .lit _ => 1
  | .nil => 1
  | .ptr d => uptoBulk d + 1
  | .slice elems spare => uptoBulkAll elems + uptoBulkAll spare + 1
  | .agg parts => uptoBulkAll parts + 1
  | .iface _ d => uptoBulk d + 1
  | .map entries => uptoBulkEntries entries + 1
  | .held _ => 1
def uptoBulkAll {H : Type} : List (DataW H) → Nat
  | [] => 0
  | d :: r => uptoBulk d + uptoBulkAll r
def uptoBulkEntries {H : Type} : List (Lit × DataW H) → Nat
  | [] => 0
  | x :: r => uptoBulkEntry x + uptoBulkEntries r
def uptoBulkEntry {H : Type} : Lit × DataW H → Nat
  | (.string bytes, d) => bytes.length + uptoBulk d + 1
  | (_, d) => uptoBulk d + 1
 end
def uptoSmall : (H : Type) → List (DataW H) → Bool := fun _ ds => decide (uptoBulkAll ds ≤ 1048576)
def OpenSpec.upto (s : _root_.Go.ChangeSpec) : _root_.Go.OpenSpec := { _root_.Go.OpenSpec.ofChange s with cond := some uptoSmall }

/-- 'keylaw1.StreamsMatch', WHERE WHAT IT READS IS OF BULK AT MOST 1048576: true; the input reads as it did. -/
def streamsMatchUptoRow : OpenClaim := { program := "ytdnccchcflaphaa", sum := "8929fe8869536d435d1c278e4598391a2551d8f5d2ed988a61d8d4100973a66d", func := "keywarden/keylaw1.StreamsMatch", spec := "streamsMatch", plainKeys := false, apart := false, narrowed := true }
def StreamsMatchUptoSaid : Prop := streamsMatchUptoRow.holds Try.pinned (OpenSpec.upto streamsMatchSpec)

/-- 'keylaw1.SummersMatch', WHERE WHAT IT READS IS OF BULK AT MOST 1048576: true; the input reads as it did. -/
def summersMatchUptoRow : OpenClaim := { program := "ytdnccchcflaphaa", sum := "8929fe8869536d435d1c278e4598391a2551d8f5d2ed988a61d8d4100973a66d", func := "keywarden/keylaw1.SummersMatch", spec := "summersMatch", plainKeys := false, apart := false, narrowed := true }
def SummersMatchUptoSaid : Prop := summersMatchUptoRow.holds Try.pinned (OpenSpec.upto summersMatchSpec)

/-- 'keylaw2.SplitsMatch', WHERE WHAT IT READS IS OF BULK AT MOST 1048576: true; the input reads as it did. -/
def splitsMatchUptoRow : OpenClaim := { program := "ytdnccchcflaphaa", sum := "8929fe8869536d435d1c278e4598391a2551d8f5d2ed988a61d8d4100973a66d", func := "keywarden/keylaw2.SplitsMatch", spec := "splitsMatch", inPlace := ["internal/bytealg.Compare"], unfollowed := true, recurses := true, plainKeys := false, apart := false, narrowed := true }
def SplitsMatchUptoSaid : Prop := splitsMatchUptoRow.holds Try.pinned (OpenSpec.upto splitsMatchSpec)

/-- 'keylaw2.TextsAreSealed', WHERE WHAT IT READS IS OF BULK AT MOST 1048576: true; the input reads as it did. -/
def textsAreSealedUptoRow : OpenClaim := { program := "ytdnccchcflaphaa", sum := "8929fe8869536d435d1c278e4598391a2551d8f5d2ed988a61d8d4100973a66d", func := "keywarden/keylaw2.TextsAreSealed", spec := "textsAreSealed", plainKeys := false, apart := false, narrowed := true }
def TextsAreSealedUptoSaid : Prop := textsAreSealedUptoRow.holds Try.pinned (OpenSpec.upto textsAreSealedSpec)

end Rows
end Go.Proofs.Ytdnccchcflaphaa
