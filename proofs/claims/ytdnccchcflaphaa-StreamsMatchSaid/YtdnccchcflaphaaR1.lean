import Derived.Test.YtdnccchcflaphaaK2
import Derived.Test.YtdnccchcflaphaaRows
import Derived.WalkKit
import Derived.ProofKit
import Derived.OpenShut
import Derived.Carry
namespace Go.Proofs.Ytdnccchcflaphaa.streamsMatch
open Go Go.Kw Go.Proofs.Try
open Go.ChangeShapes Go.WideShapes Go.RowKit
set_option linter.unusedVariables false
theorem own : ownKnob Try.prog.godebug = none := by kernel_rfl
theorem law (k n text : List UInt8) (hk : k.length = 32) (hn : n.length = 16) (fr many : Int) : ACalls Try.prog 3 [.agg (k.map AVal.u8), .agg (n.map AVal.u8), .i fr, .i many, VS AVal.u8 false text] [] [] (.bool true) [] := by
  rcases Nat.lt_or_ge 1048576 text.length with ht | ht
  · by_cases h : fr < 0 ∨ fr > 1099511627776 ∨ many < 0
    · exact law1_range_big false text k n hk hn fr many h ht
    · by_cases h3 : many > 1048576
      · exact law1_large_big false text k n hk hn fr many (by omega) (by omega) h3 ht
      · obtain ⟨f, rfl⟩ := Int.eq_ofNat_of_zero_le (show 0 ≤ fr by omega)
        obtain ⟨m, rfl⟩ := Int.eq_ofNat_of_zero_le (show 0 ≤ many by omega)
        exact law1_ok_big false text k n hk hn f m (by omega) (by omega) ht
  · by_cases h : fr < 0 ∨ fr > 1099511627776 ∨ many < 0
    · exact law1_range_small false text k n hk hn fr many h ht
    · by_cases h3 : many > 1048576
      · exact law1_large_small false text k n hk hn fr many (by omega) (by omega) h3 ht
      · obtain ⟨f, rfl⟩ := Int.eq_ofNat_of_zero_le (show 0 ≤ fr by omega)
        obtain ⟨m, rfl⟩ := Int.eq_ofNat_of_zero_le (show 0 ≤ many by omega)
        exact law1_ok_small false text k n hk hn f m (by omega) (by omega) ht
end Go.Proofs.Ytdnccchcflaphaa.streamsMatch
