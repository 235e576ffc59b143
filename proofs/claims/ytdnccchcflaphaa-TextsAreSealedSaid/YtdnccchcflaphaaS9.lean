import Derived.Test.YtdnccchcflaphaaS8
namespace Go.Proofs.Try
set_option linter.unusedVariables false
set_option linter.unusedSimpArgs false
def derS (k lab : List UInt8) (ep : Nat) : List UInt8 := sum1 7 (k ++ lab ++ [0] ++ longS (UInt64.ofNat ep))
@[simp] theorem derS_length (k lab ep) : (derS k lab ep).length = 32 := sum1_length _ _
def aheadS (ep : UInt32) (by1 n c : List UInt8) : List UInt8 := [75, 87, 87] ++ [1] ++ octS ep ++ by1 ++ n ++ c
theorem aheadS_length (ep by1 n c) (h1 : by1.length = 16) (h2 : n.length = 16) (h3 : c.length = 32) : (aheadS ep by1 n c).length = 72 := by simp [aheadS, h1, h2, h3]
end Go.Proofs.Try
