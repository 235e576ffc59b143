import Derived.Test.YtdnccchcflaphaaS4
namespace Go.Proofs.Try
set_option linter.unusedVariables false
set_option linter.unusedSimpArgs false
theorem long_lit (n : Nat) : long1 n = [UInt8.ofNat (n / 2 ^ 56), UInt8.ofNat (n / 2 ^ 48), UInt8.ofNat (n / 2 ^ 40), UInt8.ofNat (n / 2 ^ 32), UInt8.ofNat (n / 2 ^ 24), UInt8.ofNat (n / 2 ^ 16), UInt8.ofNat (n / 2 ^ 8), UInt8.ofNat (n / 2 ^ 0)] := rfl
theorem oct_hi (n k : Nat) (hk : k = 24 ∨ k = 16 ∨ k = 8 ∨ k = 0) : (((UInt64.ofNat n >>> UInt64.ofNat 32).toUInt32) >>> UInt32.ofNat k).toUInt8 = UInt8.ofNat (n / 2 ^ (32 + k)) := by
  apply UInt8.toNat_inj.1
  rw [UInt32.toNat_toUInt8, UInt32.toNat_shiftRight, UInt64.toNat_toUInt32, UInt64.toNat_shiftRight, UInt64.toNat_ofNat', UInt32.toNat_ofNat', UInt64.toNat_ofNat', UInt8.toNat_ofNat']
  rw [show 32 % 2 ^ 64 % 64 = 32 from rfl, show k % 2 ^ 32 % 32 = k by omega, Nat.shiftRight_eq_div_pow, Nat.shiftRight_eq_div_pow, Nat.pow_add, ← Nat.div_div_eq_div_mul]
  rw [show n % 2 ^ 64 / 2 ^ 32 % 2 ^ 32 = n / 2 ^ 32 % 2 ^ 32 by omega]
  generalize n / 2 ^ 32 = m
  rcases hk with rfl | rfl | rfl | rfl <;> omega
theorem oct_lo (n k : Nat) (hk : k = 24 ∨ k = 16 ∨ k = 8 ∨ k = 0) : ((UInt64.ofNat n).toUInt32 >>> UInt32.ofNat k).toUInt8 = UInt8.ofNat (n / 2 ^ k) := by
  apply UInt8.toNat_inj.1
  rw [UInt32.toNat_toUInt8, UInt32.toNat_shiftRight, UInt64.toNat_toUInt32, UInt32.toNat_ofNat', UInt64.toNat_ofNat', UInt8.toNat_ofNat']
  rw [show k % 2 ^ 32 % 32 = k by omega, Nat.shiftRight_eq_div_pow]
  rcases hk with rfl | rfl | rfl | rfl <;> omega
theorem shr0 (x : UInt32) : x.toUInt8 = (x >>> UInt32.ofNat 0).toUInt8 := by simp
theorem long_eq (n : Nat) : longS (UInt64.ofNat n) = long1 n := by
  rw [long_lit]
  show [((UInt64.ofNat n >>> UInt64.ofNat 32).toUInt32 >>> UInt32.ofNat 24).toUInt8, ((UInt64.ofNat n >>> UInt64.ofNat 32).toUInt32 >>> UInt32.ofNat 16).toUInt8, ((UInt64.ofNat n >>> UInt64.ofNat 32).toUInt32 >>> UInt32.ofNat 8).toUInt8, ((UInt64.ofNat n >>> UInt64.ofNat 32).toUInt32).toUInt8,
    ((UInt64.ofNat n).toUInt32 >>> UInt32.ofNat 24).toUInt8, ((UInt64.ofNat n).toUInt32 >>> UInt32.ofNat 16).toUInt8, ((UInt64.ofNat n).toUInt32 >>> UInt32.ofNat 8).toUInt8, ((UInt64.ofNat n).toUInt32).toUInt8] = _
  rw [shr0 ((UInt64.ofNat n >>> UInt64.ofNat 32).toUInt32), shr0 ((UInt64.ofNat n).toUInt32)]
  rw [oct_hi n 24 (by simp), oct_hi n 16 (by simp), oct_hi n 8 (by simp), oct_hi n 0 (by simp), oct_lo n 24 (by simp), oct_lo n 16 (by simp), oct_lo n 8 (by simp), oct_lo n 0 (by simp)]
theorem block_eq (k n : List UInt8) (i : Nat) (hk : k.length = 32) (hn : n.length = 16) : blockU k n (UInt64.ofNat i) = block1 k n i := by
  unfold blockU block1
  rw [stir_eq _ (by simp [hk, hn]), long_eq]
theorem stream_eq (k n : List UInt8) (fr many : Nat) (hk : k.length = 32) (hn : n.length = 16) : streamS k n fr many = stream1 k n fr many := by
  unfold streamS stream1
  refine List.map_congr_left fun x _ => ?_
  rw [block_eq k n _ hk hn]
theorem streams_same (k n : List UInt8) (fr many : Nat) (hk : k.length = 32) (hn : n.length = 16) (h1 : fr ≤ 1099511627776) (h2 : many ≤ 1048576) : (streamS k n fr many == stream1 k n fr many) = true := by
  rw [beq_iff_eq, stream_eq k n fr many hk hn]
theorem covers_same (k n text : List UInt8) (hk : k.length = 32) (hn : n.length = 16) (ht : text.length ≤ 1048576) : (coverS k n text == cover1 k n text) = true := by
  rw [beq_iff_eq]
  unfold coverS cover1
  rw [stream_eq k n 0 _ hk hn]
end Go.Proofs.Try
