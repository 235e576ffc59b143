import Derived.Test.YtdnccchcflaphaaS9
namespace Go.Proofs.Try
set_option linter.unusedVariables false
set_option linter.unusedSimpArgs false
/-! sums of blocks: the program's and the reference's -/
def bnS (n : List UInt8) (i : Nat) : List UInt8 := (sum1 0 (framedS [n, ([] : List UInt8) ++ longS (UInt64.ofNat i)])).take 16
def bn1 (n : List UInt8) (i : Nat) : List UInt8 := (sum1 0 (framed1 [n, octs i 8])).take 16
@[simp] theorem bnS_length (n i) : (bnS n i).length = 16 := by simp [bnS]
@[simp] theorem bn1_length (n i) : (bn1 n i).length = 16 := by simp [bn1]
theorem bnS_cut (n : List UInt8) (i : Nat) : (((sum1 0 (framedS [n, ([] : List UInt8) ++ longS (UInt64.ofNat i)])).take 16).drop 0).take 16 = bnS n i := by simp [bnS, List.take_take]
theorem bn1_raw (n : List UInt8) (i : Nat) : (List.replicate 16 (0 : UInt8)).take 0 ++ ((sum1 0 (framed1 [n, octs i 8])).drop 0).take (min 32 16) ++ (List.replicate 16 (0 : UInt8)).drop (0 + min 32 16) = bn1 n i := by simp [bn1]
def btS (k head first : List UInt8) (i : Nat) (cov : List UInt8) : List UInt8 := tag1 8 (k ++ sum1 0 (framedS [head, first, ([] : List UInt8) ++ longS (UInt64.ofNat i), cov]))
def bt1 (k head first cov : List UInt8) (i : Nat) : List UInt8 := tag1 8 (k ++ sum1 0 (framed1 [head, first, octs i 8, cov]))
@[simp] theorem btS_length (k head first i cov) : (btS k head first i cov).length = 16 := tag1_length _ _
@[simp] theorem bt1_length (k head first i cov) : (bt1 k head first cov i).length = 16 := tag1_length _ _
theorem octs8 (n : Nat) : octs n 8 = long1 n := by
  rw [long_lit]
  simp [octs, loopS, octF, List.range'_succ, List.replicate_succ]
theorem oct32 (n k : Nat) (hk : k = 24 ∨ k = 16 ∨ k = 8 ∨ k = 0) : (UInt32.ofNat n >>> UInt32.ofNat k).toUInt8 = UInt8.ofNat (n / 2 ^ k) := by
  apply UInt8.toNat_inj.1
  rw [UInt32.toNat_toUInt8, UInt32.toNat_shiftRight, UInt32.toNat_ofNat', UInt32.toNat_ofNat', UInt8.toNat_ofNat']
  rw [show k % 2 ^ 32 % 32 = k by omega, Nat.shiftRight_eq_div_pow]
  rcases hk with rfl | rfl | rfl | rfl <;> omega
theorem octS_of (n : Nat) : octS (UInt32.ofNat n) = [UInt8.ofNat (n / 2 ^ 24), UInt8.ofNat (n / 2 ^ 16), UInt8.ofNat (n / 2 ^ 8), UInt8.ofNat (n / 2 ^ 0)] := by
  show [(UInt32.ofNat n >>> UInt32.ofNat 24).toUInt8, (UInt32.ofNat n >>> UInt32.ofNat 16).toUInt8, (UInt32.ofNat n >>> UInt32.ofNat 8).toUInt8, (UInt32.ofNat n).toUInt8] = _
  rw [shr0 (UInt32.ofNat n), oct32 n 24 (by simp), oct32 n 16 (by simp), oct32 n 8 (by simp), oct32 n 0 (by simp)]
theorem octs4 (n : Nat) : octs n 4 = octS (UInt32.ofNat n) := by
  rw [octS_of]
  simp [octs, loopS, octF, List.range'_succ, List.replicate_succ]
theorem frame_eq (p : List UInt8) : frameS p = frame1 p := by
  unfold frameS frame1
  rw [octS_of, long_lit]
  rfl
theorem framed_eq (l : List (List UInt8)) : framedS l = framed1 l := by
  unfold framedS framed1
  rw [show frameS = frame1 from funext frame_eq]
theorem bn_eq (n : List UInt8) (i : Nat) : bnS n i = bn1 n i := by
  unfold bnS bn1
  rw [framed_eq, long_eq, octs8, List.nil_append]
theorem bt_eq (k head first : List UInt8) (i : Nat) (cov : List UInt8) : btS k head first i cov = bt1 k head first cov i := by
  unfold btS bt1
  rw [framed_eq, long_eq, octs8, List.nil_append]
theorem framed1_len2 (a b : List UInt8) : (framed1 [a, b]).length = 8 + a.length + b.length := by simp [framed1, frame1_length]; omega
theorem framed1_len4 (a b c d : List UInt8) : (framed1 [a, b, c, d]).length = 16 + a.length + b.length + c.length + d.length := by simp [framed1, frame1_length]; omega
def headS (n : List UInt8) (block size : Nat) : List UInt8 := [75, 87, 84, 49] ++ n ++ octS (UInt32.ofNat block) ++ longS (UInt64.ofNat size)
theorem headS_length (n block size) (hn : n.length = 16) : (headS n block size).length = 32 := by simp [headS, hn]
theorem head_eq (n : List UInt8) (block size : Nat) : [75, 87, 84, 49] ++ n ++ octs block 4 ++ octs size 8 = headS n block size := by
  unfold headS; rw [octs4, octs8, long_eq]
def firstS : List Int → Int
  | [] => 0
  | a :: l => if a = 0 then firstS l else a
def whenS (b : Bool) (e : Int) : Int := if b then e else 0
def inS (n lo hi : Int) : Bool := decide (lo ≤ n) && decide (n ≤ hi)
theorem firstS_drop (l : List Int) (j : Nat) (h : j < l.length) : firstS (l.drop j) = if l[j]! = 0 then firstS (l.drop (j + 1)) else l[j]! := by
  rw [List.drop_eq_getElem_cons h, getElem!_pos l j h]; rfl
/-! the blocks of a text -/
def sealG (blk : Nat → List UInt8) (first : List UInt8) (j : Nat) : List UInt8 := first ++ (List.range j).flatMap blk
theorem sealG_zero (blk first) : sealG blk first 0 = first := by simp [sealG]
theorem sealG_next (blk : Nat → List UInt8) (first : List UInt8) (j : Nat) : sealG blk first (j + 1) = sealG blk first j ++ blk j := by
  simp [sealG, List.range_succ]
def partS (text : List UInt8) (block i : Nat) : List UInt8 := (text.take (min text.length ((i + 1) * block))).drop (i * block)
theorem partS_length (text : List UInt8) (block i : Nat) : (partS text block i).length ≤ block := by
  simp only [partS, List.length_drop, List.length_take, Nat.succ_mul]; omega
def blkS (k n head text : List UInt8) (block i : Nat) : List UInt8 :=
  coverS k (bnS n i) (partS text block i) ++ btS k head (headS n block text.length) i (coverS k (bnS n i) (partS text block i))
def blk1 (k n head text : List UInt8) (block i : Nat) : List UInt8 :=
  cover1 k (bn1 n i) (partS text block i) ++ bt1 k head (headS n block text.length) (cover1 k (bn1 n i) (partS text block i)) i
theorem cover_eq (k n text : List UInt8) (hk : k.length = 32) (hn : n.length = 16) : coverS k n text = cover1 k n text := by
  unfold coverS cover1
  rw [stream_eq k n 0 _ hk hn]
theorem blk_eq (k n head text : List UInt8) (block i : Nat) (hk : k.length = 32) : blkS k n head text block i = blk1 k n head text block i := by
  unfold blkS blk1
  rw [bn_eq, bt_eq, cover_eq _ _ _ hk (by simp)]
def manyS (size block : Nat) : Nat := (size + block - 1) / block
def sealS (k n head text : List UInt8) (block : Nat) : List UInt8 := sealG (blkS k n head text block) (headS n block text.length) (manyS text.length block)
theorem sealS_zero (k n head text : List UInt8) (block : Nat) (h : text.length = 0) (hb : 0 < block) : sealS k n head text block = headS n block text.length := by
  unfold sealS
  rw [show manyS text.length block = 0 from by unfold manyS; rw [h, Nat.zero_add]; exact Nat.div_eq_of_lt (by omega), sealG_zero]
theorem seal_eq (k n head text : List UInt8) (block : Nat) (hk : k.length = 32) : sealS k n head text block = sealG (blk1 k n head text block) (headS n block text.length) (manyS text.length block) := by
  unfold sealS
  rw [show blkS k n head text block = blk1 k n head text block from funext fun i => blk_eq k n head text block i hk]
theorem many_of (size block j : Nat) (hb : 0 < block) (h1 : j * block < size + block) (h2 : size ≤ j * block) : j = manyS size block := by
  unfold manyS
  symm
  rw [Nat.div_eq_iff hb]
  constructor
  · omega
  · omega
theorem blkS_length (k n head text : List UInt8) (block i : Nat) (hb : block ≤ 65536) : (blkS k n head text block i).length ≤ 65552 := by
  have := partS_length text block i
  simp [blkS]; omega
theorem blk1_length (k n head text : List UInt8) (block i : Nat) (hb : block ≤ 65536) : (blk1 k n head text block i).length ≤ 65552 := by
  have := partS_length text block i
  simp [blk1]; omega
end Go.Proofs.Try
