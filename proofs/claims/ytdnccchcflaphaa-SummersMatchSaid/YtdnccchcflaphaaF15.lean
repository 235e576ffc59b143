import Derived.Test.YtdnccchcflaphaaF14
namespace Go.Kw
set_option linter.unusedVariables false
set_option linter.unusedSimpArgs false
variable {P : Program}

/-! ### Whole numbers by their types -/

theorem wrap_i64 {n : Int} (h1 : -9223372036854775808 ≤ n) (h2 : n ≤ 9223372036854775807) : IntKind.i64.wrap n = n := by
  show (if (true && decide ((n % 18446744073709551616) ≥ 9223372036854775808)) = true then n % 18446744073709551616 - 18446744073709551616 else n % 18446744073709551616) = n
  simp only [Bool.true_and, decide_eq_true_eq]
  split <;> omega
theorem wrap_u8 {n : Int} : IntKind.u8.wrap n = n % 256 := by simp [IntKind.wrap, IntKind.signed, IntKind.bits]
theorem wrap_u16 {n : Int} : IntKind.u16.wrap n = n % 65536 := by simp [IntKind.wrap, IntKind.signed, IntKind.bits]
theorem wrap_u32 {n : Int} : IntKind.u32.wrap n = n % 4294967296 := by simp [IntKind.wrap, IntKind.signed, IntKind.bits]
theorem wrap_u64 {n : Int} : IntKind.u64.wrap n = n % 18446744073709551616 := by simp [IntKind.wrap, IntKind.signed, IntKind.bits]

section
variable {o : Oper} {x y z : Operand} {t t' : TypeId} {a b c : Int} {k k' : IntKind} {v u : AVal} {p q : Bool}

theorem op_addI (ho : o.op = .binOp .add t x y t') (h : -9223372036854775808 ≤ a + b ∧ a + b ≤ 9223372036854775807) : OpV P o [.i a, .i b] [] [] (.i (a + b)) [] := by
  have := op_add (P := P) (k := .i64) (a := a) (b := b) ho
  rwa [wrap_i64 h.1 h.2] at this
theorem op_subI (ho : o.op = .binOp .sub t x y t') (h : -9223372036854775808 ≤ a - b ∧ a - b ≤ 9223372036854775807) : OpV P o [.i a, .i b] [] [] (.i (a - b)) [] := by
  have := op_sub (P := P) (k := .i64) (a := a) (b := b) ho
  rwa [wrap_i64 h.1 h.2] at this
theorem op_mulI (ho : o.op = .binOp .mul t x y t') (h : -9223372036854775808 ≤ a * b ∧ a * b ≤ 9223372036854775807) : OpV P o [.i a, .i b] [] [] (.i (a * b)) [] := by
  have := op_mul (P := P) (k := .i64) (a := a) (b := b) ho
  rwa [wrap_i64 h.1 h.2] at this
theorem op_quoI (ho : o.op = .binOp .quo t x y t') (h : 0 ≤ a ∧ a ≤ 9223372036854775807 ∧ 0 < b) : OpV P o [.i a, .i b] [] [] (.i (a / b)) [] := by
  have := op_quo (P := P) (k := .i64) (a := a) (b := b) ho (by omega)
  rw [Int.tdiv_eq_ediv_of_nonneg h.1] at this
  have h1 : 0 ≤ a / b := Int.ediv_nonneg h.1 (by omega)
  have h2 : a / b ≤ a := Int.ediv_le_self _ h.1
  rwa [wrap_i64 (by omega) (by omega)] at this
theorem op_remI (ho : o.op = .binOp .rem t x y t') (h : 0 ≤ a ∧ 0 < b) : OpV P o [.i a, .i b] [] [] (.i (a % b)) [] := by
  have := op_rem (P := P) (k := .i64) (a := a) (b := b) ho (by omega)
  rwa [Int.tmod_eq_emod_of_nonneg h.1] at this

/-! unsigned ones -/
theorem nat_u8 (n : Nat) : ((n : Int) % 256) = (((UInt8.ofNat n).toNat : Nat) : Int) := by simp
theorem nat_u16 (n : Nat) : ((n : Int) % 65536) = (((UInt16.ofNat n).toNat : Nat) : Int) := by simp
theorem nat_u32 (n : Nat) : ((n : Int) % 4294967296) = (((UInt32.ofNat n).toNat : Nat) : Int) := by simp
theorem nat_u64 (n : Nat) : ((n : Int) % 18446744073709551616) = (((UInt64.ofNat n).toNat : Nat) : Int) := by simp

theorem op_add8 {a b : UInt8} (ho : o.op = .binOp .add t x y t') : OpV P o [.u8 a, .u8 b] [] [] (.u8 (a + b)) [] := by
  have := op_add (P := P) (k := .u8) (a := a.toNat) (b := b.toNat) ho
  rw [wrap_u8, ← Int.natCast_add, nat_u8] at this
  simpa [AVal.u8] using this
theorem op_sub8 {a b : UInt8} (ho : o.op = .binOp .sub t x y t') : OpV P o [.u8 a, .u8 b] [] [] (.u8 (a - b)) [] := by
  have := op_sub (P := P) (k := .u8) (a := a.toNat) (b := b.toNat) ho
  have e : IntKind.u8.wrap ((a.toNat : Int) - b.toNat) = ((a - b).toNat : Nat) := by
    rw [wrap_u8, UInt8.toNat_sub]; have := a.toNat_lt; have := b.toNat_lt; omega
  rwa [e] at this
theorem op_add32 {a b : UInt32} (ho : o.op = .binOp .add t x y t') : OpV P o [.u32 a, .u32 b] [] [] (.u32 (a + b)) [] := by
  have := op_add (P := P) (k := .u32) (a := a.toNat) (b := b.toNat) ho
  have e : IntKind.u32.wrap ((a.toNat : Int) + b.toNat) = ((a + b).toNat : Nat) := by
    rw [wrap_u32, UInt32.toNat_add]; omega
  rwa [e] at this
theorem op_mul32 {a b : UInt32} (ho : o.op = .binOp .mul t x y t') : OpV P o [.u32 a, .u32 b] [] [] (.u32 (a * b)) [] := by
  have := op_mul (P := P) (k := .u32) (a := a.toNat) (b := b.toNat) ho
  have e : IntKind.u32.wrap ((a.toNat : Int) * b.toNat) = ((a * b).toNat : Nat) := by
    rw [wrap_u32, UInt32.toNat_mul]; simp
  rwa [e] at this
theorem op_mul64 {a b : UInt64} (ho : o.op = .binOp .mul t x y t') : OpV P o [.u64 a, .u64 b] [] [] (.u64 (a * b)) [] := by
  have := op_mul (P := P) (k := .u64) (a := a.toNat) (b := b.toNat) ho
  have e : IntKind.u64.wrap ((a.toNat : Int) * b.toNat) = ((a * b).toNat : Nat) := by
    rw [wrap_u64, UInt64.toNat_mul]; simp
  rwa [e] at this
theorem op_sub64 {a b : UInt64} (ho : o.op = .binOp .sub t x y t') : OpV P o [.u64 a, .u64 b] [] [] (.u64 (a - b)) [] := by
  have := op_sub (P := P) (k := .u64) (a := a.toNat) (b := b.toNat) ho
  have e : IntKind.u64.wrap ((a.toNat : Int) - b.toNat) = ((a - b).toNat : Nat) := by
    rw [wrap_u64, UInt64.toNat_sub]; have := a.toNat_lt; have := b.toNat_lt; omega
  rwa [e] at this

theorem op_bits {bo : BinOp} {r : AVal} (ho : o.op = .binOp bo t x y t') (h : ∀ w, (binOp bo t (.int k a) (.int k b)).run P w = .ok (.int k c) w) : OpV P o [.int k a, .int k b] [] [] (.int k c) [] :=
  op_int ho fun w => ⟨_, h w, fun _ _ => by simp [VRel]⟩

theorem bv8 (a : UInt8) : BitVec.ofInt 8 (a.toNat : Int) = a.toBitVec := by
  apply BitVec.eq_of_toNat_eq; simp
theorem bv32 (a : UInt32) : BitVec.ofInt 32 (a.toNat : Int) = a.toBitVec := by
  apply BitVec.eq_of_toNat_eq; simp
theorem bv64 (a : UInt64) : BitVec.ofInt 64 (a.toNat : Int) = a.toBitVec := by
  apply BitVec.eq_of_toNat_eq; simp
theorem wr8 (a : UInt8) : IntKind.u8.wrap (a.toNat : Int) = a.toNat := by rw [wrap_u8]; have := a.toNat_lt; omega
theorem wr32 (a : UInt32) : IntKind.u32.wrap (a.toNat : Int) = a.toNat := by rw [wrap_u32]; have := a.toNat_lt; omega
theorem wr64 (a : UInt64) : IntKind.u64.wrap (a.toNat : Int) = a.toNat := by rw [wrap_u64]; have := a.toNat_lt; omega

theorem op_xor8 {a b : UInt8} (ho : o.op = .binOp .xor t x y t') : OpV P o [.u8 a, .u8 b] [] [] (.u8 (a ^^^ b)) [] :=
  op_bits (r := .tup []) ho fun w => by
    have : IntKind.u8.wrap (((a.toBitVec ^^^ b.toBitVec).toNat : Nat) : Int) = ((a ^^^ b).toNat : Nat) := wr8 (a ^^^ b)
    simp only [binOp, Op.intBits, IntKind.bits, bv8, ne_eq, not_true, if_false, not_true_eq_false, Sem.run_pure]
    exact congrArg (fun z => Result.ok (Value.int .u8 z) w) this
theorem op_and8 {a b : UInt8} (ho : o.op = .binOp .and t x y t') : OpV P o [.u8 a, .u8 b] [] [] (.u8 (a &&& b)) [] :=
  op_bits (r := .tup []) ho fun w => by
    have : IntKind.u8.wrap (((a.toBitVec &&& b.toBitVec).toNat : Nat) : Int) = ((a &&& b).toNat : Nat) := wr8 (a &&& b)
    simp only [binOp, Op.intBits, IntKind.bits, bv8, ne_eq, not_true, if_false, not_true_eq_false, Sem.run_pure]
    exact congrArg (fun z => Result.ok (Value.int .u8 z) w) this
theorem op_or8 {a b : UInt8} (ho : o.op = .binOp .or t x y t') : OpV P o [.u8 a, .u8 b] [] [] (.u8 (a ||| b)) [] :=
  op_bits (r := .tup []) ho fun w => by
    have : IntKind.u8.wrap (((a.toBitVec ||| b.toBitVec).toNat : Nat) : Int) = ((a ||| b).toNat : Nat) := wr8 (a ||| b)
    simp only [binOp, Op.intBits, IntKind.bits, bv8, ne_eq, not_true, if_false, not_true_eq_false, Sem.run_pure]
    exact congrArg (fun z => Result.ok (Value.int .u8 z) w) this
theorem op_xor32 {a b : UInt32} (ho : o.op = .binOp .xor t x y t') : OpV P o [.u32 a, .u32 b] [] [] (.u32 (a ^^^ b)) [] :=
  op_bits (r := .tup []) ho fun w => by
    have : IntKind.u32.wrap (((a.toBitVec ^^^ b.toBitVec).toNat : Nat) : Int) = ((a ^^^ b).toNat : Nat) := wr32 (a ^^^ b)
    simp only [binOp, Op.intBits, IntKind.bits, bv32, ne_eq, not_true, if_false, not_true_eq_false, Sem.run_pure]
    exact congrArg (fun z => Result.ok (Value.int .u32 z) w) this
theorem op_or32 {a b : UInt32} (ho : o.op = .binOp .or t x y t') : OpV P o [.u32 a, .u32 b] [] [] (.u32 (a ||| b)) [] :=
  op_bits (r := .tup []) ho fun w => by
    have : IntKind.u32.wrap (((a.toBitVec ||| b.toBitVec).toNat : Nat) : Int) = ((a ||| b).toNat : Nat) := wr32 (a ||| b)
    simp only [binOp, Op.intBits, IntKind.bits, bv32, ne_eq, not_true, if_false, not_true_eq_false, Sem.run_pure]
    exact congrArg (fun z => Result.ok (Value.int .u32 z) w) this
theorem op_or64 {a b : UInt64} (ho : o.op = .binOp .or t x y t') : OpV P o [.u64 a, .u64 b] [] [] (.u64 (a ||| b)) [] :=
  op_bits (r := .tup []) ho fun w => by
    have : IntKind.u64.wrap (((a.toBitVec ||| b.toBitVec).toNat : Nat) : Int) = ((a ||| b).toNat : Nat) := wr64 (a ||| b)
    simp only [binOp, Op.intBits, IntKind.bits, bv64, ne_eq, not_true, if_false, not_true_eq_false, Sem.run_pure]
    exact congrArg (fun z => Result.ok (Value.int .u64 z) w) this
theorem op_and64 {a b : UInt64} (ho : o.op = .binOp .and t x y t') : OpV P o [.u64 a, .u64 b] [] [] (.u64 (a &&& b)) [] :=
  op_bits (r := .tup []) ho fun w => by
    have : IntKind.u64.wrap (((a.toBitVec &&& b.toBitVec).toNat : Nat) : Int) = ((a &&& b).toNat : Nat) := wr64 (a &&& b)
    simp only [binOp, Op.intBits, IntKind.bits, bv64, ne_eq, not_true, if_false, not_true_eq_false, Sem.run_pure]
    exact congrArg (fun z => Result.ok (Value.int .u64 z) w) this

theorem op_shift {bo : BinOp} (ho : o.op = .binOp bo t x y t') (h : ∀ w, (binOp bo t (.int k a) (.int k' b)).run P w = .ok (.int k c) w) : OpV P o [.int k a, .int k' b] [] [] (.int k c) [] :=
  op2 (x := x) (y := y) (by rw [ho]; rfl) fun ρ Im w ac hv hu => by
    simp only [VRel] at hv hu ⊢
    refine ⟨_, ?_, rfl⟩
    simp [execOp, ho, hv, hu, h, eqGuard_int]

theorem op_shl32 {a : UInt32} (n : Nat) (ho : o.op = .binOp .shl t x y t') (h : b = n ∧ n < 32) : OpV P o [.u32 a, .int k' b] [] [] (.u32 (a <<< UInt32.ofNat n)) [] :=
  op_shift ho fun w => by
    obtain ⟨rfl, hn⟩ := h
    have h0 : ¬ ((n : Int) < 0) := by omega
    have e : IntKind.u32.wrap ((a.toNat : Int) * 2 ^ n) = ((a <<< UInt32.ofNat n).toNat : Nat) := by
      have h32 : n % 2 ^ 32 = n := Nat.mod_eq_of_lt (by omega)
      rw [wrap_u32, UInt32.toNat_shiftLeft, Nat.shiftLeft_eq]
      simp only [UInt32.toNat_ofNat', h32, Nat.mod_eq_of_lt hn]
      rw [Int.natCast_emod, Int.natCast_mul, Int.natCast_pow]; rfl
    simp [binOp, Op.shift, h0, IntKind.bits, show min n 32 = n by omega, e]
theorem op_shr32 {a : UInt32} (n : Nat) (ho : o.op = .binOp .shr t x y t') (h : b = n ∧ n < 32) : OpV P o [.u32 a, .int k' b] [] [] (.u32 (a >>> UInt32.ofNat n)) [] :=
  op_shift ho fun w => by
    obtain ⟨rfl, hn⟩ := h
    have h0 : ¬ ((n : Int) < 0) := by omega
    have e : (a.toNat : Int).fdiv (2 ^ n) = ((a >>> UInt32.ofNat n).toNat : Nat) := by
      have h32 : n % 2 ^ 32 = n := Nat.mod_eq_of_lt (by omega)
      rw [UInt32.toNat_shiftRight, Nat.shiftRight_eq_div_pow]
      simp only [UInt32.toNat_ofNat', h32, Nat.mod_eq_of_lt hn]
      rw [Int.fdiv_eq_ediv_of_nonneg _ (by exact_mod_cast Nat.zero_le _), Int.natCast_ediv, Int.natCast_pow]; rfl
    simp [binOp, Op.shift, h0, IntKind.bits, show min n 32 = n by omega, e]
theorem op_shl64 {a : UInt64} (n : Nat) (ho : o.op = .binOp .shl t x y t') (h : b = n ∧ n < 64) : OpV P o [.u64 a, .int k' b] [] [] (.u64 (a <<< UInt64.ofNat n)) [] :=
  op_shift ho fun w => by
    obtain ⟨rfl, hn⟩ := h
    have h0 : ¬ ((n : Int) < 0) := by omega
    have e : IntKind.u64.wrap ((a.toNat : Int) * 2 ^ n) = ((a <<< UInt64.ofNat n).toNat : Nat) := by
      have h32 : n % 2 ^ 64 = n := Nat.mod_eq_of_lt (by omega)
      rw [wrap_u64, UInt64.toNat_shiftLeft, Nat.shiftLeft_eq]
      simp only [UInt64.toNat_ofNat', h32, Nat.mod_eq_of_lt hn]
      rw [Int.natCast_emod, Int.natCast_mul, Int.natCast_pow]; rfl
    simp [binOp, Op.shift, h0, IntKind.bits, show min n 64 = n by omega, e]
theorem op_shr64 {a : UInt64} (n : Nat) (ho : o.op = .binOp .shr t x y t') (h : b = n ∧ n < 64) : OpV P o [.u64 a, .int k' b] [] [] (.u64 (a >>> UInt64.ofNat n)) [] :=
  op_shift ho fun w => by
    obtain ⟨rfl, hn⟩ := h
    have h0 : ¬ ((n : Int) < 0) := by omega
    have e : (a.toNat : Int).fdiv (2 ^ n) = ((a >>> UInt64.ofNat n).toNat : Nat) := by
      have h32 : n % 2 ^ 64 = n := Nat.mod_eq_of_lt (by omega)
      rw [UInt64.toNat_shiftRight, Nat.shiftRight_eq_div_pow]
      simp only [UInt64.toNat_ofNat', h32, Nat.mod_eq_of_lt hn]
      rw [Int.fdiv_eq_ediv_of_nonneg _ (by exact_mod_cast Nat.zero_le _), Int.natCast_ediv, Int.natCast_pow]; rfl
    simp [binOp, Op.shift, h0, IntKind.bits, show min n 64 = n by omega, e]
theorem op_shr8 {a : UInt8} (n : Nat) (ho : o.op = .binOp .shr t x y t') (h : b = n ∧ n < 8) : OpV P o [.u8 a, .int k' b] [] [] (.u8 (a >>> UInt8.ofNat n)) [] :=
  op_shift ho fun w => by
    obtain ⟨rfl, hn⟩ := h
    have h0 : ¬ ((n : Int) < 0) := by omega
    have e : (a.toNat : Int).fdiv (2 ^ n) = ((a >>> UInt8.ofNat n).toNat : Nat) := by
      have h32 : n % 2 ^ 8 = n := Nat.mod_eq_of_lt (by omega)
      rw [UInt8.toNat_shiftRight, Nat.shiftRight_eq_div_pow]
      simp only [UInt8.toNat_ofNat', h32, Nat.mod_eq_of_lt hn]
      rw [Int.fdiv_eq_ediv_of_nonneg _ (by exact_mod_cast Nat.zero_le _), Int.natCast_ediv, Int.natCast_pow]; rfl
    simp [binOp, Op.shift, h0, IntKind.bits, show min n 8 = n by omega, e]
/-- int >> count, of a number that is not negative -/
theorem op_shrI (n : Nat) (ho : o.op = .binOp .shr t x y t') (h : b = n ∧ n < 64) : OpV P o [.i a, .int k' b] [] [] (.i (a / 2 ^ n)) [] :=
  op_shift ho fun w => by
    obtain ⟨rfl, hn⟩ := h
    have h0 : ¬ ((n : Int) < 0) := by omega
    have e : a.fdiv (2 ^ n) = a / 2 ^ n := Int.fdiv_eq_ediv_of_nonneg _ (Int.le_of_lt (Int.pow_pos (by omega)))
    simp [binOp, Op.shift, h0, IntKind.bits, show min n 64 = n by omega, e]
theorem op_shlI (n : Nat) (ho : o.op = .binOp .shl t x y t') (h : b = n ∧ n < 64) (hr : -9223372036854775808 ≤ a * 2 ^ n ∧ a * 2 ^ n ≤ 9223372036854775807) : OpV P o [.i a, .int k' b] [] [] (.i (a * 2 ^ n)) [] :=
  op_shift ho fun w => by
    obtain ⟨rfl, hn⟩ := h
    have h0 : ¬ ((n : Int) < 0) := by omega
    simp [binOp, Op.shift, h0, IntKind.bits, show min n 64 = n by omega, wrap_i64 hr.1 hr.2]

/-! conversions -/
theorem op_cv {d : IntKind} {src dst : TypeId} {r : Int} (ho : o.op = .convert src dst x) (hs : (P.underlying src).isSome = true) (hd : P.underlying dst = some (.int d)) (hr : d.wrap a = r) :
    OpV P o [.int k a] [] [] (.int d r) [] := by
  have := op_conv (P := P) (k := k) (a := a) ho hs hd
  rwa [hr] at this
theorem cv_8_32 {a : UInt8} : IntKind.u32.wrap (a.toNat : Int) = (a.toUInt32.toNat : Nat) := by rw [wrap_u32, UInt8.toNat_toUInt32]; have := a.toNat_lt; omega
theorem cv_8_64 {a : UInt8} : IntKind.u64.wrap (a.toNat : Int) = (a.toUInt64.toNat : Nat) := by rw [wrap_u64, UInt8.toNat_toUInt64]; have := a.toNat_lt; omega
theorem cv_8_i {a : UInt8} : IntKind.i64.wrap (a.toNat : Int) = a.toNat := by have := a.toNat_lt; exact wrap_i64 (by omega) (by omega)
theorem cv_16_i {a : UInt16} : IntKind.i64.wrap (a.toNat : Int) = a.toNat := by have := a.toNat_lt; exact wrap_i64 (by omega) (by omega)
theorem cv_32_i {a : UInt32} : IntKind.i64.wrap (a.toNat : Int) = a.toNat := by have := a.toNat_lt; exact wrap_i64 (by omega) (by omega)
theorem cv_32_8 {a : UInt32} : IntKind.u8.wrap (a.toNat : Int) = (a.toUInt8.toNat : Nat) := by rw [wrap_u8, UInt32.toNat_toUInt8]; omega
theorem cv_32_64 {a : UInt32} : IntKind.u64.wrap (a.toNat : Int) = (a.toUInt64.toNat : Nat) := by rw [wrap_u64, UInt32.toNat_toUInt64]; have := a.toNat_lt; omega
theorem cv_64_32 {a : UInt64} : IntKind.u32.wrap (a.toNat : Int) = (a.toUInt32.toNat : Nat) := by rw [wrap_u32, UInt64.toNat_toUInt32]; omega
theorem cv_i_64 {a : Int} (h : 0 ≤ a) : IntKind.u64.wrap a = ((UInt64.ofNat a.toNat).toNat : Nat) := by
  rw [wrap_u64]; simp only [UInt64.toNat_ofNat']; omega
theorem cv_i_32 {a : Int} (h : 0 ≤ a) : IntKind.u32.wrap a = ((UInt32.ofNat a.toNat).toNat : Nat) := by
  rw [wrap_u32]; simp only [UInt32.toNat_ofNat']; omega
theorem cv_i_16 {a : Int} (h : 0 ≤ a) : IntKind.u16.wrap a = ((UInt16.ofNat a.toNat).toNat : Nat) := by
  rw [wrap_u16]; simp only [UInt16.toNat_ofNat']; omega
theorem cv_i_8 {a : Int} (h : 0 ≤ a) : IntKind.u8.wrap a = ((UInt8.ofNat a.toNat).toNat : Nat) := by
  rw [wrap_u8]; simp only [UInt8.toNat_ofNat']; omega
theorem cv_64_i {a : UInt64} (h : a.toNat ≤ 9223372036854775807) : IntKind.i64.wrap (a.toNat : Int) = a.toNat := wrap_i64 (by omega) (by omega)
end
end Go.Kw
