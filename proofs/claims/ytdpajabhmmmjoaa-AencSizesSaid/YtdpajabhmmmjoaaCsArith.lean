/-
  Shifts and bits of numbers from 0 on, as arithmetic.
-/
import Derived.Test.YtdpajabhmmmjoaaAmTac
namespace Go.AM
set_option autoImplicit false
set_option linter.unusedSimpArgs false
set_option linter.unusedVariables false

theorem shr_u64 (a b : Int) (h : 0 ≤ b ∧ b ≤ 64) : shrI .u64 a b = a / (2 ^ b.toNat : Nat) := by
  unfold shrI
  rw [show min b.toNat IntKind.u64.bits = b.toNat from by show min _ 64 = _; omega, Int.fdiv_eq_ediv_of_nonneg _ (Int.le_of_lt (Int.pow_pos (by omega)))]
  norm_cast
theorem shr_u32 (a b : Int) (h : 0 ≤ b ∧ b ≤ 32) : shrI .u32 a b = a / (2 ^ b.toNat : Nat) := by
  unfold shrI
  rw [show min b.toNat IntKind.u32.bits = b.toNat from by show min _ 32 = _; omega, Int.fdiv_eq_ediv_of_nonneg _ (Int.le_of_lt (Int.pow_pos (by omega)))]
  norm_cast
theorem shr_i32 (a b : Int) (h : 0 ≤ b ∧ b ≤ 32) : shrI .i32 a b = a / (2 ^ b.toNat : Nat) := by
  unfold shrI
  rw [show min b.toNat IntKind.i32.bits = b.toNat from by show min _ 32 = _; omega, Int.fdiv_eq_ediv_of_nonneg _ (Int.le_of_lt (Int.pow_pos (by omega)))]
  norm_cast
theorem shr_i64 (a b : Int) (h : 0 ≤ b ∧ b ≤ 64) : shrI .i64 a b = a / (2 ^ b.toNat : Nat) := by
  unfold shrI
  rw [show min b.toNat IntKind.i64.bits = b.toNat from by show min _ 64 = _; omega, Int.fdiv_eq_ediv_of_nonneg _ (Int.le_of_lt (Int.pow_pos (by omega)))]
  norm_cast
theorem shl_u64 (a b : Int) (h : 0 ≤ b ∧ b ≤ 64) : shlI .u64 a b = a * (2 ^ b.toNat : Nat) % 18446744073709551616 := by
  unfold shlI
  rw [show min b.toNat IntKind.u64.bits = b.toNat from by show min _ 64 = _; omega, wrap_u64, show ((2 : Int) ^ b.toNat) = ((2 ^ b.toNat : Nat) : Int) by norm_cast]
theorem shl_u32 (a b : Int) (h : 0 ≤ b ∧ b ≤ 32) : shlI .u32 a b = a * (2 ^ b.toNat : Nat) % 4294967296 := by
  unfold shlI
  rw [show min b.toNat IntKind.u32.bits = b.toNat from by show min _ 32 = _; omega, wrap_u32, show ((2 : Int) ^ b.toNat) = ((2 ^ b.toNat : Nat) : Int) by norm_cast]

theorem emod_of (a m : Int) (h : 0 ≤ a ∧ a < m) : a % m = a := Int.emod_eq_of_lt h.1 h.2

/-- the lowest bits -/
theorem and_u64 (k : Nat) (hk : k ≤ 64) (a : Int) (ha : 0 ≤ a ∧ a ≤ 18446744073709551615) : bitsI .and .u64 a ((2 ^ k - 1 : Nat) : Int) = a % (2 ^ k : Nat) := by
  obtain ⟨n, rfl⟩ : ∃ n : Nat, a = (n : Int) := ⟨a.toNat, by omega⟩
  have hp : 2 ^ k ≤ 2 ^ 64 := Nat.pow_le_pow_right (by omega) hk
  have hq : 0 < 2 ^ k := Nat.pow_pos (by omega)
  rw [bits_and .u64 rfl _ _ (by show _ < 2 ^ 64; omega) (by show _ < 2 ^ 64; omega), Nat.and_two_pow_sub_one_eq_mod]
  norm_cast
theorem and_u32 (k : Nat) (hk : k ≤ 32) (a : Int) (ha : 0 ≤ a ∧ a ≤ 4294967295) : bitsI .and .u32 a ((2 ^ k - 1 : Nat) : Int) = a % (2 ^ k : Nat) := by
  obtain ⟨n, rfl⟩ : ∃ n : Nat, a = (n : Int) := ⟨a.toNat, by omega⟩
  have hp : 2 ^ k ≤ 2 ^ 32 := Nat.pow_le_pow_right (by omega) hk
  have hq : 0 < 2 ^ k := Nat.pow_pos (by omega)
  rw [bits_and .u32 rfl _ _ (by show _ < 2 ^ 32; omega) (by show _ < 2 ^ 32; omega), Nat.and_two_pow_sub_one_eq_mod]
  norm_cast

theorem and_u64_1 (a : Int) (ha : 0 ≤ a ∧ a ≤ 18446744073709551615) : bitsI .and .u64 a 1 = a % 2 := and_u64 1 (by omega) a ha
theorem and_u32_1 (a : Int) (ha : 0 ≤ a ∧ a ≤ 4294967295) : bitsI .and .u32 a 1 = a % 2 := and_u32 1 (by omega) a ha
theorem and_u32_255 (a : Int) (ha : 0 ≤ a ∧ a ≤ 4294967295) : bitsI .and .u32 a 255 = a % 256 := and_u32 8 (by omega) a ha
theorem and_u32_23 (a : Int) (ha : 0 ≤ a ∧ a ≤ 4294967295) : bitsI .and .u32 a 8388607 = a % 8388608 := and_u32 23 (by omega) a ha
theorem and_u32_31 (a : Int) (ha : 0 ≤ a ∧ a ≤ 4294967295) : bitsI .and .u32 a 2147483647 = a % 2147483648 := and_u32 31 (by omega) a ha
theorem and_u64_23 (a : Int) (ha : 0 ≤ a ∧ a ≤ 18446744073709551615) : bitsI .and .u64 a 8388607 = a % 8388608 := and_u64 23 (by omega) a ha
theorem and_u64_52 (a : Int) (ha : 0 ≤ a ∧ a ≤ 18446744073709551615) : bitsI .and .u64 a 4503599627370495 = a % 4503599627370496 := and_u64 52 (by omega) a ha
theorem and_u64_63 (a : Int) (ha : 0 ≤ a ∧ a ≤ 18446744073709551615) : bitsI .and .u64 a 9223372036854775807 = a % 9223372036854775808 := and_u64 63 (by omega) a ha

/-- bits that do not meet -/
theorem or_u64 (k : Nat) (a b : Int) (ha : 0 ≤ a ∧ a ≤ 18446744073709551615) (hd : a % (2 ^ k : Nat) = 0) (hb : 0 ≤ b ∧ b < (2 ^ k : Nat)) (hk : k ≤ 64) : bitsI .or .u64 a b = a + b := by
  obtain ⟨n, rfl⟩ : ∃ n : Nat, a = (n : Int) := ⟨a.toNat, by omega⟩
  obtain ⟨m, rfl⟩ : ∃ m : Nat, b = (m : Int) := ⟨b.toNat, by omega⟩
  have hp : 2 ^ k ≤ 2 ^ 64 := Nat.pow_le_pow_right (by omega) hk
  have hm : m < 2 ^ k := by omega
  have hn : n % 2 ^ k = 0 := by norm_cast at hd
  rw [bits_or .u64 rfl _ _ (by show _ < 2 ^ 64; omega) (by show _ < 2 ^ 64; omega)]
  have : n = (n / 2 ^ k) <<< k := by rw [Nat.shiftLeft_eq]; have := Nat.div_add_mod n (2 ^ k); rw [hn, Nat.mul_comm] at this; omega
  rw [this, ← Nat.shiftLeft_add_eq_or_of_lt hm]
  norm_cast
theorem or_u32 (k : Nat) (a b : Int) (ha : 0 ≤ a ∧ a ≤ 4294967295) (hd : a % (2 ^ k : Nat) = 0) (hb : 0 ≤ b ∧ b < (2 ^ k : Nat)) (hk : k ≤ 32) : bitsI .or .u32 a b = a + b := by
  obtain ⟨n, rfl⟩ : ∃ n : Nat, a = (n : Int) := ⟨a.toNat, by omega⟩
  obtain ⟨m, rfl⟩ : ∃ m : Nat, b = (m : Int) := ⟨b.toNat, by omega⟩
  have hp : 2 ^ k ≤ 2 ^ 32 := Nat.pow_le_pow_right (by omega) hk
  have hm : m < 2 ^ k := by omega
  have hn : n % 2 ^ k = 0 := by norm_cast at hd
  rw [bits_or .u32 rfl _ _ (by show _ < 2 ^ 32; omega) (by show _ < 2 ^ 32; omega)]
  have : n = (n / 2 ^ k) <<< k := by rw [Nat.shiftLeft_eq]; have := Nat.div_add_mod n (2 ^ k); rw [hn, Nat.mul_comm] at this; omega
  rw [this, ← Nat.shiftLeft_add_eq_or_of_lt hm]
  norm_cast
theorem or_comm_u64 (a b : Int) : bitsI .or .u64 a b = bitsI .or .u64 b a := by unfold bitsI; simp only; rw [BitVec.or_comm]
theorem or_comm_u32 (a b : Int) : bitsI .or .u32 a b = bitsI .or .u32 b a := by unfold bitsI; simp only; rw [BitVec.or_comm]

theorem xor_u64_all (a : Int) (ha : 0 ≤ a ∧ a ≤ 18446744073709551615) : bitsI .xor .u64 a 18446744073709551615 = 18446744073709551615 - a := by
  obtain ⟨n, rfl⟩ : ∃ n : Nat, a = (n : Int) := ⟨a.toNat, by omega⟩
  have h := bits_xor .u64 rfl n 18446744073709551615 (by show _ < 2 ^ 64; omega) (by decide)
  have e : n ^^^ 18446744073709551615 = 18446744073709551615 - n := by
    have : (BitVec.ofNat 64 n ^^^ BitVec.allOnes 64).toNat = (~~~ (BitVec.ofNat 64 n)).toNat := by rw [BitVec.xor_allOnes]
    rw [BitVec.toNat_xor, BitVec.toNat_not, BitVec.toNat_ofNat, Nat.mod_eq_of_lt (by omega : n < 2 ^ 64)] at this
    simpa using this
  rw [e] at h
  rw [show (18446744073709551615 : Int) = ((18446744073709551615 : Nat) : Int) from rfl, h]
  omega
theorem xor_u32_all (a : Int) (ha : 0 ≤ a ∧ a ≤ 4294967295) : bitsI .xor .u32 a 4294967295 = 4294967295 - a := by
  obtain ⟨n, rfl⟩ : ∃ n : Nat, a = (n : Int) := ⟨a.toNat, by omega⟩
  have h := bits_xor .u32 rfl n 4294967295 (by show _ < 2 ^ 32; omega) (by decide)
  have e : n ^^^ 4294967295 = 4294967295 - n := by
    have : (BitVec.ofNat 32 n ^^^ BitVec.allOnes 32).toNat = (~~~ (BitVec.ofNat 32 n)).toNat := by rw [BitVec.xor_allOnes]
    rw [BitVec.toNat_xor, BitVec.toNat_not, BitVec.toNat_ofNat, Nat.mod_eq_of_lt (by omega : n < 2 ^ 32)] at this
    simpa using this
  rw [e] at h
  rw [show (4294967295 : Int) = ((4294967295 : Nat) : Int) from rfl, h]
  omega
theorem xor_zero (k : IntKind) (hk : k.signed = false) (a : Int) (ha : 0 ≤ a ∧ a < (2 ^ k.bits : Nat)) : bitsI .xor k a 0 = a := by
  obtain ⟨n, rfl⟩ : ∃ n : Nat, a = (n : Int) := ⟨a.toNat, by omega⟩
  have h := bits_xor k hk n 0 (by omega) (Nat.pow_pos (by omega))
  rw [show (0 : Int) = ((0 : Nat) : Int) from rfl, h, Nat.xor_zero]

/-- one, and so many noughts -/
theorem shl_one (k : Nat) (h : k < 64) : shlI .u64 1 (k : Int) = ((2 ^ k : Nat) : Int) := by
  rw [shl_u64 _ _ (by omega), Int.toNat_natCast, Int.one_mul]
  have : 2 ^ k < 2 ^ 64 := Nat.pow_lt_pow_right (by omega) h
  exact emod_of _ _ ⟨Int.natCast_nonneg _, by omega⟩
theorem shl_nat (a k : Nat) (hk : k ≤ 64) (h : a * 2 ^ k < 2 ^ 64) : shlI .u64 (a : Int) (k : Int) = ((a * 2 ^ k : Nat) : Int) := by
  rw [shl_u64 _ _ (by omega), Int.toNat_natCast]
  have e : (a : Int) * ((2 ^ k : Nat) : Int) = ((a * 2 ^ k : Nat) : Int) := by norm_cast
  rw [e]
  exact emod_of _ _ (by omega)
theorem shr_nat (a k : Nat) (hk : k ≤ 64) : shrI .u64 (a : Int) (k : Int) = ((a / 2 ^ k : Nat) : Int) := by
  rw [shr_u64 _ _ (by omega), Int.toNat_natCast]
  norm_cast
theorem and_nat (a k : Nat) (hk : k ≤ 64) (h : a < 2 ^ 64) : bitsI .and .u64 (a : Int) (((2 ^ k : Nat) : Int) - 1) = ((a % 2 ^ k : Nat) : Int) := by
  have hq : 0 < 2 ^ k := Nat.pow_pos (by omega)
  have := and_u64 k hk a (by omega)
  rw [show ((2 ^ k - 1 : Nat) : Int) = ((2 ^ k : Nat) : Int) - 1 by omega] at this
  rw [this]
  norm_cast
end Go.AM
