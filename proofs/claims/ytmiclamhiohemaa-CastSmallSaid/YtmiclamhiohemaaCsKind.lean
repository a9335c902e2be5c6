/-
  Numbers of a kind.
-/
import Derived.Test.YtmiclamhiohemaaCsWide
namespace Go.Proofs.Ytmiclamhiohemaa
open Go.AM
set_option autoImplicit false
set_option linter.unusedSimpArgs false
set_option linter.unusedVariables false

theorem xor_u32_0 (a : Int) (ha : 0 ≤ a ∧ a ≤ 4294967295) : bitsI .xor .u32 a 0 = a := xor_zero .u32 rfl a ⟨ha.1, by show a < ((2 ^ 32 : Nat) : Int); omega⟩
theorem xor_u64_0 (a : Int) (ha : 0 ≤ a ∧ a ≤ 18446744073709551615) : bitsI .xor .u64 a 0 = a := xor_zero .u64 rfl a ⟨ha.1, by show a < ((2 ^ 64 : Nat) : Int); omega⟩

theorem draw_range (n : Int) : 0 ≤ drawR n ∧ drawR n ≤ 18446744073709551615 := by rw [drawR_def]; unfold drawD; split <;> omega

theorem zag32 (n : Int) (hn : 0 ≤ n ∧ n ≤ 18446744073709551615) :
    bitsI .xor .u32 (shrI .u32 (IntKind.wrap .u32 n) 1) (IntKind.wrap .u32 (0 - bitsI .and .u32 (IntKind.wrap .u32 n) 1)) = if n % 2 = 1 then 4294967295 - n % 4294967296 / 2 else n % 4294967296 / 2 := by
  rw [wrap_u32 n, and_u32_1 _ (by omega), shr_u32 _ _ (by omega)]
  show bitsI .xor .u32 (n % 4294967296 / 2) _ = _
  have h2 : n % 4294967296 % 2 = n % 2 := by omega
  rw [h2]
  by_cases h : n % 2 = 1
  · rw [if_pos h, h, show IntKind.wrap .u32 (0 - 1) = 4294967295 from by decide, xor_u32_all _ (by omega)]
  · rw [if_neg h, show n % 2 = 0 by omega, show IntKind.wrap .u32 (0 - 0) = 0 from by decide, xor_u32_0 _ (by omega)]

theorem zag64 (n : Int) (hn : 0 ≤ n ∧ n ≤ 18446744073709551615) :
    bitsI .xor .u64 (shrI .u64 n 1) (IntKind.wrap .u64 (0 - bitsI .and .u64 n 1)) = if n % 2 = 1 then 18446744073709551615 - n / 2 else n / 2 := by
  rw [and_u64_1 _ (by omega), shr_u64 _ _ (by omega)]
  show bitsI .xor .u64 (n / 2) _ = _
  by_cases h : n % 2 = 1
  · rw [if_pos h, h, show IntKind.wrap .u64 (0 - 1) = 18446744073709551615 from by decide, xor_u64_all _ (by omega)]
  · rw [if_neg h, show n % 2 = 0 by omega, show IntKind.wrap .u64 (0 - 0) = 0 from by decide, xor_u64_0 _ (by omega)]

theorem kinds (k : Int) : k = 1 ∨ k = 2 ∨ k = 3 ∨ k = 4 ∨ k = 5 ∨ k = 6 ∨ k = 7 ∨ k = 8 ∨ k = 9 ∨ k = 10 ∨ k = 11 ∨ k = 12 ∨ k = 13 ∨ k = 14 ∨ k = 15 ∨ k = 16 ∨ k = 17 ∨ (k < 1 ∨ 17 < k) := by omega

set_option maxHeartbeats 4000000 in
theorem sh_cast_From_eq (N : Nat) (k n : Int) (hn : 0 ≤ n ∧ n ≤ 18446744073709551615) : sh_cast_From N k n = some (.int .u64 (fromR k n), []) := by
  show sa_cast_From N k n = _
  have z1 := zag32 n hn
  have z2 := zag64 n hn
  have d1 := draw_range n
  have w1 : IntKind.wrap .u64 (IntKind.wrap .u32 n) = n % 4294967296 := by rw [wrap_u32, wrap_u64_of _ (by omega)]
  have w2 : IntKind.wrap .u64 (if n % 2 = 1 then 4294967295 - n % 4294967296 / 2 else n % 4294967296 / 2) = (if n % 2 = 1 then 4294967295 - n % 4294967296 / 2 else n % 4294967296 / 2) := by split <;> exact wrap_u64_of _ (by omega)
  simp only [sa_cast_From, z1, z2, w1, w2]
  rw [fromR_def]
  unfold fromD
  simp only [← drawR_def]
  clear z1 z2 w1 w2
  rcases kinds k with rfl | rfl | rfl | rfl | rfl | rfl | rfl | rfl | rfl | rfl | rfl | rfl | rfl | rfl | rfl | rfl | rfl | h
  case inr.inr.inr.inr.inr.inr.inr.inr.inr.inr.inr.inr.inr.inr.inr.inr.inr =>
    rcases h with h | h <;> simp (disch := omega) only [dt, df, it, iF, bt, bf, cond_true, cond_false, map_some', chk_t, Bool.and_true, Bool.true_and, Bool.and_false, Bool.false_and, Bool.or_true, Bool.true_or, Bool.or_false, Bool.false_or, Bool.not_true, Bool.not_false, if_true, if_false, beq_self_eq_true, wrap_i64_of, wrap_u64_of, wrap_i32_of, wrap_u32_of, wrap_u8_of, tdiv_of, tmod_of, Int.toNat_natCast, List.take_length, List.drop_zero, or_true, true_or, or_false, false_or, or_self, ]
  case inr.inr.inr.inr.inr.inr.inl =>
    by_cases h2 : n % 2 = 1
    · simp (disch := omega) only [dt, df, it, iF, bt, bf, cond_true, cond_false, map_some', chk_t, Bool.and_true, Bool.true_and, Bool.and_false, Bool.false_and, Bool.or_true, Bool.true_or, Bool.or_false, Bool.false_or, Bool.not_true, Bool.not_false, if_true, if_false, beq_self_eq_true, wrap_i64_of, wrap_u64_of, wrap_i32_of, wrap_u32_of, wrap_u8_of, tdiv_of, tmod_of, Int.toNat_natCast, List.take_length, List.drop_zero, or_true, true_or, or_false, false_or, or_self, ]
    · simp (disch := omega) only [dt, df, it, iF, bt, bf, cond_true, cond_false, map_some', chk_t, Bool.and_true, Bool.true_and, Bool.and_false, Bool.false_and, Bool.or_true, Bool.true_or, Bool.or_false, Bool.false_or, Bool.not_true, Bool.not_false, if_true, if_false, beq_self_eq_true, wrap_i64_of, wrap_u64_of, wrap_i32_of, wrap_u32_of, wrap_u8_of, tdiv_of, tmod_of, Int.toNat_natCast, List.take_length, List.drop_zero, or_true, true_or, or_false, false_or, or_self, ]
  all_goals first | rfl | simp (disch := omega) only [dt, df, it, iF, bt, bf, cond_true, cond_false, map_some', chk_t, Bool.and_true, Bool.true_and, Bool.and_false, Bool.false_and, Bool.or_true, Bool.true_or, Bool.or_false, Bool.false_or, Bool.not_true, Bool.not_false, if_true, if_false, beq_self_eq_true, wrap_i64_of, wrap_u64_of, wrap_i32_of, wrap_u32_of, wrap_u8_of, tdiv_of, tmod_of, Int.toNat_natCast, List.take_length, List.drop_zero, or_true, true_or, or_false, false_or, or_self, ]

set_option maxHeartbeats 4000000 in
theorem sh_cast_Wire_eq (N : Nat) (k : Int) : sh_cast_Wire N k = some (.int .i64 (wireR k), []) := by
  show sa_cast_Wire N k = _
  rw [wireR_def]
  rcases kinds k with rfl | rfl | rfl | rfl | rfl | rfl | rfl | rfl | rfl | rfl | rfl | rfl | rfl | rfl | rfl | rfl | rfl | h
  case inr.inr.inr.inr.inr.inr.inr.inr.inr.inr.inr.inr.inr.inr.inr.inr.inr =>
    simp only [sa_cast_Wire, wireD]
    rcases h with h | h <;> simp (disch := omega) only [dt, df, it, iF, bt, bf, cond_true, cond_false, map_some', chk_t, Bool.and_true, Bool.true_and, Bool.and_false, Bool.false_and, Bool.or_true, Bool.true_or, Bool.or_false, Bool.false_or, Bool.not_true, Bool.not_false, if_true, if_false, beq_self_eq_true, wrap_i64_of, wrap_u64_of, wrap_i32_of, wrap_u32_of, wrap_u8_of, tdiv_of, tmod_of, Int.toNat_natCast, List.take_length, List.drop_zero, or_true, true_or, or_false, false_or, or_self, ]
  all_goals first | rfl | simp (disch := omega) only [dt, df, it, iF, bt, bf, cond_true, cond_false, map_some', chk_t, Bool.and_true, Bool.true_and, Bool.and_false, Bool.false_and, Bool.or_true, Bool.true_or, Bool.or_false, Bool.false_or, Bool.not_true, Bool.not_false, if_true, if_false, beq_self_eq_true, wrap_i64_of, wrap_u64_of, wrap_i32_of, wrap_u32_of, wrap_u8_of, tdiv_of, tmod_of, Int.toNat_natCast, List.take_length, List.drop_zero, or_true, true_or, or_false, false_or, or_self, ]

theorem toNat_i32 (a : Int) : (((BitVec.ofInt 32 a).toNat : Nat) : Int) = a % 4294967296 := by
  rw [BitVec.toNat_ofInt]
  exact Int.toNat_of_nonneg (Int.emod_nonneg _ (by decide))

theorem xor_i32_0 (a : Int) : bitsI .xor .i32 a 0 = IntKind.wrap .i32 a := by
  have e : bitsI .xor .i32 a 0 = IntKind.wrap .i32 ((BitVec.ofInt 32 a ^^^ 0#32).toNat : Nat) := rfl
  rw [e, BitVec.xor_zero, toNat_i32, wrap_i32, wrap_i32]
  omega

theorem xor_i32_m (a : Int) : bitsI .xor .i32 a (-1) = IntKind.wrap .i32 (-1 - a) := by
  have e : bitsI .xor .i32 a (-1) = IntKind.wrap .i32 ((BitVec.ofInt 32 a ^^^ BitVec.allOnes 32).toNat : Nat) := by
    show IntKind.wrap .i32 ((BitVec.ofInt 32 a ^^^ BitVec.ofInt 32 (-1)).toNat : Nat) = _
    rw [show BitVec.ofInt 32 (-1) = BitVec.allOnes 32 from by decide]
  have hb : (BitVec.ofInt 32 a).toNat < 4294967296 := (BitVec.ofInt 32 a).isLt
  have ht := toNat_i32 a
  rw [e, BitVec.xor_allOnes, BitVec.toNat_not, wrap_i32, wrap_i32]
  have e2 : ((2 ^ 32 - 1 - (BitVec.ofInt 32 a).toNat : Nat) : Int) = 4294967296 - 1 - a % 4294967296 := by
    rw [← ht]
    generalize (BitVec.ofInt 32 a).toNat = q at *
    omega
  rw [e2]
  omega

theorem toNat_i64 (a : Int) : (((BitVec.ofInt 64 a).toNat : Nat) : Int) = a % 18446744073709551616 := by
  rw [BitVec.toNat_ofInt]
  exact Int.toNat_of_nonneg (Int.emod_nonneg _ (by decide))

theorem xor_i64_0 (a : Int) : bitsI .xor .i64 a 0 = IntKind.wrap .i64 a := by
  have e : bitsI .xor .i64 a 0 = IntKind.wrap .i64 ((BitVec.ofInt 64 a ^^^ 0#64).toNat : Nat) := rfl
  rw [e, BitVec.xor_zero, toNat_i64, wrap_i64, wrap_i64]
  omega

theorem xor_i64_m (a : Int) : bitsI .xor .i64 a (-1) = IntKind.wrap .i64 (-1 - a) := by
  have e : bitsI .xor .i64 a (-1) = IntKind.wrap .i64 ((BitVec.ofInt 64 a ^^^ BitVec.allOnes 64).toNat : Nat) := by
    show IntKind.wrap .i64 ((BitVec.ofInt 64 a ^^^ BitVec.ofInt 64 (-1)).toNat : Nat) = _
    rw [show BitVec.ofInt 64 (-1) = BitVec.allOnes 64 from by decide]
  have hb : (BitVec.ofInt 64 a).toNat < 18446744073709551616 := (BitVec.ofInt 64 a).isLt
  have ht := toNat_i64 a
  rw [e, BitVec.xor_allOnes, BitVec.toNat_not, wrap_i64, wrap_i64]
  have e2 : ((2 ^ 64 - 1 - (BitVec.ofInt 64 a).toNat : Nat) : Int) = 18446744073709551616 - 1 - a % 18446744073709551616 := by
    rw [← ht]
    generalize (BitVec.ofInt 64 a).toNat = q at *
    omega
  rw [e2]
  omega

theorem zig32 (n : Int) (hn : 0 ≤ n ∧ n ≤ 18446744073709551615) :
    IntKind.wrap .u64 (IntKind.wrap .u32 (bitsI .xor .i32 (shlI .i32 (IntKind.wrap .i32 (IntKind.wrap .u32 n)) 1) (shrI .i32 (IntKind.wrap .i32 (IntKind.wrap .u32 n)) 31))) = (if n % 4294967296 < 2147483648 then n % 4294967296 * 2 else (4294967295 - n % 4294967296) * 2 + 1) := by
  have hi : IntKind.wrap .i32 (IntKind.wrap .u32 n) = if n % 4294967296 < 2147483648 then n % 4294967296 else n % 4294967296 - 4294967296 := by
    simp only [wrap_i32, wrap_u32]
    split <;> omega
  have e1 : shrI .i32 (IntKind.wrap .i32 (IntKind.wrap .u32 n)) 31 = if n % 4294967296 < 2147483648 then 0 else -1 := by
    rw [hi, shr_i32 _ _ (by omega)]
    show _ / (2147483648 : Int) = _
    split <;> omega
  have e2 : shlI .i32 (IntKind.wrap .i32 (IntKind.wrap .u32 n)) 1 = IntKind.wrap .i32 ((IntKind.wrap .i32 (IntKind.wrap .u32 n)) * 2) := rfl
  rw [e1, e2, hi]
  by_cases h : n % 4294967296 < 2147483648
  · rw [if_pos h, if_pos h, if_pos h, xor_i32_0]
    simp only [wrap_i32, wrap_u32, wrap_u64]
    omega
  · rw [if_neg h, if_neg h, if_neg h, xor_i32_m]
    simp only [wrap_i32, wrap_u32, wrap_u64]
    omega

theorem zig64 (n : Int) (hn : 0 ≤ n ∧ n ≤ 18446744073709551615) :
    IntKind.wrap .u64 (bitsI .xor .i64 (shlI .i64 (IntKind.wrap .i64 n) 1) (shrI .i64 (IntKind.wrap .i64 n) 63)) = (if n < 9223372036854775808 then n * 2 else (18446744073709551615 - n) * 2 + 1) := by
  have hi : IntKind.wrap .i64 n = if n < 9223372036854775808 then n else n - 18446744073709551616 := by
    simp only [wrap_i64, wrap_u32]
    split <;> omega
  have e1 : shrI .i64 (IntKind.wrap .i64 n) 63 = if n < 9223372036854775808 then 0 else -1 := by
    rw [hi, shr_i64 _ _ (by omega)]
    show _ / (9223372036854775808 : Int) = _
    split <;> omega
  have e2 : shlI .i64 (IntKind.wrap .i64 n) 1 = IntKind.wrap .i64 ((IntKind.wrap .i64 n) * 2) := rfl
  rw [e1, e2, hi]
  by_cases h : n < 9223372036854775808
  · rw [if_pos h, if_pos h, if_pos h, xor_i64_0]
    simp only [wrap_i64, wrap_u32, wrap_u64]
    omega
  · rw [if_neg h, if_neg h, if_neg h, xor_i64_m]
    simp only [wrap_i64, wrap_u32, wrap_u64]
    omega

set_option maxHeartbeats 4000000 in
theorem sh_cast_To_eq (N : Nat) (k n : Int) (hn : 0 ≤ n ∧ n ≤ 18446744073709551615) : sh_cast_To N k n = some (.int .u64 (toR k n), []) := by
  show sa_cast_To N k n = _
  have z1 := zig32 n hn
  have z2 := zig64 n hn
  have w1 : IntKind.wrap .u64 (IntKind.wrap .u32 n) = n % 4294967296 := by rw [wrap_u32, wrap_u64_of _ (by omega)]
  simp only [sa_cast_To, z1, z2, w1]
  rw [toR_def]
  unfold toD
  simp only [← drawR_def]
  clear z1 z2 w1
  rcases kinds k with rfl | rfl | rfl | rfl | rfl | rfl | rfl | rfl | rfl | rfl | rfl | rfl | rfl | rfl | rfl | rfl | rfl | h
  case inr.inr.inr.inr.inr.inr.inr.inr.inr.inr.inr.inr.inr.inr.inr.inr.inr =>
    rcases h with h | h <;> simp (disch := omega) only [dt, df, it, iF, bt, bf, cond_true, cond_false, map_some', chk_t, Bool.and_true, Bool.true_and, Bool.and_false, Bool.false_and, Bool.or_true, Bool.true_or, Bool.or_false, Bool.false_or, Bool.not_true, Bool.not_false, if_true, if_false, beq_self_eq_true, wrap_i64_of, wrap_u64_of, wrap_i32_of, wrap_u32_of, wrap_u8_of, tdiv_of, tmod_of, Int.toNat_natCast, List.take_length, List.drop_zero, or_true, true_or, or_false, false_or, or_self, ]
  all_goals first | rfl | simp (disch := omega) only [dt, df, it, iF, bt, bf, cond_true, cond_false, map_some', chk_t, Bool.and_true, Bool.true_and, Bool.and_false, Bool.false_and, Bool.or_true, Bool.true_or, Bool.or_false, Bool.false_or, Bool.not_true, Bool.not_false, if_true, if_false, beq_self_eq_true, wrap_i64_of, wrap_u64_of, wrap_i32_of, wrap_u32_of, wrap_u8_of, tdiv_of, tmod_of, Int.toNat_natCast, List.take_length, List.drop_zero, or_true, true_or, or_false, false_or, or_self, ]

set_option maxHeartbeats 4000000 in
theorem sh_cast_Fits_eq (N : Nat) (k n : Int) (hn : 0 ≤ n ∧ n ≤ 18446744073709551615) : sh_cast_Fits N k n = some (.bool (fitsR k n), []) := by
  show sa_cast_Fits N k n = _
  have z1 : (shrI .u64 n 32 == 0) = decide (n < 4294967296) := by
    rw [shr_u64 _ _ (by omega)]
    show (n / 4294967296 == 0) = _
    rw [Bool.eq_iff_iff]; simp; omega
  have z2 : (n == drawR n) = decide (n = drawR n) := by rw [Bool.eq_iff_iff]; simp
  simp only [sa_cast_Fits, z1, z2]
  rw [fitsR_def]
  unfold fitsD
  simp only [← drawR_def]
  clear z1 z2
  rcases kinds k with rfl | rfl | rfl | rfl | rfl | rfl | rfl | rfl | rfl | rfl | rfl | rfl | rfl | rfl | rfl | rfl | rfl | h
  case inr.inr.inr.inr.inr.inr.inr.inr.inr.inr.inr.inr.inr.inr.inr.inr.inr =>
    rcases h with h | h <;> simp (disch := omega) only [dt, df, it, iF, bt, bf, cond_true, cond_false, map_some', chk_t, Bool.and_true, Bool.true_and, Bool.and_false, Bool.false_and, Bool.or_true, Bool.true_or, Bool.or_false, Bool.false_or, Bool.not_true, Bool.not_false, if_true, if_false, beq_self_eq_true, wrap_i64_of, wrap_u64_of, wrap_i32_of, wrap_u32_of, wrap_u8_of, tdiv_of, tmod_of, Int.toNat_natCast, List.take_length, List.drop_zero, or_true, true_or, or_false, false_or, or_self, ]
  all_goals first | rfl | simp (disch := omega) only [dt, df, it, iF, bt, bf, cond_true, cond_false, map_some', chk_t, Bool.and_true, Bool.true_and, Bool.and_false, Bool.false_and, Bool.or_true, Bool.true_or, Bool.or_false, Bool.false_or, Bool.not_true, Bool.not_false, if_true, if_false, beq_self_eq_true, wrap_i64_of, wrap_u64_of, wrap_i32_of, wrap_u32_of, wrap_u8_of, tdiv_of, tmod_of, Int.toNat_natCast, List.take_length, List.drop_zero, or_true, true_or, or_false, false_or, or_self, ]

theorem sh_law2_step_eq (N : Nat) (y b : Int) (hb : 0 ≤ b ∧ b ≤ 53) : sh_law2_step N y b = some (.int .u64 (stepR y b), []) := by
  show sa_law2_step N y b = _
  have h2 : (Int.tmod y 2 == 0) = decide (y % 2 = 0) := by
    rcases Int.le_total 0 y with h | h
    · rw [tmod_of h, Bool.eq_iff_iff]; simp
    · obtain ⟨z, rfl⟩ : ∃ z : Int, y = -z := ⟨-y, by omega⟩
      rw [Int.neg_tmod, tmod_of (by omega), Bool.eq_iff_iff]; simp
  simp only [sa_law2_step, h2]
  rw [stepR_def]
  unfold stepD
  by_cases h : y % 2 = 0
  · simp (disch := omega) only [dt, df, it, iF, bt, bf, cond_true, cond_false, map_some', chk_t, Bool.and_true, Bool.true_and, Bool.and_false, Bool.false_and, Bool.or_true, Bool.true_or, Bool.or_false, Bool.false_or, Bool.not_true, Bool.not_false, if_true, if_false, beq_self_eq_true, wrap_i64_of, wrap_u64_of, wrap_i32_of, wrap_u32_of, wrap_u8_of, tdiv_of, tmod_of, Int.toNat_natCast, List.take_length, List.drop_zero, or_true, true_or, or_false, false_or, or_self, ]
  · by_cases h1 : b = 1
    · subst h1; simp (disch := omega) only [dt, df, it, iF, bt, bf, cond_true, cond_false, map_some', chk_t, Bool.and_true, Bool.true_and, Bool.and_false, Bool.false_and, Bool.or_true, Bool.true_or, Bool.or_false, Bool.false_or, Bool.not_true, Bool.not_false, if_true, if_false, beq_self_eq_true, wrap_i64_of, wrap_u64_of, wrap_i32_of, wrap_u32_of, wrap_u8_of, tdiv_of, tmod_of, Int.toNat_natCast, List.take_length, List.drop_zero, or_true, true_or, or_false, false_or, or_self, ]
    · simp (disch := omega) only [dt, df, it, iF, bt, bf, cond_true, cond_false, map_some', chk_t, Bool.and_true, Bool.true_and, Bool.and_false, Bool.false_and, Bool.or_true, Bool.true_or, Bool.or_false, Bool.false_or, Bool.not_true, Bool.not_false, if_true, if_false, beq_self_eq_true, wrap_i64_of, wrap_u64_of, wrap_i32_of, wrap_u32_of, wrap_u8_of, tdiv_of, tmod_of, Int.toNat_natCast, List.take_length, List.drop_zero, or_true, true_or, or_false, false_or, or_self, ]
      obtain ⟨k, hk⟩ : ∃ k : Nat, (53 - b) = (k : Int) := ⟨(53 - b).toNat, by omega⟩
      rw [hk, shl_one k (by omega)]
      norm_cast
end Go.Proofs.Ytmiclamhiohemaa
