/-
  What the functions of layer 2 give.
-/
import Derived.Test.YtmiclamhiohemaaCsCode
import Derived.Test.YtmiclamhiohemaaCsArith
namespace Go.Proofs.Ytmiclamhiohemaa
open Go.AM
set_option autoImplicit false
set_option linter.unusedSimpArgs false
set_option linter.unusedVariables false

theorem sh_cast_drawn_eq (N : Nat) (p : Int) (hp : 0 ≤ p ∧ p ≤ 18446744073709551615) : sh_cast_drawn N p = some (.int .u64 (drawR p), []) := by
  simp only [sh_cast_drawn, sa_cast_drawn, drawR_def, drawD, wrap_u32, wrap_i32, wrap_i64, wrap_u64]
  congr 3
  split <;> omega

theorem log2_of {n k : Nat} (h1 : 2 ^ k ≤ n) (h2 : n < 2 ^ (k + 1)) : n.log2 = k := by
  have hn : n ≠ 0 := by have := Nat.pow_pos (n := k) (show 0 < 2 by omega); omega
  have a := Nat.log2_self_le hn
  have b := Nat.lt_log2_self (n := n)
  rcases Nat.lt_trichotomy n.log2 k with h | h | h
  · have : 2 ^ (n.log2 + 1) ≤ 2 ^ k := Nat.pow_le_pow_right (by omega) (by omega)
    omega
  · exact h
  · have : 2 ^ (k + 1) ≤ 2 ^ n.log2 := Nat.pow_le_pow_right (by omega) (by omega)
    omega

theorem log2_div {n k : Nat} (h : 2 ^ k ≤ n) : n.log2 = (n / 2 ^ k).log2 + k := by
  have hp := Nat.pow_pos (n := k) (show 0 < 2 by omega)
  have hq : n / 2 ^ k ≠ 0 := by
    have := Nat.div_pos h hp
    omega
  have a := Nat.log2_self_le hq
  have b := Nat.lt_log2_self (n := n / 2 ^ k)
  refine log2_of ?_ ?_
  · rw [Nat.pow_add]
    calc 2 ^ (n / 2 ^ k).log2 * 2 ^ k ≤ n / 2 ^ k * 2 ^ k := Nat.mul_le_mul_right _ a
      _ ≤ n := Nat.div_mul_le_self _ _
  · rw [show (n / 2 ^ k).log2 + k + 1 = ((n / 2 ^ k).log2 + 1) + k by omega, Nat.pow_add]
    exact (Nat.div_lt_iff_lt_mul hp).1 b

def tab : List UInt8 := [0, 1, 2, 2, 3, 3, 3, 3, 4, 4, 4, 4, 4, 4, 4, 4, 5, 5, 5, 5, 5, 5, 5, 5, 5, 5, 5, 5, 5, 5, 5, 5, 6, 6, 6, 6, 6, 6, 6, 6, 6, 6, 6, 6, 6, 6, 6, 6, 6, 6, 6, 6, 6, 6, 6, 6, 6, 6, 6, 6, 6, 6, 6, 6, 7, 7, 7, 7, 7, 7, 7, 7, 7, 7, 7, 7, 7, 7, 7, 7, 7, 7, 7, 7, 7, 7, 7, 7, 7, 7, 7, 7, 7, 7, 7, 7, 7, 7, 7, 7, 7, 7, 7, 7, 7, 7, 7, 7, 7, 7, 7, 7, 7, 7, 7, 7, 7, 7, 7, 7, 7, 7, 7, 7, 7, 7, 7, 7, 8, 8, 8, 8, 8, 8, 8, 8, 8, 8, 8, 8, 8, 8, 8, 8, 8, 8, 8, 8, 8, 8, 8, 8, 8, 8, 8, 8, 8, 8, 8, 8, 8, 8, 8, 8, 8, 8, 8, 8, 8, 8, 8, 8, 8, 8, 8, 8, 8, 8, 8, 8, 8, 8, 8, 8, 8, 8, 8, 8, 8, 8, 8, 8, 8, 8, 8, 8, 8, 8, 8, 8, 8, 8, 8, 8, 8, 8, 8, 8, 8, 8, 8, 8, 8, 8, 8, 8, 8, 8, 8, 8, 8, 8, 8, 8, 8, 8, 8, 8, 8, 8, 8, 8, 8, 8, 8, 8, 8, 8, 8, 8, 8, 8, 8, 8, 8, 8, 8, 8, 8, 8, 8, 8, 8, 8, 8, 8]

set_option maxRecDepth 100000 in
theorem tab_get : ∀ n : Nat, n < 256 → (tab.getD n 0).toNat = lenN n := by decide +kernel

theorem lenN_div {n k : Nat} (h : 2 ^ k ≤ n) : lenN n = lenN (n / 2 ^ k) + k := by
  have hp := Nat.pow_pos (n := k) (show 0 < 2 by omega)
  have hq : n / 2 ^ k ≠ 0 := by
    have := Nat.div_pos h hp
    omega
  have hn : n ≠ 0 := by omega
  unfold lenN
  rw [if_neg hn, if_neg hq, log2_div h]
  omega

set_option maxRecDepth 100000 in
theorem tab_len : tab.length = 256 := rfl

set_option maxRecDepth 100000 in
theorem sh_math_bits_Len64_eq (N : Nat) (p : Int) (hp : 0 ≤ p ∧ p ≤ 18446744073709551615) : sh_math_bits_Len64 N p = some (.int .i64 (lenR p), []) := by
  obtain ⟨n, rfl⟩ : ∃ n : Nat, p = (n : Int) := ⟨p.toNat, by omega⟩
  have hn : n < 2 ^ 64 := by omega
  have T : ∀ m : Nat, m < 256 → (((tab.getD m 0).toNat : Nat) : Int) = (lenN m : Int) := fun m h => by rw [tab_get m h]
  have small : ∀ m : Nat, lenN m ≤ m := by
    intro m
    unfold lenN
    split
    · omega
    · rename_i h
      have := Nat.log2_self_le h
      have : m.log2 < 2 ^ m.log2 := Nat.lt_two_pow_self
      omega
  have key : ∀ (a : Nat) (m : Nat), m < 256 → a ≤ 56 → IntKind.wrap .i64 ((a : Int) + IntKind.wrap .i64 ((tab.getD m 0).toNat : Int)) = ((a + lenN m : Nat) : Int) := by
    intro a m hm ha
    have := small m
    rw [T m hm, wrap_i64_of (lenN m : Int) (by omega), wrap_i64_of _ (by omega)]
    omega
  show sa_math_bits_Len64 N n = _
  have e1 : shrI .u64 (n : Int) 32 = ((n / 4294967296 : Nat) : Int) := shr_nat n 32 (by omega)
  have e2 : shrI .u64 (n : Int) 16 = ((n / 65536 : Nat) : Int) := shr_nat n 16 (by omega)
  have e3 : shrI .u64 (n : Int) 8 = ((n / 256 : Nat) : Int) := shr_nat n 8 (by omega)
  have f2 : ∀ m : Nat, shrI .u64 (m : Int) 16 = ((m / 65536 : Nat) : Int) := fun m => shr_nat m 16 (by omega)
  have f3 : ∀ m : Nat, shrI .u64 (m : Int) 8 = ((m / 256 : Nat) : Int) := fun m => shr_nat m 8 (by omega)
  have fin : ∀ (a m : Nat), m < 256 → a ≤ 56 → lenN n = lenN m + a → ∀ c : Bool, c = true → chk c (some (V.int .i64 (IntKind.wrap .i64 ((a : Int) + IntKind.wrap .i64 ((tab.getD m 0).toNat : Int))), ([] : List AObj))) = some (.int .i64 (lenR n), []) := by
    intro a m hm ha he c hc
    rw [hc, chk_t, key a m hm ha, lenR_def]
    simp only [lenD, Int.toNat_natCast, he]
    congr 3; omega
  have L32 : 4294967296 ≤ n → lenN n = lenN (n / 4294967296) + 32 := fun h => lenN_div (k := 32) h
  have L16 : ∀ m : Nat, 65536 ≤ m → lenN m = lenN (m / 65536) + 16 := fun m h => lenN_div (k := 16) h
  have L8 : ∀ m : Nat, 256 ≤ m → lenN m = lenN (m / 256) + 8 := fun m h => lenN_div (k := 8) h
  have z16 : ((0 : Int) + 16) = ((16 : Nat) : Int) := rfl
  have hc : ∀ m : Nat, m < 256 → (decide ((0 : Int) ≤ (m : Int)) && decide ((m : Int) < ((tab.length : Nat) : Int))) = true := by
    intro m hm
    rw [dt (by omega : (0 : Int) ≤ (m : Int)), dt (by rw [tab_len]; omega : (m : Int) < ((tab.length : Nat) : Int))]; rfl
  have ht : ([0, 1, 2, 2, 3, 3, 3, 3, 4, 4, 4, 4, 4, 4, 4, 4, 5, 5, 5, 5, 5, 5, 5, 5, 5, 5, 5, 5, 5, 5, 5, 5, 6, 6, 6, 6, 6, 6, 6, 6, 6, 6, 6, 6, 6, 6, 6, 6, 6, 6, 6, 6, 6, 6, 6, 6, 6, 6, 6, 6, 6, 6, 6, 6, 7, 7, 7, 7, 7, 7, 7, 7, 7, 7, 7, 7, 7, 7, 7, 7, 7, 7, 7, 7, 7, 7, 7, 7, 7, 7, 7, 7, 7, 7, 7, 7, 7, 7, 7, 7, 7, 7, 7, 7, 7, 7, 7, 7, 7, 7, 7, 7, 7, 7, 7, 7, 7, 7, 7, 7, 7, 7, 7, 7, 7, 7, 7, 7, 8, 8, 8, 8, 8, 8, 8, 8, 8, 8, 8, 8, 8, 8, 8, 8, 8, 8, 8, 8, 8, 8, 8, 8, 8, 8, 8, 8, 8, 8, 8, 8, 8, 8, 8, 8, 8, 8, 8, 8, 8, 8, 8, 8, 8, 8, 8, 8, 8, 8, 8, 8, 8, 8, 8, 8, 8, 8, 8, 8, 8, 8, 8, 8, 8, 8, 8, 8, 8, 8, 8, 8, 8, 8, 8, 8, 8, 8, 8, 8, 8, 8, 8, 8, 8, 8, 8, 8, 8, 8, 8, 8, 8, 8, 8, 8, 8, 8, 8, 8, 8, 8, 8, 8, 8, 8, 8, 8, 8, 8, 8, 8, 8, 8, 8, 8, 8, 8, 8, 8, 8, 8, 8, 8, 8, 8, 8, 8] : List UInt8) = tab := rfl
  simp only [sa_math_bits_Len64, ht, e1, e2, e3]
  clear ht e1 e2 e3
  by_cases h32 : 4294967296 ≤ n
  · have g := L32 h32
    generalize hm : n / 4294967296 = m at *
    have hm2 : m < 4294967296 := by omega
    by_cases h16 : 65536 ≤ m
    · have g2 := L16 m h16
      by_cases h8 : 256 ≤ m / 65536
      · have g3 := L8 _ h8
        simp (disch := omega) only [dt, df, it, iF, bt, bf, cond_true, cond_false, map_some', chk_t, Bool.and_true, Bool.true_and, Bool.and_false, Bool.false_and, Bool.or_true, Bool.true_or, Bool.or_false, Bool.false_or, Bool.not_true, Bool.not_false, if_true, if_false, beq_self_eq_true, wrap_i64_of, wrap_u64_of, wrap_i32_of, wrap_u32_of, wrap_u8_of, tdiv_of, tmod_of, Int.toNat_natCast, List.take_length, List.drop_zero, or_true, true_or, or_false, false_or, or_self, f2, f3]
        exact fin 56 _ (by omega) (by omega) (by omega) _ (hc _ (by omega))
      · simp (disch := omega) only [dt, df, it, iF, bt, bf, cond_true, cond_false, map_some', chk_t, Bool.and_true, Bool.true_and, Bool.and_false, Bool.false_and, Bool.or_true, Bool.true_or, Bool.or_false, Bool.false_or, Bool.not_true, Bool.not_false, if_true, if_false, beq_self_eq_true, wrap_i64_of, wrap_u64_of, wrap_i32_of, wrap_u32_of, wrap_u8_of, tdiv_of, tmod_of, Int.toNat_natCast, List.take_length, List.drop_zero, or_true, true_or, or_false, false_or, or_self, f2, f3]
        exact fin 48 _ (by omega) (by omega) (by omega) _ (hc _ (by omega))
    · by_cases h8 : 256 ≤ m
      · have g3 := L8 _ h8
        simp (disch := omega) only [dt, df, it, iF, bt, bf, cond_true, cond_false, map_some', chk_t, Bool.and_true, Bool.true_and, Bool.and_false, Bool.false_and, Bool.or_true, Bool.true_or, Bool.or_false, Bool.false_or, Bool.not_true, Bool.not_false, if_true, if_false, beq_self_eq_true, wrap_i64_of, wrap_u64_of, wrap_i32_of, wrap_u32_of, wrap_u8_of, tdiv_of, tmod_of, Int.toNat_natCast, List.take_length, List.drop_zero, or_true, true_or, or_false, false_or, or_self, f2, f3]
        exact fin 40 _ (by omega) (by omega) (by omega) _ (hc _ (by omega))
      · simp (disch := omega) only [dt, df, it, iF, bt, bf, cond_true, cond_false, map_some', chk_t, Bool.and_true, Bool.true_and, Bool.and_false, Bool.false_and, Bool.or_true, Bool.true_or, Bool.or_false, Bool.false_or, Bool.not_true, Bool.not_false, if_true, if_false, beq_self_eq_true, wrap_i64_of, wrap_u64_of, wrap_i32_of, wrap_u32_of, wrap_u8_of, tdiv_of, tmod_of, Int.toNat_natCast, List.take_length, List.drop_zero, or_true, true_or, or_false, false_or, or_self, f2, f3]
        exact fin 32 _ (by omega) (by omega) (by omega) _ (hc _ (by omega))
  · by_cases h16 : 65536 ≤ n
    · have g2 := L16 n h16
      by_cases h8 : 256 ≤ n / 65536
      · have g3 := L8 _ h8
        simp (disch := omega) only [dt, df, it, iF, bt, bf, cond_true, cond_false, map_some', chk_t, Bool.and_true, Bool.true_and, Bool.and_false, Bool.false_and, Bool.or_true, Bool.true_or, Bool.or_false, Bool.false_or, Bool.not_true, Bool.not_false, if_true, if_false, beq_self_eq_true, wrap_i64_of, wrap_u64_of, wrap_i32_of, wrap_u32_of, wrap_u8_of, tdiv_of, tmod_of, Int.toNat_natCast, List.take_length, List.drop_zero, or_true, true_or, or_false, false_or, or_self, f2, f3]
        exact fin 24 _ (by omega) (by omega) (by omega) _ (hc _ (by omega))
      · simp (disch := omega) only [dt, df, it, iF, bt, bf, cond_true, cond_false, map_some', chk_t, Bool.and_true, Bool.true_and, Bool.and_false, Bool.false_and, Bool.or_true, Bool.true_or, Bool.or_false, Bool.false_or, Bool.not_true, Bool.not_false, if_true, if_false, beq_self_eq_true, wrap_i64_of, wrap_u64_of, wrap_i32_of, wrap_u32_of, wrap_u8_of, tdiv_of, tmod_of, Int.toNat_natCast, List.take_length, List.drop_zero, or_true, true_or, or_false, false_or, or_self, f2, f3]
        exact fin 16 _ (by omega) (by omega) (by omega) _ (hc _ (by omega))
    · by_cases h8 : 256 ≤ n
      · have g3 := L8 _ h8
        simp (disch := omega) only [dt, df, it, iF, bt, bf, cond_true, cond_false, map_some', chk_t, Bool.and_true, Bool.true_and, Bool.and_false, Bool.false_and, Bool.or_true, Bool.true_or, Bool.or_false, Bool.false_or, Bool.not_true, Bool.not_false, if_true, if_false, beq_self_eq_true, wrap_i64_of, wrap_u64_of, wrap_i32_of, wrap_u32_of, wrap_u8_of, tdiv_of, tmod_of, Int.toNat_natCast, List.take_length, List.drop_zero, or_true, true_or, or_false, false_or, or_self, f2, f3]
        exact fin 8 _ (by omega) (by omega) (by omega) _ (hc _ (by omega))
      · simp (disch := omega) only [dt, df, it, iF, bt, bf, cond_true, cond_false, map_some', chk_t, Bool.and_true, Bool.true_and, Bool.and_false, Bool.false_and, Bool.or_true, Bool.true_or, Bool.or_false, Bool.false_or, Bool.not_true, Bool.not_false, if_true, if_false, beq_self_eq_true, wrap_i64_of, wrap_u64_of, wrap_i32_of, wrap_u32_of, wrap_u8_of, tdiv_of, tmod_of, Int.toNat_natCast, List.take_length, List.drop_zero, or_true, true_or, or_false, false_or, or_self, f2, f3]
        exact fin 0 _ (by omega) (by omega) (by omega) _ (hc _ (by omega))
end Go.Proofs.Ytmiclamhiohemaa
