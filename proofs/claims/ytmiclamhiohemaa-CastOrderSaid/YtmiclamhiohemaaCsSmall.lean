/-
  What the laws of layer 2 come to: on numbers of few bits.
-/
import Derived.Test.YtmiclamhiohemaaCsMath
namespace Go.Proofs.Ytmiclamhiohemaa
open Go.AM
set_option autoImplicit false
set_option linter.unusedSimpArgs false
set_option linter.unusedVariables false

theorem tdiv256 (n : Int) : (Int.tdiv n 256).natAbs = n.natAbs / 256 ∧ (n < 0 → Int.tdiv n 256 ≤ 0) ∧ (0 ≤ n → 0 ≤ Int.tdiv n 256) := by
  rcases Int.le_total 0 n with h | h
  · rw [tdiv_of h]; omega
  · obtain ⟨z, rfl⟩ : ∃ z : Int, n = -z := ⟨-n, by omega⟩
    rw [Int.neg_tdiv, tdiv_of (by omega)]; omega

theorem shr_i64_nat (a k : Nat) (hk : k ≤ 64) : shrI .i64 (a : Int) (k : Int) = ((a / 2 ^ k : Nat) : Int) := by
  rw [shr_i64 _ _ (by omega), Int.toNat_natCast]
  norm_cast

theorem shr_pos_iff {m k : Nat} (hm : m ≠ 0) : 1 < m / 2 ^ k ↔ k < m.log2 := by
  have a := Nat.log2_self_le hm
  have b := Nat.lt_log2_self (n := m)
  have hp : 0 < 2 ^ k := Nat.pow_pos (by omega)
  constructor
  · intro h
    rcases Nat.lt_or_ge k m.log2 with h' | h'
    · exact h'
    · have h1 : 2 ^ (m.log2 + 1) ≤ 2 ^ (k + 1) := Nat.pow_le_pow_right (by omega) (by omega)
      have h2 : m / 2 ^ k < 2 := by rw [Nat.div_lt_iff_lt_mul hp]; rw [Nat.pow_succ] at h1; omega
      omega
  · intro h
    have h1 : 2 ^ (k + 1) ≤ 2 ^ m.log2 := Nat.pow_le_pow_right (by omega) h
    have h2 : 2 ≤ m / 2 ^ k := by rw [Nat.le_div_iff_mul_le hp]; rw [Nat.pow_succ] at h1; omega
    omega

theorem sign_bit (n : Int) (hn : -2147483648 ≤ n ∧ n ≤ 2147483647) : (shrI .u64 (doubleR (IntKind.wrap .i64 n)) 63 == IntKind.wrap .u64 (shrI .u32 (IntKind.wrap .u32 n) 31)) = true := by
  have hl := nearN_lt52 (m := n.natAbs) (by omega)
  rw [wrap_i64_of n (by omega), doubleR_def]
  simp only [doubleD, doubleN]
  rw [shr_u64 _ _ (by omega), shr_u32 _ _ (by omega), wrap_u32]
  show ((_ / (9223372036854775808 : Int)) == IntKind.wrap .u64 (_ / (2147483648 : Int))) = true
  by_cases h : n < 0
  · rw [if_pos h, wrap_u64_of _ (by omega)]
    exact bt (by omega)
  · rw [if_neg h, wrap_u64_of _ (by omega)]
    exact bt (by omega)

theorem small_loop (N : Nat) (hN : 100 < N) (n v : Int) (m : Nat) (hn : -2147483648 ≤ n ∧ n ≤ 2147483647) (hm : m = v.natAbs) (h0 : m ≠ 0) (hs : m ≤ 8388608) :
    iterL N (B_law2_CastSmall_0 N) (n, doubleR v, (m : Int), 0) = some (.bool true, []) := by
  have he := log2_le_23 hs h0
  refine iterL_spec (α := Int × Int × Int × Int) (fun x => x.1 = n ∧ x.2.1 = doubleR v ∧ x.2.2.1 = (m : Int) ∧ ∃ k : Nat, x.2.2.2 = (k : Int) ∧ k ≤ m.log2) (fun x => 30 - x.2.2.2.toNat) (fun _ => (V.bool true, ([] : List AObj))) ?_ N _ ⟨rfl, rfl, rfl, 0, rfl, by omega⟩ (by simp; omega)
  rintro rec ⟨n', d, m', k'⟩ ⟨h1, h2, h3, k, h4, hk⟩ hrec
  simp only at h1 h2 h3 h4 hrec ⊢
  subst h1 h2 h3 h4
  simp only [B_law2_CastSmall_0]
  have hsh := shr_pos_iff (k := k) h0
  rw [shr_i64_nat m k (by omega)]
  by_cases hlt : k < m.log2
  · have := hsh.2 hlt
    simp (disch := omega) only [dt, df, it, iF, bt, bf, cond_true, cond_false, map_some', chk_t, Bool.and_true, Bool.true_and, Bool.and_false, Bool.false_and, Bool.or_true, Bool.true_or, Bool.or_false, Bool.false_or, Bool.not_true, Bool.not_false, if_true, if_false, beq_self_eq_true, wrap_i64_of, wrap_u64_of, wrap_i32_of, wrap_u32_of, wrap_u8_of, tdiv_of, tmod_of, Int.toNat_natCast, List.take_length, List.drop_zero, or_true, true_or, or_false, false_or, or_self, ]
    rw [hrec _ ⟨rfl, rfl, rfl, k + 1, by simp only; omega, by omega⟩ (by simp only; omega)]
  · have hle : ¬ 1 < m / 2 ^ k := fun h => hlt (hsh.1 h)
    have hke : k = m.log2 := by omega
    have sb := sign_bit n' hn
    have a := Nat.log2_self_le h0
    obtain ⟨z1, z2⟩ := sub_size h0 52 (by omega)
    have hx := near_exact (b := 1023) (f := 52) h0 (by omega)
    have hlt52 := nearN_lt52 (m := m) (by omega)
    rw [← hke] at a z1 z2 hx
    have e1 : shlI .u64 ((k : Int) + 1023) 52 = (((k + 1023) * 4503599627370496 : Nat) : Int) := by
      rw [show ((k : Int) + 1023) = ((k + 1023 : Nat) : Int) from rfl]; exact shl_52 _ (by omega)
    have e2 := shl_one k (by omega)
    have e3 : (52 : Int) - (k : Int) = ((52 - k : Nat) : Int) := by omega
    have e4 : (m : Int) - ((2 ^ k : Nat) : Int) = ((m - 2 ^ k : Nat) : Int) := by omega
    have e5 : (m - 2 ^ k) * 2 ^ (52 - k) = m * 2 ^ (52 - k) - 4503599627370496 := by
      rw [Nat.sub_mul, ← Nat.pow_add, show k + (52 - k) = 52 by omega]
    have e6 : shlI .u64 ((m - 2 ^ k : Nat) : Int) ((52 - k : Nat) : Int) = ((m * 2 ^ (52 - k) - 4503599627370496 : Nat) : Int) := by
      rw [shl_nat _ _ (by omega) (by rw [e5]; omega), e5]
    have e7 : bitsI .or .u64 (((k + 1023) * 4503599627370496 : Nat) : Int) ((m * 2 ^ (52 - k) - 4503599627370496 : Nat) : Int) = ((nearN m 52 1023 : Nat) : Int) := by
      rw [or_u64 52 _ _ (by omega) (by omega) (by omega) (by omega), hx]; omega
    have e8 : bitsI .and .u64 (doubleR v) 9223372036854775807 = ((nearN m 52 1023 : Nat) : Int) := by
      rw [doubleR_def]; simp only [doubleD, doubleN, ← hm]
      rw [and_u64_63 _ (by split <;> omega)]
      split <;> omega
    have e9 : IntKind.wrap .u64 ((m - 2 ^ k : Nat) : Int) = ((m - 2 ^ k : Nat) : Int) := by
      have : m - 2 ^ k ≤ 8388608 := Nat.le_trans (Nat.sub_le _ _) hs
      generalize m - 2 ^ k = q at *
      exact wrap_u64_of _ (by omega)
    rw [wrap_i64_of n' (by omega)] at sb
    clear hrec hsh
    simp (disch := omega) only [dt, df, it, iF, bt, bf, cond_true, cond_false, map_some', chk_t, Bool.and_true, Bool.true_and, Bool.and_false, Bool.false_and, Bool.or_true, Bool.true_or, Bool.or_false, Bool.false_or, Bool.not_true, Bool.not_false, if_true, if_false, beq_self_eq_true, wrap_i64_of, wrap_u64_of, wrap_i32_of, wrap_u32_of, wrap_u8_of, tdiv_of, tmod_of, Int.toNat_natCast, List.take_length, List.drop_zero, or_true, true_or, or_false, false_or, or_self, e1, e2, e3, e4, e9, e6, e7, e8, sb]

theorem sh_law2_CastSmall_eq (N : Nat) (hN : 100 < N) (n : Int) (hn : -2147483648 ≤ n ∧ n ≤ 2147483647) : sh_law2_CastSmall N n = some (.bool true, []) := by
  show sa_law2_CastSmall N n (fun z => iterL N (B_law2_CastSmall_0 N) z) = _
  obtain ⟨t1, t2, t3⟩ := tdiv256 n
  have w0 : IntKind.wrap .i64 n = n := wrap_i64_of _ (by omega)
  have w1 : IntKind.wrap .i64 (Int.tdiv n 256) = Int.tdiv n 256 := wrap_i64_of _ (by omega)
  simp only [sa_law2_CastSmall, w0, w1]
  generalize Int.tdiv n 256 = v at *
  have hv : v.natAbs ≤ 8388608 := by omega
  have a1 := widen_float v hv
  have w2 : IntKind.wrap .i64 (0 - v) = 0 - v := wrap_i64_of _ (by omega)
  rw [a1, w2]
  by_cases h0 : v = 0
  · subst h0
    rw [double_zero, float_zero]; rfl
  · have a2 := double_neg v h0 (by omega)
    have a3 := float_neg v h0 (by omega)
    rw [a2, a3]
    by_cases hneg : v < 0
    · have hl := small_loop N hN n v v.natAbs hn rfl (by omega) hv
      rw [show ((v.natAbs : Nat) : Int) = 0 - v by omega] at hl
      simp (disch := omega) only [dt, df, it, iF, bt, bf, cond_true, cond_false, map_some', chk_t, Bool.and_true, Bool.true_and, Bool.and_false, Bool.false_and, Bool.or_true, Bool.true_or, Bool.or_false, Bool.false_or, Bool.not_true, Bool.not_false, if_true, if_false, beq_self_eq_true, wrap_i64_of, wrap_u64_of, wrap_i32_of, wrap_u32_of, wrap_u8_of, tdiv_of, tmod_of, Int.toNat_natCast, List.take_length, List.drop_zero, or_true, true_or, or_false, false_or, or_self, hl]
    · have hl := small_loop N hN n v v.natAbs hn rfl (by omega) hv
      rw [show ((v.natAbs : Nat) : Int) = v by omega] at hl
      simp (disch := omega) only [dt, df, it, iF, bt, bf, cond_true, cond_false, map_some', chk_t, Bool.and_true, Bool.true_and, Bool.and_false, Bool.false_and, Bool.or_true, Bool.true_or, Bool.or_false, Bool.false_or, Bool.not_true, Bool.not_false, if_true, if_false, beq_self_eq_true, wrap_i64_of, wrap_u64_of, wrap_i32_of, wrap_u32_of, wrap_u8_of, tdiv_of, tmod_of, Int.toNat_natCast, List.take_length, List.drop_zero, or_true, true_or, or_false, false_or, or_self, hl]
end Go.Proofs.Ytmiclamhiohemaa
