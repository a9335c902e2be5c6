/-
  Narrow binary numbers, widened.
-/
import Derived.Test.YtmiclamhiohemaaCsRest
namespace Go.Proofs.Ytmiclamhiohemaa
open Go.AM
set_option autoImplicit false
set_option linter.unusedSimpArgs false
set_option linter.unusedVariables false

/-- the sign, the exponent, the fraction -/
theorem wide_parts (s E F : Nat) (hs : s ≤ 1) (hE : E < 2048) (hF : F < 4503599627370496) :
    bitsI .or .u64 (bitsI .or .u64 ((s * 9223372036854775808 : Nat) : Int) ((E * 4503599627370496 : Nat) : Int)) ((F : Nat) : Int) = ((s * 9223372036854775808 + (E * 4503599627370496 + F) : Nat) : Int) := by
  rw [or_u64 63 ((s * 9223372036854775808 : Nat) : Int) _ (by omega) (by omega) (by omega) (by omega), or_u64 52 _ _ (by omega) (by omega) (by omega) (by omega)]
  omega
theorem wide_parts' (s E F : Nat) (hs : s ≤ 1) (hE : E < 2048) (hF : F < 4503599627370496) :
    bitsI .or .u64 (bitsI .or .u64 ((s * 9223372036854775808 : Nat) : Int) ((E * 4503599627370496 : Nat) : Int)) ((F : Nat) : Int) = ((s * 9223372036854775808 + (E * 4503599627370496 + F) : Nat) : Int) := wide_parts s E F hs hE hF

theorem shl_63 (s : Nat) (hs : s ≤ 1) : shlI .u64 (s : Int) 63 = ((s * 9223372036854775808 : Nat) : Int) := shl_nat s 63 (by omega) (by omega)
theorem shl_52 (E : Nat) (h : E < 2048) : shlI .u64 (E : Int) 52 = ((E * 4503599627370496 : Nat) : Int) := shl_nat E 52 (by omega) (by omega)
theorem shl_29 (m : Nat) (h : m < 8388608) : shlI .u64 (m : Int) 29 = ((m * 536870912 : Nat) : Int) := shl_nat m 29 (by omega) (by omega)

structure Wd (n s e m : Nat) : Prop where
  hs : s = n / 2147483648
  he : e = n / 8388608 % 256
  hm : m = n % 8388608
  s1 : s ≤ 1
  e1 : e < 256
  m1 : m < 8388608
  w : widenN n = s * 9223372036854775808 + (if e = 255 then 9218868437227405312 + m * 536870912 else if e = 0 then (if m = 0 then 0 else (m.log2 + 874) * 4503599627370496 + (m * 2 ^ (52 - m.log2) - 4503599627370496)) else (e + 896) * 4503599627370496 + m * 536870912)

theorem wd (n : Nat) (h : n < 4294967296) : Wd n (n / 2147483648) (n / 8388608 % 256) (n % 8388608) := by
  refine ⟨rfl, rfl, rfl, by omega, by omega, by omega, ?_⟩
  unfold widenN wideN
  rw [show n % 2147483648 / 8388608 = n / 8388608 % 256 by omega, show n % 2147483648 % 8388608 = n % 8388608 by omega]

theorem log2_le_22 {m : Nat} (h : m < 8388608) (hm : m ≠ 0) : m.log2 ≤ 22 := by
  have hp := Nat.log2_self_le hm
  rcases Nat.lt_or_ge 22 m.log2 with h' | h'
  · have : 2 ^ 23 ≤ 2 ^ m.log2 := Nat.pow_le_pow_right (by omega) h'
    omega
  · exact h'

theorem sub_size {m : Nat} (hm : m ≠ 0) (f : Nat) (h : m.log2 ≤ f) : 2 ^ f ≤ m * 2 ^ (f - m.log2) ∧ m * 2 ^ (f - m.log2) < 2 ^ (f + 1) := by
  have hf := fracN_size (f := f) hm
  have e : fracN m f = m * 2 ^ (f - m.log2) := by unfold fracN; rw [if_pos h]
  rw [e] at hf
  exact ⟨hf.1, hf.2.2 h⟩

theorem wide_start (n : Nat) (hn : n < 4294967296) : shrI .u32 (n : Int) 31 = ((n / 2147483648 : Nat) : Int) ∧ bitsI .and .u32 (shrI .u32 (n : Int) 23) 255 = ((n / 8388608 % 256 : Nat) : Int) ∧ bitsI .and .u32 (n : Int) 8388607 = ((n % 8388608 : Nat) : Int) := by
  have e1 : shrI .u32 (n : Int) 31 = ((n / 2147483648 : Nat) : Int) := by rw [shr_u32 _ _ (by omega)]; rfl
  have e2 : shrI .u32 (n : Int) 23 = ((n / 8388608 : Nat) : Int) := by rw [shr_u32 _ _ (by omega)]; rfl
  refine ⟨e1, ?_, ?_⟩
  · rw [e2, and_u32_255 _ (by omega)]; rfl
  · rw [and_u32_23 _ (by omega)]; rfl

theorem sh_cast_Widen_eq (N : Nat) (p : Int) (hp : 0 ≤ p ∧ p ≤ 4294967295) : sh_cast_Widen N p = some (.int .u64 (widenR p), []) := by
  obtain ⟨n, rfl⟩ : ∃ n : Nat, p = (n : Int) := ⟨p.toNat, by omega⟩
  obtain ⟨b1, b2, b3⟩ := wide_start n (by omega)
  have W := wd n (by omega)
  show sa_cast_Widen N n = _
  simp only [sa_cast_Widen, widenR_def, widenD, Int.toNat_natCast, b1, b2, b3]
  rw [W.w]
  obtain ⟨-, -, -, s1, e1, m1, -⟩ := W
  generalize n / 2147483648 = s at *
  generalize n / 8388608 % 256 = e at *
  generalize n % 8388608 = m at *
  clear b1 b2 b3
  have hS := shl_63 s s1
  have hM := shl_29 m m1
  by_cases h255 : e = 255
  · subst h255
    simp (disch := omega) only [dt, df, it, iF, bt, bf, cond_true, cond_false, map_some', chk_t, Bool.and_true, Bool.true_and, Bool.and_false, Bool.false_and, Bool.or_true, Bool.true_or, Bool.or_false, Bool.false_or, Bool.not_true, Bool.not_false, if_true, if_false, beq_self_eq_true, wrap_i64_of, wrap_u64_of, wrap_i32_of, wrap_u32_of, wrap_u8_of, tdiv_of, tmod_of, Int.toNat_natCast, List.take_length, List.drop_zero, or_true, true_or, or_false, false_or, or_self, hS, hM]
    rw [show (9218868437227405312 : Int) = ((2047 * 4503599627370496 : Nat) : Int) from rfl, wide_parts s 2047 _ s1 (by omega) (by omega)]
  · by_cases h0 : e = 0
    · subst h0
      by_cases hm0 : m = 0
      · subst hm0
        simp (disch := omega) only [dt, df, it, iF, bt, bf, cond_true, cond_false, map_some', chk_t, Bool.and_true, Bool.true_and, Bool.and_false, Bool.false_and, Bool.or_true, Bool.true_or, Bool.or_false, Bool.false_or, Bool.not_true, Bool.not_false, if_true, if_false, beq_self_eq_true, wrap_i64_of, wrap_u64_of, wrap_i32_of, wrap_u32_of, wrap_u8_of, tdiv_of, tmod_of, Int.toNat_natCast, List.take_length, List.drop_zero, or_true, true_or, or_false, false_or, or_self, hS]
        simp
      · have hl := lenR_nat m hm0
        have h22 := log2_le_22 m1 hm0
        obtain ⟨z1, z2⟩ := sub_size hm0 23 (by omega)
        have z3 : m * 2 ^ (52 - m.log2) = m * 2 ^ (23 - m.log2) * 536870912 := by
          rw [show 52 - m.log2 = (23 - m.log2) + 29 by omega, Nat.pow_add, Nat.mul_assoc]
        generalize m.log2 = k at *
        have e1 : (k : Int) + 1 - 1 = (k : Int) := by omega
        have e2 : (23 : Int) - (k : Int) = ((23 - k : Nat) : Int) := by omega
        have e3 : shlI .u64 (m : Int) ((23 - k : Nat) : Int) = ((m * 2 ^ (23 - k) : Nat) : Int) := shl_nat m (23 - k) (by omega) (by omega)
        have e4 : (k : Int) - 23 + 1 - 127 + 1023 = ((k + 874 : Nat) : Int) := by omega
        have e5 := shl_52 (k + 874) (by omega)
        simp (disch := omega) only [dt, df, it, iF, bt, bf, cond_true, cond_false, map_some', chk_t, Bool.and_true, Bool.true_and, Bool.and_false, Bool.false_and, Bool.or_true, Bool.true_or, Bool.or_false, Bool.false_or, Bool.not_true, Bool.not_false, if_true, if_false, beq_self_eq_true, wrap_i64_of, wrap_u64_of, wrap_i32_of, wrap_u32_of, wrap_u8_of, tdiv_of, tmod_of, Int.toNat_natCast, List.take_length, List.drop_zero, or_true, true_or, or_false, false_or, or_self, hS, hl, e1, e2, e3, e4, e5]
        have e6 : bitsI .and .u64 ((m * 2 ^ (23 - k) : Nat) : Int) 8388607 = ((m * 2 ^ (23 - k) - 8388608 : Nat) : Int) := by
          rw [and_u64_23 _ (by omega)]; omega
        rw [e6, shl_29 _ (by omega), wide_parts s (k + 874) _ s1 (by omega) (by omega), z3, show (m * 2 ^ (23 - k) - 8388608) * 536870912 = m * 2 ^ (23 - k) * 536870912 - 4503599627370496 by omega]
    · have e4 : (e : Int) - 127 + 1023 = ((e + 896 : Nat) : Int) := by omega
      have e5 := shl_52 (e + 896) (by omega)
      simp (disch := omega) only [dt, df, it, iF, bt, bf, cond_true, cond_false, map_some', chk_t, Bool.and_true, Bool.true_and, Bool.and_false, Bool.false_and, Bool.or_true, Bool.true_or, Bool.or_false, Bool.false_or, Bool.not_true, Bool.not_false, if_true, if_false, beq_self_eq_true, wrap_i64_of, wrap_u64_of, wrap_i32_of, wrap_u32_of, wrap_u8_of, tdiv_of, tmod_of, Int.toNat_natCast, List.take_length, List.drop_zero, or_true, true_or, or_false, false_or, or_self, hS, hM, e4, e5]
      rw [wide_parts s (e + 896) _ s1 (by omega) (by omega)]

def Fwide (x : Int × Int × Int) : V × List AObj := (.int .u64 (x.1 + (((x.2.1.toNat.log2 + 874) * 4503599627370496 + (x.2.1.toNat * 2 ^ (52 - x.2.1.toNat.log2) - 4503599627370496) : Nat) : Int)), [])

theorem sh_ref1_Widen_eq (N : Nat) (hN : 100 < N) (p : Int) (hp : 0 ≤ p ∧ p ≤ 4294967295) : sh_ref1_Widen N p = some (.int .u64 (widenR p), []) := by
  obtain ⟨n, rfl⟩ : ∃ n : Nat, p = (n : Int) := ⟨p.toNat, by omega⟩
  obtain ⟨b1, b2, b3⟩ := wide_start n (by omega)
  have W := wd n (by omega)
  show sa_ref1_Widen N n (fun z => iterL N (B_ref1_Widen_0 N) z) = _
  simp only [sa_ref1_Widen, widenR_def, widenD, Int.toNat_natCast, b1, b2, b3]
  rw [W.w]
  obtain ⟨-, -, -, s1, e1, m1, -⟩ := W
  generalize n / 2147483648 = s at *
  generalize n / 8388608 % 256 = e at *
  generalize n % 8388608 = m at *
  clear b1 b2 b3
  have hS := shl_63 s s1
  have hM := shl_29 m m1
  by_cases h255 : e = 255
  · subst h255
    simp (disch := omega) only [dt, df, it, iF, bt, bf, cond_true, cond_false, map_some', chk_t, Bool.and_true, Bool.true_and, Bool.and_false, Bool.false_and, Bool.or_true, Bool.true_or, Bool.or_false, Bool.false_or, Bool.not_true, Bool.not_false, if_true, if_false, beq_self_eq_true, wrap_i64_of, wrap_u64_of, wrap_i32_of, wrap_u32_of, wrap_u8_of, tdiv_of, tmod_of, Int.toNat_natCast, List.take_length, List.drop_zero, or_true, true_or, or_false, false_or, or_self, hS, hM]
    rw [show (9218868437227405312 : Int) = ((2047 * 4503599627370496 : Nat) : Int) from rfl, wide_parts s 2047 _ s1 (by omega) (by omega)]
  · by_cases h0 : e = 0
    · subst h0
      by_cases hm0 : m = 0
      · subst hm0
        simp (disch := omega) only [dt, df, it, iF, bt, bf, cond_true, cond_false, map_some', chk_t, Bool.and_true, Bool.true_and, Bool.and_false, Bool.false_and, Bool.or_true, Bool.true_or, Bool.or_false, Bool.false_or, Bool.not_true, Bool.not_false, if_true, if_false, beq_self_eq_true, wrap_i64_of, wrap_u64_of, wrap_i32_of, wrap_u32_of, wrap_u8_of, tdiv_of, tmod_of, Int.toNat_natCast, List.take_length, List.drop_zero, or_true, true_or, or_false, false_or, or_self, hS]
        simp
      · have h22 := log2_le_22 m1 hm0
        have main : iterL N (B_ref1_Widen_0 N) (((s * 9223372036854775808 : Nat) : Int), (m : Int), 22) = some (Fwide (((s * 9223372036854775808 : Nat) : Int), (m : Int), 22)) := by
          refine iterL_spec (fun x => x.1 = ((s * 9223372036854775808 : Nat) : Int) ∧ x.2.1 = (m : Int) ∧ ∃ k : Nat, x.2.2 = (k : Int) ∧ k ≤ 22 ∧ m.log2 ≤ k) (fun x => x.2.2.toNat) Fwide ?_ N _ ⟨rfl, rfl, 22, rfl, by omega, h22⟩ (by simp; omega)
          rintro rec ⟨_, _, _⟩ ⟨rfl, rfl, k, rfl, hk, hle⟩ hrec
          simp only at hrec ⊢
          simp only [B_ref1_Widen_0, Fwide, Int.toNat_natCast]
          rw [shr_zero_iff hm0 (by omega)]
          by_cases hlt : m.log2 < k
          · simp (disch := omega) only [dt, df, it, iF, bt, bf, cond_true, cond_false, map_some', chk_t, Bool.and_true, Bool.true_and, Bool.and_false, Bool.false_and, Bool.or_true, Bool.true_or, Bool.or_false, Bool.false_or, Bool.not_true, Bool.not_false, if_true, if_false, beq_self_eq_true, wrap_i64_of, wrap_u64_of, wrap_i32_of, wrap_u32_of, wrap_u8_of, tdiv_of, tmod_of, Int.toNat_natCast, List.take_length, List.drop_zero, or_true, true_or, or_false, false_or, or_self, ]
            rw [hrec _ ⟨rfl, rfl, k - 1, by simp only; omega, by omega, by omega⟩ (by simp only; omega)]
            rfl
          · have hee : m.log2 = k := by omega
            obtain ⟨z1, z2⟩ := sub_size hm0 52 (by omega)
            rw [hee] at z1 z2 ⊢
            have e2 : (52 : Int) - (k : Int) = ((52 - k : Nat) : Int) := by omega
            have e3 : shlI .u64 (m : Int) ((52 - k : Nat) : Int) = ((m * 2 ^ (52 - k) : Nat) : Int) := shl_nat m (52 - k) (by omega) (by omega)
            have e4 : (k : Int) - 149 + 1023 = ((k + 874 : Nat) : Int) := by omega
            have e5 := shl_52 (k + 874) (by omega)
            have e6 : ((m * 2 ^ (52 - k) : Nat) : Int) - 4503599627370496 = ((m * 2 ^ (52 - k) - 4503599627370496 : Nat) : Int) := by omega
            clear hrec
            simp (disch := omega) only [dt, df, it, iF, bt, bf, cond_true, cond_false, map_some', chk_t, Bool.and_true, Bool.true_and, Bool.and_false, Bool.false_and, Bool.or_true, Bool.true_or, Bool.or_false, Bool.false_or, Bool.not_true, Bool.not_false, if_true, if_false, beq_self_eq_true, wrap_i64_of, wrap_u64_of, wrap_i32_of, wrap_u32_of, wrap_u8_of, tdiv_of, tmod_of, Int.toNat_natCast, List.take_length, List.drop_zero, or_true, true_or, or_false, false_or, or_self, e2, e3, e4, e5, e6]
            rw [wide_parts s (k + 874) _ s1 (by omega) (by omega)]
            congr 3
        have w22 : IntKind.wrap .u64 (m : Int) = (m : Int) := wrap_u64_of _ (by omega)
        simp (disch := omega) only [dt, df, it, iF, bt, bf, cond_true, cond_false, map_some', chk_t, Bool.and_true, Bool.true_and, Bool.and_false, Bool.false_and, Bool.or_true, Bool.true_or, Bool.or_false, Bool.false_or, Bool.not_true, Bool.not_false, if_true, if_false, beq_self_eq_true, wrap_i64_of, wrap_u64_of, wrap_i32_of, wrap_u32_of, wrap_u8_of, tdiv_of, tmod_of, Int.toNat_natCast, List.take_length, List.drop_zero, or_true, true_or, or_false, false_or, or_self, hS, main]
        simp [Fwide]
    · have e4 : (e : Int) - 127 + 1023 = ((e + 896 : Nat) : Int) := by omega
      have e5 := shl_52 (e + 896) (by omega)
      simp (disch := omega) only [dt, df, it, iF, bt, bf, cond_true, cond_false, map_some', chk_t, Bool.and_true, Bool.true_and, Bool.and_false, Bool.false_and, Bool.or_true, Bool.true_or, Bool.or_false, Bool.false_or, Bool.not_true, Bool.not_false, if_true, if_false, beq_self_eq_true, wrap_i64_of, wrap_u64_of, wrap_i32_of, wrap_u32_of, wrap_u8_of, tdiv_of, tmod_of, Int.toNat_natCast, List.take_length, List.drop_zero, or_true, true_or, or_false, false_or, or_self, hS, hM, e4, e5]
      rw [wide_parts s (e + 896) _ s1 (by omega) (by omega)]
end Go.Proofs.Ytmiclamhiohemaa
