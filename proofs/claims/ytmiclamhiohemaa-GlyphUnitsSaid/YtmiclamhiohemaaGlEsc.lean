/-
  A cursor's escapes.
-/
import Derived.Test.YtmiclamhiohemaaGlUnit
namespace Go.Proofs.Ytmiclamhiohemaa
open Go.AM
set_option autoImplicit false
set_option linter.unusedSimpArgs false
set_option linter.unusedVariables false

def tab3 (n : Nat) : Bool :=
  let k := indexB [34, 92, 98, 102, 110, 114, 116] (n : Int)
  if 0 ≤ k then decide (k < 7) && decide (meantB n = some (([34, 92, 8, 12, 10, 13, 9] : List UInt8).getD k.toNat 0))
  else if n = 47 then decide (meantB n = some 47) else decide (meantB n = none)
theorem tab3_ok : (List.range 256).all tab3 = true := by kernel_rfl

theorem gly_len (r : Nat) : (gly r).length ≤ 4 := by
  unfold gly
  repeat' split
  all_goals simp

theorem pair_eq (u v : Nat) (hu : 55296 ≤ u) (hu2 : u < 56320) (hv : v < 65536) :
    IntKind.wrap .u32 (IntKind.wrap .u32 (65536 + (shlI .u32 (IntKind.wrap .u32 ((u : Int) - 55296)) 10)) + (bitsI .and .u32 (v : Int) 1023)) = ((65536 + (u - 55296) * 1024 + v % 1024 : Nat) : Int) := by
  have e1 : IntKind.wrap .u32 ((u : Int) - 55296) = ((u - 55296 : Nat) : Int) := by rw [wrap_u32_of _ (by omega)]; omega
  have e2 : shlI .u32 ((u - 55296 : Nat) : Int) 10 = (((u - 55296) * 1024 : Nat) : Int) := by
    rw [show (10 : Int) = ((10 : Nat) : Int) by rfl, shlI_nat .u32 rfl _ 10 (by decide)]
    show (((u - 55296) * 1024 % 2 ^ 32 : Nat) : Int) = _
    rw [Nat.mod_eq_of_lt (by omega)]
  have e3 : bitsI .and .u32 (v : Int) 1023 = ((v % 1024 : Nat) : Int) := and_u32 10 (by omega) _ (by omega)
  have hu3 : u - 55296 < 1024 := by omega
  have e4 : IntKind.wrap .u32 (65536 + (((u - 55296) * 1024 : Nat) : Int)) = 65536 + (((u - 55296) * 1024 : Nat) : Int) := wrap_u32_of _ (by omega)
  rw [e1, e2, e3, e4, wrap_u32_of _ (by omega)]
  omega

set_option maxRecDepth 100000 in
theorem sh_glyph_cursor_escaped_eq (N : Nat) (s : List UInt8) (n : Int) (o : List UInt8) (b : Bool) (h0 : 0 ≤ n) (hn : n ≤ s.length) (hs : s.length ≤ 1000) (ho : o.length ≤ 5000) :
    sh_glyph_cursor_escaped N s n o b = some (.tup [], [some [.str s, .int .i64 (escAt s n), .bn 62 5, .sl .u8 true (escOut s n o), .bool (escBad s n b)]]) := by
  obtain ⟨r1, r2⟩ := next_range s n
  obtain ⟨c, hc⟩ : ∃ c : Nat, nextC s n = (c : Int) := ⟨(nextC s n).toNat, by omega⟩
  have ht := all_bytes tab3 tab3_ok c (by omega)
  simp only [tab3] at ht
  have hm := nextAt_le s n hn
  have hm0 := nextAt_ge s n
  simp only [sh_glyph_cursor_escaped, sa_glyph_cursor_escaped, escAt, escOut, escBad, escR, hc, Int.toNat_natCast]
  obtain ⟨m, hmm⟩ : ∃ m, nextAt s n = m := ⟨_, rfl⟩
  rw [hmm] at hm hm0
  simp only [hmm]
  by_cases h1 : (0 : Int) ≤ indexB [34, 92, 98, 102, 110, 114, 116] (c : Int)
  · rw [if_pos h1] at ht
    simp only [Bool.and_eq_true, decide_eq_true_eq] at ht
    obtain ⟨ht1, ht2⟩ := ht
    have h7 : ([34, 92, 8, 12, 10, 13, 9] : List UInt8).length = 7 := rfl
    simp only [ht2]
    simp (disch := omega) only [dt, df, it, iF, bt, bf, cond_true, cond_false, map_some', chk_t, Bool.and_true, Bool.true_and, Bool.and_false, Bool.false_and, Bool.or_true, Bool.true_or, Bool.or_false, Bool.false_or, Bool.not_true, Bool.not_false, if_true, if_false, beq_self_eq_true, wrap_i64_of, wrap_u64_of, wrap_i32_of, wrap_u32_of, wrap_u8_of, tdiv_of, tmod_of, Int.toNat_natCast, List.take_length, List.drop_zero, or_true, true_or, or_false, false_or, or_self, h1, h7, UInt8.ofNat_toNat]
    simp [nextBad, chk_t]
  rw [if_neg h1] at ht
  by_cases h2 : c = 47
  · subst h2
    rw [if_pos rfl] at ht
    simp only [decide_eq_true_eq] at ht
    simp only [ht]
    simp (disch := omega) only [dt, df, it, iF, bt, bf, cond_true, cond_false, map_some', chk_t, Bool.and_true, Bool.true_and, Bool.and_false, Bool.false_and, Bool.or_true, Bool.true_or, Bool.or_false, Bool.false_or, Bool.not_true, Bool.not_false, if_true, if_false, beq_self_eq_true, wrap_i64_of, wrap_u64_of, wrap_i32_of, wrap_u32_of, wrap_u8_of, tdiv_of, tmod_of, Int.toNat_natCast, List.take_length, List.drop_zero, or_true, true_or, or_false, false_or, or_self, h1]
    simp [nextBad, chk_t]
  rw [if_neg h2] at ht
  simp only [decide_eq_true_eq] at ht
  simp only [ht]
  by_cases h3 : ¬ c = 117
  · simp (disch := omega) only [dt, df, it, iF, bt, bf, cond_true, cond_false, map_some', chk_t, Bool.and_true, Bool.true_and, Bool.and_false, Bool.false_and, Bool.or_true, Bool.true_or, Bool.or_false, Bool.false_or, Bool.not_true, Bool.not_false, if_true, if_false, beq_self_eq_true, wrap_i64_of, wrap_u64_of, wrap_i32_of, wrap_u32_of, wrap_u8_of, tdiv_of, tmod_of, Int.toNat_natCast, List.take_length, List.drop_zero, or_true, true_or, or_false, false_or, or_self, h1]
    simp [chk_t]
  obtain rfl : c = 117 := by omega
  obtain ⟨u1, u2, u3, u4⟩ := unit_range s m
  obtain ⟨u, hu⟩ : ∃ u : Nat, unitC s m = (u : Int) := ⟨(unitC s m).toNat, by omega⟩
  obtain ⟨a, ha⟩ : ∃ a, unitAt s m = a := ⟨_, rfl⟩
  rw [ha] at u3 u4
  have u5 := u4 hm
  have gl := gly_len u
  simp only [hu, ha, Int.toNat_natCast, putG]
  by_cases h4 : ¬ 55296 ≤ u
  · have h4' : ¬ (55296 ≤ u ∧ u < 56320 ∧ prefixB (s.drop a.toNat) [92, 117] = true) := by omega
    rw [if_neg (show ¬ (117 : Nat) ≠ 117 by decide), if_neg h4', if_neg (by omega)]
    simp (disch := omega) only [dt, df, it, iF, bt, bf, cond_true, cond_false, map_some', chk_t, Bool.and_true, Bool.true_and, Bool.and_false, Bool.false_and, Bool.or_true, Bool.true_or, Bool.or_false, Bool.false_or, Bool.not_true, Bool.not_false, if_true, if_false, beq_self_eq_true, wrap_i64_of, wrap_u64_of, wrap_i32_of, wrap_u32_of, wrap_u8_of, tdiv_of, tmod_of, Int.toNat_natCast, List.take_length, List.drop_zero, or_true, true_or, or_false, false_or, or_self, h1]
    simp [nextBad, unitBad, Bool.or_assoc, chk_t]
  have h4 : 55296 ≤ u := by omega
  by_cases h5 : ¬ u < 56320
  · have h4' : ¬ (55296 ≤ u ∧ u < 56320 ∧ prefixB (s.drop a.toNat) [92, 117] = true) := by omega
    rw [if_neg (show ¬ (117 : Nat) ≠ 117 by decide), if_neg h4']
    by_cases h6 : u < 57344
    · rw [if_pos ⟨h4, h6⟩]
      simp (disch := omega) only [dt, df, it, iF, bt, bf, cond_true, cond_false, map_some', chk_t, Bool.and_true, Bool.true_and, Bool.and_false, Bool.false_and, Bool.or_true, Bool.true_or, Bool.or_false, Bool.false_or, Bool.not_true, Bool.not_false, if_true, if_false, beq_self_eq_true, wrap_i64_of, wrap_u64_of, wrap_i32_of, wrap_u32_of, wrap_u8_of, tdiv_of, tmod_of, Int.toNat_natCast, List.take_length, List.drop_zero, or_true, true_or, or_false, false_or, or_self, h1]
      simp [chk_t]
    · rw [if_neg (by omega)]
      simp (disch := omega) only [dt, df, it, iF, bt, bf, cond_true, cond_false, map_some', chk_t, Bool.and_true, Bool.true_and, Bool.and_false, Bool.false_and, Bool.or_true, Bool.true_or, Bool.or_false, Bool.false_or, Bool.not_true, Bool.not_false, if_true, if_false, beq_self_eq_true, wrap_i64_of, wrap_u64_of, wrap_i32_of, wrap_u32_of, wrap_u8_of, tdiv_of, tmod_of, Int.toNat_natCast, List.take_length, List.drop_zero, or_true, true_or, or_false, false_or, or_self, h1]
      simp [nextBad, unitBad, Bool.or_assoc, chk_t]
  have h5 : u < 56320 := by omega
  cases hp : prefixB (s.drop a.toNat) [92, 117] with
  | false =>
    have h4' : ¬ (55296 ≤ u ∧ u < 56320 ∧ false = true) := by simp
    rw [if_neg (show ¬ (117 : Nat) ≠ 117 by decide), if_neg h4', if_pos ⟨h4, by omega⟩]
    simp (disch := omega) only [dt, df, it, iF, bt, bf, cond_true, cond_false, map_some', chk_t, Bool.and_true, Bool.true_and, Bool.and_false, Bool.false_and, Bool.or_true, Bool.true_or, Bool.or_false, Bool.false_or, Bool.not_true, Bool.not_false, if_true, if_false, beq_self_eq_true, wrap_i64_of, wrap_u64_of, wrap_i32_of, wrap_u32_of, wrap_u8_of, tdiv_of, tmod_of, Int.toNat_natCast, List.take_length, List.drop_zero, or_true, true_or, or_false, false_or, or_self, h1, hp]
    simp [chk_t]
  | true =>
    rw [if_neg (show ¬ (117 : Nat) ≠ 117 by decide), if_pos ⟨h4, h5, rfl⟩]
    have ew : IntKind.wrap .i64 (a + 2) = a + 2 := wrap_i64_of _ (by omega)
    obtain ⟨v1, v2, -, -⟩ := unit_range s (a + 2)
    obtain ⟨v, hv⟩ : ∃ v : Nat, unitC s (a + 2) = (v : Int) := ⟨(unitC s (a + 2)).toNat, by omega⟩
    have pe := pair_eq u v h4 h5 (by omega)
    have gp := gly_len (65536 + (u - 55296) * 1024 + v % 1024)
    simp only [ew, hv, pe, Int.toNat_natCast]
    by_cases h6 : v < 56320
    · simp (disch := omega) only [dt, df, it, iF, bt, bf, cond_true, cond_false, map_some', chk_t, Bool.and_true, Bool.true_and, Bool.and_false, Bool.false_and, Bool.or_true, Bool.true_or, Bool.or_false, Bool.false_or, Bool.not_true, Bool.not_false, if_true, if_false, beq_self_eq_true, wrap_i64_of, wrap_u64_of, wrap_i32_of, wrap_u32_of, wrap_u8_of, tdiv_of, tmod_of, Int.toNat_natCast, List.take_length, List.drop_zero, or_true, true_or, or_false, false_or, or_self, h1, hp]
      simp [chk_t]
    · by_cases h7 : 57344 ≤ v
      · simp (disch := omega) only [dt, df, it, iF, bt, bf, cond_true, cond_false, map_some', chk_t, Bool.and_true, Bool.true_and, Bool.and_false, Bool.false_and, Bool.or_true, Bool.true_or, Bool.or_false, Bool.false_or, Bool.not_true, Bool.not_false, if_true, if_false, beq_self_eq_true, wrap_i64_of, wrap_u64_of, wrap_i32_of, wrap_u32_of, wrap_u8_of, tdiv_of, tmod_of, Int.toNat_natCast, List.take_length, List.drop_zero, or_true, true_or, or_false, false_or, or_self, h1, hp]
        simp [chk_t]
      · simp (disch := omega) only [dt, df, it, iF, bt, bf, cond_true, cond_false, map_some', chk_t, Bool.and_true, Bool.true_and, Bool.and_false, Bool.false_and, Bool.or_true, Bool.true_or, Bool.or_false, Bool.false_or, Bool.not_true, Bool.not_false, if_true, if_false, beq_self_eq_true, wrap_i64_of, wrap_u64_of, wrap_i32_of, wrap_u32_of, wrap_u8_of, tdiv_of, tmod_of, Int.toNat_natCast, List.take_length, List.drop_zero, or_true, true_or, or_false, false_or, or_self, h1, hp]
        simp [nextBad, unitBad, Bool.or_assoc, chk_t]
end Go.Proofs.Ytmiclamhiohemaa
