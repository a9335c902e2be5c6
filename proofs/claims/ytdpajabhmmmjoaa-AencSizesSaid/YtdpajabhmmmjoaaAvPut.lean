/-
  How a code point is written.
-/
import Derived.Test.YtdpajabhmmmjoaaAvCode
import Derived.Test.YtdpajabhmmmjoaaCsArith
namespace Go.Proofs.Ytdpajabhmmmjoaa
open Go.AM
set_option autoImplicit false
set_option linter.unusedSimpArgs false
set_option linter.unusedVariables false

theorem sh_glyph_tail_eq (N : Nat) (r k : Int) (hr : 0 ≤ r ∧ r ≤ 4294967295) (hk : 0 ≤ k ∧ k ≤ 32) : sh_glyph_tail N r k = some (.int .u8 (tailG r k), []) := by
  obtain ⟨p, rfl⟩ : ∃ p : Nat, r = (p : Int) := ⟨r.toNat, by omega⟩
  obtain ⟨j, rfl⟩ : ∃ j : Nat, k = (j : Int) := ⟨k.toNat, by omega⟩
  have e1 := shrI_nat .u32 p j (by show j ≤ 32; omega)
  have hle : p / 2 ^ j ≤ p := Nat.div_le_self _ _
  simp only [sh_glyph_tail, sa_glyph_tail, tailG, Int.toNat_natCast, e1]
  generalize p / 2 ^ j = q at hle
  have e2 : bitsI .and .u32 (q : Int) 63 = ((q % 64 : Nat) : Int) := and_u32 6 (by omega) _ (by omega)
  have e3 : bitsI .or .u32 128 ((q % 64 : Nat) : Int) = 128 + ((q % 64 : Nat) : Int) := or_u32 6 128 _ (by omega) (by decide) (by omega) (by omega)
  simp (disch := omega) only [dt, df, it, iF, bt, bf, cond_true, cond_false, map_some', chk_t, Bool.and_true, Bool.true_and, Bool.and_false, Bool.false_and, Bool.or_true, Bool.true_or, Bool.or_false, Bool.false_or, Bool.not_true, Bool.not_false, if_true, if_false, beq_self_eq_true, wrap_i64_of, wrap_u64_of, wrap_i32_of, wrap_u32_of, wrap_u8_of, tdiv_of, tmod_of, Int.toNat_natCast, List.take_length, List.drop_zero, or_true, true_or, or_false, false_or, or_self, e2, e3]
  rfl

theorem sh_glyph_Put_eq (N : Nat) (r : Int) (hr : 0 ≤ r ∧ r ≤ 4294967295) (hN : (r < 65536 ∧ (r < 55296 ∨ 57344 ≤ r)) ∨ 0 < N) : sh_glyph_Put N r = some (.str (putG r), []) := by
  obtain ⟨p, rfl⟩ : ∃ p : Nat, r = (p : Int) := ⟨r.toNat, by omega⟩
  have s6 : shrI .u32 (p : Int) 6 = ((p / 64 : Nat) : Int) := shrI_nat .u32 p 6 (by decide)
  have s12 : shrI .u32 (p : Int) 12 = ((p / 4096 : Nat) : Int) := shrI_nat .u32 p 12 (by decide)
  have s18 : shrI .u32 (p : Int) 18 = ((p / 262144 : Nat) : Int) := shrI_nat .u32 p 18 (by decide)
  have t0 : tailG (p : Int) 0 = ((128 + p % 64 : Nat) : Int) := by simp [tailG]
  have t6 : tailG (p : Int) 6 = ((128 + p / 64 % 64 : Nat) : Int) := by simp [tailG]
  have t12 : tailG (p : Int) 12 = ((128 + p / 4096 % 64 : Nat) : Int) := by simp [tailG]
  simp only [sh_glyph_Put, sa_glyph_Put, putG, Int.toNat_natCast, gly, s6, s12, s18, t0, t6, t12]
  by_cases h1 : p < 128
  · simp (disch := omega) only [dt, df, it, iF, bt, bf, cond_true, cond_false, map_some', chk_t, Bool.and_true, Bool.true_and, Bool.and_false, Bool.false_and, Bool.or_true, Bool.true_or, Bool.or_false, Bool.false_or, Bool.not_true, Bool.not_false, if_true, if_false, beq_self_eq_true, wrap_i64_of, wrap_u64_of, wrap_i32_of, wrap_u32_of, wrap_u8_of, tdiv_of, tmod_of, Int.toNat_natCast, List.take_length, List.drop_zero, or_true, true_or, or_false, false_or, or_self, ]
  by_cases h2 : p < 2048
  · have e : bitsI .or .u32 192 ((p / 64 : Nat) : Int) = ((192 + p / 64 : Nat) : Int) := (or_u32 6 192 _ (by omega) (by decide) (by omega) (by omega)).trans (by omega)
    simp (disch := omega) only [dt, df, it, iF, bt, bf, cond_true, cond_false, map_some', chk_t, Bool.and_true, Bool.true_and, Bool.and_false, Bool.false_and, Bool.or_true, Bool.true_or, Bool.or_false, Bool.false_or, Bool.not_true, Bool.not_false, if_true, if_false, beq_self_eq_true, wrap_i64_of, wrap_u64_of, wrap_i32_of, wrap_u32_of, wrap_u8_of, tdiv_of, tmod_of, Int.toNat_natCast, List.take_length, List.drop_zero, or_true, true_or, or_false, false_or, or_self, e]
  have hc : ∀ hi : 1114111 < p ∨ (55296 ≤ p ∧ p < 57344), 0 < N := by omega
  by_cases h3 : 1114111 < p
  · have := hc (.inl h3)
    simp (disch := omega) only [dt, df, it, iF, bt, bf, cond_true, cond_false, map_some', chk_t, Bool.and_true, Bool.true_and, Bool.and_false, Bool.false_and, Bool.or_true, Bool.true_or, Bool.or_false, Bool.false_or, Bool.not_true, Bool.not_false, if_true, if_false, beq_self_eq_true, wrap_i64_of, wrap_u64_of, wrap_i32_of, wrap_u32_of, wrap_u8_of, tdiv_of, tmod_of, Int.toNat_natCast, List.take_length, List.drop_zero, or_true, true_or, or_false, false_or, or_self, ]
    rfl
  by_cases h4 : 55296 ≤ p ∧ p < 57344
  · have := hc (.inr h4)
    simp (disch := omega) only [dt, df, it, iF, bt, bf, cond_true, cond_false, map_some', chk_t, Bool.and_true, Bool.true_and, Bool.and_false, Bool.false_and, Bool.or_true, Bool.true_or, Bool.or_false, Bool.false_or, Bool.not_true, Bool.not_false, if_true, if_false, beq_self_eq_true, wrap_i64_of, wrap_u64_of, wrap_i32_of, wrap_u32_of, wrap_u8_of, tdiv_of, tmod_of, Int.toNat_natCast, List.take_length, List.drop_zero, or_true, true_or, or_false, false_or, or_self, ]
    rfl
  by_cases h5 : p < 65536
  · have e : bitsI .or .u32 224 ((p / 4096 : Nat) : Int) = ((224 + p / 4096 : Nat) : Int) := (or_u32 5 224 _ (by omega) (by decide) (by omega) (by omega)).trans (by omega)
    by_cases h6 : 55296 ≤ p <;> simp (disch := omega) only [dt, df, it, iF, bt, bf, cond_true, cond_false, map_some', chk_t, Bool.and_true, Bool.true_and, Bool.and_false, Bool.false_and, Bool.or_true, Bool.true_or, Bool.or_false, Bool.false_or, Bool.not_true, Bool.not_false, if_true, if_false, beq_self_eq_true, wrap_i64_of, wrap_u64_of, wrap_i32_of, wrap_u32_of, wrap_u8_of, tdiv_of, tmod_of, Int.toNat_natCast, List.take_length, List.drop_zero, or_true, true_or, or_false, false_or, or_self, e]
  · have e : bitsI .or .u32 240 ((p / 262144 : Nat) : Int) = ((240 + p / 262144 : Nat) : Int) := (or_u32 4 240 _ (by omega) (by decide) (by omega) (by omega)).trans (by omega)
    simp (disch := omega) only [dt, df, it, iF, bt, bf, cond_true, cond_false, map_some', chk_t, Bool.and_true, Bool.true_and, Bool.and_false, Bool.false_and, Bool.or_true, Bool.true_or, Bool.or_false, Bool.false_or, Bool.not_true, Bool.not_false, if_true, if_false, beq_self_eq_true, wrap_i64_of, wrap_u64_of, wrap_i32_of, wrap_u32_of, wrap_u8_of, tdiv_of, tmod_of, Int.toNat_natCast, List.take_length, List.drop_zero, or_true, true_or, or_false, false_or, or_self, e]
end Go.Proofs.Ytdpajabhmmmjoaa
