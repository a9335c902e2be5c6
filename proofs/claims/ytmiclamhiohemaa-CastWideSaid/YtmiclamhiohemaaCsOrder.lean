/-
  What the laws of layer 2 come to: on order, and on widened numbers.
-/
import Derived.Test.YtmiclamhiohemaaCsSmall
namespace Go.Proofs.Ytmiclamhiohemaa
open Go.AM
set_option autoImplicit false
set_option linter.unusedSimpArgs false
set_option linter.unusedVariables false

theorem shr_zero_iff' {m k : Nat} : 0 < m / 2 ^ k ↔ k < lenN m := by
  unfold lenN
  have hp : 0 < 2 ^ k := Nat.pow_pos (by omega)
  by_cases hm : m = 0
  · subst hm; simp
  rw [if_neg hm]
  have a := Nat.log2_self_le hm
  have b := Nat.lt_log2_self (n := m)
  constructor
  · intro h
    rcases Nat.lt_or_ge k (m.log2 + 1) with h' | h'
    · exact h'
    · have h1 : 2 ^ (m.log2 + 1) ≤ 2 ^ k := Nat.pow_le_pow_right (by omega) h'
      rw [Nat.div_eq_of_lt (by omega)] at h
      omega
  · intro h
    have h1 : 2 ^ k ≤ 2 ^ m.log2 := Nat.pow_le_pow_right (by omega) (by omega)
    exact Nat.div_pos (by omega) hp

theorem nearN_64 {m : Nat} (h : m < 9223372036854775808) : nearN m 52 1023 < 9223372036854775808 := nearN_lt52 (by omega)

/-- few bits: an odd number is one step above the even one ahead of it -/
theorem odd_step (m : Nat) (hm : m < 9223372036854775808) (hl : lenN m ≤ 53) : ((nearN m 52 1023 : Nat) : Int) = IntKind.wrap .u64 (((nearN (m - m % 2) 52 1023 : Nat) : Int) + stepR (m : Int) (lenN m : Int)) := by
  have h1 := nearN_64 hm
  rw [stepR_def]
  unfold stepD
  by_cases h : m % 2 = 0
  · rw [if_pos (by omega), h, Nat.sub_zero, wrap_u64_of _ (by omega)]; omega
  · rw [if_neg (by omega)]
    have hm0 : m ≠ 0 := by omega
    have hlen : lenN m = m.log2 + 1 := by unfold lenN; rw [if_neg hm0]
    by_cases hone : m = 1
    · subst hone; decide +kernel
    · have a := Nat.log2_self_le hm0
      have b := Nat.lt_log2_self (n := m)
      have he1 : 1 ≤ m.log2 := by
        rcases Nat.lt_or_ge 0 m.log2 with h' | h'
        · exact h'
        · have : m.log2 = 0 := by omega
          rw [this] at b; omega
      have he : (m - 1).log2 = m.log2 := by
        refine log2_of ?_ (by omega)
        have : 2 ∣ 2 ^ m.log2 := ⟨2 ^ (m.log2 - 1), by rw [← Nat.pow_succ']; congr 1; omega⟩
        omega
      have hm1 : m - 1 ≠ 0 := by omega
      rw [if_neg (by omega), show m % 2 = 1 by omega, near_exact hm1 (by omega), he, near_exact hm0 (by omega)]
      obtain ⟨z1, z2⟩ := sub_size hm1 52 (by omega)
      obtain ⟨z3, z4⟩ := sub_size hm0 52 (by omega)
      rw [he] at z1 z2
      have e1 : (m - 1) * 2 ^ (52 - m.log2) + 2 ^ (52 - m.log2) = m * 2 ^ (52 - m.log2) := by
        rw [← Nat.succ_mul]; congr 1; omega
      have e2 : (2 : Int) ^ (53 - (lenN m : Int)).toNat = ((2 ^ (52 - m.log2) : Nat) : Int) := by
        rw [show (53 - (lenN m : Int)).toNat = 52 - m.log2 by omega]; norm_cast
      rw [e2]
      have e3 : m.log2 ≤ 52 := by omega
      generalize 2 ^ (52 - m.log2) = P at *
      generalize (m - 1) * P = A at *
      generalize m * P = B at *
      generalize m.log2 = e at *
      clear a b e2
      rw [wrap_u64_of _ (by omega)]
      omega

/-- more bits: to the nearest -/
theorem many_bits (m k : Nat) (hm : m < 9223372036854775808) (hl : lenN m = 53 + k) (hk : 1 ≤ k) :
    nearN (m / 2 ^ k * 2 ^ k) 52 1023 = (k + 1075) * 2 ^ 52 + (m / 2 ^ k - 2 ^ 52) ∧ 2 ^ 52 ≤ m / 2 ^ k ∧ m / 2 ^ k < 2 ^ 53 ∧ nearN m 52 1023 = (k + 1075) * 2 ^ 52 + (rne m k - 2 ^ 52) := by
  have hm0 : m ≠ 0 := by rintro rfl; simp [lenN] at hl; omega
  have hlog : m.log2 = 52 + k := by unfold lenN at hl; rw [if_neg hm0] at hl; omega
  obtain ⟨q1, q2⟩ := quot_size (f := 52) (k := k) hm0 hlog
  have hp : 0 < 2 ^ k := Nat.pow_pos (by omega)
  have hlog2 : (m / 2 ^ k * 2 ^ k).log2 = 52 + k := by
    refine log2_of ?_ ?_
    · rw [Nat.pow_add]; exact Nat.mul_le_mul_right _ q1
    · rw [show 52 + k + 1 = 53 + k by omega, Nat.pow_add]; exact Nat.mul_lt_mul_of_pos_right q2 hp
  have hne : m / 2 ^ k * 2 ^ k ≠ 0 := by
    have := Nat.mul_pos (show 0 < m / 2 ^ k by omega) hp
    omega
  refine ⟨?_, q1, q2, ?_⟩
  · rw [nearN_shape hne, hlog2]
    unfold fracN
    rw [hlog2, if_neg (by omega), show 52 + k - 52 = k by omega]
    unfold rne
    rw [Nat.mul_mod_left, Nat.mul_div_cancel _ hp]
    have : 0 < 2 ^ (k - 1) := Nat.pow_pos (by omega)
    rw [if_neg (by omega)]
    omega
  · rw [nearN_shape hm0, hlog]
    unfold fracN
    rw [hlog, if_neg (by omega), show 52 + k - 52 = k by omega]
    omega

theorem lenN_le {m : Nat} (h : m < 9223372036854775808) : lenN m ≤ 63 := by
  unfold lenN
  split
  · omega
  · rename_i h0
    have a := Nat.log2_self_le h0
    rcases Nat.lt_or_ge 62 m.log2 with h' | h'
    · have : 2 ^ 63 ≤ 2 ^ m.log2 := Nat.pow_le_pow_right (by omega) h'
      omega
    · omega

theorem order_loop (N : Nat) (hN : 100 < N) (m : Nat) (hm : m < 9223372036854775808) : iterL N (B_law2_CastOrder_0 N) ((m : Int), 0) = some (.bool true, []) := by
  have hl := lenN_le hm
  refine iterL_spec (α := Int × Int) (fun x => x.1 = (m : Int) ∧ ∃ k : Nat, x.2 = (k : Int) ∧ k ≤ lenN m) (fun x => 70 - x.2.toNat) (fun _ => (V.bool true, ([] : List AObj))) ?_ N _ ⟨rfl, 0, rfl, by omega⟩ (by simp; omega)
  rintro rec ⟨m', k'⟩ ⟨h1, k, h2, hk⟩ hrec
  simp only at h1 h2 hrec ⊢
  subst h1 h2
  simp only [B_law2_CastOrder_0]
  rw [shr_i64_nat m k (by omega)]
  by_cases hlt : k < lenN m
  · have := shr_zero_iff'.2 hlt
    simp (disch := omega) only [dt, df, it, iF, bt, bf, cond_true, cond_false, map_some', chk_t, Bool.and_true, Bool.true_and, Bool.and_false, Bool.false_and, Bool.or_true, Bool.true_or, Bool.or_false, Bool.false_or, Bool.not_true, Bool.not_false, if_true, if_false, beq_self_eq_true, wrap_i64_of, wrap_u64_of, wrap_i32_of, wrap_u32_of, wrap_u8_of, tdiv_of, tmod_of, Int.toNat_natCast, List.take_length, List.drop_zero, or_true, true_or, or_false, false_or, or_self, ]
    rw [hrec _ ⟨rfl, k + 1, by simp only; omega, by omega⟩ (by simp only; omega)]
  · have hno : ¬ 0 < m / 2 ^ k := fun h => hlt (shr_zero_iff'.1 h)
    have hkl : k = lenN m := by omega
    clear hrec
    have hnn := nearN_64 hm
    by_cases h53 : k ≤ 53
    · have os := odd_step m hm (by omega)
      rw [← hkl] at os
      have e1 : (m : Int) - (m : Int) % 2 = ((m - m % 2 : Nat) : Int) := by omega
      have hst : 0 ≤ stepR (m : Int) (k : Int) := by
        rw [stepR_def]; unfold stepD
        split
        · omega
        · split
          · omega
          · exact Int.le_of_lt (Int.pow_pos (by omega))
      rw [double_nat m]
      simp (disch := omega) only [df, dt, cond_true, cond_false, chk_t, tmod_of, wrap_i64_of, e1, Bool.and_self]
      rw [double_nat, ← os, beq_self_eq_true]
    · obtain ⟨j, rfl⟩ : ∃ j, k = 53 + j := ⟨k - 53, by omega⟩
      obtain ⟨g1, g2, g3, g4⟩ := many_bits m j hm hkl.symm (by omega)
      have hp : 0 < 2 ^ j := Nat.pow_pos (by omega)
      have hdm := Nat.div_add_mod m (2 ^ j)
      have hmod := Nat.mod_lt m hp
      have e1 : ((53 + j : Nat) : Int) - 53 = (j : Int) := by omega
      have e2 := shr_i64_nat m j (by omega)
      have e3 : shlI .i64 ((m / 2 ^ j : Nat) : Int) (j : Int) = ((m / 2 ^ j * 2 ^ j : Nat) : Int) := by
        unfold shlI
        rw [show min (j : Int).toNat IntKind.i64.bits = j from by show min _ 64 = _; omega, show ((m / 2 ^ j : Nat) : Int) * (2 : Int) ^ j = ((m / 2 ^ j * 2 ^ j : Nat) : Int) by norm_cast]
        have := Nat.div_mul_le_self m (2 ^ j)
        exact wrap_i64_of _ (by omega)
      have e4 : (j : Int) - 1 = ((j - 1 : Nat) : Int) := by omega
      have e5 : shlI .i64 1 ((j - 1 : Nat) : Int) = ((2 ^ (j - 1) : Nat) : Int) := by
        unfold shlI
        rw [show min ((j - 1 : Nat) : Int).toNat IntKind.i64.bits = j - 1 from by show min _ 64 = _; omega, show (1 : Int) * (2 : Int) ^ (j - 1) = ((2 ^ (j - 1) : Nat) : Int) by norm_cast; simp]
        have hH : 2 ^ (j - 1) ≤ 2 ^ 62 := Nat.pow_le_pow_right (by omega) (by omega)
        clear hdm hmod hno hp g1 g2 g3 g4 e2 e3
        generalize 2 ^ (j - 1) = H at *
        exact wrap_i64_of _ (by omega)
      have e6 : (m : Int) - ((m / 2 ^ j * 2 ^ j : Nat) : Int) = ((m % 2 ^ j : Nat) : Int) := by
        rw [Nat.mul_comm] at hdm
        omega
      rw [rne_eq] at g4
      have g5 : ((nearN (m / 2 ^ j * 2 ^ j) 52 1023 : Nat) : Int) = (((j + 1075) * 2 ^ 52 + (m / 2 ^ j - 2 ^ 52) : Nat) : Int) := by rw [g1]
      simp (disch := omega) only [df, dt, cond_true, cond_false, chk_t, wrap_i64_of, e1, e2, e3, e4, e5, e6, double_nat]
      rw [g4, g1]
      have h64 : (j + 1075) * 2 ^ 52 + (2 ^ 53 - 2 ^ 52) < 18446744073709551600 := by omega
      generalize m / 2 ^ j = q at *
      generalize m % 2 ^ j = r at *
      generalize 2 ^ (j - 1) = H at *
      clear e1 e2 e3 e4 e5 e6 g1 g4 g5 hdm hmod hno hlt
      by_cases c1 : r < H
      · rw [dt (by omega), cond_true, if_neg (by omega), if_neg (by omega), beq_self_eq_true]
      · rw [df (by omega), cond_false]
        by_cases c2 : H < r
        · rw [dt (by omega), cond_true, if_pos c2, wrap_u64_of _ (by omega), bt (by omega)]
        · rw [df (by omega), cond_false, if_neg c2, if_pos (by omega), tmod_of (by omega), wrap_u64_of _ (by omega)]
          split
          · rw [bt (by omega)]
          · rw [bt (by omega)]

theorem sh_law2_CastOrder_eq (N : Nat) (hN : 100 < N) (a b : Int) (ha : 0 ≤ a ∧ a ≤ 18446744073709551615) (hb : 0 ≤ b ∧ b ≤ 18446744073709551615) : sh_law2_CastOrder N a b = some (.bool true, []) := by
  show sa_law2_CastOrder N a b (fun z => iterL N (B_law2_CastOrder_0 N) z) = _
  have half : ∀ x : Int, 0 ≤ x ∧ x ≤ 18446744073709551615 → ∃ m : Nat, IntKind.wrap .i64 (shrI .u64 x 1) = (m : Int) ∧ m < 9223372036854775808 := by
    intro x hx
    rw [shr_u64 _ _ (by omega)]
    show ∃ m : Nat, IntKind.wrap .i64 (x / 2) = (m : Int) ∧ _
    exact ⟨(x / 2).toNat, by rw [wrap_i64_of _ (by omega)]; omega, by omega⟩
  obtain ⟨m, hm, hm2⟩ := half a ha
  obtain ⟨n, hn, hn2⟩ := half b hb
  simp only [sa_law2_CastOrder, hm, hn, double_nat, float_nat]
  by_cases h : n < m
  · have m1 := nearN_mono 52 1023 (Nat.le_of_lt h)
    have m2 := nearN_mono 23 127 (Nat.le_of_lt h)
    rw [dt (by omega), cond_true, df (by omega), cond_false, df (by omega), cond_false]
    exact order_loop N hN m hm2
  · have m1 := nearN_mono 52 1023 (show m ≤ n by omega)
    have m2 := nearN_mono 23 127 (show m ≤ n by omega)
    rw [df (by omega), cond_false, df (by omega), cond_false, df (by omega), cond_false]
    exact order_loop N hN n hn2
end Go.Proofs.Ytmiclamhiohemaa
