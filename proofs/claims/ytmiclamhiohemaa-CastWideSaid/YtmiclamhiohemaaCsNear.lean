/-
  The nearest binary numbers.
-/
import Derived.Test.YtmiclamhiohemaaCsFun
namespace Go.Proofs.Ytmiclamhiohemaa
open Go.AM
set_option autoImplicit false
set_option linter.unusedSimpArgs false
set_option linter.unusedVariables false

theorem lenR_nat (m : Nat) (h : m ≠ 0) : lenR (m : Int) = ((m.log2 : Nat) : Int) + 1 := by
  rw [lenR_def]; simp only [lenD, Int.toNat_natCast, lenN, if_neg h]; omega

theorem rne_eq (m k : Nat) : rne m k = if 2 ^ (k - 1) < m % 2 ^ k then m / 2 ^ k + 1 else if m % 2 ^ k = 2 ^ (k - 1) then (if m / 2 ^ k % 2 = 1 then m / 2 ^ k + 1 else m / 2 ^ k) else m / 2 ^ k := by
  unfold rne
  by_cases h1 : 2 ^ (k - 1) < m % 2 ^ k
  · rw [if_pos (.inl h1), if_pos h1]
  · rw [if_neg h1]
    by_cases h2 : m % 2 ^ k = 2 ^ (k - 1)
    · rw [if_pos h2]
      by_cases h3 : m / 2 ^ k % 2 = 1
      · rw [if_pos (.inr ⟨h2, h3⟩), if_pos h3]
      · rw [if_neg (by rintro (h | h); exact h1 h; exact h3 h.2), if_neg h3, Nat.add_zero]
    · rw [if_neg h2, if_neg (by rintro (h | h); exact h1 h; exact h2 h.1), Nat.add_zero]

/-- the quotient's size -/
theorem quot_size {m f k : Nat} (hm : m ≠ 0) (he : m.log2 = f + k) : 2 ^ f ≤ m / 2 ^ k ∧ m / 2 ^ k < 2 ^ (f + 1) := by
  have a := Nat.log2_self_le hm
  have b := Nat.lt_log2_self (n := m)
  have hp := Nat.pow_pos (n := k) (show 0 < 2 by omega)
  rw [he] at a b
  constructor
  · rw [Nat.le_div_iff_mul_le hp, ← Nat.pow_add]; exact a
  · rw [Nat.div_lt_iff_lt_mul hp, ← Nat.pow_add, show f + 1 + k = f + k + 1 by omega]; exact b

theorem fracN_size {m f : Nat} (hm : m ≠ 0) : 2 ^ f ≤ fracN m f ∧ fracN m f ≤ 2 ^ (f + 1) ∧ (m.log2 ≤ f → fracN m f < 2 ^ (f + 1)) := by
  unfold fracN
  have a := Nat.log2_self_le hm
  have b := Nat.lt_log2_self (n := m)
  split
  · rename_i h
    have e1 : 2 ^ f = 2 ^ m.log2 * 2 ^ (f - m.log2) := by rw [← Nat.pow_add]; congr 1; omega
    have e2 : 2 ^ (f + 1) = 2 ^ (m.log2 + 1) * 2 ^ (f - m.log2) := by rw [← Nat.pow_add]; congr 1; omega
    have g1 : 2 ^ f ≤ m * 2 ^ (f - m.log2) := by rw [e1]; exact Nat.mul_le_mul_right _ a
    have g2 : m * 2 ^ (f - m.log2) < 2 ^ (f + 1) := by rw [e2]; exact Nat.mul_lt_mul_of_pos_right b (Nat.pow_pos (by omega))
    exact ⟨g1, by omega, fun _ => g2⟩
  · rename_i h
    obtain ⟨q1, q2⟩ := quot_size (f := f) (k := m.log2 - f) hm (by omega)
    refine ⟨?_, ?_, by omega⟩
    · unfold rne; omega
    · unfold rne; split <;> omega

theorem near_shape (v : Int) (f : Nat) (hv : v ≠ 0) (hf1 : 1 ≤ f) (hf : f ≤ 52) (hr : -9223372036854775808 ≤ v ∧ v ≤ 9223372036854775807) (m : Nat) (hm : m = v.natAbs) (b : Bool) (hb : b = decide (v < 0)) (x : Int) (hx : x = (m : Int))
    (K : Option (V × List AObj))
    (hK : K = (
      let x2 : Int := (IntKind.wrap .i64 ((lenR x) - 1))
      cond (decide (x2 ≤ (f : Int))) (
        let x3 : Int := (IntKind.wrap .i64 ((f : Int) - x2))
        chk (decide (0 ≤ x3)) (
          some (.tup [.bool b, .int .i64 x2, .int .u64 (shlI .u64 x x3)], []))) (
        let x4 : Int := (IntKind.wrap .i64 (x2 - (f : Int)))
        chk (decide (0 ≤ x4)) (
          chk (decide (0 ≤ x4)) (
            let x5 : Int := (IntKind.wrap .u64 ((shlI .u64 1 x4) - 1))
            let x6 : Int := (IntKind.wrap .i64 (x4 - 1))
            chk (decide (0 ≤ x6)) (
              let x7 : Bool := decide ((shlI .u64 1 x6) < (bitsI .and .u64 x x5))
              cond x7 (
                let x8 : Int := (IntKind.wrap .u64 ((shrI .u64 x x4) + 1))
                let x9 : Int := (IntKind.wrap .i64 ((f : Int) + 1))
                chk (decide (0 ≤ x9)) (
                  let x10 : Bool := (!((shrI .u64 x8 x9) == 0))
                  cond x10 (
                    let x11 : Int := (IntKind.wrap .i64 (x2 + 1))
                    some (.tup [.bool b, .int .i64 x11, .int .u64 (shrI .u64 x8 1)], [])) (
                    some (.tup [.bool b, .int .i64 x2, .int .u64 x8], [])))) (
                let x12 : Bool := ((bitsI .and .u64 x x5) == (shlI .u64 1 x6))
                cond x12 (
                  let x13 : Int := (bitsI .and .u64 (shrI .u64 x x4) 1)
                  cond (x13 == 1) (
                    let x14 : Int := (IntKind.wrap .u64 ((shrI .u64 x x4) + 1))
                    let x15 : Int := (IntKind.wrap .i64 ((f : Int) + 1))
                    chk (decide (0 ≤ x15)) (
                      let x16 : Bool := (!((shrI .u64 x14 x15) == 0))
                      cond x16 (
                        let x17 : Int := (IntKind.wrap .i64 (x2 + 1))
                        some (.tup [.bool b, .int .i64 x17, .int .u64 (shrI .u64 x14 1)], [])) (
                        some (.tup [.bool b, .int .i64 x2, .int .u64 x14], [])))) (
                    let x18 : Int := (IntKind.wrap .i64 ((f : Int) + 1))
                    chk (decide (0 ≤ x18)) (
                      let x19 : Int := (shrI .u64 (shrI .u64 x x4) x18)
                      cond (!(x19 == 0)) (
                        let x20 : Int := (shrI .u64 (shrI .u64 x x4) 1)
                        let x21 : Int := (IntKind.wrap .i64 (x2 + 1))
                        some (.tup [.bool b, .int .i64 x21, .int .u64 x20], [])) (
                        some (.tup [.bool b, .int .i64 x2, .int .u64 (shrI .u64 x x4)], []))))) (
                  let x22 : Int := (IntKind.wrap .i64 ((f : Int) + 1))
                  chk (decide (0 ≤ x22)) (
                    let x23 : Int := (shrI .u64 (shrI .u64 x x4) x22)
                    cond (!(x23 == 0)) (
                      let x24 : Int := (shrI .u64 (shrI .u64 x x4) 1)
                      let x25 : Int := (IntKind.wrap .i64 (x2 + 1))
                      some (.tup [.bool b, .int .i64 x25, .int .u64 x24], [])) (
                      some (.tup [.bool b, .int .i64 x2, .int .u64 (shrI .u64 x x4)], []))))))))))) :
    K = some (.tup [.bool (nearR v f).1, .int .i64 (nearR v f).2.1, .int .u64 (nearR v f).2.2], []) := by
  have hm0 : m ≠ 0 := by omega
  have hm63 : m ≤ 9223372036854775808 := by omega
  have hp := Nat.log2_self_le hm0
  have hq := Nat.lt_log2_self (n := m)
  have he : m.log2 ≤ 63 := by
    rcases Nat.lt_or_ge 63 m.log2 with h | h
    · have : 2 ^ 64 ≤ 2 ^ m.log2 := Nat.pow_le_pow_right (by omega) h
      omega
    · exact h
  have hf52 : 2 ^ (f + 1) ≤ 2 ^ 53 := Nat.pow_le_pow_right (by omega) (by omega)
  have hR : nearR v (f : Int) = if 2 ^ (f + 1) ≤ fracN m f then (b, ((m.log2 + 1 : Nat) : Int), ((fracN m f / 2 : Nat) : Int)) else (b, ((m.log2 : Nat) : Int), ((fracN m f : Nat) : Int)) := by
    rw [nearR_def]; simp only [nearD, if_neg hv, Int.toNat_natCast, ← hm, ← hb]
  have hfr := fracN_size (f := f) hm0
  subst hK hx
  rw [hR, lenR_nat m hm0]
  generalize hee : m.log2 = e at *
  simp (disch := omega) only [dt, df, it, iF, bt, bf, cond_true, cond_false, map_some', chk_t, Bool.and_true, Bool.true_and, Bool.and_false, Bool.false_and, Bool.or_true, Bool.true_or, Bool.or_false, Bool.false_or, Bool.not_true, Bool.not_false, if_true, if_false, beq_self_eq_true, wrap_i64_of, wrap_u64_of, wrap_i32_of, wrap_u32_of, wrap_u8_of, tdiv_of, tmod_of, Int.toNat_natCast, List.take_length, List.drop_zero, or_true, true_or, or_false, false_or, or_self, Int.add_sub_cancel]
  by_cases hef : e ≤ f
  · have hlt := hfr.2.2 hef
    rw [if_neg (by omega)]
    have e1 : fracN m f = m * 2 ^ (f - e) := by unfold fracN; rw [hee, if_pos hef]
    have e2 : (f : Int) - (e : Int) = ((f - e : Nat) : Int) := by omega
    simp (disch := omega) only [dt, df, it, iF, bt, bf, cond_true, cond_false, map_some', chk_t, Bool.and_true, Bool.true_and, Bool.and_false, Bool.false_and, Bool.or_true, Bool.true_or, Bool.or_false, Bool.false_or, Bool.not_true, Bool.not_false, if_true, if_false, beq_self_eq_true, wrap_i64_of, wrap_u64_of, wrap_i32_of, wrap_u32_of, wrap_u8_of, tdiv_of, tmod_of, Int.toNat_natCast, List.take_length, List.drop_zero, or_true, true_or, or_false, false_or, or_self, e2]
    rw [shl_nat m (f - e) (by omega) (by rw [← e1]; omega), e1]
  · obtain ⟨k, rfl⟩ : ∃ k, e = f + k := ⟨e - f, by omega⟩
    obtain ⟨q1, q2⟩ := quot_size (f := f) (k := k) hm0 hee
    have e1 : fracN m f = rne m k := by unfold fracN; rw [hee, if_neg hef, show f + k - f = k by omega]
    have e2 : ((f + k : Nat) : Int) - (f : Int) = (k : Int) := by omega
    have e3 : (k : Int) - 1 = ((k - 1 : Nat) : Int) := by omega
    have s1 := shl_one k (by omega)
    have s2 := shl_one (k - 1) (by omega)
    have s3 := and_nat m k (by omega) (by omega)
    have s4 := shr_nat m k (by omega)
    have hk0 : 0 < 2 ^ k := Nat.pow_pos (by omega)
    have hk64 : 2 ^ k ≤ 2 ^ 63 := Nat.pow_le_pow_right (by omega) (by omega)
    have hf2 : ((f : Int) + 1) = ((f + 1 : Nat) : Int) := rfl
    have s5 : ∀ q : Nat, shrI .u64 (q : Int) ((f + 1 : Nat) : Int) = ((q / 2 ^ (f + 1) : Nat) : Int) := fun q => shr_nat q (f + 1) (by omega)
    have s6 : ∀ q : Nat, shrI .u64 (q : Int) 1 = ((q / 2 : Nat) : Int) := fun q => shr_nat q 1 (by omega)
    have w1 : IntKind.wrap .u64 (((2 ^ k : Nat) : Int) - 1) = ((2 ^ k : Nat) : Int) - 1 := wrap_u64_of _ (by omega)
    rw [e1] at hfr ⊢
    rw [rne_eq] at hfr ⊢
    simp (disch := omega) only [dt, df, it, iF, bt, bf, cond_true, cond_false, map_some', chk_t, Bool.and_true, Bool.true_and, Bool.and_false, Bool.false_and, Bool.or_true, Bool.true_or, Bool.or_false, Bool.false_or, Bool.not_true, Bool.not_false, if_true, if_false, beq_self_eq_true, wrap_i64_of, wrap_u64_of, wrap_i32_of, wrap_u32_of, wrap_u8_of, tdiv_of, tmod_of, Int.toNat_natCast, List.take_length, List.drop_zero, or_true, true_or, or_false, false_or, or_self, e2, e3, s1, s2, w1, s3, s4, hf2, s5, s6]
    have hr : m % 2 ^ k < 2 ^ k := Nat.mod_lt _ hk0
    generalize hQ : m / 2 ^ k = q at *
    generalize hH : 2 ^ (k - 1) = H at *
    generalize hRm : m % 2 ^ k = r at *
    generalize hF : 2 ^ (f + 1) = F at *
    have hF0 : 0 < F := by omega
    have d0 : ∀ x : Nat, x < F → x / F = 0 := fun x h => Nat.div_eq_of_lt h
    have d1 : F / F = 1 := Nat.div_self hF0
    have w2 : ∀ x : Nat, x < 2 ^ 60 → IntKind.wrap .u64 ((x : Int) + 1) = ((x + 1 : Nat) : Int) := fun x h => wrap_u64_of _ (by omega)
    have w3 : IntKind.wrap .i64 (((f + k : Nat) : Int) + 1) = ((f + k + 1 : Nat) : Int) := wrap_i64_of _ (by omega)
    have a1 : bitsI .and .u64 (q : Int) 1 = ((q % 2 : Nat) : Int) := by rw [and_u64_1 _ (by omega)]; rfl
    have up : ∀ x : Nat, x = q + 1 → (cond (!(((x / F : Nat) : Int) == 0)) (some (V.tup [.bool b, .int .i64 ((f + k + 1 : Nat) : Int), .int .u64 ((x / 2 : Nat) : Int)], ([] : List AObj))) (some (V.tup [.bool b, .int .i64 ((f + k : Nat) : Int), .int .u64 (x : Int)], []))) =
        some (.tup [.bool (if F ≤ x then (b, ((f + k + 1 : Nat) : Int), ((x / 2 : Nat) : Int)) else (b, ((f + k : Nat) : Int), (x : Int))).1, .int .i64 (if F ≤ x then (b, ((f + k + 1 : Nat) : Int), ((x / 2 : Nat) : Int)) else (b, ((f + k : Nat) : Int), (x : Int))).2.1, .int .u64 (if F ≤ x then (b, ((f + k + 1 : Nat) : Int), ((x / 2 : Nat) : Int)) else (b, ((f + k : Nat) : Int), (x : Int))).2.2], []) := by
      intro x hx
      by_cases h : F ≤ x
      · have hxF : x = F := by omega
        rw [if_pos h, hxF, d1]
        rfl
      · rw [if_neg h, d0 x (by omega)]
        rfl
    have stay : (cond (!(((q / F : Nat) : Int) == 0)) (some (V.tup [.bool b, .int .i64 ((f + k + 1 : Nat) : Int), .int .u64 ((q / 2 : Nat) : Int)], ([] : List AObj))) (some (V.tup [.bool b, .int .i64 ((f + k : Nat) : Int), .int .u64 (q : Int)], []))) =
        some (.tup [.bool (if F ≤ q then (b, ((f + k + 1 : Nat) : Int), ((q / 2 : Nat) : Int)) else (b, ((f + k : Nat) : Int), (q : Int))).1, .int .i64 (if F ≤ q then (b, ((f + k + 1 : Nat) : Int), ((q / 2 : Nat) : Int)) else (b, ((f + k : Nat) : Int), (q : Int))).2.1, .int .u64 (if F ≤ q then (b, ((f + k + 1 : Nat) : Int), ((q / 2 : Nat) : Int)) else (b, ((f + k : Nat) : Int), (q : Int))).2.2], []) := by
      rw [if_neg (by omega : ¬ F ≤ q), d0 q q2]
      rfl
    have wq : (q : Int) + 1 = ((q + 1 : Nat) : Int) := rfl
    have w3 : ((f + k : Nat) : Int) + 1 = ((f + k + 1 : Nat) : Int) := rfl
    by_cases h1 : H < r
    · simp (disch := omega) only [dt, df, it, iF, bt, bf, cond_true, cond_false, map_some', chk_t, Bool.and_true, Bool.true_and, Bool.and_false, Bool.false_and, Bool.or_true, Bool.true_or, Bool.or_false, Bool.false_or, Bool.not_true, Bool.not_false, if_true, if_false, beq_self_eq_true, wrap_i64_of, wrap_u64_of, wrap_i32_of, wrap_u32_of, wrap_u8_of, tdiv_of, tmod_of, Int.toNat_natCast, List.take_length, List.drop_zero, or_true, true_or, or_false, false_or, or_self, wq, w3, s5, s6]
      exact up _ rfl
    · by_cases h2 : r = H
      · by_cases h3 : q % 2 = 1
        · simp (disch := omega) only [dt, df, it, iF, bt, bf, cond_true, cond_false, map_some', chk_t, Bool.and_true, Bool.true_and, Bool.and_false, Bool.false_and, Bool.or_true, Bool.true_or, Bool.or_false, Bool.false_or, Bool.not_true, Bool.not_false, if_true, if_false, beq_self_eq_true, wrap_i64_of, wrap_u64_of, wrap_i32_of, wrap_u32_of, wrap_u8_of, tdiv_of, tmod_of, Int.toNat_natCast, List.take_length, List.drop_zero, or_true, true_or, or_false, false_or, or_self, wq, w3, s5, s6, a1]
          exact up _ rfl
        · simp (disch := omega) only [dt, df, it, iF, bt, bf, cond_true, cond_false, map_some', chk_t, Bool.and_true, Bool.true_and, Bool.and_false, Bool.false_and, Bool.or_true, Bool.true_or, Bool.or_false, Bool.false_or, Bool.not_true, Bool.not_false, if_true, if_false, beq_self_eq_true, wrap_i64_of, wrap_u64_of, wrap_i32_of, wrap_u32_of, wrap_u8_of, tdiv_of, tmod_of, Int.toNat_natCast, List.take_length, List.drop_zero, or_true, true_or, or_false, false_or, or_self, wq, w3, s5, s6, a1]
          rw [d0 q q2]; rfl
      · simp (disch := omega) only [dt, df, it, iF, bt, bf, cond_true, cond_false, map_some', chk_t, Bool.and_true, Bool.true_and, Bool.and_false, Bool.false_and, Bool.or_true, Bool.true_or, Bool.or_false, Bool.false_or, Bool.not_true, Bool.not_false, if_true, if_false, beq_self_eq_true, wrap_i64_of, wrap_u64_of, wrap_i32_of, wrap_u32_of, wrap_u8_of, tdiv_of, tmod_of, Int.toNat_natCast, List.take_length, List.drop_zero, or_true, true_or, or_false, false_or, or_self, wq, w3, s5, s6, a1]
        rw [d0 q q2]; rfl
end Go.Proofs.Ytmiclamhiohemaa
