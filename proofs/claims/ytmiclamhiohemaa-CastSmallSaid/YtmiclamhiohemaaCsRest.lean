/-
  Binary numbers, both ways of telling them.
-/
import Derived.Test.YtmiclamhiohemaaCsNear
namespace Go.Proofs.Ytmiclamhiohemaa
open Go.AM
set_option autoImplicit false
set_option linter.unusedSimpArgs false
set_option linter.unusedVariables false

theorem sh_cast_nearest_eq (N : Nat) (v : Int) (f : Nat) (hv : v ≠ 0) (hf1 : 1 ≤ f) (hf : f ≤ 52) (hr : -9223372036854775808 ≤ v ∧ v ≤ 9223372036854775807) :
    sh_cast_nearest N v f = some (.tup [.bool (nearR v f).1, .int .i64 (nearR v f).2.1, .int .u64 (nearR v f).2.2], []) := by
  show sa_cast_nearest N v f = _
  by_cases hneg : v < 0
  · refine near_shape v f hv hf1 hf hr v.natAbs rfl true (by simp [hneg]) (IntKind.wrap .u64 (0 - IntKind.wrap .u64 v)) ?_ _ ?_
    · rw [wrap_u64, wrap_u64]; omega
    · simp only [sa_cast_nearest, dt hneg, cond_true]
  · refine near_shape v f hv hf1 hf hr v.natAbs rfl false (by simp; omega) (IntKind.wrap .u64 v) ?_ _ ?_
    · rw [wrap_u64]; omega
    · simp only [sa_cast_nearest, df hneg, cond_false]

theorem sh_cast_nearest_0 (N : Nat) (f : Nat) (hf1 : 1 ≤ f) (hf : f ≤ 52) :
    sh_cast_nearest N 0 f = some (.tup [.bool (nearR 0 f).1, .int .i64 (nearR 0 f).2.1, .int .u64 (nearR 0 f).2.2], []) := by
  have hR : nearR 0 (f : Int) = (false, -1, 0) := by rw [nearR_def]; rfl
  have hl : lenR 0 = 0 := by rw [lenR_def]; rfl
  have e2 : (f : Int) - -1 = ((f + 1 : Nat) : Int) := by omega
  have e3 := shl_nat 0 (f + 1) (by omega) (by simp)
  show sa_cast_nearest N 0 f = _
  rw [hR]
  simp only [sa_cast_nearest]
  simp (disch := omega) only [dt, df, it, iF, bt, bf, cond_true, cond_false, map_some', chk_t, Bool.and_true, Bool.true_and, Bool.and_false, Bool.false_and, Bool.or_true, Bool.true_or, Bool.or_false, Bool.false_or, Bool.not_true, Bool.not_false, if_true, if_false, beq_self_eq_true, wrap_i64_of, wrap_u64_of, wrap_i32_of, wrap_u32_of, wrap_u8_of, tdiv_of, tmod_of, Int.toNat_natCast, List.take_length, List.drop_zero, or_true, true_or, or_false, false_or, or_self, hl, show (0 : Int) - 1 = -1 from rfl, e2]
  rw [show (0 : Int) = ((0 : Nat) : Int) from rfl, e3]
  simp

theorem nearN_shape {m f b : Nat} (hm : m ≠ 0) : nearN m f b = (m.log2 + b) * 2 ^ f + (fracN m f - 2 ^ f) := by unfold nearN; rw [if_neg hm]

/-- a sum of the exponent and the fraction, carried over or not -/
theorem nearN_carry {m f b : Nat} (hm : m ≠ 0) : (2 ^ (f + 1) ≤ fracN m f → nearN m f b = (m.log2 + 1 + b) * 2 ^ f ∧ fracN m f / 2 % 2 ^ f = 0) ∧ (¬ 2 ^ (f + 1) ≤ fracN m f → nearN m f b = (m.log2 + b) * 2 ^ f + fracN m f % 2 ^ f) := by
  obtain ⟨h1, h2, -⟩ := fracN_size (f := f) hm
  have hp : 0 < 2 ^ f := Nat.pow_pos (by omega)
  have e : 2 ^ (f + 1) = 2 * 2 ^ f := by rw [Nat.pow_succ, Nat.mul_comm]
  rw [nearN_shape hm]
  constructor
  · intro h
    have he : fracN m f = 2 * 2 ^ f := by omega
    rw [he]
    refine ⟨?_, ?_⟩
    · rw [Nat.add_mul, Nat.add_mul, Nat.add_mul]; omega
    · rw [Nat.mul_div_cancel_left _ (by omega), Nat.mod_self]
  · intro h
    congr 1
    rw [Nat.mod_eq_sub_mod h1, Nat.mod_eq_of_lt (by omega)]

theorem log2_le_63 {m : Nat} (h : m ≤ 18446744073709551615) (hm : m ≠ 0) : m.log2 ≤ 63 := by
  have hp := Nat.log2_self_le hm
  rcases Nat.lt_or_ge 63 m.log2 with h' | h'
  · have : 2 ^ 64 ≤ 2 ^ m.log2 := Nat.pow_le_pow_right (by omega) h'
    omega
  · exact h'

theorem nearN_lt52 {m : Nat} (h : m ≤ 9223372036854775808) : nearN m 52 1023 < 9223372036854775808 := by
  by_cases hm : m = 0
  · subst hm; decide
  · have := log2_le_63 (by omega) hm
    obtain ⟨h1, h2, -⟩ := fracN_size (f := 52) hm
    rw [nearN_shape hm]
    omega
theorem nearN_lt23 {m : Nat} (h : m ≤ 9223372036854775808) : nearN m 23 127 < 2147483648 := by
  by_cases hm : m = 0
  · subst hm; decide
  · have := log2_le_63 (by omega) hm
    obtain ⟨h1, h2, -⟩ := fracN_size (f := 23) hm
    rw [nearN_shape hm]
    omega

theorem sh_cast_Double_eq (N : Nat) (v : Int) (hr : -9223372036854775808 ≤ v ∧ v ≤ 9223372036854775807) : sh_cast_Double N v = some (.int .u64 (doubleR v), []) := by
  show sa_cast_Double N v = _
  simp only [sa_cast_Double, doubleR_def, doubleD, doubleN]
  by_cases h0 : v = 0
  · subst h0; rfl
  have hm : v.natAbs ≠ 0 := by omega
  have hm63 : v.natAbs ≤ 9223372036854775808 := by omega
  have he := log2_le_63 (by omega) hm
  obtain ⟨c1, c2⟩ := nearN_carry (f := 52) (b := 1023) hm
  obtain ⟨f1, f2, -⟩ := fracN_size (f := 52) hm
  have hlt := nearN_lt52 hm63
  rw [show (52 : Int) = ((52 : Nat) : Int) from rfl, nearR_def]
  simp only [nearD, if_neg h0, Int.toNat_natCast]
  generalize v.natAbs.log2 = e at *
  generalize fracN v.natAbs 52 = g at *
  generalize nearN v.natAbs 52 1023 = n at *
  have key : ∀ (x : Int) (e' g' : Nat), e' ≤ 64 → (e' + 1023) * 2 ^ 52 + g' % 2 ^ 52 = n → g' ≤ 2 ^ 53 →
      cond (decide (v < 0)) (some (V.int .u64 (bitsI .or .u64 (bitsI .or .u64 (shlI .u64 (IntKind.wrap .u64 (IntKind.wrap .i64 ((e' : Int) + 1023))) ((52 : Nat) : Int)) (bitsI .and .u64 (g' : Int) 4503599627370495)) 9223372036854775808), ([] : List AObj)))
        (some (V.int .u64 (bitsI .or .u64 (shlI .u64 (IntKind.wrap .u64 (IntKind.wrap .i64 ((e' : Int) + 1023))) ((52 : Nat) : Int)) (bitsI .and .u64 (g' : Int) 4503599627370495)), [])) =
      some (V.int .u64 ((((if v < 0 then 9223372036854775808 else 0) + n : Nat)) : Int), []) := by
    intro x e' g' he' hn hg
    have e1 : shlI .u64 (IntKind.wrap .u64 (IntKind.wrap .i64 ((e' : Int) + 1023))) ((52 : Nat) : Int) = (((e' + 1023) * 2 ^ 52 : Nat) : Int) := by
      rw [wrap_i64_of _ (by omega), wrap_u64_of _ (by omega), show ((e' : Int) + 1023) = ((e' + 1023 : Nat) : Int) from rfl]
      exact shl_nat _ 52 (by omega) (by omega)
    have e2 : bitsI .and .u64 (g' : Int) 4503599627370495 = ((g' % 2 ^ 52 : Nat) : Int) := by rw [and_u64_52 _ (by omega)]; rfl
    have e3 : bitsI .or .u64 (((e' + 1023) * 2 ^ 52 : Nat) : Int) ((g' % 2 ^ 52 : Nat) : Int) = (n : Int) := by
      rw [or_u64 52 _ _ (by omega) (by omega) (by omega) (by omega)]; omega
    rw [e1, e2, e3]
    by_cases hneg : v < 0
    · rw [dt hneg, cond_true, or_comm_u64, or_u64 63 _ _ (by omega) (by decide) (by omega) (by omega), if_pos hneg]
      congr 3
    · rw [df hneg, cond_false, if_neg hneg, Nat.zero_add]
  by_cases hc : 2 ^ (52 + 1) ≤ g
  · obtain ⟨d1, d2⟩ := c1 hc
    simp only [if_pos hc, bf h0, cond_false]
    have := key 0 (e + 1) (g / 2) (by omega) (by omega) (by omega)
    exact this
  · have d1 := c2 hc
    simp only [if_neg hc, bf h0, cond_false]
    exact key 0 e g (by omega) (by omega) (by omega)

theorem sh_cast_Float_eq (N : Nat) (v : Int) (hr : -9223372036854775808 ≤ v ∧ v ≤ 9223372036854775807) : sh_cast_Float N v = some (.int .u32 (floatR v), []) := by
  show sa_cast_Float N v = _
  simp only [sa_cast_Float, floatR_def, floatD, floatN]
  by_cases h0 : v = 0
  · subst h0; rfl
  have hm : v.natAbs ≠ 0 := by omega
  have hm63 : v.natAbs ≤ 9223372036854775808 := by omega
  have he := log2_le_63 (by omega) hm
  obtain ⟨c1, c2⟩ := nearN_carry (f := 23) (b := 127) hm
  obtain ⟨f1, f2, -⟩ := fracN_size (f := 23) hm
  have hlt := nearN_lt23 hm63
  rw [show (23 : Int) = ((23 : Nat) : Int) from rfl, nearR_def]
  simp only [nearD, if_neg h0, Int.toNat_natCast]
  generalize v.natAbs.log2 = e at *
  generalize fracN v.natAbs 23 = g at *
  generalize nearN v.natAbs 23 127 = n at *
  have key : ∀ (e' g' : Nat), e' ≤ 64 → (e' + 127) * 2 ^ 23 + g' % 2 ^ 23 = n → g' ≤ 2 ^ 24 →
      cond (decide (v < 0)) (some (V.int .u32 (bitsI .or .u32 (bitsI .or .u32 (shlI .u32 (IntKind.wrap .u32 (IntKind.wrap .i64 ((e' : Int) + 127))) ((23 : Nat) : Int)) (bitsI .and .u32 (IntKind.wrap .u32 (g' : Int)) 8388607)) 2147483648), ([] : List AObj)))
        (some (V.int .u32 (bitsI .or .u32 (shlI .u32 (IntKind.wrap .u32 (IntKind.wrap .i64 ((e' : Int) + 127))) ((23 : Nat) : Int)) (bitsI .and .u32 (IntKind.wrap .u32 (g' : Int)) 8388607)), [])) =
      some (V.int .u32 ((((if v < 0 then 2147483648 else 0) + n : Nat)) : Int), []) := by
    intro e' g' he' hn hg
    have e1 : shlI .u32 (IntKind.wrap .u32 (IntKind.wrap .i64 ((e' : Int) + 127))) ((23 : Nat) : Int) = (((e' + 127) * 2 ^ 23 : Nat) : Int) := by
      rw [wrap_i64_of _ (by omega), wrap_u32_of _ (by omega), shl_u32 _ _ (by omega), Int.toNat_natCast]
      omega
    have e2 : bitsI .and .u32 (IntKind.wrap .u32 (g' : Int)) 8388607 = ((g' % 2 ^ 23 : Nat) : Int) := by rw [wrap_u32_of _ (by omega), and_u32_23 _ (by omega)]; rfl
    have e3 : bitsI .or .u32 (((e' + 127) * 2 ^ 23 : Nat) : Int) ((g' % 2 ^ 23 : Nat) : Int) = (n : Int) := by
      rw [or_u32 23 _ _ (by omega) (by omega) (by omega) (by omega)]; omega
    rw [e1, e2, e3]
    by_cases hneg : v < 0
    · rw [dt hneg, cond_true, or_comm_u32, or_u32 31 _ _ (by omega) (by decide) (by omega) (by omega), if_pos hneg]
      congr 3
    · rw [df hneg, cond_false, if_neg hneg, Nat.zero_add]
  by_cases hc : 2 ^ (23 + 1) ≤ g
  · obtain ⟨d1, d2⟩ := c1 hc
    simp only [if_pos hc, bf h0, cond_false]
    exact key (e + 1) (g / 2) (by omega) (by omega) (by omega)
  · have d1 := c2 hc
    simp only [if_neg hc, bf h0, cond_false]
    exact key e g (by omega) (by omega) (by omega)

/-- the reference's: it looks for the greatest bit from above -/
def Fnear (x : Int × Int × Int × Int) : V × List AObj := (.int .u64 (nearN x.1.toNat x.2.1.toNat x.2.2.1.toNat : Nat), [])

theorem shr_zero_iff {m e : Nat} (hm : m ≠ 0) (he : e ≤ 63) : (shrI .u64 (m : Int) (e : Int) == 0) = decide (m.log2 < e) := by
  rw [shr_nat m e (by omega)]
  have a := Nat.log2_self_le hm
  have b := Nat.lt_log2_self (n := m)
  have hp : 0 < 2 ^ e := Nat.pow_pos (by omega)
  by_cases h : m.log2 < e
  · have : 2 ^ (m.log2 + 1) ≤ 2 ^ e := Nat.pow_le_pow_right (by omega) (by omega)
    rw [Nat.div_eq_of_lt (by omega), dt h]; rfl
  · have : 2 ^ e ≤ 2 ^ m.log2 := Nat.pow_le_pow_right (by omega) (by omega)
    have : 0 < m / 2 ^ e := Nat.div_pos (by omega) hp
    rw [df h]
    exact bf (by omega)

theorem sh_ref1_near_eq (N : Nat) (hN : 100 < N) (p : Int) (f b : Nat) (hp : 0 ≤ p ∧ p ≤ 18446744073709551615) (hf : f = 52 ∧ b = 1023 ∨ f = 23 ∧ b = 127) :
    sh_ref1_near N p f b = some (.int .u64 (nearB p f b), []) := by
  obtain ⟨m, rfl⟩ : ∃ m : Nat, p = (m : Int) := ⟨p.toNat, by omega⟩
  rw [nearB_def]
  simp only [nearBD, Int.toNat_natCast]
  show sa_ref1_near N m f b (fun z => iterL N (B_ref1_near_0 N) z) = _
  simp only [sa_ref1_near]
  by_cases h0 : m = 0
  · subst h0; rfl
  have hm63 : m ≤ 18446744073709551615 := by omega
  have he := log2_le_63 hm63 h0
  rw [bf (by omega), cond_false]
  have main : iterL N (B_ref1_near_0 N) ((m : Int), (f : Int), (b : Int), 63) = some (Fnear ((m : Int), (f : Int), (b : Int), 63)) := by
    refine iterL_spec (fun x => x.1 = (m : Int) ∧ x.2.1 = (f : Int) ∧ x.2.2.1 = (b : Int) ∧ ∃ e : Nat, x.2.2.2 = (e : Int) ∧ e ≤ 63 ∧ m.log2 ≤ e) (fun x => x.2.2.2.toNat) Fnear ?_ N _ ⟨rfl, rfl, rfl, 63, rfl, by omega, he⟩ (by simp; omega)
    rintro rec ⟨_, _, _, _⟩ ⟨rfl, rfl, rfl, e, rfl, h63, hle⟩ hrec
    simp only at hrec ⊢
    simp only [B_ref1_near_0, Fnear, Int.toNat_natCast]
    rw [shr_zero_iff h0 h63]
    by_cases hlt : m.log2 < e
    · simp (disch := omega) only [dt, df, it, iF, bt, bf, cond_true, cond_false, map_some', chk_t, Bool.and_true, Bool.true_and, Bool.and_false, Bool.false_and, Bool.or_true, Bool.true_or, Bool.or_false, Bool.false_or, Bool.not_true, Bool.not_false, if_true, if_false, beq_self_eq_true, wrap_i64_of, wrap_u64_of, wrap_i32_of, wrap_u32_of, wrap_u8_of, tdiv_of, tmod_of, Int.toNat_natCast, List.take_length, List.drop_zero, or_true, true_or, or_false, false_or, or_self, ]
      rw [hrec _ ⟨rfl, rfl, rfl, e - 1, by simp only; omega, by omega, by omega⟩ (by simp only; omega)]
      rfl
    · have hee : m.log2 = e := by omega
      have hq := Nat.lt_log2_self (n := m)
      obtain ⟨f1, f2, f3⟩ := fracN_size (f := f) h0
      have hn : nearN m f b = (e + b) * 2 ^ f + (fracN m f - 2 ^ f) := by rw [nearN_shape h0, hee]
      have hb : b ≤ 1023 ∧ 1 ≤ f ∧ f ≤ 52 := by omega
      have hb2 : (e + b) * 2 ^ f < 2 ^ 63 := by
        rcases hf with ⟨rfl, rfl⟩ | ⟨rfl, rfl⟩
        · omega
        · omega
      have hf52 : 2 ^ (f + 1) ≤ 2 ^ 53 := Nat.pow_le_pow_right (by omega) (by omega)
      have s0 : shlI .u64 ((e : Int) + (b : Int)) (f : Int) = (((e + b) * 2 ^ f : Nat) : Int) := by
        rw [show ((e : Int) + (b : Int)) = ((e + b : Nat) : Int) from rfl]
        exact shl_nat _ f (by omega) (by omega)
      have s1 := shl_one f (by omega)
      have fin : ∀ g : Nat, g = fracN m f → IntKind.wrap .u64 ((((e + b) * 2 ^ f : Nat) : Int) + IntKind.wrap .u64 ((g : Int) - ((2 ^ f : Nat) : Int))) = ((nearN m f b : Nat) : Int) := by
        intro g hg
        subst hg
        rw [wrap_u64_of (((fracN m f : Nat) : Int) - _) (by omega), wrap_u64_of _ (by omega), hn]
        omega
      clear hrec
      simp (disch := omega) only [dt, df, it, iF, bt, bf, cond_true, cond_false, map_some', chk_t, Bool.and_true, Bool.true_and, Bool.and_false, Bool.false_and, Bool.or_true, Bool.true_or, Bool.or_false, Bool.false_or, Bool.not_true, Bool.not_false, if_true, if_false, beq_self_eq_true, wrap_i64_of, wrap_u64_of, wrap_i32_of, wrap_u32_of, wrap_u8_of, tdiv_of, tmod_of, Int.toNat_natCast, List.take_length, List.drop_zero, or_true, true_or, or_false, false_or, or_self, s0, s1]
      by_cases hef : e ≤ f
      · have hlt := f3 (by omega)
        have e1 : fracN m f = m * 2 ^ (f - e) := by unfold fracN; rw [hee, if_pos hef]
        have e2 : (f : Int) - (e : Int) = ((f - e : Nat) : Int) := by omega
        have s2 := shl_nat m (f - e) (by omega) (by rw [← e1]; omega)
        simp (disch := omega) only [dt, cond_true, chk_t, wrap_i64_of, e2, s2]
        rw [fin _ e1.symm]
      · obtain ⟨k, rfl⟩ : ∃ k, e = f + k := ⟨e - f, by omega⟩
        obtain ⟨q1, q2⟩ := quot_size (f := f) (k := k) h0 hee
        have e1 : fracN m f = rne m k := by unfold fracN; rw [hee, if_neg hef, show f + k - f = k by omega]
        rw [rne_eq] at e1
        have e2 : ((f + k : Nat) : Int) - (f : Int) = (k : Int) := by omega
        have e3 : (k : Int) - 1 = ((k - 1 : Nat) : Int) := by omega
        have s1 := shl_one k (by omega)
        have s2 := shl_one (k - 1) (by omega)
        have s4 := shr_nat m k (by omega)
        have hk0 : 0 < 2 ^ k := Nat.pow_pos (by omega)
        have s5 : (m : Int) % ((2 ^ k : Nat) : Int) = ((m % 2 ^ k : Nat) : Int) := rfl
        have s6 : (!(((2 ^ k : Nat) : Int) == 0)) = true := by rw [bf (by omega)]; rfl
        have s7 : ∀ q : Nat, Int.tmod (q : Int) 2 = ((q % 2 : Nat) : Int) := fun q => tmod_nat _ _
        have s8 : ∀ q : Nat, q < 2 ^ 60 → IntKind.wrap .u64 ((q : Int) + 1) = ((q + 1 : Nat) : Int) := fun q h => wrap_u64_of _ (by omega)
        simp (disch := omega) only [dt, df, cond_true, cond_false, chk_t, wrap_i64_of, e2, e3, s1, s2, s4, s5, s6]
        generalize m / 2 ^ k = q at *
        generalize m % 2 ^ k = r at *
        generalize 2 ^ (k - 1) = H at *
        have s9 := s8 q (by omega)
        by_cases h1 : H < r
        · simp (disch := omega) only [dt, df, cond_true, cond_false, chk_t, s9]
          rw [fin _ (by rw [e1, if_pos h1])]
        · by_cases h2 : r = H
          · by_cases h3 : q % 2 = 1
            · simp (disch := omega) only [dt, df, bt, bf, cond_true, cond_false, chk_t, s9, s7]
              rw [fin _ (by rw [e1, if_neg h1, if_pos h2, if_pos h3])]
            · simp (disch := omega) only [dt, df, bt, bf, cond_true, cond_false, chk_t, s9, s7]
              rw [fin _ (by rw [e1, if_neg h1, if_pos h2, if_neg h3])]
          · simp (disch := omega) only [dt, df, bt, bf, cond_true, cond_false, chk_t, s9, s7]
            rw [fin _ (by rw [e1, if_neg h1, if_neg h2])]
  rw [main]
  rfl

theorem sh_ref1_Double_eq (N : Nat) (v : Int) (hr : -9223372036854775808 ≤ v ∧ v ≤ 9223372036854775807) : sh_ref1_Double N v = some (.int .u64 (doubleR v), []) := by
  show sa_ref1_Double N v = _
  simp only [sa_ref1_Double, doubleR_def, doubleD, doubleN, nearB_def, nearBD]
  have hlt := nearN_lt52 (m := v.natAbs) (by omega)
  by_cases hneg : v < 0
  · have e : (IntKind.wrap .u64 (IntKind.wrap .u64 (IntKind.wrap .i64 (0 - IntKind.wrap .i64 (v + 1))) + 1)).toNat = v.natAbs := by
      rw [wrap_i64_of (v + 1) (by omega), wrap_i64_of _ (by omega), wrap_u64_of (0 - (v + 1)) (by omega), wrap_u64_of _ (by omega)]; omega
    rw [e, dt hneg, cond_true, if_pos hneg]
    show some (V.int .u64 (bitsI .or .u64 9223372036854775808 ((nearN v.natAbs 52 1023 : Nat) : Int)), ([] : List AObj)) = _
    rw [or_u64 63 _ _ (by decide) (by decide) (by omega) (by omega)]
    rfl
  · have e : (IntKind.wrap .u64 v).toNat = v.natAbs := by rw [wrap_u64_of _ (by omega)]; omega
    rw [e, df hneg, cond_false, if_neg hneg, Nat.zero_add]
    rfl

theorem sh_ref1_Float_eq (N : Nat) (v : Int) (hr : -9223372036854775808 ≤ v ∧ v ≤ 9223372036854775807) : sh_ref1_Float N v = some (.int .u32 (floatR v), []) := by
  show sa_ref1_Float N v = _
  simp only [sa_ref1_Float, floatR_def, floatD, floatN, nearB_def, nearBD]
  have hlt := nearN_lt23 (m := v.natAbs) (by omega)
  by_cases hneg : v < 0
  · have e : (IntKind.wrap .u64 (IntKind.wrap .u64 (IntKind.wrap .i64 (0 - IntKind.wrap .i64 (v + 1))) + 1)).toNat = v.natAbs := by
      rw [wrap_i64_of (v + 1) (by omega), wrap_i64_of _ (by omega), wrap_u64_of (0 - (v + 1)) (by omega), wrap_u64_of _ (by omega)]; omega
    rw [e, dt hneg, cond_true, if_pos hneg]
    show some (V.int .u32 (bitsI .or .u32 2147483648 (IntKind.wrap .u32 ((nearN v.natAbs 23 127 : Nat) : Int))), ([] : List AObj)) = _
    rw [wrap_u32_of _ (by omega), or_u32 31 _ _ (by decide) (by decide) (by omega) (by omega)]
    rfl
  · have e : (IntKind.wrap .u64 v).toNat = v.natAbs := by rw [wrap_u64_of _ (by omega)]; omega
    rw [e, df hneg, cond_false, if_neg hneg, Nat.zero_add]
    show some (V.int .u32 (IntKind.wrap .u32 ((nearN v.natAbs 23 127 : Nat) : Int)), ([] : List AObj)) = _
    rw [wrap_u32_of _ (by omega)]
end Go.Proofs.Ytmiclamhiohemaa
