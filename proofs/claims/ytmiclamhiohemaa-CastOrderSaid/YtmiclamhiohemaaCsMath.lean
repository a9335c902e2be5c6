/-
  What nearest and widened numbers are like: order, signs, exactness.
-/
import Derived.Test.YtmiclamhiohemaaCsLaws
namespace Go.Proofs.Ytmiclamhiohemaa
open Go.AM
set_option autoImplicit false
set_option linter.unusedSimpArgs false
set_option linter.unusedVariables false

theorem xor_low (b i : Nat) (h : b < 2 ^ i) : b ^^^ 2 ^ i = 2 ^ i + b := by
  apply Nat.eq_of_testBit_eq
  intro j
  rw [Nat.testBit_xor, Nat.testBit_two_pow]
  rcases Nat.lt_trichotomy j i with hj | hj | hj
  · rw [Nat.testBit_two_pow_add_gt hj]
    have : ¬ i = j := by omega
    simp [this]
  · subst hj
    rw [Nat.testBit_two_pow_add_eq]
    simp
  · have h1 : b.testBit j = false := Nat.testBit_lt_two_pow (Nat.lt_of_lt_of_le h (Nat.pow_le_pow_right (by omega) (by omega)))
    have h2 : (2 ^ i + b).testBit j = false := by
      apply Nat.testBit_lt_two_pow
      have : 2 ^ (i + 1) ≤ 2 ^ j := Nat.pow_le_pow_right (by omega) (by omega)
      rw [Nat.pow_succ] at this
      omega
    have : ¬ i = j := by omega
    rw [h1, h2]
    simp [this]

theorem xor_top (a i : Nat) (h : a < 2 ^ (i + 1)) : a ^^^ 2 ^ i = if a < 2 ^ i then a + 2 ^ i else a - 2 ^ i := by
  rw [Nat.pow_succ] at h
  split
  · rename_i h1
    rw [xor_low a i h1]; omega
  · rename_i h1
    obtain ⟨b, rfl⟩ : ∃ b, a = 2 ^ i + b := ⟨a - 2 ^ i, by omega⟩
    rw [← xor_low b i (by omega), Nat.xor_assoc, Nat.xor_self, Nat.xor_zero, xor_low b i (by omega)]
    omega

theorem xor_u64_top (a : Nat) (h : a < 18446744073709551616) : bitsI .xor .u64 (a : Int) 9223372036854775808 = ((if a < 9223372036854775808 then a + 9223372036854775808 else a - 9223372036854775808 : Nat) : Int) := by
  have := bits_xor .u64 rfl a 9223372036854775808 (by show _ < 2 ^ 64; omega) (by decide)
  rw [show (9223372036854775808 : Int) = ((9223372036854775808 : Nat) : Int) from rfl, this]
  have e := xor_top a 63 (by omega)
  rw [show (2 : Nat) ^ 63 = 9223372036854775808 from rfl] at e
  rw [e]
theorem xor_u32_top (a : Nat) (h : a < 4294967296) : bitsI .xor .u32 (a : Int) 2147483648 = ((if a < 2147483648 then a + 2147483648 else a - 2147483648 : Nat) : Int) := by
  have := bits_xor .u32 rfl a 2147483648 (by show _ < 2 ^ 32; omega) (by decide)
  rw [show (2147483648 : Int) = ((2147483648 : Nat) : Int) from rfl, this]
  have e := xor_top a 31 (by omega)
  rw [show (2 : Nat) ^ 31 = 2147483648 from rfl] at e
  rw [e]

theorem double_neg (v : Int) (h0 : v ≠ 0) (hr : -9223372036854775807 ≤ v ∧ v ≤ 9223372036854775807) : doubleR (0 - v) = bitsI .xor .u64 (doubleR v) 9223372036854775808 := by
  have hl := nearN_lt52 (m := v.natAbs) (by omega)
  rw [doubleR_def]
  simp only [doubleD, doubleN]
  rw [xor_u64_top _ (by split <;> omega), show (0 - v).natAbs = v.natAbs by omega]
  by_cases h : v < 0
  · rw [if_pos h, if_neg (by omega), if_neg (by omega)]; omega
  · rw [if_neg h, if_pos (by omega), if_pos (by omega)]; omega

theorem float_neg (v : Int) (h0 : v ≠ 0) (hr : -9223372036854775807 ≤ v ∧ v ≤ 9223372036854775807) : floatR (0 - v) = bitsI .xor .u32 (floatR v) 2147483648 := by
  have hl := nearN_lt23 (m := v.natAbs) (by omega)
  rw [floatR_def]
  simp only [floatD, floatN]
  rw [xor_u32_top _ (by split <;> omega), show (0 - v).natAbs = v.natAbs by omega]
  by_cases h : v < 0
  · rw [if_pos h, if_neg (by omega), if_neg (by omega)]; omega
  · rw [if_neg h, if_pos (by omega), if_pos (by omega)]; omega

theorem log2_le_23 {m : Nat} (h : m ≤ 8388608) (hm : m ≠ 0) : m.log2 ≤ 23 := by
  have hp := Nat.log2_self_le hm
  rcases Nat.lt_or_ge 23 m.log2 with h' | h'
  · have : 2 ^ 24 ≤ 2 ^ m.log2 := Nat.pow_le_pow_right (by omega) h'
    omega
  · exact h'

theorem near_exact {m f b : Nat} (hm : m ≠ 0) (h : m.log2 ≤ f) : nearN m f b = (m.log2 + b) * 2 ^ f + (m * 2 ^ (f - m.log2) - 2 ^ f) := by
  rw [nearN_shape hm]; unfold fracN; rw [if_pos h]

/-- few bits are exact in both, and widened into each other -/
theorem widen_float (v : Int) (hv : v.natAbs ≤ 8388608) : widenR (floatR v) = doubleR v := by
  rw [widenR_def, floatR_def, doubleR_def]
  simp only [widenD, floatD, doubleD, Int.toNat_natCast, floatN, doubleN]
  by_cases h0 : v.natAbs = 0
  · have : v = 0 := by omega
    subst this; decide +kernel
  have he := log2_le_23 hv h0
  obtain ⟨z1, z2⟩ := sub_size h0 23 he
  obtain ⟨z3, z4⟩ := sub_size h0 52 (by omega)
  have z5 : v.natAbs * 2 ^ (52 - v.natAbs.log2) = v.natAbs * 2 ^ (23 - v.natAbs.log2) * 536870912 := by
    rw [show 52 - v.natAbs.log2 = (23 - v.natAbs.log2) + 29 by omega, Nat.pow_add, Nat.mul_assoc]
  have hn := nearN_lt23 (m := v.natAbs) (by omega)
  have e1 := near_exact (b := 127) h0 he
  have e2 := near_exact (b := 1023) (f := 52) h0 (by omega)
  rw [e1] at hn ⊢
  rw [e2, z5]
  generalize v.natAbs * 2 ^ (23 - v.natAbs.log2) = F at *
  generalize v.natAbs.log2 = e at *
  unfold widenN
  have s1 : ∀ s : Nat, s = 0 ∨ s = 2147483648 → (s + ((e + 127) * 2 ^ 23 + (F - 2 ^ 23))) / 2147483648 = s / 2147483648 ∧ (s + ((e + 127) * 2 ^ 23 + (F - 2 ^ 23))) % 2147483648 = (e + 127) * 2 ^ 23 + (F - 2 ^ 23) := by
    intro s hs
    omega
  have w : wideN ((e + 127) * 2 ^ 23 + (F - 2 ^ 23)) = (e + 1023) * 2 ^ 52 + (F * 536870912 - 2 ^ 52) := by
    unfold wideN
    have q1 : ((e + 127) * 2 ^ 23 + (F - 2 ^ 23)) / 8388608 = e + 127 := by omega
    have q2 : ((e + 127) * 2 ^ 23 + (F - 2 ^ 23)) % 8388608 = F - 2 ^ 23 := by omega
    rw [q1, q2, if_neg (by omega), if_neg (by omega)]
    omega
  by_cases h : v < 0
  · obtain ⟨d1, d2⟩ := s1 2147483648 (.inr rfl)
    rw [if_pos h, if_pos h, d1, d2, w]
  · obtain ⟨d1, d2⟩ := s1 0 (.inl rfl)
    rw [if_neg h, if_neg h, d1, d2, w]

theorem double_zero : doubleR 0 = 0 := by rw [doubleR_def]; decide +kernel
theorem float_zero : floatR 0 = 0 := by rw [floatR_def]; decide +kernel

theorem rne_mono {m n : Nat} (k : Nat) (h : m ≤ n) : rne m k ≤ rne n k := by
  rw [rne_eq, rne_eq]
  have hq : m / 2 ^ k ≤ n / 2 ^ k := Nat.div_le_div_right h
  have a := Nat.div_add_mod m (2 ^ k)
  have b := Nat.div_add_mod n (2 ^ k)
  have hp : 0 < 2 ^ k := Nat.pow_pos (by omega)
  have ra := Nat.mod_lt m hp
  have rb := Nat.mod_lt n hp
  generalize hqm : m / 2 ^ k = q at *
  generalize hqn : n / 2 ^ k = p at *
  generalize m % 2 ^ k = r at *
  generalize n % 2 ^ k = t at *
  generalize 2 ^ (k - 1) = H at *
  rcases Nat.lt_or_ge q p with h1 | h1
  · (repeat' split) <;> omega
  · obtain rfl : q = p := by omega
    have : r ≤ t := by omega
    (repeat' split) <;> omega

theorem log2_mono {m n : Nat} (hm : m ≠ 0) (h : m ≤ n) : m.log2 ≤ n.log2 := by
  have a := Nat.log2_self_le hm
  have b := Nat.lt_log2_self (n := n)
  rcases Nat.lt_or_ge n.log2 m.log2 with h' | h'
  · have : 2 ^ (n.log2 + 1) ≤ 2 ^ m.log2 := Nat.pow_le_pow_right (by omega) h'
    omega
  · exact h'

theorem fracN_mono {m n f : Nat} (h : m ≤ n) (he : m.log2 = n.log2) : fracN m f ≤ fracN n f := by
  unfold fracN
  rw [he]
  split
  · exact Nat.mul_le_mul_right _ h
  · exact rne_mono _ h

theorem nearN_mono {m n : Nat} (f b : Nat) (h : m ≤ n) : nearN m f b ≤ nearN n f b := by
  by_cases hm : m = 0
  · subst hm; unfold nearN; simp
  have hn : n ≠ 0 := by omega
  have hl := log2_mono hm h
  obtain ⟨a1, a2, -⟩ := fracN_size (f := f) hm
  obtain ⟨b1, b2, -⟩ := fracN_size (f := f) hn
  rw [nearN_shape hm, nearN_shape hn]
  rcases Nat.lt_or_ge m.log2 n.log2 with h1 | h1
  · have : (m.log2 + b + 1) * 2 ^ f ≤ (n.log2 + b) * 2 ^ f := Nat.mul_le_mul_right _ (by omega)
    rw [Nat.add_mul, Nat.one_mul] at this
    rw [Nat.pow_succ] at a2
    omega
  · have he : m.log2 = n.log2 := by omega
    have := fracN_mono (f := f) h he
    rw [he]
    omega

theorem near_strict {m n : Nat} (f b : Nat) (hm : m ≠ 0) (h : m < n) (hf : n.log2 ≤ f) : nearN m f b < nearN n f b := by
  have hn : n ≠ 0 := by omega
  have hl := log2_mono hm (Nat.le_of_lt h)
  obtain ⟨a1, a2⟩ := sub_size hm f (by omega)
  obtain ⟨b1, b2⟩ := sub_size hn f hf
  rw [near_exact hm (by omega), near_exact hn hf]
  rcases Nat.lt_or_ge m.log2 n.log2 with h1 | h1
  · have : (m.log2 + b + 1) * 2 ^ f ≤ (n.log2 + b) * 2 ^ f := Nat.mul_le_mul_right _ (by omega)
    rw [Nat.add_mul, Nat.one_mul] at this
    rw [Nat.pow_succ] at a2
    omega
  · have he : m.log2 = n.log2 := by omega
    rw [he] at a1 ⊢
    have : m * 2 ^ (f - n.log2) < n * 2 ^ (f - n.log2) := Nat.mul_lt_mul_of_pos_right h (Nat.pow_pos (by omega))
    omega

theorem double_nat (n : Nat) : doubleR (n : Int) = ((nearN n 52 1023 : Nat) : Int) := by
  rw [doubleR_def]; simp only [doubleD, doubleN]
  rw [if_neg (by omega)]; simp
theorem float_nat (n : Nat) : floatR (n : Int) = ((nearN n 23 127 : Nat) : Int) := by
  rw [floatR_def]; simp only [floatD, floatN]
  rw [if_neg (by omega)]; simp

theorem wideN_parts {x : Nat} (h : x < 2147483648) : wideN x = if x / 8388608 = 255 then 9218868437227405312 + x % 8388608 * 536870912 else if x / 8388608 = 0 then nearN (x % 8388608) 52 874 else (x / 8388608 + 896) * 4503599627370496 + x % 8388608 * 536870912 := by
  unfold wideN
  split
  · rfl
  · split
    · split
      · rename_i h0; rw [h0]; rfl
      · rename_i h0
        rw [near_exact h0 (by have := log2_le_22 (m := x % 8388608) (by omega) h0; omega)]
    · rfl

theorem wide_low {m : Nat} (h : m < 8388608) : nearN m 52 874 < 4039728865751334912 := by
  by_cases h0 : m = 0
  · subst h0; decide
  · have := log2_le_22 h h0
    obtain ⟨z1, z2⟩ := sub_size h0 52 (by omega)
    rw [near_exact h0 (by omega)]
    omega

theorem wideN_strict {x y : Nat} (h : x < y) (hy : y < 2147483648) : wideN x < wideN y := by
  rw [wideN_parts (by omega), wideN_parts hy]
  have l1 := wide_low (m := x % 8388608) (by omega)
  have l2 := wide_low (m := y % 8388608) (by omega)
  have hq : x / 8388608 ≤ y / 8388608 := Nat.div_le_div_right (by omega)
  by_cases e : x / 8388608 = y / 8388608
  · have hm : x % 8388608 < y % 8388608 := by omega
    rw [e]
    split
    · omega
    · split
      · by_cases h0 : x % 8388608 = 0
        · have hy0 : y % 8388608 ≠ 0 := by omega
          rw [h0, show nearN 0 52 874 = 0 from rfl, nearN_shape hy0]
          omega
        · exact near_strict 52 874 h0 hm (by have := log2_le_22 (m := y % 8388608) (by omega) (by omega); omega)
      · omega
  · have ha : x / 8388608 < 256 := by omega
    have hb : y / 8388608 < 256 := by omega
    have hu : x % 8388608 < 8388608 := by omega
    have hv : y % 8388608 < 8388608 := by omega
    clear h hy
    generalize nearN (x % 8388608) 52 874 = P at *
    generalize nearN (y % 8388608) 52 874 = Q at *
    generalize x / 8388608 = a at *
    generalize y / 8388608 = b at *
    generalize x % 8388608 = u at *
    generalize y % 8388608 = v at *
    have hab : a + 1 ≤ b := by omega
    clear hq e
    rw [if_neg (by omega : ¬ a = 255), if_neg (by omega : ¬ b = 0)]
    have key : (if a = 0 then P else (a + 896) * 4503599627370496 + u * 536870912) + 1 ≤ (b + 896) * 4503599627370496 := by
      split
      · omega
      · omega
    generalize (if a = 0 then P else (a + 896) * 4503599627370496 + u * 536870912) = Z at *
    have e : (b + 896) * 4503599627370496 = b * 4503599627370496 + 4035225266123964416 := by omega
    rw [e] at key ⊢
    split
    · omega
    · omega

theorem wideN_lt {x : Nat} (h : x < 2147483648) : wideN x < 9223372036854775808 := by
  rw [wideN_parts h]
  have l1 := wide_low (m := x % 8388608) (by omega)
  split
  · omega
  · split <;> omega
end Go.Proofs.Ytmiclamhiohemaa
