/-
  What the laws of layer 2 come to: widened numbers.
-/
import Derived.Test.YtmiclamhiohemaaCsOrder
namespace Go.Proofs.Ytmiclamhiohemaa
open Go.AM
set_option autoImplicit false
set_option linter.unusedSimpArgs false
set_option linter.unusedVariables false

theorem widen_nat (n : Nat) (h : n < 2147483648) : widenR (n : Int) = ((wideN n : Nat) : Int) ∧ widenR ((n + 2147483648 : Nat) : Int) = ((wideN n + 9223372036854775808 : Nat) : Int) := by
  rw [widenR_def]
  simp only [widenD, Int.toNat_natCast]
  unfold widenN
  constructor
  · rw [Nat.div_eq_of_lt h, Nat.mod_eq_of_lt h, Nat.zero_mul, Nat.zero_add]
  · rw [show (n + 2147483648) / 2147483648 = 1 by omega, show (n + 2147483648) % 2147483648 = n by omega]; omega

theorem wide_nan (n : Nat) (h : n < 2147483648) (h255 : n / 8388608 = 255) : wideN n = 9218868437227405312 + n % 8388608 * 536870912 := by
  rw [wideN_parts h, if_pos h255]

theorem wide_not (n : Nat) (h : n < 2147483648) (h255 : n / 8388608 ≠ 255) : wideN n < 9218868437227405312 := by
  rw [wideN_parts h, if_neg h255]
  have l := wide_low (m := n % 8388608) (by omega)
  have hq : n / 8388608 < 256 := by omega
  have hr : n % 8388608 < 8388608 := by omega
  generalize nearN (n % 8388608) 52 874 = P at *
  generalize n / 8388608 = a at *
  generalize n % 8388608 = u at *
  split
  · omega
  · have : (a + 896) * 4503599627370496 = a * 4503599627370496 + 4035225266123964416 := by omega
    omega

theorem law_tail (n : Nat) (h : n < 2147483648) (K : Option (V × List AObj)) (hK : K = (
    let x6 : Bool := ((shrI .u32 (n : Int) 23) == 255)
    cond x6 (
      let x7 : Int := (shrI .u64 (widenR (n : Int)) 52)
      cond (x7 == 2047) (
        let x8 : Int := (shlI .u64 (widenR (n : Int)) 12)
        let x9 : Int := (shrI .u32 (shlI .u32 (n : Int) 9) 9)
        let x10 : Bool := ((shrI .u64 x8 41) == (IntKind.wrap .u64 x9))
        cond x10 (
          let x11 : Int := (shlI .u64 (widenR (n : Int)) 35)
          some (.bool (x11 == 0), [])) (
          some (.bool false, []))) (
        some (.bool false, []))) (
      let x12 : Int := (shrI .u64 (widenR (n : Int)) 52)
      let x13 : Bool := (cond (decide (x12 < 2047)) true false)
      some (.bool x13, [])))) : K = some (.bool true, []) := by
  subst hK
  rw [(widen_nat n h).1]
  have e0 : shrI .u32 (n : Int) 23 = ((n / 8388608 : Nat) : Int) := by rw [shr_u32 _ _ (by omega)]; rfl
  have e1 : shrI .u64 ((wideN n : Nat) : Int) 52 = ((wideN n / 4503599627370496 : Nat) : Int) := shr_nat _ 52 (by omega)
  by_cases h255 : n / 8388608 = 255
  · have hw := wide_nan n h h255
    have e2 : shlI .u64 ((wideN n : Nat) : Int) 12 = ((wideN n * 4096 % 18446744073709551616 : Nat) : Int) := by rw [shl_u64 _ _ (by omega)]; rfl
    have e3 : shrI .u64 ((wideN n * 4096 % 18446744073709551616 : Nat) : Int) 41 = ((wideN n * 4096 % 18446744073709551616 / 2199023255552 : Nat) : Int) := shr_nat _ 41 (by omega)
    have e4 : shlI .u32 (n : Int) 9 = ((n * 512 % 4294967296 : Nat) : Int) := by rw [shl_u32 _ _ (by omega)]; rfl
    have e5 : shrI .u32 ((n * 512 % 4294967296 : Nat) : Int) 9 = ((n * 512 % 4294967296 / 512 : Nat) : Int) := by rw [shr_u32 _ _ (by omega)]; rfl
    have e6 : shlI .u64 ((wideN n : Nat) : Int) 35 = ((wideN n * 34359738368 % 18446744073709551616 : Nat) : Int) := by rw [shl_u64 _ _ (by omega)]; rfl
    simp only [e0, e1, e2, e3, e4, e5, e6]
    have hu : n % 8388608 < 8388608 := by omega
    have hn : n = 255 * 8388608 + n % 8388608 := by omega
    have c1 : wideN n / 4503599627370496 = 2047 := by rw [hw]; omega
    have c2 : wideN n * 4096 % 18446744073709551616 / 2199023255552 = n % 8388608 := by
      rw [hw]
      generalize n % 8388608 = u at *
      rw [show (9218868437227405312 + u * 536870912) * 4096 = u * 2199023255552 + 18446744073709551616 * 2047 by omega, Nat.add_mul_mod_self_left, Nat.mod_eq_of_lt (by omega), Nat.mul_div_cancel _ (by decide)]
    have c3 : n * 512 % 4294967296 / 512 = n % 8388608 := by clear hw c1 c2; omega
    have c4 : wideN n * 34359738368 % 18446744073709551616 = 0 := by
      rw [hw]
      generalize n % 8388608 = u at *
      rw [show (9218868437227405312 + u * 536870912) * 34359738368 = 18446744073709551616 * (u + 17171480576) by omega, Nat.mul_mod_right]
    rw [c1, c2, c3, c4, h255, wrap_u64_of ((n % 8388608 : Nat) : Int) (by clear hw hn c1 c2 c3 c4; omega), beq_self_eq_true]
    rfl
  · have hw := wide_not n h h255
    simp only [e0, e1]
    rw [bf (by omega), cond_false, dt (by omega)]
    rfl

theorem or_sign (n : Nat) (h : n < 2147483648) : bitsI .or .u32 (n : Int) 2147483648 = ((n + 2147483648 : Nat) : Int) := by
  rw [or_comm_u32, or_u32 31 _ _ (by omega) (by decide) (by omega) (by omega)]; omega
theorem or_sign64 (n : Nat) (h : n < 9223372036854775808) : bitsI .or .u64 (n : Int) 9223372036854775808 = ((n + 9223372036854775808 : Nat) : Int) := by
  rw [or_comm_u64, or_u64 63 _ _ (by omega) (by decide) (by omega) (by omega)]; omega

theorem sh_law2_CastWide_eq (N : Nat) (a b : Int) (ha : 0 ≤ a ∧ a ≤ 4294967295) (hb : 0 ≤ b ∧ b ≤ 4294967295) : sh_law2_CastWide N a b = some (.bool true, []) := by
  show sa_law2_CastWide N a b = _
  have low : ∀ x : Int, 0 ≤ x ∧ x ≤ 4294967295 → ∃ m : Nat, bitsI .and .u32 x 2147483647 = (m : Int) ∧ m < 2147483648 := by
    intro x hx
    rw [and_u32_31 _ hx]
    exact ⟨(x % 2147483648).toNat, by omega, by omega⟩
  obtain ⟨m, hm, hm2⟩ := low a ha
  obtain ⟨n, hn, hn2⟩ := low b hb
  obtain ⟨m1, m2⟩ := widen_nat m hm2
  obtain ⟨n1, n2⟩ := widen_nat n hn2
  have om := or_sign m hm2
  have on := or_sign n hn2
  have wm := or_sign64 (wideN m) (wideN_lt hm2)
  have wn := or_sign64 (wideN n) (wideN_lt hn2)
  have lm := law_tail m hm2 _ rfl
  have ln := law_tail n hn2 _ rfl
  simp only [sa_law2_CastWide, hm, hn]
  by_cases h : n < m
  · have hs := wideN_strict h hm2
    rw [dt (by omega), cond_true, cond_true, on]
    simp only [m1, n1, m2, n2, wn, beq_self_eq_true, Bool.not_true, cond_false]
    rw [df (by omega), cond_false]
    rw [m1] at lm
    exact lm
  · rw [df (by omega), cond_false]
    by_cases h2 : m < n
    · have hs := wideN_strict h2 hn2
      rw [dt (by omega), cond_true, om]
      simp only [m1, n1, m2, n2, wm, beq_self_eq_true, Bool.not_true, cond_false]
      rw [df (by omega), cond_false]
      rw [n1] at ln
      exact ln
    · obtain rfl : m = n := by omega
      rw [df (by omega), cond_false, om]
      simp only [m1, n1, m2, n2, wm, beq_self_eq_true, Bool.not_true, cond_false]
      rw [n1] at ln
      exact ln
end Go.Proofs.Ytmiclamhiohemaa
