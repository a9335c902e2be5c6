/-
  The machine's arithmetic on numbers from 0 on, told by natural numbers; and rounds over plain data.
-/
import Derived.Test.YtifmekddikapeaaAmV
namespace Go.AM
set_option autoImplicit false
set_option linter.unusedSimpArgs false

/-- rounds that lead to a value -/
theorem iterL_spec {α R : Type} {B : (α → Option R) → α → Option R} (inv : α → Prop) (μ : α → Nat) (F : α → R)
    (step : ∀ (rec : α → Option R) x, inv x → (∀ y, inv y → μ y < μ x → rec y = some (F y)) → B rec x = some (F x)) : ∀ n x, inv x → μ x < n → iterL n B x = some (F x)
  | 0, _, _, h => by omega
  | n + 1, x, hi, hm => step (iterL n B) x hi fun y hy hlt => iterL_spec inv μ F step n y hy (by omega)

theorem chk_true {R : Type} {c : Bool} (h : c = true) (x : Option R) : chk c x = x := by rw [h]; rfl

theorem chk_t {R : Type} (x : Option R) : chk true x = x := rfl
theorem chk_f {R : Type} (x : Option R) : chk false x = none := rfl

theorem wrap_nat (k : IntKind) (hk : k.signed = false) (a : Nat) : k.wrap (a : Int) = ((a % 2 ^ k.bits : Nat) : Int) := by
  cases k <;> simp [IntKind.signed] at hk <;> simp [IntKind.wrap, IntKind.signed, IntKind.bits]

theorem wrap_nat_lt (k : IntKind) (hk : k.signed = false) (a : Nat) (h : a < 2 ^ k.bits) : k.wrap (a : Int) = (a : Int) := by
  rw [wrap_nat k hk, Nat.mod_eq_of_lt h]

theorem wrap_u64 (n : Int) : IntKind.u64.wrap n = n % 18446744073709551616 := by simp [IntKind.wrap, IntKind.bits, IntKind.signed]
theorem wrap_u32 (n : Int) : IntKind.u32.wrap n = n % 4294967296 := by simp [IntKind.wrap, IntKind.bits, IntKind.signed]
theorem wrap_u8 (n : Int) : IntKind.u8.wrap n = n % 256 := by simp [IntKind.wrap, IntKind.bits, IntKind.signed]
theorem wrap_i64 (n : Int) : IntKind.i64.wrap n = (n + 9223372036854775808) % 18446744073709551616 - 9223372036854775808 := by
  simp [IntKind.wrap, IntKind.bits, IntKind.signed]; omega
theorem wrap_i32 (n : Int) : IntKind.i32.wrap n = (n + 2147483648) % 4294967296 - 2147483648 := by
  simp [IntKind.wrap, IntKind.bits, IntKind.signed]; omega
theorem wrap_i64_of (n : Int) (h : -9223372036854775808 ≤ n ∧ n ≤ 9223372036854775807) : IntKind.i64.wrap n = n := by rw [wrap_i64]; omega
theorem wrap_u64_of (n : Int) (h : 0 ≤ n ∧ n ≤ 18446744073709551615) : IntKind.u64.wrap n = n := by rw [wrap_u64]; omega
theorem wrap_u32_of (n : Int) (h : 0 ≤ n ∧ n ≤ 4294967295) : IntKind.u32.wrap n = n := by rw [wrap_u32]; omega
theorem wrap_u8_of (n : Int) (h : 0 ≤ n ∧ n ≤ 255) : IntKind.u8.wrap n = n := by rw [wrap_u8]; omega

theorem ofInt_nat (n a : Nat) : (BitVec.ofInt n (a : Int)).toNat = a % 2 ^ n := by simp

theorem bits_xor (k : IntKind) (hk : k.signed = false) (a b : Nat) (ha : a < 2 ^ k.bits) (hb : b < 2 ^ k.bits) : bitsI .xor k a b = ((a ^^^ b : Nat) : Int) := by
  unfold bitsI
  simp only [BitVec.toNat_xor, ofInt_nat, Nat.mod_eq_of_lt ha, Nat.mod_eq_of_lt hb]
  exact wrap_nat_lt k hk _ (Nat.xor_lt_two_pow ha hb)

theorem bits_and (k : IntKind) (hk : k.signed = false) (a b : Nat) (ha : a < 2 ^ k.bits) (hb : b < 2 ^ k.bits) : bitsI .and k a b = ((a &&& b : Nat) : Int) := by
  unfold bitsI
  simp only [BitVec.toNat_and, ofInt_nat, Nat.mod_eq_of_lt ha, Nat.mod_eq_of_lt hb]
  exact wrap_nat_lt k hk _ (Nat.and_lt_two_pow a hb)

theorem bits_or (k : IntKind) (hk : k.signed = false) (a b : Nat) (ha : a < 2 ^ k.bits) (hb : b < 2 ^ k.bits) : bitsI .or k a b = ((a ||| b : Nat) : Int) := by
  unfold bitsI
  simp only [BitVec.toNat_or, ofInt_nat, Nat.mod_eq_of_lt ha, Nat.mod_eq_of_lt hb]
  exact wrap_nat_lt k hk _ (Nat.or_lt_two_pow ha hb)

theorem shrI_nat (k : IntKind) (a n : Nat) (h : n ≤ k.bits) : shrI k (a : Int) (n : Int) = ((a / 2 ^ n : Nat) : Int) := by
  unfold shrI
  rw [Int.toNat_natCast, Nat.min_eq_left h, Int.fdiv_eq_ediv_of_nonneg _ (Int.le_of_lt (Int.pow_pos (by omega)))]
  norm_cast

theorem shlI_nat (k : IntKind) (hk : k.signed = false) (a n : Nat) (h : n ≤ k.bits) : shlI k (a : Int) (n : Int) = ((a * 2 ^ n % 2 ^ k.bits : Nat) : Int) := by
  unfold shlI
  rw [Int.toNat_natCast, Nat.min_eq_left h, ← wrap_nat k hk]
  norm_cast

theorem tdiv_nat (a b : Nat) : Int.tdiv (a : Int) (b : Int) = ((a / b : Nat) : Int) := by
  rw [Int.tdiv_eq_ediv_of_nonneg (by omega)]; norm_cast

theorem tmod_nat (a b : Nat) : Int.tmod (a : Int) (b : Int) = ((a % b : Nat) : Int) := by
  rw [Int.tmod_eq_emod_of_nonneg (by omega)]; norm_cast

end Go.AM
