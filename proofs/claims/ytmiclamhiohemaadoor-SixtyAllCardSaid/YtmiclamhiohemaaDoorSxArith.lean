/-
  Bits of small numbers of a kind with a sign.
-/
import Derived.Test.YtmiclamhiohemaaDoorAmTac
namespace Go.AM
set_option autoImplicit false

theorem or_i64 (a b : Nat) (ha : a < 2 ^ 62) (hb : b < 2 ^ 62) : bitsI .or .i64 (a : Int) (b : Int) = ((a ||| b : Nat) : Int) := by
  have h := Nat.or_lt_two_pow ha hb
  unfold bitsI
  simp only
  rw [BitVec.toNat_or, ofInt_nat, ofInt_nat, Nat.mod_eq_of_lt (show a < 2 ^ IntKind.i64.bits from Nat.lt_trans ha (by decide)), Nat.mod_eq_of_lt (show b < 2 ^ IntKind.i64.bits from Nat.lt_trans hb (by decide))]
  exact wrap_i64_of _ (by omega)

theorem and_i64 (a b : Nat) (ha : a < 2 ^ 62) (hb : b < 2 ^ 62) : bitsI .and .i64 (a : Int) (b : Int) = ((a &&& b : Nat) : Int) := by
  have h : a &&& b < 2 ^ 62 := Nat.lt_of_le_of_lt Nat.and_le_left ha
  unfold bitsI
  simp only
  rw [BitVec.toNat_and, ofInt_nat, ofInt_nat, Nat.mod_eq_of_lt (show a < 2 ^ IntKind.i64.bits from Nat.lt_trans ha (by decide)), Nat.mod_eq_of_lt (show b < 2 ^ IntKind.i64.bits from Nat.lt_trans hb (by decide))]
  exact wrap_i64_of _ (by omega)

theorem and_i64_mod (a k : Nat) (ha : a < 2 ^ 62) (hk : k ≤ 32) : bitsI .and .i64 (a : Int) ((2 ^ k - 1 : Nat) : Int) = ((a % 2 ^ k : Nat) : Int) := by
  have h2 : 2 ^ k ≤ 2 ^ 32 := Nat.pow_le_pow_right (by omega) hk
  rw [and_i64 a (2 ^ k - 1) ha (by omega), Nat.and_two_pow_sub_one_eq_mod]

theorem shl_i64 (a k : Nat) (hk : k ≤ 64) (h : a * 2 ^ k < 2 ^ 62) : shlI .i64 (a : Int) (k : Int) = ((a * 2 ^ k : Nat) : Int) := by
  unfold shlI
  rw [Int.toNat_natCast, Nat.min_eq_left (show k ≤ IntKind.i64.bits from hk)]
  have e : (a : Int) * 2 ^ k = ((a * 2 ^ k : Nat) : Int) := by simp
  rw [e, wrap_i64_of _ (by omega)]

theorem or_add (a b k : Nat) (hb : b < 2 ^ k) : a * 2 ^ k ||| b = a * 2 ^ k + b := by
  rw [Nat.mul_comm, ← Nat.two_pow_add_eq_or_of_lt hb]
end Go.AM
