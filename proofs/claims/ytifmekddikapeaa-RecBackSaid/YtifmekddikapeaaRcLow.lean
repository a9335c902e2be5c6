/-
  Numbers of all bytes, the lowest first.
-/
import Derived.Test.YtifmekddikapeaaRcPut
namespace Go.Proofs.Ytifmekddikapeaa
open Go.AM
set_option autoImplicit false
set_option linter.unusedSimpArgs false
set_option linter.unusedVariables false

def F28 (x : List UInt8 × Int × Int) : V × List AObj := (.int .u64 (lowR x.1), [])

structure LowSt (s : List UInt8) (w : Int) (i : Int) : Prop where
  ex : ∃ j : Nat, i = (j : Int) - 1 ∧ j ≤ s.length ∧ w = ((lowN (s.drop j) % 2 ^ 64 : Nat) : Int)

theorem low_or (a c : Nat) (ha : a < 2 ^ 64) (hc : c < 256) : bitsI .or .u64 (shlI .u64 (a : Int) 8) (c : Int) = (((a * 256 + c) % 2 ^ 64 : Nat) : Int) := by
  have h1 : shlI .u64 (a : Int) 8 = ((a * 2 ^ 8 % 2 ^ 64 : Nat) : Int) := shlI_nat .u64 rfl a 8 (by decide)
  have h2 : a * 2 ^ 8 % 2 ^ 64 = (a % 2 ^ 56) <<< 8 := by rw [Nat.shiftLeft_eq]; omega
  rw [h1, h2, bits_or .u64 rfl _ _ (by rw [Nat.shiftLeft_eq]; show _ < 2 ^ 64; omega) (by show _ < 2 ^ 64; omega)]
  congr 1
  rw [← Nat.shiftLeft_add_eq_or_of_lt (by omega), Nat.shiftLeft_eq]
  omega

theorem low_drop (s : List UInt8) (j : Nat) (h : j < s.length) : lowN (s.drop j) = (s.getD j 0).toNat + 256 * lowN (s.drop (j + 1)) := by
  rw [List.drop_eq_getElem_cons h, lowN]
  simp [List.getD, h]

theorem sh_rec_fixed_eq (N : Nat) (s : List UInt8) (hs : s.length ≤ maxI) (hN : s.length < N) : sh_rec_fixed N s = some (.int .u64 (lowR s), []) := by
  have hm : (s.length : Int) ≤ 9223372036854775807 := by unfold maxI at hs; omega
  have e0 : IntKind.wrap .i64 ((s.length : Int) - 1) = (s.length : Int) - 1 := wrap_i64_of _ (by omega)
  simp only [sh_rec_fixed, sa_rec_fixed, e0]
  refine iterL_spec (fun x => x.1 = s ∧ LowSt s x.2.1 x.2.2) (fun x => (x.2.2 + 1).toNat) F28 ?_ N _ ⟨rfl, s.length, rfl, by omega, by simp [lowN]⟩ (by simp; omega)
  rintro rec ⟨v0, v2, v3⟩ ⟨k0, j, k3, hj, k2⟩ hrec
  simp only at k0 k2 k3 hrec ⊢
  subst k0 k2 k3
  simp only [B_rec_fixed_0, F28]
  by_cases h0 : 0 < j
  · obtain ⟨i, rfl⟩ : ∃ i, j = i + 1 := ⟨j - 1, by omega⟩
    have e1 : ((i + 1 : Nat) : Int) - 1 = (i : Int) := by omega
    have c1 : decide ((0 : Int) ≤ (i : Int)) = true := decide_eq_true (by omega)
    have c2 : decide ((i : Int) < (v0.length : Int)) = true := decide_eq_true (by omega)
    have e8 : decide ((0 : Int) ≤ 8) = true := rfl
    have hc := (v0.getD i 0).toNat_lt
    have e2 : IntKind.wrap .u64 (((v0.getD i 0).toNat : Nat) : Int) = ((v0.getD i 0).toNat : Int) := wrap_u64_of _ (by omega)
    have e3 : IntKind.wrap .i64 ((i : Int) - 1) = (i : Int) - 1 := wrap_i64_of _ (by omega)
    simp only [e1, c1, c2, e8, Bool.and_true, cond_true, chk_t, Int.toNat_natCast, e2, e3]
    rw [low_or _ _ (Nat.mod_lt _ (by decide)) (by omega)]
    rw [hrec _ ⟨rfl, i, rfl, by omega, ?_⟩ (by simp only; omega)]
    · rfl
    · simp only
      rw [low_drop v0 i (by omega)]
      congr 1
      omega
  · obtain rfl : j = 0 := by omega
    have c1 : decide ((0 : Int) ≤ ((0 : Nat) : Int) - 1) = false := rfl
    simp only [c1, cond_false, List.drop_zero, lowR]

theorem sh_ref1_low_eq (N : Nat) (s : List UInt8) (hs : s.length ≤ maxI) (hN : s.length < N) : sh_ref1_low N s = some (.int .u64 (lowR s), []) := by
  have hm : (s.length : Int) ≤ 9223372036854775807 := by unfold maxI at hs; omega
  have e0 : IntKind.wrap .i64 ((s.length : Int) - 1) = (s.length : Int) - 1 := wrap_i64_of _ (by omega)
  simp only [sh_ref1_low, sa_ref1_low, e0]
  refine iterL_spec (fun x => x.1 = s ∧ LowSt s x.2.1 x.2.2) (fun x => (x.2.2 + 1).toNat) F28 ?_ N _ ⟨rfl, s.length, rfl, by omega, by simp [lowN]⟩ (by simp; omega)
  rintro rec ⟨v0, v2, v3⟩ ⟨k0, j, k3, hj, k2⟩ hrec
  simp only at k0 k2 k3 hrec ⊢
  subst k0 k2 k3
  simp only [B_ref1_low_0, F28]
  by_cases h0 : 0 < j
  · obtain ⟨i, rfl⟩ : ∃ i, j = i + 1 := ⟨j - 1, by omega⟩
    have e1 : ((i + 1 : Nat) : Int) - 1 = (i : Int) := by omega
    have c1 : decide ((0 : Int) ≤ (i : Int)) = true := decide_eq_true (by omega)
    have c2 : decide ((i : Int) < (v0.length : Int)) = true := decide_eq_true (by omega)
    have hc := (v0.getD i 0).toNat_lt
    have e2 : IntKind.wrap .u64 (((v0.getD i 0).toNat : Nat) : Int) = ((v0.getD i 0).toNat : Int) := wrap_u64_of _ (by omega)
    have e3 : IntKind.wrap .i64 ((i : Int) - 1) = (i : Int) - 1 := wrap_i64_of _ (by omega)
    simp only [e1, c1, c2, Bool.and_true, cond_true, chk_t, Int.toNat_natCast, e2, e3]
    rw [hrec _ ⟨rfl, i, rfl, by omega, ?_⟩ (by simp only; omega)]
    · rfl
    · simp only
      rw [low_drop v0 i (by omega), wrap_u64, wrap_u64]
      generalize lowN (v0.drop (i + 1)) = L
      generalize (v0.getD i 0).toNat = c at hc
      omega
  · obtain rfl : j = 0 := by omega
    have c1 : decide ((0 : Int) ≤ ((0 : Nat) : Int) - 1) = false := rfl
    simp only [c1, cond_false, List.drop_zero, lowR]

theorem sh_rec_size_eq (N : Nat) (p : Int) : sh_rec_size N p = some (.int .i64 (sizeR p), []) := by
  simp only [sh_rec_size, sa_rec_size, sizeR]
  by_cases h : p = 1
  · subst h; rfl
  · have : (p == 1) = false := by simpa using h
    rw [this, if_neg h]; rfl

def F25 (x : Int × Int × List UInt8 × Int) : V × List AObj := (.str (x.2.2.1 ++ lowsN (x.2.1 - x.2.2.2).toNat x.1.toNat), [])

structure LowsSt (n : Int) (w : Int) (b : List UInt8) (i : Int) : Prop where
  ex : ∃ v : Nat, w = (v : Int) ∧ v < 2 ^ 64
  i0 : 0 ≤ i
  bl : (b.length : Int) = i

theorem sh_ref1_Low_eq (N : Nat) (p n : Int) (hp : 0 ≤ p ∧ p ≤ 18446744073709551615) (hn : n ≤ 1000) (hN : 1000 < N) : sh_ref1_Low N p n = some (.str (lowsR p n), []) := by
  show iterL N (B_ref1_Low_0 N) (p, n, ([] : List UInt8), 0) = _
  have key : iterL N (B_ref1_Low_0 N) (p, n, ([] : List UInt8), 0) = some (F25 (p, n, ([] : List UInt8), 0)) := by
    refine iterL_spec (fun x => x.2.1 = n ∧ LowsSt n x.1 x.2.2.1 x.2.2.2) (fun x => (n - x.2.2.2).toNat) F25 ?_ N _ ⟨rfl, ⟨p.toNat, by simp; omega, by omega⟩, by simp, by simp⟩ (by simp; omega)
    rintro rec ⟨v0, v1, v5, v6⟩ ⟨k1, ⟨v, kv, hv⟩, hi, hl⟩ hrec
    simp only at k1 kv hi hl hrec ⊢
    subst k1 kv
    simp only [B_ref1_Low_0, F25]
    by_cases h : v6 < v1
    · have c1 : decide (v6 < v1) = true := decide_eq_true h
      have e8 : (!((256 : Int) == 0)) = true := rfl
      have e1 : Int.tmod (v : Int) 256 = ((v % 256 : Nat) : Int) := tmod_nat _ _
      have e2 : IntKind.wrap .u8 ((v % 256 : Nat) : Int) = ((v % 256 : Nat) : Int) := wrap_u8_of _ (by omega)
      have e3 : Int.tdiv (v : Int) 256 = ((v / 256 : Nat) : Int) := tdiv_nat _ _
      have e4 : IntKind.wrap .u64 ((v / 256 : Nat) : Int) = ((v / 256 : Nat) : Int) := wrap_u64_of _ (by omega)
      have e5 : IntKind.wrap .i64 (v6 + 1) = v6 + 1 := wrap_i64_of _ (by omega)
      have e6 : ∀ c : UInt8, decide (v5.length + [c].length ≤ 9223372036854775807) = true := fun c => decide_eq_true (by simp; omega)
      simp only [c1, cond_true, e1, e2, e3, e4, e5, chk_true e8, chk_true (e6 _), Int.toNat_natCast]
      rw [hrec _ ⟨rfl, ⟨v / 256, rfl, by omega⟩, by simp only; omega, by simp; omega⟩ (by simp only; omega)]
      simp only [F25, Int.toNat_natCast]
      rw [show (v1 - v6).toNat = (v1 - (v6 + 1)).toNat + 1 by omega, lowsN, List.append_assoc]
      rfl
    · have c1 : decide (v6 < v1) = false := decide_eq_false h
      simp only [c1, cond_false]
      rw [show (v1 - v6).toNat = 0 by omega]
      simp [lowsN]
  rw [key]
  simp [F25, lowsR]
end Go.Proofs.Ytifmekddikapeaa
