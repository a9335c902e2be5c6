/-
  How numbers are written.
-/
import Derived.Test.YtifmekddikapeaaRcVar
namespace Go.Proofs.Ytifmekddikapeaa
open Go.AM
set_option autoImplicit false
set_option linter.unusedSimpArgs false
set_option linter.unusedVariables false

theorem putN_le : ∀ (k v : Nat), v < 128 ^ (k + 1) → putN (k + 1) v = putN k v
  | 0, v, h => by simp at h; simp [putN, h]
  | k + 1, v, h => by
    rw [putN]
    conv => rhs; rw [putN]
    split
    · rfl
    · rw [putN_le k (v / 128) (by rw [Nat.pow_succ] at h; exact Nat.div_lt_of_lt_mul (by rw [Nat.mul_comm]; exact h))]

theorem putN_step (v : Nat) (h : v < 2 ^ 64) (h128 : 128 ≤ v) : putN 9 v = UInt8.ofNat (v % 128 + 128) :: putN 9 (v / 128) := by
  rw [putN, if_neg (by omega), putN_le 8 (v / 128)]
  have : (2 : Nat) ^ 64 ≤ 128 * 128 ^ 9 := by decide
  exact Nat.div_lt_of_lt_mul (by omega)

theorem putN_one (v : Nat) (h : v < 128) : putN 9 v = [UInt8.ofNat v] := by rw [putN, if_pos h]

def F13 (x : Int × List UInt8) : V × List AObj := (.str (x.2 ++ putN 9 x.1.toNat), [])

structure PutSt (w : Int) (b : List UInt8) : Prop where
  ex : ∃ v : Nat, w = (v : Int) ∧ v < 2 ^ 64 ∧ v < 128 ^ (10 - b.length) ∧ b.length ≤ 9

theorem sh_rec_PutVarint_eq (N : Nat) (p : Int) (hp : 0 ≤ p ∧ p ≤ 18446744073709551615) (hN : 2 ^ 64 < N) : sh_rec_PutVarint N p = some (.str (putV p), []) := by
  obtain ⟨v, rfl⟩ : ∃ v : Nat, p = (v : Int) := ⟨p.toNat, by omega⟩
  have hv : v < 2 ^ 64 := by omega
  show iterL N (B_rec_PutVarint_0 N) ((v : Int), ([] : List UInt8)) = some (F13 ((v : Int), []))
  refine iterL_spec (fun x => PutSt x.1 x.2) (fun x => x.1.toNat) F13 ?_ N _ ⟨v, rfl, hv, ?_, by simp⟩ (by simp; omega)
  · rintro rec ⟨w, b⟩ ⟨v, rfl, h64, hb, hl⟩ hrec
    simp only at hb hl hrec ⊢
    simp only [B_rec_PutVarint_0, F13, Int.toNat_natCast]
    by_cases h128 : 128 ≤ v
    · have c1 : decide ((128 : Int) ≤ (v : Int)) = true := decide_eq_true (by omega)
      have e2 : Int.tmod (v : Int) 128 = ((v % 128 : Nat) : Int) := tmod_nat _ _
      have e3 : IntKind.wrap .u64 (((v % 128 : Nat) : Int) + 128) = ((v % 128 + 128 : Nat) : Int) := by rw [wrap_u64_of _ (by omega)]; rfl
      have e4 : IntKind.wrap .u8 ((v % 128 + 128 : Nat) : Int) = ((v % 128 + 128 : Nat) : Int) := wrap_u8_of _ (by omega)
      have e5 : shrI .u64 (v : Int) 7 = ((v / 128 : Nat) : Int) := shrI_nat .u64 v 7 (by decide)
      have e6 : ∀ c : UInt8, decide ((b.length + [c].length) * 1 ≤ 140737488355328) = true := fun c => decide_eq_true (by simp; omega)
      have e7 : decide ((0 : Int) ≤ 7) = true := rfl
      have e8 : (!((128 : Int) == 0)) = true := rfl
      simp only [c1, cond_true, e2, e3, e4, e5, e7, Int.toNat_natCast, chk_true e8, chk_true (e6 _), chk_t]
      have hb2 : 2 ≤ 10 - b.length := by
        rcases Nat.lt_or_ge (10 - b.length) 2 with h | h
        · have : (128 : Nat) ^ (10 - b.length) ≤ 128 ^ 1 := Nat.pow_le_pow_right (by omega) (by omega)
          omega
        · exact h
      rw [hrec (((v / 128 : Nat) : Int), b ++ [UInt8.ofNat (v % 128 + 128)]) ⟨v / 128, rfl, by omega, ?_, by simp; omega⟩ (by simp; omega)]
      · simp only [F13, Int.toNat_natCast]
        rw [putN_step v h64 h128, List.append_assoc]
        rfl
      · simp only [List.length_append, List.length_singleton]
        refine Nat.div_lt_of_lt_mul ?_
        rw [show 10 - b.length = (10 - (b.length + 1)) + 1 by omega, Nat.pow_succ, Nat.mul_comm] at hb
        exact hb
    · have c1 : decide ((128 : Int) ≤ (v : Int)) = false := decide_eq_false (by omega)
      have e4 : IntKind.wrap .u8 (v : Int) = (v : Int) := wrap_u8_of _ (by omega)
      have e6 : ∀ c : UInt8, decide ((b.length + [c].length) * 1 ≤ 140737488355328) = true := fun c => decide_eq_true (by simp; omega)
      simp only [c1, cond_false, e4, Int.toNat_natCast, chk_true (e6 _)]
      rw [putN_one v (by omega)]
  · have : (2 : Nat) ^ 64 ≤ 128 ^ 10 := by decide
    simp; omega

theorem putN_len : ∀ (k v : Nat), (putN k v).length ≤ k + 1
  | 0, v => by simp [putN]
  | k + 1, v => by
    rw [putN]
    split
    · simp
    · have := putN_len k (v / 128)
      simp; omega

theorem sh_ref1_PutVarint_eq (v : Nat) (hv : v < 2 ^ 64) : sh_ref1_PutVarint (v + 999999) (v : Int) = some (.str (putV v), []) := by
  simp only [sh_ref1_PutVarint, sa_ref1_PutVarint, putV, Int.toNat_natCast]
  by_cases h128 : v < 128
  · have c1 : decide ((v : Int) < 128) = true := decide_eq_true (by omega)
    have e4 : IntKind.wrap .u8 (v : Int) = (v : Int) := wrap_u8_of _ (by omega)
    simp only [c1, cond_true, e4, Int.toNat_natCast]
    rw [putN_one v h128]
  · have c1 : decide ((v : Int) < 128) = false := decide_eq_false (by omega)
    have e2 : Int.tmod (v : Int) 128 = ((v % 128 : Nat) : Int) := tmod_nat _ _
    have e1 : Int.tdiv (v : Int) 128 = ((v / 128 : Nat) : Int) := tdiv_nat _ _
    have e3 : IntKind.wrap .u64 ((v / 128 : Nat) : Int) = ((v / 128 : Nat) : Int) := wrap_u64_of _ (by omega)
    have e4 : IntKind.wrap .u8 ((v % 128 : Nat) : Int) = ((v % 128 : Nat) : Int) := wrap_u8_of _ (by omega)
    have e5 : IntKind.wrap .u8 (((v % 128 : Nat) : Int) + 128) = ((v % 128 + 128 : Nat) : Int) := by rw [wrap_u8_of _ (by omega)]; rfl
    have e8 : (!((128 : Int) == 0)) = true := rfl
    have e9 : decide (1000000 ≤ v + 999999 - v / 128) = true := decide_eq_true (by omega)
    have e10 : ∀ (c : UInt8) (l : List UInt8), l.length ≤ 10 → decide ([c].length + l.length ≤ 9223372036854775807) = true := fun c l h => decide_eq_true (by simp; omega)
    simp only [c1, cond_false, e1, e2, e3, e4, e5, Int.toNat_natCast, chk_true e8, chk_true e9, chk_true (e10 _ _ (putN_len 9 (v / 128)))]
    rw [putN_step v hv (by omega)]
    rfl

theorem pure_ref1_PutVarint_nat : ∀ (m v : Nat), v ≤ m → v < 2 ^ 64 → PureOK Try.prog i_ref1_PutVarint [.int .u64 (v : Int)] (.str (putV v)) := by
  intro m
  induction m with
  | zero =>
    intro v hm hv
    refine ok_ref1_PutVarint (v + 999999) (spec_ref1_PutVarint _ ?_) _ (sh_ref1_PutVarint_eq v hv)
    intro a0 hd
    have := of_decide_eq_true hd
    omega
  | succ m ih =>
    intro v hm hv
    refine ok_ref1_PutVarint (v + 999999) (spec_ref1_PutVarint _ ?_) _ (sh_ref1_PutVarint_eq v hv)
    intro a0 hd
    have hd := of_decide_eq_true hd
    refine PureOK.fits fun hf => ?_
    have h0 := hf _ (List.mem_singleton.2 rfl)
    simp only [V.fits, IntKind.min, IntKind.max, IntKind.signed, IntKind.bits] at h0
    simp at h0
    obtain ⟨b, rfl⟩ : ∃ b : Nat, a0 = (b : Int) := ⟨a0.toNat, by omega⟩
    exact ih b (by omega) (by omega)
end Go.Proofs.Ytifmekddikapeaa
