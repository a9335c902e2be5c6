/-
  RecLengths: how many bytes a number has.
-/
import Derived.Test.YtifmekddikapeaaRcOk
namespace Go.Proofs.Ytifmekddikapeaa
open Go.AM
set_option autoImplicit false
set_option linter.unusedSimpArgs false
set_option linter.unusedVariables false

theorem ofNat_toNat (n : Nat) (h : n < 256) : (UInt8.ofNat n).toNat = n := by simp; omega

theorem vdec_putN : ∀ (k v : Nat) (m : List UInt8), v < 128 ^ k * 2 → vdec (k + 1) (putN k v ++ m) = some (v, (putN k v).length)
  | 0, v, m, h => by
    simp only [putN, List.cons_append, List.nil_append, vdec, ofNat_toNat v (by omega)]
    rw [if_neg (by omega), if_pos (by omega)]
    rfl
  | k + 1, v, m, h => by
    rw [putN]
    split
    · rename_i h1
      simp only [List.cons_append, List.nil_append, vdec, ofNat_toNat v (by omega)]
      rw [if_neg (by omega), if_pos h1]
      rfl
    · rename_i h1
      have e : v / 128 < 128 ^ k * 2 := Nat.div_lt_of_lt_mul (by rw [Nat.pow_succ] at h; omega)
      simp only [List.cons_append]
      rw [vdec]
      rw [ofNat_toNat _ (by omega), if_neg (by omega), if_neg (by omega), vdec_putN k (v / 128) m e]
      simp only [List.length_cons, Option.some.injEq, Prod.mk.injEq, and_true]
      omega

theorem putN_pos : ∀ (k v : Nat), 1 ≤ (putN k v).length
  | 0, v => by simp [putN]
  | k + 1, v => by rw [putN]; split <;> simp

theorem vdec_cut : ∀ (k v : Nat), v < 128 ^ k * 2 → vdec (k + 1) ((putN k v).take ((putN k v).length - 1)) = none
  | 0, v, h => by simp [putN, vdec]
  | k + 1, v, h => by
    rw [putN]
    split
    · simp [vdec]
    · rename_i h1
      have e : v / 128 < 128 ^ k * 2 := Nat.div_lt_of_lt_mul (by rw [Nat.pow_succ] at h; omega)
      have p := putN_pos k (v / 128)
      have ih := vdec_cut k (v / 128) e
      rw [List.length_cons, show (putN k (v / 128)).length + 1 - 1 = ((putN k (v / 128)).length - 1) + 1 by omega, List.take_succ_cons, vdec,
        ofNat_toNat _ (by omega), if_neg (by omega), if_neg (by omega), ih]

theorem putV_vint (v : Int) (hv : 0 ≤ v ∧ v ≤ 18446744073709551615) (m : List UInt8) : vintR (putV v ++ m) = (v, ((putV v).length : Int), 0) := by
  obtain ⟨n, rfl⟩ : ∃ n : Nat, v = (n : Int) := ⟨v.toNat, by omega⟩
  unfold vintR putV
  have e : (128 : Nat) ^ 9 * 2 = 18446744073709551616 := by decide
  rw [Int.toNat_natCast, vdec_putN 9 n m (by omega)]

theorem putV_cut (v : Int) (hv : 0 ≤ v ∧ v ≤ 18446744073709551615) : vintR ((putV v).take ((putV v).length - 1)) = (0, 0, 2) := by
  obtain ⟨n, rfl⟩ : ∃ n : Nat, v = (n : Int) := ⟨v.toNat, by omega⟩
  unfold vintR putV
  have e : (128 : Nat) ^ 9 * 2 = 18446744073709551616 := by decide
  rw [Int.toNat_natCast, vdec_cut 9 n (by omega)]

theorem sh_law1_RecLengths_eq (N : Nat) (hN : 20 < N) (v : Int) (s : List UInt8) (hv : 0 ≤ v ∧ v ≤ 18446744073709551615) : sh_law1_RecLengths N v s = some (.bool true, []) := by
  simp only [sh_law1_RecLengths, sa_law1_RecLengths]
  by_cases h1 : (20 : Int) < (s.length : Int)
  · simp (disch := omega) only [rbase, ]
  simp (disch := omega) only [rbase, ]
  have hl := putN_len 9 v.toNat
  have hp := putN_pos 9 v.toNat
  change (putV v).length ≤ 9 + 1 at hl
  change 1 ≤ (putV v).length at hp
  refine iterL_spec (fun (x : Int × List UInt8 × List UInt8 × Int × Int) => x.1 = v ∧ x.2.1 = s ∧ x.2.2.1 = putV v ∧ ∃ j w : Nat, x.2.2.2.1 = (j : Int) ∧ x.2.2.2.2 = (w : Int) ∧ w < 2 ^ 64 ∧ 1 ≤ j ∧ (putN 9 w).length + j = (putV v).length + 1) (fun (x : Int × List UInt8 × List UInt8 × Int × Int) => (20 - x.2.2.2.1).toNat) (fun _ => ((.bool true, []) : V × List AObj)) ?_ N _
    ⟨rfl, rfl, rfl, 1, v.toNat, rfl, by simp; omega, by omega, by omega, rfl⟩ (by simp; omega)
  rintro rec ⟨v0, v1, v5, v6, v7⟩ ⟨q1, q2, q3, j, w, q4, q5, q6, q7, q8⟩ hrec
  simp only at q1 q2 q3 q4 q5 q6 q7 q8 hrec ⊢
  subst q1 q2 q3 q4 q5
  simp only [B_law1_RecLengths_0]
  have hw := putN_pos 9 w
  by_cases h : 128 ≤ w
  · have e := putN_step w q6 h
    rw [e, List.length_cons] at q8
    simp (disch := omega) only [rbase, ]
    refine hrec _ ⟨rfl, rfl, rfl, j + 1, w / 128, by simp, by simp, by omega, by omega, by omega⟩ (by simp; omega)
  · have e := putN_one w (by omega)
    rw [e, List.length_singleton] at q8
    have hj : j = (putV v0).length := by omega
    subst hj
    have p1 := putV_vint v0 hv v1
    have p2 := putV_cut v0 hv
    have e1 : IntKind.wrap .i64 ((↑(putV v0).length : Int) - 1) = (((putV v0).length - 1 : Nat) : Int) := by rw [wrap_i64_of _ (by omega)]; omega
    simp (disch := omega) only [rbase, e1, p1, p2]
end Go.Proofs.Ytifmekddikapeaa
