/-
  RecPads: a number with groups of noughts behind it.
-/
import Derived.Test.YtifmekddikapeaaRcCode3
import Derived.Test.YtifmekddikapeaaRcLaw2
namespace Go.Proofs.Ytifmekddikapeaa
open Go.AM
set_option autoImplicit false
set_option linter.unusedSimpArgs false
set_option linter.unusedVariables false

def hi (c : UInt8) : UInt8 := UInt8.ofNat (Int.toNat (bitsI .or .u8 (c.toNat : Int) 128))

theorem or128 (a : Nat) (h : a < 256) : a ||| 128 = a % 128 + 128 := by
  have key : ∀ a : Fin 256, a.val ||| 128 = a.val % 128 + 128 := by decide +kernel
  exact key ⟨a, h⟩

theorem hi_nat (c : UInt8) : (hi c).toNat = c.toNat % 128 + 128 := by
  have hc := UInt8.toNat_lt c
  unfold hi
  have e := bits_or .u8 rfl c.toNat 128 (by simpa [IntKind.bits] using hc) (by decide)
  rw [show ((128 : Nat) : Int) = 128 from rfl] at e
  rw [e, Int.toNat_natCast, or128 _ (by omega), ofNat_toNat _ (by omega)]

/-- one group more -/
def padL (l : List UInt8) : List UInt8 := l.set (l.length - 1) (hi (l.getD (l.length - 1) 0)) ++ [0]

theorem padL_len (l : List UInt8) : (padL l).length = l.length + 1 := by simp [padL]

theorem padL_cons (c d : UInt8) (r : List UInt8) : padL (c :: d :: r) = c :: padL (d :: r) := by
  simp [padL]

theorem pad_ok : ∀ (k v : Nat) (l : List UInt8), l ≠ [] → l.length < k → vdec k l = some (v, l.length) → vdec k (padL l) = some (v, l.length + 1)
  | 0, v, l, _, h, _ => by omega
  | k + 1, v, [], h, _, _ => absurd rfl h
  | k + 1, v, [c], _, hl, h => by
    have hc := UInt8.toNat_lt c
    simp only [List.length_singleton] at hl
    obtain ⟨k, rfl⟩ : ∃ j, k = j + 1 := ⟨k - 1, by omega⟩
    have hp : padL [c] = [hi c, 0] := by simp [padL]
    rw [hp]
    simp only [vdec, hi_nat] at h ⊢
    rw [if_neg (by omega)] at h ⊢
    by_cases h1 : c.toNat < 128
    · rw [if_pos h1] at h
      rw [if_neg (by omega), if_neg (by simp), if_pos (by decide)]
      simp only [Option.some.injEq, Prod.mk.injEq, List.length_singleton, and_true] at h ⊢
      subst h
      simp
      omega
    · rw [if_neg h1] at h
      simp at h
  | k + 1, v, c :: d :: r, _, hl, h => by
    rw [padL_cons]
    rw [vdec] at h ⊢
    split at h
    · simp at h
    · rename_i h0
      rw [if_neg h0]
      split at h
      · simp at h
      · rename_i h1
        rw [if_neg h1]
        split at h
        · rename_i v' n' e
          simp only [Option.some.injEq, Prod.mk.injEq, List.length_cons] at h hl ⊢
          obtain ⟨rfl, hn⟩ := h
          have hn' : n' = (d :: r).length := by simp only [List.length_cons]; omega
          subst hn'
          rw [pad_ok k v' (d :: r) (by simp) (by simp only [List.length_cons]; omega) e]
          simp
        · simp at h

/-- a group more than there may be -/
theorem pad_bad : ∀ (k v : Nat) (l : List UInt8), l ≠ [] → l.length = k → vdec k l = some (v, l.length) → vdec k (padL l) = none
  | 0, v, l, h0, h, _ => absurd (List.eq_nil_of_length_eq_zero h) h0
  | k + 1, v, [], h, _, _ => absurd rfl h
  | k + 1, v, [c], _, hl, h => by
    have hc := UInt8.toNat_lt c
    simp only [List.length_singleton] at hl
    obtain rfl : k = 0 := by omega
    have hp : padL [c] = [hi c, 0] := by simp [padL]
    rw [hp]
    rw [vdec, if_pos ⟨rfl, by rw [hi_nat]; omega⟩]
  | k + 1, v, c :: d :: r, _, hl, h => by
    rw [padL_cons]
    rw [vdec] at h ⊢
    split at h
    · simp at h
    · rename_i h0
      rw [if_neg h0]
      split at h
      · simp at h
      · rename_i h1
        rw [if_neg h1]
        split at h
        · rename_i v' n' e
          simp only [Option.some.injEq, Prod.mk.injEq, List.length_cons] at h hl
          obtain ⟨rfl, hn⟩ := h
          have hn' : n' = (d :: r).length := by simp only [List.length_cons]; omega
          subst hn'
          rw [pad_bad k v' (d :: r) (by simp) (by simp only [List.length_cons]; omega) e]
        · simp at h

/-- what stands behind is not looked at -/
theorem vdec_take : ∀ (k : Nat) (l : List UInt8), vdec k l = vdec k (l.take k)
  | 0, l => rfl
  | k + 1, [] => rfl
  | k + 1, c :: r => by
    rw [List.take_succ_cons, vdec, vdec, ← vdec_take k r]

theorem pad_out (k : Nat) (l : List UInt8) (h : k < l.length) : vdec k (padL l) = vdec k l := by
  rw [vdec_take k (padL l), vdec_take k l]
  congr 1
  unfold padL
  rw [List.take_append_of_le_length (by simp; omega), List.take_set_of_le (by omega)]

structure PadSt (v : Int) (k : Nat) (x : Int × List UInt8 × Int × Int) : Prop where
  e0 : x.1 = v
  ek : x.2.2.1 = (k : Int)
  i0 : 0 ≤ x.2.2.2 ∧ x.2.2.2 ≤ (k : Int)
  ne : x.2.1 ≠ []
  len : (x.2.1.length : Int) ≤ 10 + x.2.2.2
  dec : if x.2.1.length ≤ 10 then vdec 10 x.2.1 = some (v.toNat, x.2.1.length) else vdec 10 x.2.1 = none

theorem sh_law1_RecPads_eq (N : Nat) (hN : 20 < N) (v n : Int) (hv : 0 ≤ v ∧ v ≤ 18446744073709551615) (hn : 0 ≤ n ∧ n ≤ 255) : sh_law1_RecPads N v n = some (.bool true, []) := by
  simp only [sh_law1_RecPads, sa_law1_RecPads]
  have hl := putN_len 9 v.toNat
  have hp := putN_pos 9 v.toNat
  change (putV v).length ≤ 9 + 1 at hl
  change 1 ≤ (putV v).length at hp
  obtain ⟨m, rfl⟩ : ∃ m : Nat, n = (m : Int) := ⟨n.toNat, by omega⟩
  have hk : IntKind.wrap .i64 (Int.tmod (m : Int) 12) = ((m % 12 : Nat) : Int) := by
    rw [Int.tmod_eq_emod_of_nonneg (by omega), wrap_i64_of _ (by omega)]; omega
  have hne : (((putV v).length : Int) == 0) = false := by
    rw [beq_eq_false_iff_ne]
    omega
  rw [hne, hk]
  simp only [cond_false]
  have hd : vdec 10 (putV v) = some (v.toNat, (putV v).length) := by
    have := vdec_putN 9 v.toNat [] (by have e : (128 : Nat) ^ 9 * 2 = 18446744073709551616 := by decide
                                       omega)
    rw [List.append_nil] at this
    exact this
  refine iterL_spec (PadSt v (m % 12)) (fun x => (12 - x.2.2.2).toNat) (fun _ => ((.bool true, []) : V × List AObj)) ?_ N _
    ⟨rfl, rfl, by simp only; omega, by intro h; simp only at h; rw [h] at hp; simp at hp, by simp; omega, by simp only; rw [if_pos hl]; exact hd⟩ (by simp; omega)
  rintro rec ⟨v0, b, k, i⟩ ⟨q1, q2, q3, q4, q5, q6⟩ hrec
  simp only at q1 q2 q3 q4 q5 q6 hrec ⊢
  subst q1 q2
  simp only [B_law1_RecPads_0]
  have hb : 1 ≤ b.length := by
    cases b with
    | nil => exact absurd rfl q4
    | cons _ _ => simp
  have e1 : IntKind.wrap .i64 ((b.length : Int) - 1) = ((b.length - 1 : Nat) : Int) := by rw [wrap_i64_of _ (by omega)]; omega
  by_cases h : i < ((m % 12 : Nat) : Int)
  · have hlt : i < 12 := by omega
    have e2 : IntKind.wrap .i64 (i + 1) = i + 1 := wrap_i64_of _ (by omega)
    have ep : b.set (b.length - 1) (UInt8.ofNat (Int.toNat (bitsI .or .u8 ((b.getD (b.length - 1) (dflt .u8)).toNat : Int) 128))) ++ ([UInt8.ofNat (Int.toNat 0)] : List UInt8) = padL b := rfl
    rw [e1, e2]
    simp only [Int.toNat_natCast, List.length_set, List.length_singleton]
    rw [ep, decide_eq_true h, decide_eq_true (show 0 < b.length by omega), decide_eq_true (show (0 : Int) ≤ ((b.length - 1 : Nat) : Int) by omega), decide_eq_true (show ((b.length - 1 : Nat) : Int) < (b.length : Int) by omega),
      decide_eq_true (show b.length - 1 < b.length by omega), decide_eq_true (show (b.length + 1) * 1 ≤ 140737488355328 by omega), show Nat.beq b.length b.length = true by simp]
    simp only [Bool.and_true, cond_true, chk_t]
    refine hrec _ ⟨rfl, rfl, by simp only; omega, ?_, ?_, ?_⟩ (by simp only; omega)
    · intro hz
      have := padL_len b
      simp only at hz
      rw [hz] at this
      simp at this
    · simp only [padL_len]
      omega
    · simp only [padL_len]
      by_cases h9 : b.length ≤ 9
      · rw [if_pos (by omega)] at q6 ⊢
        exact pad_ok 10 _ b q4 (by omega) q6
      · rw [if_neg (by omega)]
        by_cases h10 : b.length = 10
        · rw [if_pos (by omega)] at q6
          exact pad_bad 10 _ b q4 h10 q6
        · rw [if_neg (by omega)] at q6
          rw [pad_out 10 b (by omega)]
          exact q6
  · rw [decide_eq_false h]
    simp only [cond_false]
    by_cases h10 : b.length ≤ 10
    · rw [if_pos h10] at q6
      have ev : vintR b = (v0, (b.length : Int), 0) := by
        unfold vintR
        rw [q6]
        simp only [Prod.mk.injEq, and_true]
        omega
      rw [decide_eq_false (show ¬ (10 : Int) < (b.length : Int) by omega), ev]
      simp
    · rw [if_neg h10] at q6
      have ev : vintR b = (0, 0, 2) := by
        unfold vintR
        rw [q6]
      rw [decide_eq_true (show (10 : Int) < (b.length : Int) by omega), ev]
      simp
end Go.Proofs.Ytifmekddikapeaa
