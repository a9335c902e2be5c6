/-
  The record at a text's front.
-/
import Derived.Test.YtifmekddikapeaaRcLow
import Derived.Test.YtifmekddikapeaaAmTac
namespace Go.Proofs.Ytifmekddikapeaa
open Go.AM
set_option autoImplicit false
set_option linter.unusedSimpArgs false
set_option linter.unusedVariables false

theorem vdec_spec : ∀ (k : Nat) (s : List UInt8) (v n : Nat), vdec k s = some (v, n) → 1 ≤ n ∧ n ≤ s.length ∧ n ≤ k ∧ v < 128 ^ (k - 1) * 2
  | 0, s, v, n, h => by simp [vdec] at h
  | k + 1, [], v, n, h => by simp [vdec] at h
  | k + 1, c :: r, v, n, h => by
    simp only [vdec] at h
    have hc := c.toNat_lt
    split at h
    · simp at h
    · rename_i hno
      split at h
      · rename_i hlt
        simp only [Option.some.injEq, Prod.mk.injEq] at h
        obtain ⟨rfl, rfl⟩ := h
        refine ⟨Nat.le_refl _, by simp, by omega, ?_⟩
        rw [Nat.add_sub_cancel]
        cases k with
        | zero => simp; omega
        | succ k =>
          rw [Nat.pow_succ]
          have := Nat.pow_pos (n := k) (show 0 < 128 by omega)
          omega
      · split at h
        · rename_i v' n' hr
          simp only [Option.some.injEq, Prod.mk.injEq] at h
          obtain ⟨rfl, rfl⟩ := h
          obtain ⟨h1, h2, h3, h4⟩ := vdec_spec k r v' n' hr
          refine ⟨by omega, by simp; omega, by omega, ?_⟩
          rw [Nat.add_sub_cancel]
          cases k with
          | zero => omega
          | succ k =>
            rw [Nat.add_sub_cancel] at h4
            rw [Nat.pow_succ]
            omega
        · simp at h

theorem vdec_10 {s : List UInt8} {v n : Nat} (h : vdec 10 s = some (v, n)) : 1 ≤ n ∧ n ≤ s.length ∧ n ≤ 10 ∧ v < 2 ^ 64 := by
  obtain ⟨h1, h2, h3, h4⟩ := vdec_spec 10 s v n h
  refine ⟨h1, h2, h3, ?_⟩
  have : (128 : Nat) ^ (10 - 1) * 2 = 2 ^ 64 := by decide
  omega

theorem cond_dec {α : Type} (p : Prop) [Decidable p] (a b : α) : cond (decide p) a b = if p then a else b := by by_cases h : p <;> simp [h]
theorem chk_dec {R : Type} (p : Prop) [Decidable p] (x : Option R) : chk (decide p) x = if p then x else none := by by_cases h : p <;> simp [h, chk]

def recV (r : Record) : V := .agg [.int .i64 r.num, .int .i64 r.wire, .int .u64 r.n, .str r.s, .str r.raw]

theorem sh_rec_one_eq (N : Nat) (s : List UInt8) (hs : s.length ≤ maxI) : (sh_rec_one N s).map (·.1) = some (.tup [recV (oneR s).1, .int .i64 (oneR s).2]) := by
  simp only [sh_rec_one, sa_rec_one, maxI] at hs ⊢
  cases h : vdec 10 s with
  | none => simp [vintR, oneR, oneO, h, rec0, recV]
  | some p =>
    obtain ⟨t, n⟩ := p
    obtain ⟨h1, h2, h3, h4⟩ := vdec_10 h
    have e0 : vintR s = ((t : Int), (n : Int), 0) := by simp [vintR, h]
    have e1 : IntKind.wrap .u64 (Int.tdiv (t : Int) 8) = ((t / 8 : Nat) : Int) := by rw [show Int.tdiv (t : Int) 8 = ((t / 8 : Nat) : Int) from tdiv_nat _ _, wrap_u64_of _ (by omega)]
    have e2 : Int.tmod (t : Int) 8 = ((t % 8 : Nat) : Int) := tmod_nat _ _
    have e3 : IntKind.wrap .i64 ((t % 8 : Nat) : Int) = ((t % 8 : Nat) : Int) := wrap_i64_of _ (by omega)
    have e4 : IntKind.wrap .i64 ((t / 8 : Nat) : Int) = ((t / 8 : Nat) : Int) := wrap_i64_of _ (by omega)
    simp only [e0, e1, e2, e3, e4, Int.toNat_natCast, List.take_length, List.drop_zero]
    have hd : (s.drop n).length = s.length - n := List.length_drop
    have hA : t / 8 < 2 ^ 61 := by omega
    have hB : t % 8 < 8 := by omega
    simp only [oneR, oneO, h]
    generalize t / 8 = A at *
    generalize t % 8 = B at *
    generalize s.drop n = r at *
    have hB' : B = 0 ∨ B = 1 ∨ B = 2 ∨ B = 5 ∨ (B ≠ 0 ∧ B ≠ 1 ∧ B ≠ 2 ∧ B ≠ 5) := by omega
    clear e1 e2 e3 e4 hB e0
    by_cases a : A < 1 ∨ 536870911 < A
    · rcases a with a | a
      · simp (disch := omega) only [rbase, recV, rec0]
      · simp (disch := omega) only [rbase, recV, rec0]
    cases h' : vdec 10 r with
    | none =>
      have e0 : vintR r = (0, 0, 2) := by simp [vintR, h']
      rcases hB' with rfl | rfl | rfl | rfl | ⟨q0, q1, q2, q5⟩
      · simp (disch := omega) only [rbase, recV, rec0, e0]
      · by_cases hl : r.length < 8
        all_goals simp (disch := omega) only [rbase, recV, rec0, e0, sizeR]
        rw [toNat_of (show (n : Int) + 8 = ((n + 8 : Nat) : Int) by omega)]; rfl
      · simp (disch := omega) only [rbase, recV, rec0, e0]
      · by_cases hl : r.length < 4
        all_goals simp (disch := omega) only [rbase, recV, rec0, e0, sizeR]
        rw [toNat_of (show (n : Int) + 4 = ((n + 4 : Nat) : Int) by omega)]; rfl
      · simp (disch := omega) only [rbase, recV, rec0, e0]
    | some p =>
      obtain ⟨v, k⟩ := p
      obtain ⟨g1, g2, g3, g4⟩ := vdec_10 h'
      have e5 : vintR r = ((v : Int), (k : Int), 0) := by simp [vintR, h']
      rcases hB' with rfl | rfl | rfl | rfl | ⟨q0, q1, q2, q5⟩
      · simp (disch := omega) only [rbase, recV, rec0, e5]
        rw [toNat_of (show (n : Int) + k = ((n + k : Nat) : Int) by omega)]; rfl
      · by_cases hl : r.length < 8
        all_goals simp (disch := omega) only [rbase, recV, rec0, e5, sizeR]
        rw [toNat_of (show (n : Int) + 8 = ((n + 8 : Nat) : Int) by omega)]; rfl
      · have hd2 : (r.drop k).length = r.length - k := List.length_drop
        by_cases hl : (r.drop k).length < v
        all_goals simp (disch := omega) only [rbase, recV, rec0, e5]
        have hd3 : ((r.drop k).take v).length = v := by rw [List.length_take]; omega
        simp (disch := omega) only [rbase, hd3]
        rw [toNat_of (show (n : Int) + k + v = ((n + k + v : Nat) : Int) by omega)]; rfl
      · by_cases hl : r.length < 4
        all_goals simp (disch := omega) only [rbase, recV, rec0, e5, sizeR]
        rw [toNat_of (show (n : Int) + 4 = ((n + 4 : Nat) : Int) by omega)]; rfl
      · simp (disch := omega) only [rbase, recV, rec0, e5]
end Go.Proofs.Ytifmekddikapeaa
