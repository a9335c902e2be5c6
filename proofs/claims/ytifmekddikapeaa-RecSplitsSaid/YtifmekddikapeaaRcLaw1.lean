/-
  RecNumbers and RecSplits: each function twice gives the same.
-/
import Derived.Test.YtifmekddikapeaaRcOk
namespace Go.Proofs.Ytifmekddikapeaa
open Go.AM
set_option autoImplicit false
set_option linter.unusedSimpArgs false
set_option linter.unusedVariables false

theorem splitO_join : ∀ (k : Nat) (s : List UInt8) (l : List Record), splitO k s = some l → joinR l = s
  | k, [], l, h => by
    have : l = [] := by cases k <;> simpa [splitO] using h.symm
    subst this; rfl
  | 0, c :: s, l, h => by simp [splitO] at h
  | k + 1, c :: s, l, h => by
    simp only [splitO] at h
    cases ho : oneO (c :: s) with
    | none => rw [ho] at h; simp at h
    | some r =>
      rw [ho] at h
      simp only at h
      cases hs : splitO k ((c :: s).drop r.raw.length) with
      | none => rw [hs] at h; simp at h
      | some l' =>
        rw [hs] at h
        simp only [Option.some.injEq] at h
        subst h
        have := splitO_join k _ l' hs
        have hr := (oneO_raw ho).2.2
        have e : joinR (r :: l') = r.raw ++ joinR l' := by simp [joinR]
        rw [e, this]
        generalize hn : r.raw.length = n at hr
        rw [hr, List.take_append_drop]

theorem splitR_cases (s : List UInt8) : (∃ l, splitR s = (l, 0) ∧ splitO s.length s = some l ∧ joinR l = s) ∨ (∃ e, splitR s = ([], e) ∧ e ≠ 0) := by
  unfold splitR
  split
  · exact .inr ⟨3, rfl, by decide⟩
  · cases hs : splitO s.length s with
    | none => exact .inr ⟨2, rfl, by decide⟩
    | some l => exact .inl ⟨l, rfl, rfl, splitO_join _ _ _ hs⟩

theorem splitR_len (s : List UInt8) : (joinR (splitR s).1).length ≤ s.length := by
  rcases splitR_cases s with ⟨l, h, _, hj⟩ | ⟨e, h, _⟩
  · rw [h, hj]; exact Nat.le_refl _
  · rw [h]; exact Nat.zero_le _

theorem sh_law1_RecNumbers_eq (N : Nat) (s : List UInt8) (v : Int) : sh_law1_RecNumbers N s v = some (.bool true, []) := by
  simp only [sh_law1_RecNumbers, sa_law1_RecNumbers, beq_self_eq_true, cond_true, decide_true]
  cases decide (30 < (↑(List.length s) : Int)) <;> rfl

theorem sh_law1_RecSplits_eq (N : Nat) (s : List UInt8) (a b c : Int) (t u : List UInt8) : (sh_law1_RecSplits N s a b c t u).map (·.1) = some (.bool true) := by
  simp only [sh_law1_RecSplits, sa_law1_RecSplits, beq_self_eq_true, cond_true, decide_true]
  have h := splitR_len s
  by_cases h1 : (200 : Int) < (s.length : Int)
  · simp (disch := omega) only [dt, df, it, iF, bt, bf, cond_true, cond_false, map_some', chk_t, Bool.and_true, Bool.true_and, Bool.and_false, Bool.false_and, Bool.or_true, Bool.true_or, Bool.or_false, Bool.false_or, Bool.not_true, Bool.not_false, if_true, if_false, beq_self_eq_true, wrap_i64_of, wrap_u64_of, wrap_i32_of, wrap_u32_of, wrap_u8_of, tdiv_of, tmod_of, Int.toNat_natCast, List.take_length, List.drop_zero, or_true, true_or, or_false, false_or, or_self, ]
  by_cases h2 : (50 : Int) < (t.length : Int)
  · simp (disch := omega) only [dt, df, it, iF, bt, bf, cond_true, cond_false, map_some', chk_t, Bool.and_true, Bool.true_and, Bool.and_false, Bool.false_and, Bool.or_true, Bool.true_or, Bool.or_false, Bool.false_or, Bool.not_true, Bool.not_false, if_true, if_false, beq_self_eq_true, wrap_i64_of, wrap_u64_of, wrap_i32_of, wrap_u32_of, wrap_u8_of, tdiv_of, tmod_of, Int.toNat_natCast, List.take_length, List.drop_zero, or_true, true_or, or_false, false_or, or_self, ]
  simp (disch := omega) only [dt, df, it, iF, bt, bf, cond_true, cond_false, map_some', chk_t, Bool.and_true, Bool.true_and, Bool.and_false, Bool.false_and, Bool.or_true, Bool.true_or, Bool.or_false, Bool.false_or, Bool.not_true, Bool.not_false, if_true, if_false, beq_self_eq_true, wrap_i64_of, wrap_u64_of, wrap_i32_of, wrap_u32_of, wrap_u8_of, tdiv_of, tmod_of, Int.toNat_natCast, List.take_length, List.drop_zero, or_true, true_or, or_false, false_or, or_self, ]
end Go.Proofs.Ytifmekddikapeaa
