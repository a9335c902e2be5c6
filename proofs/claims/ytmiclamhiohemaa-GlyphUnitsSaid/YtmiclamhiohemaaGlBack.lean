/-
  GlyphBack: what is quoted is unquoted as it was.
-/
import Derived.Test.YtmiclamhiohemaaGlPlain
namespace Go.Proofs.Ytmiclamhiohemaa
open Go.AM
set_option autoImplicit false
set_option linter.unusedSimpArgs false
set_option linter.unusedVariables false

theorem unq_some (s t : List UInt8) (n : Int) (h : unquoteG s = some (t, n)) : unqT s = t ∧ unqC s = n ∧ unqE s = 0 := by
  unfold unqT unqC unqE
  rw [h]
  exact ⟨rfl, rfl, rfl⟩

theorem unq_none (s : List UInt8) (h : unquoteG s = none) : unqT s = [] ∧ unqC s = 0 ∧ unqE s = 2 := by
  unfold unqT unqC unqE
  rw [h]
  exact ⟨rfl, rfl, rfl⟩

theorem back_loop (N : Nat) (s q t : List UInt8) (n e f : Int) (hq : ∀ b ∈ q, 32 ≤ b.toNat) (hl : q.length ≤ 1000)
    (hfin : ∀ rec : (List UInt8 × List UInt8 × List UInt8 × Int × Int × Int × Int) → Option (V × List AObj), B_law3_GlyphBack_0 N rec (s, q, t, n, e, f, ((q.length : Nat) : Int)) = some (.bool true, [])) :
    ∀ (k M i : Nat), i + k = q.length → iterL (M + k + 1) (B_law3_GlyphBack_0 N) (s, q, t, n, e, f, (i : Int)) = some (.bool true, [])
  | 0, M, i, h => by
    have : i = q.length := by omega
    subst this
    exact hfin _
  | k + 1, M, i, h => by
    have hi : i < q.length := by omega
    have hb := hq (q.getD i 0) (by simp [List.getD, hi])
    show B_law3_GlyphBack_0 N (iterL (M + k + 1) (B_law3_GlyphBack_0 N)) _ = _
    have ih := back_loop N s q t n e f hq hl hfin k M (i + 1) (by omega)
    simp only [B_law3_GlyphBack_0, Int.toNat_natCast]
    simp (disch := omega) only [dt, df, it, iF, bt, bf, cond_true, cond_false, map_some', chk_t, Bool.and_true, Bool.true_and, Bool.and_false, Bool.false_and, Bool.or_true, Bool.true_or, Bool.or_false, Bool.false_or, Bool.not_true, Bool.not_false, if_true, if_false, beq_self_eq_true, wrap_i64_of, wrap_u64_of, wrap_i32_of, wrap_u32_of, wrap_u8_of, tdiv_of, tmod_of, Int.toNat_natCast, List.take_length, List.drop_zero, or_true, true_or, or_false, false_or, or_self, ]
    exact ih

theorem sh_law3_GlyphBack_eq (s more : List UInt8) : sh_law3_GlyphBack 1000 s more = some (.bool true, []) := by
  simp only [sh_law3_GlyphBack, sa_law3_GlyphBack]
  by_cases h1 : 60 < s.length
  · simp (disch := omega) only [dt, df, it, iF, bt, bf, cond_true, cond_false, map_some', chk_t, Bool.and_true, Bool.true_and, Bool.and_false, Bool.false_and, Bool.or_true, Bool.true_or, Bool.or_false, Bool.false_or, Bool.not_true, Bool.not_false, if_true, if_false, beq_self_eq_true, wrap_i64_of, wrap_u64_of, wrap_i32_of, wrap_u32_of, wrap_u8_of, tdiv_of, tmod_of, Int.toNat_natCast, List.take_length, List.drop_zero, or_true, true_or, or_false, false_or, or_self, ]
  by_cases h2 : 20 < more.length
  · simp (disch := omega) only [dt, df, it, iF, bt, bf, cond_true, cond_false, map_some', chk_t, Bool.and_true, Bool.true_and, Bool.and_false, Bool.false_and, Bool.or_true, Bool.true_or, Bool.or_false, Bool.false_or, Bool.not_true, Bool.not_false, if_true, if_false, beq_self_eq_true, wrap_i64_of, wrap_u64_of, wrap_i32_of, wrap_u32_of, wrap_u8_of, tdiv_of, tmod_of, Int.toNat_natCast, List.take_length, List.drop_zero, or_true, true_or, or_false, false_or, or_self, ]
  have hl := flat_len s
  have hq := quote_len s
  have u0 := unquote_quote s more
  have u2 := unq_none _ (unquote_cut s)
  have hc : (IntKind.wrap .i64 ((((quoteG s).length : Nat) : Int) - 1)).toNat = (quoteG s).length - 1 := by rw [wrap_i64_of _ (by omega)]; omega
  have ha : (quoteG s ++ more).length ≤ 1000 := by rw [List.length_append]; omega
  have hb : (List.take ((quoteG s).length - 1) (quoteG s)).length ≤ 1000 := by rw [List.length_take]; omega
  have hfin : ∀ rec : (List UInt8 × List UInt8 × List UInt8 × Int × Int × Int × Int) → Option (V × List AObj), B_law3_GlyphBack_0 1000 rec (s, quoteG s, unqT (quoteG s ++ more), unqC (quoteG s ++ more), unqE (quoteG s ++ more), unqE ((quoteG s).take ((quoteG s).length - 1)), (((quoteG s).length : Nat) : Int)) = some (.bool true, []) := by
    intro rec
    by_cases hv : validG s = true
    · rw [if_pos hv] at u0
      have u1 := unq_some _ _ _ u0
      simp only [B_law3_GlyphBack_0, u1.1, u1.2.1, u1.2.2, u2.2.2, hv]
      simp (disch := omega) only [dt, df, it, iF, bt, bf, cond_true, cond_false, map_some', chk_t, Bool.and_true, Bool.true_and, Bool.and_false, Bool.false_and, Bool.or_true, Bool.true_or, Bool.or_false, Bool.false_or, Bool.not_true, Bool.not_false, if_true, if_false, beq_self_eq_true, wrap_i64_of, wrap_u64_of, wrap_i32_of, wrap_u32_of, wrap_u8_of, tdiv_of, tmod_of, Int.toNat_natCast, List.take_length, List.drop_zero, or_true, true_or, or_false, false_or, or_self, decide_true]
    · rw [if_neg hv] at u0
      have u1 := unq_none _ u0
      have hv' : validG s = false := by simpa using hv
      simp only [B_law3_GlyphBack_0, u1.1, u1.2.1, u1.2.2, u2.2.2, hv']
      simp (disch := omega) only [dt, df, it, iF, bt, bf, cond_true, cond_false, map_some', chk_t, Bool.and_true, Bool.true_and, Bool.and_false, Bool.false_and, Bool.or_true, Bool.true_or, Bool.or_false, Bool.false_or, Bool.not_true, Bool.not_false, if_true, if_false, beq_self_eq_true, wrap_i64_of, wrap_u64_of, wrap_i32_of, wrap_u32_of, wrap_u8_of, tdiv_of, tmod_of, Int.toNat_natCast, List.take_length, List.drop_zero, or_true, true_or, or_false, false_or, or_self, Bool.false_eq_true]
  have key := back_loop 1000 s (quoteG s) _ _ _ _ (quote_bytes s) (by omega) hfin (quoteG s).length (999 - (quoteG s).length) 0 (by omega)
  rw [show 999 - (quoteG s).length + (quoteG s).length + 1 = 1000 by omega] at key
  simp only [hc]
  simp (disch := omega) only [dt, df, it, iF, bt, bf, cond_true, cond_false, map_some', chk_t, Bool.and_true, Bool.true_and, Bool.and_false, Bool.false_and, Bool.or_true, Bool.true_or, Bool.or_false, Bool.false_or, Bool.not_true, Bool.not_false, if_true, if_false, beq_self_eq_true, wrap_i64_of, wrap_u64_of, wrap_i32_of, wrap_u32_of, wrap_u8_of, tdiv_of, tmod_of, Int.toNat_natCast, List.take_length, List.drop_zero, or_true, true_or, or_false, false_or, or_self, hc, List.length_append]
  exact key
end Go.Proofs.Ytmiclamhiohemaa
