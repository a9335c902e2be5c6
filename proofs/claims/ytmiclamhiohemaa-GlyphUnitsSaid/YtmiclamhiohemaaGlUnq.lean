/-
  Quoted texts are read.
-/
import Derived.Test.YtmiclamhiohemaaGlEsc
namespace Go.Proofs.Ytmiclamhiohemaa
open Go.AM
set_option autoImplicit false
set_option linter.unusedSimpArgs false
set_option linter.unusedVariables false

theorem prefix_len (s p : List UInt8) (h : prefixB s p = true) : p.length ≤ s.length := by
  unfold prefixB at h
  simp only [Bool.and_eq_true, decide_eq_true_eq] at h
  exact h.1

theorem esc_bounds (s : List UInt8) (n : Int) (h0 : 0 ≤ n) (hn : n ≤ s.length) : n ≤ (escR s n).1 ∧ (escR s n).1 ≤ s.length ∧ (escR s n).2.1.length ≤ 4 := by
  have h1 := nextAt_ge s n
  have h2 := nextAt_le s n hn
  obtain ⟨-, -, u3, u4⟩ := unit_range s (nextAt s n)
  have u5 := u4 h2
  unfold escR
  dsimp only
  split
  · exact ⟨h1, h2, by simp⟩
  · split
    · exact ⟨h1, h2, by simp⟩
    · split
      · rename_i hp
        have hl := prefix_len _ _ hp.2.2
        simp only [List.length_drop, List.length_cons, List.length_nil] at hl
        obtain ⟨-, -, v3, v4⟩ := unit_range s (unitAt s (nextAt s n) + 2)
        have v5 := v4 (by omega)
        exact ⟨by dsimp only; omega, v5, gly_len _⟩
      · split
        · exact ⟨by dsimp only; omega, u5, gly_len _⟩
        · exact ⟨by dsimp only; omega, u5, gly_len _⟩

/-- what a reading gives -/
def unqV (r : Option (List UInt8 × Int)) : V := match r with
  | some p => .tup [.str p.1, .int .i64 p.2, .int .i64 0]
  | none => .tup [.str [], .int .i64 0, .int .i64 2]

theorem unq_bad (N M : Nat) (s o : List UInt8) (n : Int) : (iterL (M + 1) (B_glyph_Unquote_0 N) (s, n, o, true)).map (·.1) = some (unqV none) := rfl

set_option maxRecDepth 100000 in
theorem unq_loop (N : Nat) (s : List UInt8) (hs : s.length ≤ 1000) : ∀ (k M : Nat) (n : Int) (o : List UInt8), s.length ≤ n + k → 0 ≤ n → n ≤ s.length → (o.length : Int) ≤ 4 * n →
    (iterL (M + k + 2) (B_glyph_Unquote_0 N) (s, n, o, false)).map (·.1) = some (unqV (unqN k s n o))
  | 0, M, n, o, hk, h0, hn, ho => by
    have e1 : nextC s n = 0 := by unfold nextC; rw [if_pos (by omega)]
    show (B_glyph_Unquote_0 N (iterL (M + 1) (B_glyph_Unquote_0 N)) (s, n, o, false)).map (·.1) = _
    simp only [B_glyph_Unquote_0, e1]
    simp (disch := omega) only [dt, df, it, iF, bt, bf, cond_true, cond_false, map_some', chk_t, Bool.and_true, Bool.true_and, Bool.and_false, Bool.false_and, Bool.or_true, Bool.true_or, Bool.or_false, Bool.false_or, Bool.not_true, Bool.not_false, if_true, if_false, beq_self_eq_true, wrap_i64_of, wrap_u64_of, wrap_i32_of, wrap_u32_of, wrap_u8_of, tdiv_of, tmod_of, Int.toNat_natCast, List.take_length, List.drop_zero, or_true, true_or, or_false, false_or, or_self, ]
    exact unq_bad N M _ _ _
  | k + 1, M, n, o, hk, h0, hn, ho => by
    show (B_glyph_Unquote_0 N (iterL (M + k + 2) (B_glyph_Unquote_0 N)) (s, n, o, false)).map (·.1) = _
    by_cases hl : (s.length : Int) ≤ n
    · have e1 : nextC s n = 0 := by unfold nextC; rw [if_pos hl]
      simp only [B_glyph_Unquote_0, e1, unqN, hl]
      simp (disch := omega) only [dt, df, it, iF, bt, bf, cond_true, cond_false, map_some', chk_t, Bool.and_true, Bool.true_and, Bool.and_false, Bool.false_and, Bool.or_true, Bool.true_or, Bool.or_false, Bool.false_or, Bool.not_true, Bool.not_false, if_true, if_false, beq_self_eq_true, wrap_i64_of, wrap_u64_of, wrap_i32_of, wrap_u32_of, wrap_u8_of, tdiv_of, tmod_of, Int.toNat_natCast, List.take_length, List.drop_zero, or_true, true_or, or_false, false_or, or_self, ]
      exact unq_bad N (M + k + 1) _ _ _
    · obtain ⟨x, hx⟩ : ∃ x, s.getD n.toNat 0 = x := ⟨_, rfl⟩
      have hb := UInt8.toNat_lt x
      have e1 : nextC s n = (x.toNat : Int) := by unfold nextC; rw [if_neg hl, hx]
      have e2 : nextAt s n = n + 1 := by unfold nextAt; rw [if_neg hl]
      have e3 : nextBad s n false = false := by unfold nextBad; rw [df hl]; rfl
      have hxe : ∀ j : Nat, j < 256 → (x = UInt8.ofNat j ↔ x.toNat = j) := by
        intro j hj
        constructor
        · rintro rfl; simp; omega
        · intro h; rw [← h]; simp
      have x34 : (x = 34) = (x.toNat = 34) := propext (hxe 34 (by omega))
      have x92 : (x = 92) = (x.toNat = 92) := propext (hxe 92 (by omega))
      simp only [B_glyph_Unquote_0, unqN, hx, e1, e2, e3, if_neg hl, x34, x92]
      by_cases h1 : x.toNat = 34
      · cases hv : validG o with
        | true => simp (disch := omega) only [dt, df, it, iF, bt, bf, cond_true, cond_false, map_some', chk_t, Bool.and_true, Bool.true_and, Bool.and_false, Bool.false_and, Bool.or_true, Bool.true_or, Bool.or_false, Bool.false_or, Bool.not_true, Bool.not_false, if_true, if_false, beq_self_eq_true, wrap_i64_of, wrap_u64_of, wrap_i32_of, wrap_u32_of, wrap_u8_of, tdiv_of, tmod_of, Int.toNat_natCast, List.take_length, List.drop_zero, or_true, true_or, or_false, false_or, or_self, hv, h1]; rfl
        | false => simp (disch := omega) only [dt, df, it, iF, bt, bf, cond_true, cond_false, map_some', chk_t, Bool.and_true, Bool.true_and, Bool.and_false, Bool.false_and, Bool.or_true, Bool.true_or, Bool.or_false, Bool.false_or, Bool.not_true, Bool.not_false, if_true, if_false, beq_self_eq_true, wrap_i64_of, wrap_u64_of, wrap_i32_of, wrap_u32_of, wrap_u8_of, tdiv_of, tmod_of, Int.toNat_natCast, List.take_length, List.drop_zero, or_true, true_or, or_false, false_or, or_self, hv, h1]; rfl
      by_cases h2 : x.toNat < 32
      · simp (disch := omega) only [dt, df, it, iF, bt, bf, cond_true, cond_false, map_some', chk_t, Bool.and_true, Bool.true_and, Bool.and_false, Bool.false_and, Bool.or_true, Bool.true_or, Bool.or_false, Bool.false_or, Bool.not_true, Bool.not_false, if_true, if_false, beq_self_eq_true, wrap_i64_of, wrap_u64_of, wrap_i32_of, wrap_u32_of, wrap_u8_of, tdiv_of, tmod_of, Int.toNat_natCast, List.take_length, List.drop_zero, or_true, true_or, or_false, false_or, or_self, ]
        exact unq_bad N (M + k + 1) _ _ _
      by_cases h3 : x.toNat = 92
      · have hb2 := esc_bounds s (n + 1) (by omega) (by omega)
        cases hbad : (escR s (n + 1)).2.2 with
        | true =>
          have eb : escBad s (n + 1) false = true := by unfold escBad; rw [hbad]; rfl
          simp (disch := omega) only [dt, df, it, iF, bt, bf, cond_true, cond_false, map_some', chk_t, Bool.and_true, Bool.true_and, Bool.and_false, Bool.false_and, Bool.or_true, Bool.true_or, Bool.or_false, Bool.false_or, Bool.not_true, Bool.not_false, if_true, if_false, beq_self_eq_true, wrap_i64_of, wrap_u64_of, wrap_i32_of, wrap_u32_of, wrap_u8_of, tdiv_of, tmod_of, Int.toNat_natCast, List.take_length, List.drop_zero, or_true, true_or, or_false, false_or, or_self, h3, eb]
          exact unq_bad N (M + k + 1) _ _ _
        | false =>
          have eb : escBad s (n + 1) false = false := by unfold escBad; rw [hbad]; rfl
          simp (disch := omega) only [dt, df, it, iF, bt, bf, cond_true, cond_false, map_some', chk_t, Bool.and_true, Bool.true_and, Bool.and_false, Bool.false_and, Bool.or_true, Bool.true_or, Bool.or_false, Bool.false_or, Bool.not_true, Bool.not_false, if_true, if_false, beq_self_eq_true, wrap_i64_of, wrap_u64_of, wrap_i32_of, wrap_u32_of, wrap_u8_of, tdiv_of, tmod_of, Int.toNat_natCast, List.take_length, List.drop_zero, or_true, true_or, or_false, false_or, or_self, h3, eb]
          exact unq_loop N s hs k M (escR s (n + 1)).1 (o ++ (escR s (n + 1)).2.1) (by omega) (by omega) hb2.2.1 (by rw [List.length_append]; omega)
      · simp (disch := omega) only [dt, df, it, iF, bt, bf, cond_true, cond_false, map_some', chk_t, Bool.and_true, Bool.true_and, Bool.and_false, Bool.false_and, Bool.or_true, Bool.true_or, Bool.or_false, Bool.false_or, Bool.not_true, Bool.not_false, if_true, if_false, beq_self_eq_true, wrap_i64_of, wrap_u64_of, wrap_i32_of, wrap_u32_of, wrap_u8_of, tdiv_of, tmod_of, Int.toNat_natCast, List.take_length, List.drop_zero, or_true, true_or, or_false, false_or, or_self, UInt8.ofNat_toNat]
        exact unq_loop N s hs k M (n + 1) (o ++ [x]) (by omega) (by omega) (by omega) (by simp only [List.length_append, List.length_cons, List.length_nil]; omega)

theorem unqN_more (s : List UInt8) : ∀ (k j : Nat) (n : Int) (o : List UInt8), 0 ≤ n → s.length ≤ n + k → k ≤ j → unqN j s n o = unqN k s n o
  | 0, 0, n, o, h0, hk, hj => rfl
  | 0, j + 1, n, o, h0, hk, hj => by
    simp only [unqN]
    rw [if_pos (by omega)]
  | k + 1, 0, n, o, h0, hk, hj => by omega
  | k + 1, j + 1, n, o, h0, hk, hj => by
    simp only [unqN]
    by_cases hl : (s.length : Int) ≤ n
    · rw [if_pos hl, if_pos hl]
    · rw [if_neg hl, if_neg hl]
      have hb2 := esc_bounds s (n + 1) (by omega) (by omega)
      rw [unqN_more s k j (n + 1) _ (by omega) (by omega) (by omega), unqN_more s k j (escR s (n + 1)).1 _ (by omega) (by omega) (by omega)]

theorem unqV_eq (s : List UInt8) : V.tup [.str (unqT s), .int .i64 (unqC s), .int .i64 (unqE s)] = unqV (unquoteG s) := by
  unfold unqT unqC unqE
  cases unquoteG s <;> rfl

theorem sh_glyph_Unquote_eq (M : Nat) (s : List UInt8) (hs : s.length ≤ 1000) : (sh_glyph_Unquote (M + 1002) s).map (·.1) = some (.tup [.str (unqT s), .int .i64 (unqC s), .int .i64 (unqE s)]) := by
  rw [unqV_eq]
  match s with
  | [] => rfl
  | c :: t =>
    have hb := UInt8.toNat_lt c
    have e0 : nextC (c :: t) 0 = (c.toNat : Int) := rfl
    have e1 : nextAt (c :: t) 0 = 1 := by unfold nextAt; rw [if_neg (by simp only [List.length_cons]; omega)]; rfl
    have e2 : nextBad (c :: t) 0 false = false := by unfold nextBad; rw [df (by simp only [List.length_cons]; omega)]; rfl
    have x34 : (c = 34) = (c.toNat = 34) := propext ⟨by rintro rfl; rfl, fun h => UInt8.toNat_inj.1 h⟩
    have hcl : (c :: t).length = t.length + 1 := rfl
    simp only [sh_glyph_Unquote, sa_glyph_Unquote, unquoteG, e0, e1, e2, x34]
    by_cases h : c.toNat = 34
    · simp (disch := omega) only [dt, df, it, iF, bt, bf, cond_true, cond_false, map_some', chk_t, Bool.and_true, Bool.true_and, Bool.and_false, Bool.false_and, Bool.or_true, Bool.true_or, Bool.or_false, Bool.false_or, Bool.not_true, Bool.not_false, if_true, if_false, beq_self_eq_true, wrap_i64_of, wrap_u64_of, wrap_i32_of, wrap_u32_of, wrap_u8_of, tdiv_of, tmod_of, Int.toNat_natCast, List.take_length, List.drop_zero, or_true, true_or, or_false, false_or, or_self, h]
      have := unq_loop (M + 1002) (c :: t) hs t.length (M + 1000 - t.length) 1 [] (by omega) (by omega) (by omega) (by simp)
      rw [show M + 1000 - t.length + t.length + 2 = M + 1002 by omega] at this
      rw [this, unqN_more (c :: t) t.length (c :: t).length 1 [] (by omega) (by omega) (by omega)]
    · simp (disch := omega) only [dt, df, it, iF, bt, bf, cond_true, cond_false, map_some', chk_t, Bool.and_true, Bool.true_and, Bool.and_false, Bool.false_and, Bool.or_true, Bool.true_or, Bool.or_false, Bool.false_or, Bool.not_true, Bool.not_false, if_true, if_false, beq_self_eq_true, wrap_i64_of, wrap_u64_of, wrap_i32_of, wrap_u32_of, wrap_u8_of, tdiv_of, tmod_of, Int.toNat_natCast, List.take_length, List.drop_zero, or_true, true_or, or_false, false_or, or_self, ]
      rfl
end Go.Proofs.Ytmiclamhiohemaa
