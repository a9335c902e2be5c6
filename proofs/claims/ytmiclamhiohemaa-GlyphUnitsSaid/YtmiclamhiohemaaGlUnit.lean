/-
  A cursor's units and escapes.
-/
import Derived.Test.YtmiclamhiohemaaGlText
namespace Go.Proofs.Ytmiclamhiohemaa
open Go.AM
set_option autoImplicit false
set_option linter.unusedSimpArgs false
set_option linter.unusedVariables false

theorem next_range (s : List UInt8) (n : Int) : 0 ≤ nextC s n ∧ nextC s n < 256 := by
  unfold nextC
  split
  · omega
  · have := UInt8.toNat_lt (s.getD n.toNat 0); omega

theorem nextAt_ge (s : List UInt8) (n : Int) : n ≤ nextAt s n := by unfold nextAt; split <;> omega
theorem nextAt_le (s : List UInt8) (n : Int) (h : n ≤ s.length) : nextAt s n ≤ s.length := by unfold nextAt; split <;> omega

def tab2 (n : Nat) : Bool :=
  let x := if 65 ≤ n ∧ n ≤ 70 then n + 32 else n
  let k := indexB [48, 49, 50, 51, 52, 53, 54, 55, 56, 57, 97, 98, 99, 100, 101, 102] (x : Int)
  match digitN n with
  | some d => decide (k = (d : Int)) && decide (d < 16)
  | none => decide (k = -1)
theorem tab2_ok : (List.range 256).all tab2 = true := by kernel_rfl

theorem group4 (v c : Nat) (hv : v < 2 ^ 28) (hc : c < 16) : bitsI .or .u32 (shlI .u32 (v : Int) 4) (c : Int) = ((v * 16 + c : Nat) : Int) := by
  have e : shlI .u32 (v : Int) 4 = ((v * 16 : Nat) : Int) := by
    rw [show (4 : Int) = ((4 : Nat) : Int) by rfl, shlI_nat .u32 rfl v 4 (by decide)]
    show ((v * 16 % 2 ^ 32 : Nat) : Int) = _
    rw [Nat.mod_eq_of_lt (by omega)]
  rw [e, or_u32 4 ((v * 16 : Nat) : Int) c (by omega) (by omega) (by omega) (by omega)]
  omega

theorem low4 : ∀ d : Nat, d < 16 → IntKind.wrap .u32 (bitsI .and .i64 (d : Int) 15) = (d : Int) := by
  intro d hd
  have : ∀ n : Fin 16, IntKind.wrap .u32 (bitsI .and .i64 ((n.val : Nat) : Int) 15) = ((n.val : Nat) : Int) := by decide
  exact this ⟨d, hd⟩
theorem low4m : IntKind.wrap .u32 (bitsI .and .i64 (-1) 15) = 15 := by decide

theorem unit_round (N : Nat) (rec : (Int × Int × List UInt8 × Int × List UInt8 × Bool) → Option (V × List AObj)) (v j : Nat) (s : List UInt8) (n : Int) (o : List UInt8) (b : Bool)
    (hv : v < 2 ^ 28) (hj : j < 4) (h0 : 0 ≤ n) (hs : s.length ≤ 1000) :
    B_glyph_cursor_unit_0 N rec ((v : Int), (j : Int), s, n, o, b) = (match digitN (nextC s n).toNat with
      | some d => rec (((v * 16 + d : Nat) : Int), ((j + 1 : Nat) : Int), s, nextAt s n, o, nextBad s n b)
      | none => rec (((v * 16 + 15 : Nat) : Int), ((j + 1 : Nat) : Int), s, nextAt s n, o, true)) := by
  obtain ⟨r1, r2⟩ := next_range s n
  obtain ⟨c, hc⟩ : ∃ c : Nat, nextC s n = (c : Int) := ⟨(nextC s n).toNat, by omega⟩
  have ht := all_bytes tab2 tab2_ok c (by omega)
  simp only [B_glyph_cursor_unit_0, hc, Int.toNat_natCast]
  simp only [tab2] at ht
  have hk : ∀ x : Int, (x = if 65 ≤ c ∧ c ≤ 70 then ((c + 32 : Nat) : Int) else (c : Int)) → ∀ d : Option Nat, digitN c = d → indexB [48, 49, 50, 51, 52, 53, 54, 55, 56, 57, 97, 98, 99, 100, 101, 102] x = (match d with | some d => (d : Int) | none => -1) ∧ (∀ e, d = some e → e < 16) := by
    intro x hx d hd
    have hx2 : x = (((if 65 ≤ c ∧ c ≤ 70 then c + 32 else c) : Nat) : Int) := by rw [hx]; split <;> rfl
    rw [hx2]
    rw [hd] at ht
    cases d with
    | none => exact ⟨by simpa using ht, by intro e h; cases h⟩
    | some d => simp only [Bool.and_eq_true, decide_eq_true_eq] at ht; exact ⟨ht.1, by intro e h; cases h; exact ht.2⟩
  cases hd : digitN c with
  | none =>
    have g : bitsI .or .u32 (shlI .u32 (v : Int) 4) 15 = ((v * 16 + 15 : Nat) : Int) := group4 v 15 hv (by omega)
    by_cases h1 : 65 ≤ c ∧ c ≤ 70
    · have e := (hk ((c : Int) + 32) (by rw [if_pos h1]; rfl) none hd).1
      dsimp only at e
      simp (disch := omega) only [dt, df, it, iF, bt, bf, cond_true, cond_false, map_some', chk_t, Bool.and_true, Bool.true_and, Bool.and_false, Bool.false_and, Bool.or_true, Bool.true_or, Bool.or_false, Bool.false_or, Bool.not_true, Bool.not_false, if_true, if_false, beq_self_eq_true, wrap_i64_of, wrap_u64_of, wrap_i32_of, wrap_u32_of, wrap_u8_of, tdiv_of, tmod_of, Int.toNat_natCast, List.take_length, List.drop_zero, or_true, true_or, or_false, false_or, or_self, e, low4m, g]
      rfl
    · have e := (hk (c : Int) (by rw [if_neg h1]) none hd).1
      dsimp only at e
      by_cases h2 : 65 ≤ c
      · simp (disch := omega) only [dt, df, it, iF, bt, bf, cond_true, cond_false, map_some', chk_t, Bool.and_true, Bool.true_and, Bool.and_false, Bool.false_and, Bool.or_true, Bool.true_or, Bool.or_false, Bool.false_or, Bool.not_true, Bool.not_false, if_true, if_false, beq_self_eq_true, wrap_i64_of, wrap_u64_of, wrap_i32_of, wrap_u32_of, wrap_u8_of, tdiv_of, tmod_of, Int.toNat_natCast, List.take_length, List.drop_zero, or_true, true_or, or_false, false_or, or_self, e, low4m, g]
        rfl
      · simp (disch := omega) only [dt, df, it, iF, bt, bf, cond_true, cond_false, map_some', chk_t, Bool.and_true, Bool.true_and, Bool.and_false, Bool.false_and, Bool.or_true, Bool.true_or, Bool.or_false, Bool.false_or, Bool.not_true, Bool.not_false, if_true, if_false, beq_self_eq_true, wrap_i64_of, wrap_u64_of, wrap_i32_of, wrap_u32_of, wrap_u8_of, tdiv_of, tmod_of, Int.toNat_natCast, List.take_length, List.drop_zero, or_true, true_or, or_false, false_or, or_self, e, low4m, g]
        rfl
  | some d =>
    have hd16 : d < 16 := (hk _ rfl (some d) hd).2 d rfl
    have g := group4 v d hv hd16
    by_cases h1 : 65 ≤ c ∧ c ≤ 70
    · have e := (hk ((c : Int) + 32) (by rw [if_pos h1]; rfl) (some d) hd).1
      dsimp only at e
      simp (disch := omega) only [dt, df, it, iF, bt, bf, cond_true, cond_false, map_some', chk_t, Bool.and_true, Bool.true_and, Bool.and_false, Bool.false_and, Bool.or_true, Bool.true_or, Bool.or_false, Bool.false_or, Bool.not_true, Bool.not_false, if_true, if_false, beq_self_eq_true, wrap_i64_of, wrap_u64_of, wrap_i32_of, wrap_u32_of, wrap_u8_of, tdiv_of, tmod_of, Int.toNat_natCast, List.take_length, List.drop_zero, or_true, true_or, or_false, false_or, or_self, e, low4 d hd16, g]
      rfl
    · have e := (hk (c : Int) (by rw [if_neg h1]) (some d) hd).1
      dsimp only at e
      by_cases h2 : 65 ≤ c
      · simp (disch := omega) only [dt, df, it, iF, bt, bf, cond_true, cond_false, map_some', chk_t, Bool.and_true, Bool.true_and, Bool.and_false, Bool.false_and, Bool.or_true, Bool.true_or, Bool.or_false, Bool.false_or, Bool.not_true, Bool.not_false, if_true, if_false, beq_self_eq_true, wrap_i64_of, wrap_u64_of, wrap_i32_of, wrap_u32_of, wrap_u8_of, tdiv_of, tmod_of, Int.toNat_natCast, List.take_length, List.drop_zero, or_true, true_or, or_false, false_or, or_self, e, low4 d hd16, g]
        rfl
      · simp (disch := omega) only [dt, df, it, iF, bt, bf, cond_true, cond_false, map_some', chk_t, Bool.and_true, Bool.true_and, Bool.and_false, Bool.false_and, Bool.or_true, Bool.true_or, Bool.or_false, Bool.false_or, Bool.not_true, Bool.not_false, if_true, if_false, beq_self_eq_true, wrap_i64_of, wrap_u64_of, wrap_i32_of, wrap_u32_of, wrap_u8_of, tdiv_of, tmod_of, Int.toNat_natCast, List.take_length, List.drop_zero, or_true, true_or, or_false, false_or, or_self, e, low4 d hd16, g]
        rfl

theorem unit_loop (N M : Nat) (s o : List UInt8) (hs : s.length ≤ 1000) : ∀ (k v : Nat) (n : Int) (b : Bool), k ≤ 4 → v < 16 ^ (4 - k) → 0 ≤ n →
    iterL (M + 1 + k) (B_glyph_cursor_unit_0 N) ((v : Int), ((4 - k : Nat) : Int), s, n, o, b) = some (.int .u32 ((unitN k s v n b).1 : Int), [some [.str s, .int .i64 (unitN k s v n b).2.1, .bn 62 5, .sl .u8 true o, .bool (unitN k s v n b).2.2]])
  | 0, v, n, b, hk, hv, h0 => by
    show B_glyph_cursor_unit_0 N _ _ = _
    simp only [B_glyph_cursor_unit_0, unitN]
    simp (disch := omega) only [dt, df, it, iF, bt, bf, cond_true, cond_false, map_some', chk_t, Bool.and_true, Bool.true_and, Bool.and_false, Bool.false_and, Bool.or_true, Bool.true_or, Bool.or_false, Bool.false_or, Bool.not_true, Bool.not_false, if_true, if_false, beq_self_eq_true, wrap_i64_of, wrap_u64_of, wrap_i32_of, wrap_u32_of, wrap_u8_of, tdiv_of, tmod_of, Int.toNat_natCast, List.take_length, List.drop_zero, or_true, true_or, or_false, false_or, or_self, ]
  | k + 1, v, n, b, hk, hv, h0 => by
    have h4 : 16 ^ (4 - (k + 1)) ≤ 4096 := by
      have : ∀ k : Fin 4, 16 ^ (4 - (k.val + 1)) ≤ 4096 := by decide
      exact this ⟨k, by omega⟩
    have h5 : 16 ^ (4 - k) = 16 ^ (4 - (k + 1)) * 16 := by rw [show 4 - k = (4 - (k + 1)) + 1 by omega, Nat.pow_succ]
    have hn := nextAt_ge s n
    show B_glyph_cursor_unit_0 N (iterL (M + 1 + k) (B_glyph_cursor_unit_0 N)) _ = _
    rw [unit_round N _ v (4 - (k + 1)) s n o b (by omega) (by omega) h0 hs, show 4 - (k + 1) + 1 = 4 - k by omega]
    simp only [unitN]
    cases hd : digitN (nextC s n).toNat with
    | none =>
      dsimp only
      exact unit_loop N M s o hs k _ _ _ (by omega) (by omega) (by omega)
    | some d =>
      have hd16 : d < 16 := by
        obtain ⟨r1, r2⟩ := next_range s n
        have ht := all_bytes tab2 tab2_ok (nextC s n).toNat (by omega)
        simp only [tab2, hd, Bool.and_eq_true, decide_eq_true_eq] at ht
        exact ht.2
      dsimp only
      exact unit_loop N M s o hs k _ _ _ (by omega) (by omega) (by omega)

theorem unitN_bad (s : List UInt8) : ∀ (k v : Nat) (n : Int) (b : Bool), (unitN k s v n b) = ((unitN k s v n false).1, (unitN k s v n false).2.1, b || (unitN k s v n false).2.2)
  | 0, v, n, b => by simp [unitN]
  | k + 1, v, n, b => by
    simp only [unitN]
    cases hd : digitN (nextC s n).toNat with
    | none => dsimp only; rw [unitN_bad s k _ _ true]; simp
    | some d =>
      dsimp only
      rw [unitN_bad s k _ _ (nextBad s n b), unitN_bad s k _ _ (nextBad s n false)]
      simp [nextBad, Bool.or_assoc]

theorem sh_glyph_cursor_unit_eq (M : Nat) (s : List UInt8) (n : Int) (o : List UInt8) (b : Bool) (h0 : 0 ≤ n) (hs : s.length ≤ 1000) :
    sh_glyph_cursor_unit (M + 5) s n o b = some (.int .u32 (unitC s n), [some [.str s, .int .i64 (unitAt s n), .bn 62 5, .sl .u8 true o, .bool (unitBad s n b)]]) := by
  have h := unit_loop (M + 5) M s o hs 4 0 n b (by omega) (by decide) h0
  rw [unitN_bad] at h
  exact h

theorem unitN_at (s : List UInt8) : ∀ (k v : Nat) (n : Int) (b : Bool), n ≤ (unitN k s v n b).2.1 ∧ (n ≤ s.length → (unitN k s v n b).2.1 ≤ s.length) ∧ (v < 16 ^ (4 - k) → k ≤ 4 → (unitN k s v n b).1 < 65536)
  | 0, v, n, b => by simp only [unitN]; exact ⟨Int.le_refl _, fun h => h, fun h _ => by simpa using h⟩
  | k + 1, v, n, b => by
    have h1 := nextAt_ge s n
    have h2 := nextAt_le s n
    have h5 : k + 1 ≤ 4 → 16 ^ (4 - k) = 16 ^ (4 - (k + 1)) * 16 := fun h => by rw [show 4 - k = (4 - (k + 1)) + 1 by omega, Nat.pow_succ]
    simp only [unitN]
    cases hd : digitN (nextC s n).toNat with
    | none =>
      have h := unitN_at s k (v * 16 + 15) (nextAt s n) true
      dsimp only
      exact ⟨by omega, fun hn => h.2.1 (h2 hn), fun hv hk => h.2.2 (by have := h5 hk; omega) (by omega)⟩
    | some d =>
      have hd16 : d < 16 := by
        obtain ⟨r1, r2⟩ := next_range s n
        have ht := all_bytes tab2 tab2_ok (nextC s n).toNat (by omega)
        simp only [tab2, hd, Bool.and_eq_true, decide_eq_true_eq] at ht
        exact ht.2
      have h := unitN_at s k (v * 16 + d) (nextAt s n) (nextBad s n b)
      dsimp only
      exact ⟨by omega, fun hn => h.2.1 (h2 hn), fun hv hk => h.2.2 (by have := h5 hk; omega) (by omega)⟩

theorem unit_range (s : List UInt8) (n : Int) : 0 ≤ unitC s n ∧ unitC s n < 65536 ∧ n ≤ unitAt s n ∧ (n ≤ s.length → unitAt s n ≤ s.length) := by
  have h := unitN_at s 4 0 n false
  have := h.2.2 (by decide) (by omega)
  unfold unitC unitAt
  exact ⟨by omega, by omega, h.1, h.2.1⟩
end Go.Proofs.Ytmiclamhiohemaa
