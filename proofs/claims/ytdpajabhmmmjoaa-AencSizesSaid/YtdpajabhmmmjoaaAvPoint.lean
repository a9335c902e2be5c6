/-
  The code point at a text's front.
-/
import Derived.Test.YtdpajabhmmmjoaaAvPut
namespace Go.Proofs.Ytdpajabhmmmjoaa
open Go.AM
set_option autoImplicit false
set_option linter.unusedSimpArgs false
set_option linter.unusedVariables false

theorem and_u8 (k : Nat) (hk : k ≤ 8) (a : Nat) (ha : a < 256) : bitsI .and .u8 (a : Int) ((2 ^ k - 1 : Nat) : Int) = ((a % 2 ^ k : Nat) : Int) := by
  have h2 : 2 ^ k ≤ 2 ^ 8 := Nat.pow_le_pow_right (by omega) hk
  have h1 : 1 ≤ 2 ^ k := Nat.one_le_two_pow
  rw [bits_and .u8 rfl a (2 ^ k - 1) ha (by show 2 ^ k - 1 < 2 ^ 8; omega), Nat.and_two_pow_sub_one_eq_mod]

theorem group6 (v c : Nat) (hv : v < 2 ^ 26) (hc : c < 64) : bitsI .or .u32 (shlI .u32 (v : Int) 6) (c : Int) = ((v * 64 + c : Nat) : Int) := by
  have e : shlI .u32 (v : Int) 6 = ((v * 64 : Nat) : Int) := by
    rw [show (6 : Int) = ((6 : Nat) : Int) by rfl, shlI_nat .u32 rfl v 6 (by decide)]
    show ((v * 64 % 2 ^ 32 : Nat) : Int) = _
    rw [Nat.mod_eq_of_lt (by omega)]
  rw [e, or_u32 6 ((v * 64 : Nat) : Int) c (by omega) (by omega) (by omega) (by omega)]
  omega

theorem point_round (N : Nat) (rec : (List UInt8 × Int × Int × Int) → Option (V × List AObj)) (s : List UInt8) (v n i : Nat) (hv : v < 2 ^ 26) (hi : i < n) (hn : n ≤ s.length) (h4 : n ≤ 4) :
    B_glyph_point_0 N rec (s, (v : Int), (n : Int), (i : Int)) = rec (s, ((v * 64 + (s.getD i 0).toNat % 64 : Nat) : Int), (n : Int), ((i + 1 : Nat) : Int)) := by
  have hb : (s.getD i 0).toNat < 256 := UInt8.toNat_lt _
  have e1 : bitsI .and .u8 (((s.getD i 0).toNat : Nat) : Int) 63 = (((s.getD i 0).toNat % 64 : Nat) : Int) := and_u8 6 (by omega) _ hb
  have e2 := group6 v ((s.getD i 0).toNat % 64) hv (by omega)
  simp only [B_glyph_point_0]
  simp (disch := omega) only [dt, df, it, iF, bt, bf, cond_true, cond_false, map_some', chk_t, Bool.and_true, Bool.true_and, Bool.and_false, Bool.false_and, Bool.or_true, Bool.true_or, Bool.or_false, Bool.false_or, Bool.not_true, Bool.not_false, if_true, if_false, beq_self_eq_true, wrap_i64_of, wrap_u64_of, wrap_i32_of, wrap_u32_of, wrap_u8_of, tdiv_of, tmod_of, Int.toNat_natCast, List.take_length, List.drop_zero, or_true, true_or, or_false, false_or, or_self, e1, e2]
  rfl

theorem point_end (N : Nat) (rec : (List UInt8 × Int × Int × Int) → Option (V × List AObj)) (s : List UInt8) (v n : Nat) (hn : n ≤ s.length) :
    B_glyph_point_0 N rec (s, (v : Int), (n : Int), (n : Int)) = if gly v = s.take n then some (.tup [.int .u32 v, .int .i64 n], []) else some (.tup [.int .u32 0, .int .i64 0], []) := by
  simp only [B_glyph_point_0, putG]
  by_cases h : gly v = s.take n
  · simp (disch := omega) only [dt, df, it, iF, bt, bf, cond_true, cond_false, map_some', chk_t, Bool.and_true, Bool.true_and, Bool.and_false, Bool.false_and, Bool.or_true, Bool.true_or, Bool.or_false, Bool.false_or, Bool.not_true, Bool.not_false, if_true, if_false, beq_self_eq_true, wrap_i64_of, wrap_u64_of, wrap_i32_of, wrap_u32_of, wrap_u8_of, tdiv_of, tmod_of, Int.toNat_natCast, List.take_length, List.drop_zero, or_true, true_or, or_false, false_or, or_self, h, decide_true]
  · simp (disch := omega) only [dt, df, it, iF, bt, bf, cond_true, cond_false, map_some', chk_t, Bool.and_true, Bool.true_and, Bool.and_false, Bool.false_and, Bool.or_true, Bool.true_or, Bool.or_false, Bool.false_or, Bool.not_true, Bool.not_false, if_true, if_false, beq_self_eq_true, wrap_i64_of, wrap_u64_of, wrap_i32_of, wrap_u32_of, wrap_u8_of, tdiv_of, tmod_of, Int.toNat_natCast, List.take_length, List.drop_zero, or_true, true_or, or_false, false_or, or_self, h, decide_false]

theorem iterL_succ {α R : Type} (n : Nat) (B : (α → Option R) → α → Option R) (x : α) : iterL (n + 1) B x = B (iterL n B) x := rfl

theorem point_2 (M : Nat) (a b : UInt8) (t : List UInt8) (v : Nat) (hv : v < 32) :
    iterL (M + 5) (B_glyph_point_0 (M + 5)) (a :: b :: t, (v : Int), ((2 : Nat) : Int), ((1 : Nat) : Int)) = some (.tup [.int .u32 (multi 2 v (a :: b :: t)).1, .int .i64 (multi 2 v (a :: b :: t)).2], []) := by
  rw [iterL_succ, point_round _ _ _ _ 2 1 (by omega) (by omega) (by simp) (by omega), iterL_succ, point_end _ _ _ _ 2 (by simp)]
  simp only [multi, List.getD_cons_succ, List.getD_cons_zero]
  rw [if_neg (show ¬ (a :: b :: t).length < 2 by simp)]
  simp only [List.take_succ_cons, List.take_zero, List.tail_cons, List.foldl_cons, List.foldl_nil]
  by_cases h : gly (v * 64 + b.toNat % 64) = [a, b]
  · simp only [h, if_true]
  · simp only [h, if_false]; rfl

theorem point_3 (M : Nat) (a b c : UInt8) (t : List UInt8) (v : Nat) (hv : v < 32) :
    iterL (M + 5) (B_glyph_point_0 (M + 5)) (a :: b :: c :: t, (v : Int), ((3 : Nat) : Int), ((1 : Nat) : Int)) = some (.tup [.int .u32 (multi 3 v (a :: b :: c :: t)).1, .int .i64 (multi 3 v (a :: b :: c :: t)).2], []) := by
  rw [iterL_succ, point_round _ _ _ _ 3 1 (by omega) (by omega) (by simp) (by omega), iterL_succ, point_round _ _ _ _ 3 2 (by omega) (by omega) (by simp) (by omega), iterL_succ, point_end _ _ _ _ 3 (by simp)]
  simp only [multi, List.getD_cons_succ, List.getD_cons_zero]
  rw [if_neg (show ¬ (a :: b :: c :: t).length < 3 by simp)]
  simp only [List.take_succ_cons, List.take_zero, List.tail_cons, List.foldl_cons, List.foldl_nil]
  by_cases h : gly ((v * 64 + b.toNat % 64) * 64 + c.toNat % 64) = [a, b, c]
  · simp only [h, if_true]
  · simp only [h, if_false]; rfl

theorem point_4 (M : Nat) (a b c d : UInt8) (t : List UInt8) (v : Nat) (hv : v < 32) :
    iterL (M + 5) (B_glyph_point_0 (M + 5)) (a :: b :: c :: d :: t, (v : Int), ((4 : Nat) : Int), ((1 : Nat) : Int)) = some (.tup [.int .u32 (multi 4 v (a :: b :: c :: d :: t)).1, .int .i64 (multi 4 v (a :: b :: c :: d :: t)).2], []) := by
  rw [iterL_succ, point_round _ _ _ _ 4 1 (by omega) (by omega) (by simp) (by omega), iterL_succ, point_round _ _ _ _ 4 2 (by omega) (by omega) (by simp) (by omega), iterL_succ, point_round _ _ _ _ 4 3 (by omega) (by omega) (by simp) (by omega), iterL_succ, point_end _ _ _ _ 4 (by simp)]
  simp only [multi, List.getD_cons_succ, List.getD_cons_zero]
  rw [if_neg (show ¬ (a :: b :: c :: d :: t).length < 4 by simp)]
  simp only [List.take_succ_cons, List.take_zero, List.tail_cons, List.foldl_cons, List.foldl_nil]
  by_cases h : gly (((v * 64 + b.toNat % 64) * 64 + c.toNat % 64) * 64 + d.toNat % 64) = [a, b, c, d]
  · simp only [h, if_true]
  · simp only [h, if_false]; rfl

theorem sh_glyph_point_eq (M : Nat) (s : List UInt8) (hs : s ≠ []) (hl : s.length ≤ 9223372036854775807) :
    sh_glyph_point (M + 5) s = some (.tup [.int .u32 (pointG s).1, .int .i64 (pointG s).2], []) := by
  obtain ⟨c, t, rfl⟩ := List.exists_cons_of_ne_nil hs
  have hc : c.toNat < 256 := UInt8.toNat_lt _
  have s5 : shrI .u8 (c.toNat : Int) 5 = ((c.toNat / 32 : Nat) : Int) := shrI_nat .u8 c.toNat 5 (by decide)
  have s4 : shrI .u8 (c.toNat : Int) 4 = ((c.toNat / 16 : Nat) : Int) := shrI_nat .u8 c.toNat 4 (by decide)
  have s3 : shrI .u8 (c.toNat : Int) 3 = ((c.toNat / 8 : Nat) : Int) := shrI_nat .u8 c.toNat 3 (by decide)
  have a31 : bitsI .and .u8 (c.toNat : Int) 31 = ((c.toNat % 32 : Nat) : Int) := and_u8 5 (by omega) _ hc
  have a15 : bitsI .and .u8 (c.toNat : Int) 15 = ((c.toNat % 16 : Nat) : Int) := and_u8 4 (by omega) _ hc
  have a7 : bitsI .and .u8 (c.toNat : Int) 7 = ((c.toNat % 8 : Nat) : Int) := and_u8 3 (by omega) _ hc
  rw [List.length_cons] at hl
  simp only [sh_glyph_point, sa_glyph_point, pointG, pointN, List.length_cons, Int.toNat_zero, List.getD_cons_zero, s5, s4, s3, a31, a15, a7]
  by_cases h1 : c.toNat < 128
  · simp (disch := omega) only [dt, df, it, iF, bt, bf, cond_true, cond_false, map_some', chk_t, Bool.and_true, Bool.true_and, Bool.and_false, Bool.false_and, Bool.or_true, Bool.true_or, Bool.or_false, Bool.false_or, Bool.not_true, Bool.not_false, if_true, if_false, beq_self_eq_true, wrap_i64_of, wrap_u64_of, wrap_i32_of, wrap_u32_of, wrap_u8_of, tdiv_of, tmod_of, Int.toNat_natCast, List.take_length, List.drop_zero, or_true, true_or, or_false, false_or, or_self, ]
    rfl
  by_cases h2 : c.toNat / 32 = 6
  · match t with
    | [] => simp (disch := omega) only [dt, df, it, iF, bt, bf, cond_true, cond_false, map_some', chk_t, Bool.and_true, Bool.true_and, Bool.and_false, Bool.false_and, Bool.or_true, Bool.true_or, Bool.or_false, Bool.false_or, Bool.not_true, Bool.not_false, if_true, if_false, beq_self_eq_true, wrap_i64_of, wrap_u64_of, wrap_i32_of, wrap_u32_of, wrap_u8_of, tdiv_of, tmod_of, Int.toNat_natCast, List.take_length, List.drop_zero, or_true, true_or, or_false, false_or, or_self, multi, List.length_cons, List.length_nil]; rfl
    | b :: t =>
      rw [List.length_cons] at hl
      simp (disch := omega) only [dt, df, it, iF, bt, bf, cond_true, cond_false, map_some', chk_t, Bool.and_true, Bool.true_and, Bool.and_false, Bool.false_and, Bool.or_true, Bool.true_or, Bool.or_false, Bool.false_or, Bool.not_true, Bool.not_false, if_true, if_false, beq_self_eq_true, wrap_i64_of, wrap_u64_of, wrap_i32_of, wrap_u32_of, wrap_u8_of, tdiv_of, tmod_of, Int.toNat_natCast, List.take_length, List.drop_zero, or_true, true_or, or_false, false_or, or_self, h2, List.length_cons]
      exact point_2 M c b t _ (by omega)
  by_cases h3 : c.toNat / 16 = 14
  · match t with
    | [] => simp (disch := omega) only [dt, df, it, iF, bt, bf, cond_true, cond_false, map_some', chk_t, Bool.and_true, Bool.true_and, Bool.and_false, Bool.false_and, Bool.or_true, Bool.true_or, Bool.or_false, Bool.false_or, Bool.not_true, Bool.not_false, if_true, if_false, beq_self_eq_true, wrap_i64_of, wrap_u64_of, wrap_i32_of, wrap_u32_of, wrap_u8_of, tdiv_of, tmod_of, Int.toNat_natCast, List.take_length, List.drop_zero, or_true, true_or, or_false, false_or, or_self, multi, List.length_cons, List.length_nil]; rfl
    | [b] => simp (disch := omega) only [dt, df, it, iF, bt, bf, cond_true, cond_false, map_some', chk_t, Bool.and_true, Bool.true_and, Bool.and_false, Bool.false_and, Bool.or_true, Bool.true_or, Bool.or_false, Bool.false_or, Bool.not_true, Bool.not_false, if_true, if_false, beq_self_eq_true, wrap_i64_of, wrap_u64_of, wrap_i32_of, wrap_u32_of, wrap_u8_of, tdiv_of, tmod_of, Int.toNat_natCast, List.take_length, List.drop_zero, or_true, true_or, or_false, false_or, or_self, multi, List.length_cons, List.length_nil]; rfl
    | b :: d :: t =>
      rw [List.length_cons, List.length_cons] at hl
      simp (disch := omega) only [dt, df, it, iF, bt, bf, cond_true, cond_false, map_some', chk_t, Bool.and_true, Bool.true_and, Bool.and_false, Bool.false_and, Bool.or_true, Bool.true_or, Bool.or_false, Bool.false_or, Bool.not_true, Bool.not_false, if_true, if_false, beq_self_eq_true, wrap_i64_of, wrap_u64_of, wrap_i32_of, wrap_u32_of, wrap_u8_of, tdiv_of, tmod_of, Int.toNat_natCast, List.take_length, List.drop_zero, or_true, true_or, or_false, false_or, or_self, h3, List.length_cons]
      exact point_3 M c b d t _ (by omega)
  by_cases h4 : c.toNat / 8 = 30
  · match t with
    | [] => simp (disch := omega) only [dt, df, it, iF, bt, bf, cond_true, cond_false, map_some', chk_t, Bool.and_true, Bool.true_and, Bool.and_false, Bool.false_and, Bool.or_true, Bool.true_or, Bool.or_false, Bool.false_or, Bool.not_true, Bool.not_false, if_true, if_false, beq_self_eq_true, wrap_i64_of, wrap_u64_of, wrap_i32_of, wrap_u32_of, wrap_u8_of, tdiv_of, tmod_of, Int.toNat_natCast, List.take_length, List.drop_zero, or_true, true_or, or_false, false_or, or_self, multi, List.length_cons, List.length_nil]; rfl
    | [b] => simp (disch := omega) only [dt, df, it, iF, bt, bf, cond_true, cond_false, map_some', chk_t, Bool.and_true, Bool.true_and, Bool.and_false, Bool.false_and, Bool.or_true, Bool.true_or, Bool.or_false, Bool.false_or, Bool.not_true, Bool.not_false, if_true, if_false, beq_self_eq_true, wrap_i64_of, wrap_u64_of, wrap_i32_of, wrap_u32_of, wrap_u8_of, tdiv_of, tmod_of, Int.toNat_natCast, List.take_length, List.drop_zero, or_true, true_or, or_false, false_or, or_self, multi, List.length_cons, List.length_nil]; rfl
    | [b, d] => simp (disch := omega) only [dt, df, it, iF, bt, bf, cond_true, cond_false, map_some', chk_t, Bool.and_true, Bool.true_and, Bool.and_false, Bool.false_and, Bool.or_true, Bool.true_or, Bool.or_false, Bool.false_or, Bool.not_true, Bool.not_false, if_true, if_false, beq_self_eq_true, wrap_i64_of, wrap_u64_of, wrap_i32_of, wrap_u32_of, wrap_u8_of, tdiv_of, tmod_of, Int.toNat_natCast, List.take_length, List.drop_zero, or_true, true_or, or_false, false_or, or_self, multi, List.length_cons, List.length_nil]; rfl
    | b :: d :: e :: t =>
      rw [List.length_cons, List.length_cons, List.length_cons] at hl
      simp (disch := omega) only [dt, df, it, iF, bt, bf, cond_true, cond_false, map_some', chk_t, Bool.and_true, Bool.true_and, Bool.and_false, Bool.false_and, Bool.or_true, Bool.true_or, Bool.or_false, Bool.false_or, Bool.not_true, Bool.not_false, if_true, if_false, beq_self_eq_true, wrap_i64_of, wrap_u64_of, wrap_i32_of, wrap_u32_of, wrap_u8_of, tdiv_of, tmod_of, Int.toNat_natCast, List.take_length, List.drop_zero, or_true, true_or, or_false, false_or, or_self, h4, List.length_cons]
      exact point_4 M c b d e t _ (by omega)
  · simp (disch := omega) only [dt, df, it, iF, bt, bf, cond_true, cond_false, map_some', chk_t, Bool.and_true, Bool.true_and, Bool.and_false, Bool.false_and, Bool.or_true, Bool.true_or, Bool.or_false, Bool.false_or, Bool.not_true, Bool.not_false, if_true, if_false, beq_self_eq_true, wrap_i64_of, wrap_u64_of, wrap_i32_of, wrap_u32_of, wrap_u8_of, tdiv_of, tmod_of, Int.toNat_natCast, List.take_length, List.drop_zero, or_true, true_or, or_false, false_or, or_self, ]
    rfl
end Go.Proofs.Ytdpajabhmmmjoaa
