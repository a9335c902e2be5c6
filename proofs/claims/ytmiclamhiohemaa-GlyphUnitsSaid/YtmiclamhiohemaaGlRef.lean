/-
  The document's own answer on code points.
-/
import Derived.Test.YtmiclamhiohemaaGlUnq
import Derived.Test.YtmiclamhiohemaaGlRunes
namespace Go.Proofs.Ytmiclamhiohemaa
open Go.AM
set_option autoImplicit false
set_option linter.unusedSimpArgs false
set_option linter.unusedVariables false

theorem rpoint_round (N : Nat) (rec : (List UInt8 × Int × Int × Int × Int) → Option (V × List AObj)) (s : List UInt8) (v n i : Nat) (l : Int) (x : UInt8) (hx : s.getD i 0 = x) (hv : v < 2 ^ 20) (hi : i < n) (hn : n ≤ s.length) (h4 : n ≤ 4) :
    B_ref1_point_0 N rec (s, (n : Int), (v : Int), l, (i : Int)) = if 128 ≤ x.toNat ∧ x.toNat ≤ 191 then rec (s, (n : Int), ((v * 64 + x.toNat % 64 : Nat) : Int), l, ((i + 1 : Nat) : Int)) else some (.tup [.int .u32 0, .int .i64 0], []) := by
  have hb := UInt8.toNat_lt x
  simp only [B_ref1_point_0, Int.toNat_natCast, hx]
  by_cases h1 : x.toNat < 128
  · rw [if_neg (by omega)]
    simp (disch := omega) only [dt, df, it, iF, bt, bf, cond_true, cond_false, map_some', chk_t, Bool.and_true, Bool.true_and, Bool.and_false, Bool.false_and, Bool.or_true, Bool.true_or, Bool.or_false, Bool.false_or, Bool.not_true, Bool.not_false, if_true, if_false, beq_self_eq_true, wrap_i64_of, wrap_u64_of, wrap_i32_of, wrap_u32_of, wrap_u8_of, tdiv_of, tmod_of, Int.toNat_natCast, List.take_length, List.drop_zero, or_true, true_or, or_false, false_or, or_self, ]
  by_cases h2 : 191 < x.toNat
  · rw [if_neg (by omega)]
    simp (disch := omega) only [dt, df, it, iF, bt, bf, cond_true, cond_false, map_some', chk_t, Bool.and_true, Bool.true_and, Bool.and_false, Bool.false_and, Bool.or_true, Bool.true_or, Bool.or_false, Bool.false_or, Bool.not_true, Bool.not_false, if_true, if_false, beq_self_eq_true, wrap_i64_of, wrap_u64_of, wrap_i32_of, wrap_u32_of, wrap_u8_of, tdiv_of, tmod_of, Int.toNat_natCast, List.take_length, List.drop_zero, or_true, true_or, or_false, false_or, or_self, ]
  · rw [if_pos (by omega)]
    simp (disch := omega) only [dt, df, it, iF, bt, bf, cond_true, cond_false, map_some', chk_t, Bool.and_true, Bool.true_and, Bool.and_false, Bool.false_and, Bool.or_true, Bool.true_or, Bool.or_false, Bool.false_or, Bool.not_true, Bool.not_false, if_true, if_false, beq_self_eq_true, wrap_i64_of, wrap_u64_of, wrap_i32_of, wrap_u32_of, wrap_u8_of, tdiv_of, tmod_of, Int.toNat_natCast, List.take_length, List.drop_zero, or_true, true_or, or_false, false_or, or_self, ]
    rw [show (v : Int) * 64 + ((x.toNat : Int) - 128) = ((v * 64 + x.toNat % 64 : Nat) : Int) by omega]
    rfl

theorem rpoint_end (N : Nat) (rec : (List UInt8 × Int × Int × Int × Int) → Option (V × List AObj)) (s : List UInt8) (v n l : Nat) :
    B_ref1_point_0 N rec (s, (n : Int), (v : Int), (l : Int), (n : Int)) = if l ≤ v ∧ v ≤ 1114111 ∧ ¬ (55296 ≤ v ∧ v ≤ 57343) then some (.tup [.int .u32 v, .int .i64 n], []) else some (.tup [.int .u32 0, .int .i64 0], []) := by
  simp only [B_ref1_point_0]
  by_cases h1 : v < l
  · rw [if_neg (by omega)]; simp (disch := omega) only [dt, df, it, iF, bt, bf, cond_true, cond_false, map_some', chk_t, Bool.and_true, Bool.true_and, Bool.and_false, Bool.false_and, Bool.or_true, Bool.true_or, Bool.or_false, Bool.false_or, Bool.not_true, Bool.not_false, if_true, if_false, beq_self_eq_true, wrap_i64_of, wrap_u64_of, wrap_i32_of, wrap_u32_of, wrap_u8_of, tdiv_of, tmod_of, Int.toNat_natCast, List.take_length, List.drop_zero, or_true, true_or, or_false, false_or, or_self, ]
  by_cases h2 : 1114111 < v
  · rw [if_neg (by omega)]; simp (disch := omega) only [dt, df, it, iF, bt, bf, cond_true, cond_false, map_some', chk_t, Bool.and_true, Bool.true_and, Bool.and_false, Bool.false_and, Bool.or_true, Bool.true_or, Bool.or_false, Bool.false_or, Bool.not_true, Bool.not_false, if_true, if_false, beq_self_eq_true, wrap_i64_of, wrap_u64_of, wrap_i32_of, wrap_u32_of, wrap_u8_of, tdiv_of, tmod_of, Int.toNat_natCast, List.take_length, List.drop_zero, or_true, true_or, or_false, false_or, or_self, ]
  by_cases h3 : 55296 ≤ v
  · by_cases h4 : v ≤ 57343
    · rw [if_neg (by omega)]; simp (disch := omega) only [dt, df, it, iF, bt, bf, cond_true, cond_false, map_some', chk_t, Bool.and_true, Bool.true_and, Bool.and_false, Bool.false_and, Bool.or_true, Bool.true_or, Bool.or_false, Bool.false_or, Bool.not_true, Bool.not_false, if_true, if_false, beq_self_eq_true, wrap_i64_of, wrap_u64_of, wrap_i32_of, wrap_u32_of, wrap_u8_of, tdiv_of, tmod_of, Int.toNat_natCast, List.take_length, List.drop_zero, or_true, true_or, or_false, false_or, or_self, ]
    · rw [if_pos (by omega)]; simp (disch := omega) only [dt, df, it, iF, bt, bf, cond_true, cond_false, map_some', chk_t, Bool.and_true, Bool.true_and, Bool.and_false, Bool.false_and, Bool.or_true, Bool.true_or, Bool.or_false, Bool.false_or, Bool.not_true, Bool.not_false, if_true, if_false, beq_self_eq_true, wrap_i64_of, wrap_u64_of, wrap_i32_of, wrap_u32_of, wrap_u8_of, tdiv_of, tmod_of, Int.toNat_natCast, List.take_length, List.drop_zero, or_true, true_or, or_false, false_or, or_self, ]
  · rw [if_pos (by omega)]; simp (disch := omega) only [dt, df, it, iF, bt, bf, cond_true, cond_false, map_some', chk_t, Bool.and_true, Bool.true_and, Bool.and_false, Bool.false_and, Bool.or_true, Bool.true_or, Bool.or_false, Bool.false_or, Bool.not_true, Bool.not_false, if_true, if_false, beq_self_eq_true, wrap_i64_of, wrap_u64_of, wrap_i32_of, wrap_u32_of, wrap_u8_of, tdiv_of, tmod_of, Int.toNat_natCast, List.take_length, List.drop_zero, or_true, true_or, or_false, false_or, or_self, ]

theorem rpoint_2 (M : Nat) (a b : UInt8) (t : List UInt8) (v : Nat) (hv : v < 32) (ha : a.toNat = 192 + v) :
    iterL (M + 5) (B_ref1_point_0 (M + 5)) (a :: b :: t, ((2 : Nat) : Int), (v : Int), ((128 : Nat) : Int), ((1 : Nat) : Int)) = some (.tup [.int .u32 (multi 2 v (a :: b :: t)).1, .int .i64 (multi 2 v (a :: b :: t)).2], []) := by
  have hg := gly2 a b v hv ha
  rw [iterL_succ, rpoint_round _ _ _ _ 2 1 _ b rfl (by omega) (by omega) (by simp) (by omega), iterL_succ, rpoint_end]
  simp only [multi]
  rw [if_neg (show ¬ (a :: b :: t).length < 2 by simp)]
  simp only [List.take_succ_cons, List.take_zero, List.tail_cons, List.foldl_cons, List.foldl_nil, hg]
  by_cases h1 : 128 ≤ b.toNat ∧ b.toNat ≤ 191
  · rw [if_pos h1]
    by_cases h2 : 128 ≤ v * 64 + b.toNat % 64
    · rw [if_pos (by omega), if_pos (by omega)]
    · rw [if_neg (by omega), if_neg (by omega)]; rfl
  · rw [if_neg h1, if_neg (by omega)]; rfl

theorem rpoint_3 (M : Nat) (a b c : UInt8) (t : List UInt8) (v : Nat) (hv : v < 16) (ha : a.toNat = 224 + v) :
    iterL (M + 5) (B_ref1_point_0 (M + 5)) (a :: b :: c :: t, ((3 : Nat) : Int), (v : Int), ((2048 : Nat) : Int), ((1 : Nat) : Int)) = some (.tup [.int .u32 (multi 3 v (a :: b :: c :: t)).1, .int .i64 (multi 3 v (a :: b :: c :: t)).2], []) := by
  have hg := gly3 a b c v hv ha _ rfl
  rw [iterL_succ, rpoint_round _ _ _ _ 3 1 _ b rfl (by omega) (by omega) (by simp) (by omega), iterL_succ, rpoint_round _ _ _ _ 3 2 _ c rfl (by omega) (by omega) (by simp) (by omega), iterL_succ, rpoint_end]
  simp only [multi]
  rw [if_neg (show ¬ (a :: b :: c :: t).length < 3 by simp)]
  simp only [List.take_succ_cons, List.take_zero, List.tail_cons, List.foldl_cons, List.foldl_nil, hg]
  by_cases h1 : 128 ≤ b.toNat ∧ b.toNat ≤ 191
  · rw [if_pos h1]
    by_cases h2 : 128 ≤ c.toNat ∧ c.toNat ≤ 191
    · rw [if_pos h2]
      by_cases h3 : 2048 ≤ (v * 64 + b.toNat % 64) * 64 + c.toNat % 64 ∧ ¬ (55296 ≤ (v * 64 + b.toNat % 64) * 64 + c.toNat % 64 ∧ (v * 64 + b.toNat % 64) * 64 + c.toNat % 64 ≤ 57343)
      · rw [if_pos (by omega), if_pos (by omega)]
      · rw [if_neg (by omega), if_neg (by omega)]; rfl
    · rw [if_neg h2, if_neg (by omega)]; rfl
  · rw [if_neg h1, if_neg (by omega)]; rfl

theorem rpoint_4 (M : Nat) (a b c d : UInt8) (t : List UInt8) (v : Nat) (hv : v < 8) (ha : a.toNat = 240 + v) :
    iterL (M + 5) (B_ref1_point_0 (M + 5)) (a :: b :: c :: d :: t, ((4 : Nat) : Int), (v : Int), ((65536 : Nat) : Int), ((1 : Nat) : Int)) = some (.tup [.int .u32 (multi 4 v (a :: b :: c :: d :: t)).1, .int .i64 (multi 4 v (a :: b :: c :: d :: t)).2], []) := by
  have hg := gly4 a b c d v hv ha _ rfl
  rw [iterL_succ, rpoint_round _ _ _ _ 4 1 _ b rfl (by omega) (by omega) (by simp) (by omega), iterL_succ, rpoint_round _ _ _ _ 4 2 _ c rfl (by omega) (by omega) (by simp) (by omega), iterL_succ, rpoint_round _ _ _ _ 4 3 _ d rfl (by omega) (by omega) (by simp) (by omega), iterL_succ, rpoint_end]
  simp only [multi]
  rw [if_neg (show ¬ (a :: b :: c :: d :: t).length < 4 by simp)]
  simp only [List.take_succ_cons, List.take_zero, List.tail_cons, List.foldl_cons, List.foldl_nil, hg]
  by_cases h1 : 128 ≤ b.toNat ∧ b.toNat ≤ 191
  · rw [if_pos h1]
    by_cases h2 : 128 ≤ c.toNat ∧ c.toNat ≤ 191
    · rw [if_pos h2]
      by_cases h3 : 128 ≤ d.toNat ∧ d.toNat ≤ 191
      · rw [if_pos h3]
        by_cases h4 : 65536 ≤ ((v * 64 + b.toNat % 64) * 64 + c.toNat % 64) * 64 + d.toNat % 64 ∧ ((v * 64 + b.toNat % 64) * 64 + c.toNat % 64) * 64 + d.toNat % 64 ≤ 1114111
        · rw [if_pos (by omega), if_pos (by omega)]
        · rw [if_neg (by omega), if_neg (by omega)]; rfl
      · rw [if_neg h3, if_neg (by omega)]; rfl
    · rw [if_neg h2, if_neg (by omega)]; rfl
  · rw [if_neg h1, if_neg (by omega)]; rfl

theorem sh_ref1_point_eq (M : Nat) (s : List UInt8) (hl : s.length ≤ 9223372036854775807) :
    sh_ref1_point (M + 5) s = some (.tup [.int .u32 (pointG s).1, .int .i64 (pointG s).2], []) := by
  match s with
  | [] => rfl
  | c :: t =>
    have hc : c.toNat < 256 := UInt8.toNat_lt _
    rw [List.length_cons] at hl
    simp only [sh_ref1_point, sa_ref1_point, pointG, pointN, List.length_cons, Int.toNat_zero, List.getD_cons_zero]
    by_cases h1 : c.toNat < 128
    · simp (disch := omega) only [dt, df, it, iF, bt, bf, cond_true, cond_false, map_some', chk_t, Bool.and_true, Bool.true_and, Bool.and_false, Bool.false_and, Bool.or_true, Bool.true_or, Bool.or_false, Bool.false_or, Bool.not_true, Bool.not_false, if_true, if_false, beq_self_eq_true, wrap_i64_of, wrap_u64_of, wrap_i32_of, wrap_u32_of, wrap_u8_of, tdiv_of, tmod_of, Int.toNat_natCast, List.take_length, List.drop_zero, or_true, true_or, or_false, false_or, or_self, ]
      rfl
    by_cases h0 : c.toNat < 192
    · simp (disch := omega) only [dt, df, it, iF, bt, bf, cond_true, cond_false, map_some', chk_t, Bool.and_true, Bool.true_and, Bool.and_false, Bool.false_and, Bool.or_true, Bool.true_or, Bool.or_false, Bool.false_or, Bool.not_true, Bool.not_false, if_true, if_false, beq_self_eq_true, wrap_i64_of, wrap_u64_of, wrap_i32_of, wrap_u32_of, wrap_u8_of, tdiv_of, tmod_of, Int.toNat_natCast, List.take_length, List.drop_zero, or_true, true_or, or_false, false_or, or_self, ]
      rfl
    by_cases h2 : c.toNat < 224
    · have e : c.toNat / 32 = 6 := by omega
      match t with
      | [] => simp (disch := omega) only [dt, df, it, iF, bt, bf, cond_true, cond_false, map_some', chk_t, Bool.and_true, Bool.true_and, Bool.and_false, Bool.false_and, Bool.or_true, Bool.true_or, Bool.or_false, Bool.false_or, Bool.not_true, Bool.not_false, if_true, if_false, beq_self_eq_true, wrap_i64_of, wrap_u64_of, wrap_i32_of, wrap_u32_of, wrap_u8_of, tdiv_of, tmod_of, Int.toNat_natCast, List.take_length, List.drop_zero, or_true, true_or, or_false, false_or, or_self, multi, List.length_cons, List.length_nil]; rfl
      | b :: t =>
        rw [List.length_cons] at hl
        simp (disch := omega) only [dt, df, it, iF, bt, bf, cond_true, cond_false, map_some', chk_t, Bool.and_true, Bool.true_and, Bool.and_false, Bool.false_and, Bool.or_true, Bool.true_or, Bool.or_false, Bool.false_or, Bool.not_true, Bool.not_false, if_true, if_false, beq_self_eq_true, wrap_i64_of, wrap_u64_of, wrap_i32_of, wrap_u32_of, wrap_u8_of, tdiv_of, tmod_of, Int.toNat_natCast, List.take_length, List.drop_zero, or_true, true_or, or_false, false_or, or_self, e, List.length_cons]
        rw [show (c.toNat : Int) - 192 = ((c.toNat % 32 : Nat) : Int) by omega]
        exact rpoint_2 M c b t _ (by omega) (by omega)
    by_cases h3 : c.toNat < 240
    · have e : c.toNat / 16 = 14 := by omega
      match t with
      | [] => simp (disch := omega) only [dt, df, it, iF, bt, bf, cond_true, cond_false, map_some', chk_t, Bool.and_true, Bool.true_and, Bool.and_false, Bool.false_and, Bool.or_true, Bool.true_or, Bool.or_false, Bool.false_or, Bool.not_true, Bool.not_false, if_true, if_false, beq_self_eq_true, wrap_i64_of, wrap_u64_of, wrap_i32_of, wrap_u32_of, wrap_u8_of, tdiv_of, tmod_of, Int.toNat_natCast, List.take_length, List.drop_zero, or_true, true_or, or_false, false_or, or_self, multi, List.length_cons, List.length_nil]; rfl
      | [b] => simp (disch := omega) only [dt, df, it, iF, bt, bf, cond_true, cond_false, map_some', chk_t, Bool.and_true, Bool.true_and, Bool.and_false, Bool.false_and, Bool.or_true, Bool.true_or, Bool.or_false, Bool.false_or, Bool.not_true, Bool.not_false, if_true, if_false, beq_self_eq_true, wrap_i64_of, wrap_u64_of, wrap_i32_of, wrap_u32_of, wrap_u8_of, tdiv_of, tmod_of, Int.toNat_natCast, List.take_length, List.drop_zero, or_true, true_or, or_false, false_or, or_self, multi, List.length_cons, List.length_nil]; rfl
      | b :: d :: t =>
        rw [List.length_cons, List.length_cons] at hl
        simp (disch := omega) only [dt, df, it, iF, bt, bf, cond_true, cond_false, map_some', chk_t, Bool.and_true, Bool.true_and, Bool.and_false, Bool.false_and, Bool.or_true, Bool.true_or, Bool.or_false, Bool.false_or, Bool.not_true, Bool.not_false, if_true, if_false, beq_self_eq_true, wrap_i64_of, wrap_u64_of, wrap_i32_of, wrap_u32_of, wrap_u8_of, tdiv_of, tmod_of, Int.toNat_natCast, List.take_length, List.drop_zero, or_true, true_or, or_false, false_or, or_self, e, List.length_cons]
        rw [show (c.toNat : Int) - 224 = ((c.toNat % 16 : Nat) : Int) by omega]
        exact rpoint_3 M c b d t _ (by omega) (by omega)
    by_cases h4 : c.toNat < 248
    · have e : c.toNat / 8 = 30 := by omega
      match t with
      | [] => simp (disch := omega) only [dt, df, it, iF, bt, bf, cond_true, cond_false, map_some', chk_t, Bool.and_true, Bool.true_and, Bool.and_false, Bool.false_and, Bool.or_true, Bool.true_or, Bool.or_false, Bool.false_or, Bool.not_true, Bool.not_false, if_true, if_false, beq_self_eq_true, wrap_i64_of, wrap_u64_of, wrap_i32_of, wrap_u32_of, wrap_u8_of, tdiv_of, tmod_of, Int.toNat_natCast, List.take_length, List.drop_zero, or_true, true_or, or_false, false_or, or_self, multi, List.length_cons, List.length_nil]; rfl
      | [b] => simp (disch := omega) only [dt, df, it, iF, bt, bf, cond_true, cond_false, map_some', chk_t, Bool.and_true, Bool.true_and, Bool.and_false, Bool.false_and, Bool.or_true, Bool.true_or, Bool.or_false, Bool.false_or, Bool.not_true, Bool.not_false, if_true, if_false, beq_self_eq_true, wrap_i64_of, wrap_u64_of, wrap_i32_of, wrap_u32_of, wrap_u8_of, tdiv_of, tmod_of, Int.toNat_natCast, List.take_length, List.drop_zero, or_true, true_or, or_false, false_or, or_self, multi, List.length_cons, List.length_nil]; rfl
      | [b, d] => simp (disch := omega) only [dt, df, it, iF, bt, bf, cond_true, cond_false, map_some', chk_t, Bool.and_true, Bool.true_and, Bool.and_false, Bool.false_and, Bool.or_true, Bool.true_or, Bool.or_false, Bool.false_or, Bool.not_true, Bool.not_false, if_true, if_false, beq_self_eq_true, wrap_i64_of, wrap_u64_of, wrap_i32_of, wrap_u32_of, wrap_u8_of, tdiv_of, tmod_of, Int.toNat_natCast, List.take_length, List.drop_zero, or_true, true_or, or_false, false_or, or_self, multi, List.length_cons, List.length_nil]; rfl
      | b :: d :: f :: t =>
        rw [List.length_cons, List.length_cons, List.length_cons] at hl
        simp (disch := omega) only [dt, df, it, iF, bt, bf, cond_true, cond_false, map_some', chk_t, Bool.and_true, Bool.true_and, Bool.and_false, Bool.false_and, Bool.or_true, Bool.true_or, Bool.or_false, Bool.false_or, Bool.not_true, Bool.not_false, if_true, if_false, beq_self_eq_true, wrap_i64_of, wrap_u64_of, wrap_i32_of, wrap_u32_of, wrap_u8_of, tdiv_of, tmod_of, Int.toNat_natCast, List.take_length, List.drop_zero, or_true, true_or, or_false, false_or, or_self, e, List.length_cons]
        rw [show (c.toNat : Int) - 240 = ((c.toNat % 8 : Nat) : Int) by omega]
        exact rpoint_4 M c b d f t _ (by omega) (by omega)
    · simp (disch := omega) only [dt, df, it, iF, bt, bf, cond_true, cond_false, map_some', chk_t, Bool.and_true, Bool.true_and, Bool.and_false, Bool.false_and, Bool.or_true, Bool.true_or, Bool.or_false, Bool.false_or, Bool.not_true, Bool.not_false, if_true, if_false, beq_self_eq_true, wrap_i64_of, wrap_u64_of, wrap_i32_of, wrap_u32_of, wrap_u8_of, tdiv_of, tmod_of, Int.toNat_natCast, List.take_length, List.drop_zero, or_true, true_or, or_false, false_or, or_self, ]
      rfl

theorem sh_ref1_Glyph_eq (N : Nat) (r : Int) (hr : 0 ≤ r ∧ r ≤ 4294967295) : sh_ref1_Glyph N r = some (.str (putG r), []) := by
  obtain ⟨p, rfl⟩ : ∃ p : Nat, r = (p : Int) := ⟨r.toNat, by omega⟩
  simp only [sh_ref1_Glyph, sa_ref1_Glyph, putG, Int.toNat_natCast, gly]
  by_cases h1 : 1114111 < p
  · simp (disch := omega) only [dt, df, it, iF, bt, bf, cond_true, cond_false, map_some', chk_t, Bool.and_true, Bool.true_and, Bool.and_false, Bool.false_and, Bool.or_true, Bool.true_or, Bool.or_false, Bool.false_or, Bool.not_true, Bool.not_false, if_true, if_false, beq_self_eq_true, wrap_i64_of, wrap_u64_of, wrap_i32_of, wrap_u32_of, wrap_u8_of, tdiv_of, tmod_of, Int.toNat_natCast, List.take_length, List.drop_zero, or_true, true_or, or_false, false_or, or_self, ]
    rfl
  by_cases h2 : 55296 ≤ p ∧ p ≤ 57343
  · simp (disch := omega) only [dt, df, it, iF, bt, bf, cond_true, cond_false, map_some', chk_t, Bool.and_true, Bool.true_and, Bool.and_false, Bool.false_and, Bool.or_true, Bool.true_or, Bool.or_false, Bool.false_or, Bool.not_true, Bool.not_false, if_true, if_false, beq_self_eq_true, wrap_i64_of, wrap_u64_of, wrap_i32_of, wrap_u32_of, wrap_u8_of, tdiv_of, tmod_of, Int.toNat_natCast, List.take_length, List.drop_zero, or_true, true_or, or_false, false_or, or_self, ]
    rfl
  have e1 : ∀ q : Nat, q ≤ 255 → UInt8.ofNat (Int.toNat (IntKind.wrap .u8 (q : Int))) = UInt8.ofNat q := by intro q hq; rw [wrap_u8_of _ (by omega)]; rfl
  by_cases h3 : p < 128
  · by_cases h6 : 55296 ≤ p
    · omega
    · simp (disch := omega) only [dt, df, it, iF, bt, bf, cond_true, cond_false, map_some', chk_t, Bool.and_true, Bool.true_and, Bool.and_false, Bool.false_and, Bool.or_true, Bool.true_or, Bool.or_false, Bool.false_or, Bool.not_true, Bool.not_false, if_true, if_false, beq_self_eq_true, wrap_i64_of, wrap_u64_of, wrap_i32_of, wrap_u32_of, wrap_u8_of, tdiv_of, tmod_of, Int.toNat_natCast, List.take_length, List.drop_zero, or_true, true_or, or_false, false_or, or_self, ]
  by_cases h4 : p < 2048
  · by_cases h6 : 55296 ≤ p
    · omega
    · simp (disch := omega) only [dt, df, it, iF, bt, bf, cond_true, cond_false, map_some', chk_t, Bool.and_true, Bool.true_and, Bool.and_false, Bool.false_and, Bool.or_true, Bool.true_or, Bool.or_false, Bool.false_or, Bool.not_true, Bool.not_false, if_true, if_false, beq_self_eq_true, wrap_i64_of, wrap_u64_of, wrap_i32_of, wrap_u32_of, wrap_u8_of, tdiv_of, tmod_of, Int.toNat_natCast, List.take_length, List.drop_zero, or_true, true_or, or_false, false_or, or_self, tdiv_nat, tmod_nat]
      rfl
  by_cases h5 : p < 65536
  · by_cases h6 : 55296 ≤ p
    · simp (disch := omega) only [dt, df, it, iF, bt, bf, cond_true, cond_false, map_some', chk_t, Bool.and_true, Bool.true_and, Bool.and_false, Bool.false_and, Bool.or_true, Bool.true_or, Bool.or_false, Bool.false_or, Bool.not_true, Bool.not_false, if_true, if_false, beq_self_eq_true, wrap_i64_of, wrap_u64_of, wrap_i32_of, wrap_u32_of, wrap_u8_of, tdiv_of, tmod_of, Int.toNat_natCast, List.take_length, List.drop_zero, or_true, true_or, or_false, false_or, or_self, ]
      rfl
    · simp (disch := omega) only [dt, df, it, iF, bt, bf, cond_true, cond_false, map_some', chk_t, Bool.and_true, Bool.true_and, Bool.and_false, Bool.false_and, Bool.or_true, Bool.true_or, Bool.or_false, Bool.false_or, Bool.not_true, Bool.not_false, if_true, if_false, beq_self_eq_true, wrap_i64_of, wrap_u64_of, wrap_i32_of, wrap_u32_of, wrap_u8_of, tdiv_of, tmod_of, Int.toNat_natCast, List.take_length, List.drop_zero, or_true, true_or, or_false, false_or, or_self, ]
      rfl
  · by_cases h6 : 55296 ≤ p
    · simp (disch := omega) only [dt, df, it, iF, bt, bf, cond_true, cond_false, map_some', chk_t, Bool.and_true, Bool.true_and, Bool.and_false, Bool.false_and, Bool.or_true, Bool.true_or, Bool.or_false, Bool.false_or, Bool.not_true, Bool.not_false, if_true, if_false, beq_self_eq_true, wrap_i64_of, wrap_u64_of, wrap_i32_of, wrap_u32_of, wrap_u8_of, tdiv_of, tmod_of, Int.toNat_natCast, List.take_length, List.drop_zero, or_true, true_or, or_false, false_or, or_self, ]
      rfl
    · omega
end Go.Proofs.Ytmiclamhiohemaa
