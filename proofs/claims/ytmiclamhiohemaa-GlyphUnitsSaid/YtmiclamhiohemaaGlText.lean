/-
  Which texts are valid, how texts are quoted, a cursor's units.
-/
import Derived.Test.YtmiclamhiohemaaGlPoint
import Derived.Test.YtmiclamhiohemaaGlRunes
namespace Go.Proofs.Ytmiclamhiohemaa
open Go.AM
set_option autoImplicit false
set_option linter.unusedSimpArgs false
set_option linter.unusedVariables false

theorem all_bytes (p : Nat → Bool) (h : (List.range 256).all p = true) : ∀ n, n < 256 → p n = true := fun n hn => List.all_eq_true.1 h n (List.mem_range.2 hn)

theorem sh_glyph_Valid_eq (N : Nat) (s : List UInt8) (hs : s.length ≤ 9223372036854775807) (hN : s.length < N) : sh_glyph_Valid N s = some (.bool (validG s), []) := by
  show iterL N (B_glyph_Valid_0 N) s = _
  refine iterL_spec (fun x : List UInt8 => x.length ≤ 9223372036854775807) (fun x => x.length) (fun x => (V.bool (validG x), ([] : List AObj))) ?_ N s hs hN
  rintro rec x hx hrec
  match x with
  | [] => rfl
  | c :: t =>
    have hle := point_le (c :: t)
    have hg : (pointG (c :: t)).2 = ((pointN (c :: t)).2 : Int) := rfl
    have h0 : decide (c :: t = []) = false := by simp
    have hcl : (c :: t).length = t.length + 1 := rfl
    have hx' : (c :: t).length ≤ 9223372036854775807 := hx
    simp only [B_glyph_Valid_0, validG_cons]
    generalize (pointG (c :: t)).2 = p at hg
    by_cases hp : (pointN (c :: t)).2 = 0
    · rw [if_pos hp]
      simp (disch := omega) only [dt, df, it, iF, bt, bf, cond_true, cond_false, map_some', chk_t, Bool.and_true, Bool.true_and, Bool.and_false, Bool.false_and, Bool.or_true, Bool.true_or, Bool.or_false, Bool.false_or, Bool.not_true, Bool.not_false, if_true, if_false, beq_self_eq_true, wrap_i64_of, wrap_u64_of, wrap_i32_of, wrap_u32_of, wrap_u8_of, tdiv_of, tmod_of, Int.toNat_natCast, List.take_length, List.drop_zero, or_true, true_or, or_false, false_or, or_self, h0]
    · rw [if_neg hp]
      have e : p.toNat = (pointN (c :: t)).2 := by omega
      simp (disch := omega) only [dt, df, it, iF, bt, bf, cond_true, cond_false, map_some', chk_t, Bool.and_true, Bool.true_and, Bool.and_false, Bool.false_and, Bool.or_true, Bool.true_or, Bool.or_false, Bool.false_or, Bool.not_true, Bool.not_false, if_true, if_false, beq_self_eq_true, wrap_i64_of, wrap_u64_of, wrap_i32_of, wrap_u32_of, wrap_u8_of, tdiv_of, tmod_of, Int.toNat_natCast, List.take_length, List.drop_zero, or_true, true_or, or_false, false_or, or_self, h0, e]
      exact hrec ((c :: t).drop (pointN (c :: t)).2) (by simp only [List.length_drop]; omega) (by simp only [List.length_drop]; omega)

theorem sh_ref1_Valid_eq (N : Nat) (s : List UInt8) (hs : s.length ≤ 9223372036854775807) (hN : s.length < N) : sh_ref1_Valid N s = some (.bool (validG s), []) := by
  show iterL N (B_ref1_Valid_0 N) s = _
  refine iterL_spec (fun x : List UInt8 => x.length ≤ 9223372036854775807) (fun x => x.length) (fun x => (V.bool (validG x), ([] : List AObj))) ?_ N s hs hN
  rintro rec x hx hrec
  match x with
  | [] => rfl
  | c :: t =>
    have hle := point_le (c :: t)
    have hg : (pointG (c :: t)).2 = ((pointN (c :: t)).2 : Int) := rfl
    have h0 : decide ((0 : Int) < ((c :: t).length : Int)) = true := by simp only [List.length_cons]; exact dt (by omega)
    have hcl : (c :: t).length = t.length + 1 := rfl
    have hx' : (c :: t).length ≤ 9223372036854775807 := hx
    simp only [B_ref1_Valid_0, validG_cons]
    generalize (pointG (c :: t)).2 = p at hg
    by_cases hp : (pointN (c :: t)).2 = 0
    · rw [if_pos hp]
      simp (disch := omega) only [dt, df, it, iF, bt, bf, cond_true, cond_false, map_some', chk_t, Bool.and_true, Bool.true_and, Bool.and_false, Bool.false_and, Bool.or_true, Bool.true_or, Bool.or_false, Bool.false_or, Bool.not_true, Bool.not_false, if_true, if_false, beq_self_eq_true, wrap_i64_of, wrap_u64_of, wrap_i32_of, wrap_u32_of, wrap_u8_of, tdiv_of, tmod_of, Int.toNat_natCast, List.take_length, List.drop_zero, or_true, true_or, or_false, false_or, or_self, h0]
    · rw [if_neg hp]
      have e : p.toNat = (pointN (c :: t)).2 := by omega
      simp (disch := omega) only [dt, df, it, iF, bt, bf, cond_true, cond_false, map_some', chk_t, Bool.and_true, Bool.true_and, Bool.and_false, Bool.false_and, Bool.or_true, Bool.true_or, Bool.or_false, Bool.false_or, Bool.not_true, Bool.not_false, if_true, if_false, beq_self_eq_true, wrap_i64_of, wrap_u64_of, wrap_i32_of, wrap_u32_of, wrap_u8_of, tdiv_of, tmod_of, Int.toNat_natCast, List.take_length, List.drop_zero, or_true, true_or, or_false, false_or, or_self, h0, e]
      exact hrec ((c :: t).drop (pointN (c :: t)).2) (by simp only [List.length_drop]; omega) (by simp only [List.length_drop]; omega)

theorem sh_strings_HasPrefix_eq (N : Nat) (s p : List UInt8) : sh_strings_HasPrefix N s p = some (.bool (prefixB s p), []) := rfl
theorem sh_internal_stringslite_HasPrefix_eq (N : Nat) (s p : List UInt8) : sh_internal_stringslite_HasPrefix N s p = some (.bool (prefixB s p), []) := by
  simp only [sh_internal_stringslite_HasPrefix, sa_internal_stringslite_HasPrefix, prefixB]
  by_cases h : p.length ≤ s.length
  · simp (disch := omega) only [dt, df, it, iF, bt, bf, cond_true, cond_false, map_some', chk_t, Bool.and_true, Bool.true_and, Bool.and_false, Bool.false_and, Bool.or_true, Bool.true_or, Bool.or_false, Bool.false_or, Bool.not_true, Bool.not_false, if_true, if_false, beq_self_eq_true, wrap_i64_of, wrap_u64_of, wrap_i32_of, wrap_u32_of, wrap_u8_of, tdiv_of, tmod_of, Int.toNat_natCast, List.take_length, List.drop_zero, or_true, true_or, or_false, false_or, or_self, ]
  · simp (disch := omega) only [dt, df, it, iF, bt, bf, cond_true, cond_false, map_some', chk_t, Bool.and_true, Bool.true_and, Bool.and_false, Bool.false_and, Bool.or_true, Bool.true_or, Bool.or_false, Bool.false_or, Bool.not_true, Bool.not_false, if_true, if_false, beq_self_eq_true, wrap_i64_of, wrap_u64_of, wrap_i32_of, wrap_u32_of, wrap_u8_of, tdiv_of, tmod_of, Int.toNat_natCast, List.take_length, List.drop_zero, or_true, true_or, or_false, false_or, or_self, ]

def tab1 (n : Nat) : Bool :=
  let k := indexB [34, 92, 8, 12, 10, 13, 9] (n : Int)
  if 0 ≤ k then decide (k < 7) && decide (quoteB (UInt8.ofNat n) = [92, ([34, 92, 98, 102, 110, 114, 116] : List UInt8).getD k.toNat 0])
  else if n < 32 then decide (quoteB (UInt8.ofNat n) = [92, 117, 48, 48, ([48, 49, 50, 51, 52, 53, 54, 55, 56, 57, 97, 98, 99, 100, 101, 102] : List UInt8).getD (n / 16) 0, ([48, 49, 50, 51, 52, 53, 54, 55, 56, 57, 97, 98, 99, 100, 101, 102] : List UInt8).getD (n % 16) 0])
  else decide (quoteB (UInt8.ofNat n) = [UInt8.ofNat n])
theorem tab1_ok : (List.range 256).all tab1 = true := by kernel_rfl

theorem quote_round (N : Nat) (rec : (List UInt8 × Int × Int × List UInt8) → Option (V × List AObj)) (s o : List UInt8) (i : Nat) (hi : i < s.length) (hs : s.length ≤ 9223372036854775806) (ho : o.length ≤ 100000000) :
    B_glyph_Quote_0 N rec (s, (s.length : Int), (i : Int), o) = rec (s, (s.length : Int), ((i + 1 : Nat) : Int), o ++ quoteB (s.getD i 0)) := by
  have hb : (s.getD i 0).toNat < 256 := UInt8.toNat_lt _
  have ht := all_bytes tab1 tab1_ok _ hb
  simp only [B_glyph_Quote_0, Int.toNat_natCast]
  obtain ⟨c, hc⟩ : ∃ c, s.getD i 0 = c := ⟨_, rfl⟩
  simp only [hc] at hb ht ⊢
  have e4 : shrI .u8 (c.toNat : Int) 4 = ((c.toNat / 16 : Nat) : Int) := shrI_nat .u8 c.toNat 4 (by decide)
  have e15 : bitsI .and .u8 (c.toNat : Int) 15 = ((c.toNat % 16 : Nat) : Int) := and_u8 4 (by omega) _ hb
  simp only [tab1, UInt8.ofNat_toNat] at ht
  by_cases h1 : (0 : Int) ≤ indexB [34, 92, 8, 12, 10, 13, 9] (c.toNat : Int)
  · rw [if_pos h1] at ht
    simp only [Bool.and_eq_true, decide_eq_true_eq] at ht
    obtain ⟨ht1, ht2⟩ := ht
    have h7 : ([34, 92, 98, 102, 110, 114, 116] : List UInt8).length = 7 := rfl
    simp (disch := omega) only [dt, df, it, iF, bt, bf, cond_true, cond_false, map_some', chk_t, Bool.and_true, Bool.true_and, Bool.and_false, Bool.false_and, Bool.or_true, Bool.true_or, Bool.or_false, Bool.false_or, Bool.not_true, Bool.not_false, if_true, if_false, beq_self_eq_true, wrap_i64_of, wrap_u64_of, wrap_i32_of, wrap_u32_of, wrap_u8_of, tdiv_of, tmod_of, Int.toNat_natCast, List.take_length, List.drop_zero, or_true, true_or, or_false, false_or, or_self, h1, ht2, h7, List.length_append, List.length_cons, List.length_nil, UInt8.ofNat_toNat, List.append_assoc, List.cons_append, List.nil_append]
    rfl
  · rw [if_neg h1] at ht
    by_cases h2 : c.toNat < 32
    · rw [if_pos h2] at ht
      simp only [decide_eq_true_eq] at ht
      simp (disch := omega) only [dt, df, it, iF, bt, bf, cond_true, cond_false, map_some', chk_t, Bool.and_true, Bool.true_and, Bool.and_false, Bool.false_and, Bool.or_true, Bool.true_or, Bool.or_false, Bool.false_or, Bool.not_true, Bool.not_false, if_true, if_false, beq_self_eq_true, wrap_i64_of, wrap_u64_of, wrap_i32_of, wrap_u32_of, wrap_u8_of, tdiv_of, tmod_of, Int.toNat_natCast, List.take_length, List.drop_zero, or_true, true_or, or_false, false_or, or_self, ht, e4, e15, List.length_append, List.length_cons, List.length_nil, UInt8.ofNat_toNat, List.append_assoc, List.cons_append, List.nil_append]
      rfl
    · rw [if_neg h2] at ht
      simp only [decide_eq_true_eq] at ht
      simp (disch := omega) only [dt, df, it, iF, bt, bf, cond_true, cond_false, map_some', chk_t, Bool.and_true, Bool.true_and, Bool.and_false, Bool.false_and, Bool.or_true, Bool.true_or, Bool.or_false, Bool.false_or, Bool.not_true, Bool.not_false, if_true, if_false, beq_self_eq_true, wrap_i64_of, wrap_u64_of, wrap_i32_of, wrap_u32_of, wrap_u8_of, tdiv_of, tmod_of, Int.toNat_natCast, List.take_length, List.drop_zero, or_true, true_or, or_false, false_or, or_self, ht, UInt8.ofNat_toNat]
      rfl

theorem quoteB_len (c : UInt8) : (quoteB c).length ≤ 6 := by
  unfold quoteB
  repeat' split
  all_goals simp

theorem sh_glyph_Quote_eq (N : Nat) (s : List UInt8) (hs : s.length ≤ 1000) (hN : s.length < N) : (sh_glyph_Quote N s).map (·.1) = some (.str (quoteG s)) := by
  have h : (iterL N (B_glyph_Quote_0 N) (s, (s.length : Int), (0 : Int), [34])).map (·.1) = some (V.str (quoteG s)) := by
    have key := iterL_fst (B := B_glyph_Quote_0 N) (fun x : List UInt8 × Int × Int × List UInt8 => x.1 = s ∧ x.2.1 = (s.length : Int) ∧ ∃ i : Nat, x.2.2.1 = (i : Int) ∧ i ≤ s.length ∧ x.2.2.2.length ≤ 1 + 6 * i)
      (fun x => s.length - x.2.2.1.toNat) (fun x => V.str (x.2.2.2 ++ ((s.drop x.2.2.1.toNat).flatMap quoteB ++ [34]))) ?_ N (s, (s.length : Int), (0 : Int), [34]) ⟨rfl, rfl, 0, rfl, by omega, by simp⟩ (by simpa using hN)
    · rw [key]; rfl
    · rintro rec ⟨x1, x2, x3, o⟩ ⟨h1, h2, i, h3, hi, ho⟩ hrec
      dsimp only at h1 h2 h3 hi ho
      subst h1 h2 h3
      by_cases hl : i < x1.length
      · rw [quote_round N rec x1 o i hl (by omega) (by omega)]
        have hq := quoteB_len (x1.getD i 0)
        rw [hrec (x1, (x1.length : Int), ((i + 1 : Nat) : Int), o ++ quoteB (x1.getD i 0)) ⟨rfl, rfl, i + 1, rfl, by omega, by simp only [List.length_append]; omega⟩ (by simp; omega)]
        simp only [Int.toNat_natCast]
        rw [List.drop_eq_getElem_cons hl, List.flatMap_cons]
        simp [List.getD, hl]
      · have e : i = x1.length := by omega
        subst e
        simp only [B_glyph_Quote_0, Int.toNat_natCast, List.drop_length, List.flatMap_nil, List.nil_append]
        simp (disch := omega) only [dt, df, it, iF, bt, bf, cond_true, cond_false, map_some', chk_t, Bool.and_true, Bool.true_and, Bool.and_false, Bool.false_and, Bool.or_true, Bool.true_or, Bool.or_false, Bool.false_or, Bool.not_true, Bool.not_false, if_true, if_false, beq_self_eq_true, wrap_i64_of, wrap_u64_of, wrap_i32_of, wrap_u32_of, wrap_u8_of, tdiv_of, tmod_of, Int.toNat_natCast, List.take_length, List.drop_zero, or_true, true_or, or_false, false_or, or_self, ]
        rfl
  simp only [sh_glyph_Quote, sa_glyph_Quote]
  simp (disch := omega) only [dt, df, it, iF, bt, bf, cond_true, cond_false, map_some', chk_t, Bool.and_true, Bool.true_and, Bool.and_false, Bool.false_and, Bool.or_true, Bool.true_or, Bool.or_false, Bool.false_or, Bool.not_true, Bool.not_false, if_true, if_false, beq_self_eq_true, wrap_i64_of, wrap_u64_of, wrap_i32_of, wrap_u32_of, wrap_u8_of, tdiv_of, tmod_of, Int.toNat_natCast, List.take_length, List.drop_zero, or_true, true_or, or_false, false_or, or_self, List.length_nil, List.nil_append]
  exact h
end Go.Proofs.Ytmiclamhiohemaa
