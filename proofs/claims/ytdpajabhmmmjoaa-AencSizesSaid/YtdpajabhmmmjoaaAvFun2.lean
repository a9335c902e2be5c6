/-
  Fits, as it runs; the contracts of layer 20.
-/
import Derived.Test.YtdpajabhmmmjoaaAvFun
namespace Go.Proofs.Ytdpajabhmmmjoaa
open Go.AM
set_option autoImplicit false
set_option linter.unusedSimpArgs false
set_option linter.unusedVariables false
set_option maxRecDepth 100000

theorem J0_eq (N : Nat) (v : Bool) (n : Int) (s : List UInt8) (l : List AVal) (ks : List (List UInt8)) (b : Int) : (J_aval_Fits_0 N (v, n, s, l, ks, b)).map (·.1) = some (.bool (v && bareS n s l ks b)) := by
  cases v <;> rfl
theorem J2_eq (N : Nat) (v : Bool) (n : Int) (s : List UInt8) (l : List AVal) (ks : List (List UInt8)) (b : Int) : (J_aval_Fits_2 N (v, n, s, l, ks, b)).map (·.1) = some (.bool (v && bareS n s l ks b)) := by
  cases v <;> rfl
theorem J4_eq (N : Nat) (v : Bool) (n : Int) (s : List UInt8) (l : List AVal) (ks : List (List UInt8)) (b : Int) : (J_aval_Fits_4 N (v, n, s, l, ks, b)).map (·.1) = some (.bool (v && bareS n s l ks b)) := by
  cases v <;> rfl
theorem J5_eq (N : Nat) (v : Bool) (n : Int) (s : List UInt8) (l : List AVal) (ks : List (List UInt8)) (b : Int) : (J_aval_Fits_5 N (v, n, s, l, ks, b)).map (·.1) = some (.bool (v && bareS n s l ks b)) := by
  cases v <;> rfl
theorem J6_eq (N : Nat) (v : Bool) (n : Int) (s : List UInt8) (l : List AVal) (ks : List (List UInt8)) (b : Int) : (J_aval_Fits_6 N (v, n, s, l, ks, b)).map (·.1) = some (.bool (v && bareS n s [] [] b)) := by
  cases v <;> rfl
theorem J8_eq (N : Nat) (v : Bool) (n : Int) (s : List UInt8) (l : List AVal) (ks : List (List UInt8)) (b : Int) : (J_aval_Fits_8 N (v, n, s, l, ks, b)).map (·.1) = some (.bool (v && bareS n s [] ks 0)) := by
  cases v <;> rfl

theorem sh_Fits_eq (N : Nat) (ts : List AType) (t : Int) (n : Int) (s : List UInt8) (l : List AVal) (ks : List (List UInt8)) (b : Int) (h : szL l + 1000000 ≤ N) :
    (sh_aval_Fits N ts t n s l ks b).map (·.1) = some (.bool (fitsS ts t (.mk n s l ks b))) := by
  simp only [sh_aval_Fits, sa_aval_Fits, fitsS]
  by_cases ht : isT ts t = true
  rotate_left
  · simp only [Bool.not_eq_true] at ht
    simp only [ht, Bool.not_false, cond_true, Bool.false_and, Option.map_some]
  have ht' := ht
  simp only [isT, Bool.and_eq_true, decide_eq_true_eq] at ht'
  have e0 : (decide (0 ≤ t) && decide (t < (ts.length : Int))) = true := ht
  simp only [ht, e0, Bool.not_true, cond_false, chk_t, Bool.true_and]
  generalize ts.getD t.toNat (dflt .atype) = k
  have c1 : decide (1000000 ≤ N - szL l) = true := decide_eq_true (by omega)
  by_cases h1 : k.kind = 1
  · simp (disch := omega) only [dt, df, it, iF, bt, bf, cond_true, cond_false, map_some', chk_t, Bool.and_true, Bool.true_and, Bool.and_false, Bool.false_and, Bool.or_true, Bool.true_or, Bool.or_false, Bool.false_or, Bool.not_true, Bool.not_false, if_true, if_false, beq_self_eq_true, wrap_i64_of, wrap_u64_of, wrap_i32_of, wrap_u32_of, wrap_u8_of, tdiv_of, tmod_of, Int.toNat_natCast, List.take_length, List.drop_zero, or_true, true_or, or_false, false_or, or_self, h1, J0_eq]
  have h1' : (k.kind == 1) = false := by simpa using h1
  simp only [h1', cond_false]
  by_cases hn : k.kind = 2 ∨ k.kind = 3 ∨ k.kind = 4 ∨ k.kind = 5 ∨ k.kind = 6 ∨ k.kind = 10
  · rcases hn with e | e | e | e | e | e <;>
      (simp only [e]
       simp (disch := omega) only [dt, df, it, iF, bt, bf, cond_true, cond_false, map_some', chk_t, Bool.and_true, Bool.true_and, Bool.and_false, Bool.false_and, Bool.or_true, Bool.true_or, Bool.or_false, Bool.false_or, Bool.not_true, Bool.not_false, if_true, if_false, beq_self_eq_true, wrap_i64_of, wrap_u64_of, wrap_i32_of, wrap_u32_of, wrap_u8_of, tdiv_of, tmod_of, Int.toNat_natCast, List.take_length, List.drop_zero, or_true, true_or, or_false, false_or, or_self, J_aval_Fits_1, JA_aval_Fits_1, J2_eq])
  have d2 : (k.kind == 2) = false := by simp; omega
  have d3 : (k.kind == 3) = false := by simp; omega
  have d4 : (k.kind == 4) = false := by simp; omega
  have d5 : (k.kind == 5) = false := by simp; omega
  have d6 : (k.kind == 6) = false := by simp; omega
  have d10 : (k.kind == 10) = false := by simp; omega
  simp only [d2, d3, d4, d5, d6, d10, cond_false, J_aval_Fits_1, JA_aval_Fits_1, Bool.or_false, Bool.false_or]
  by_cases hx : k.kind = 7 ∨ k.kind = 8 ∨ k.kind = 11
  · rcases hx with e | e | e <;>
      (simp only [e]
       simp (disch := omega) only [dt, df, it, iF, bt, bf, cond_true, cond_false, map_some', chk_t, Bool.and_true, Bool.true_and, Bool.and_false, Bool.false_and, Bool.or_true, Bool.true_or, Bool.or_false, Bool.false_or, Bool.not_true, Bool.not_false, if_true, if_false, beq_self_eq_true, wrap_i64_of, wrap_u64_of, wrap_i32_of, wrap_u32_of, wrap_u8_of, tdiv_of, tmod_of, Int.toNat_natCast, List.take_length, List.drop_zero, or_true, true_or, or_false, false_or, or_self, J_aval_Fits_3, JA_aval_Fits_3, J4_eq])
  have d7 : (k.kind == 7) = false := by simp; omega
  have d8 : (k.kind == 8) = false := by simp; omega
  have d11 : (k.kind == 11) = false := by simp; omega
  simp only [d7, d8, d11, cond_false, J_aval_Fits_3, JA_aval_Fits_3, Bool.or_false, Bool.false_or]
  by_cases h12 : k.kind = 12
  · simp only [h12]
    simp (disch := omega) only [dt, df, it, iF, bt, bf, cond_true, cond_false, map_some', chk_t, Bool.and_true, Bool.true_and, Bool.and_false, Bool.false_and, Bool.or_true, Bool.true_or, Bool.or_false, Bool.false_or, Bool.not_true, Bool.not_false, if_true, if_false, beq_self_eq_true, wrap_i64_of, wrap_u64_of, wrap_i32_of, wrap_u32_of, wrap_u8_of, tdiv_of, tmod_of, Int.toNat_natCast, List.take_length, List.drop_zero, or_true, true_or, or_false, false_or, or_self, c1, J5_eq]
  have d12 : (k.kind == 12) = false := by simp; omega
  simp only [d12, cond_false]
  by_cases h13 : k.kind = 13
  · simp only [h13]
    simp (disch := omega) only [dt, df, it, iF, bt, bf, cond_true, cond_false, map_some', chk_t, Bool.and_true, Bool.true_and, Bool.and_false, Bool.false_and, Bool.or_true, Bool.true_or, Bool.or_false, Bool.false_or, Bool.not_true, Bool.not_false, if_true, if_false, beq_self_eq_true, wrap_i64_of, wrap_u64_of, wrap_i32_of, wrap_u32_of, wrap_u8_of, tdiv_of, tmod_of, Int.toNat_natCast, List.take_length, List.drop_zero, or_true, true_or, or_false, false_or, or_self, c1]
    cases (ks.length : Int) == (l.length : Int) <;> cases keysS ks <;> simp only [cond_true, cond_false, J6_eq, Bool.false_and, Bool.true_and]
  have d13 : (k.kind == 13) = false := by simp; omega
  simp only [d13, cond_false]
  by_cases h9 : k.kind = 9
  · simp only [h9]
    simp (disch := omega) only [dt, df, it, iF, bt, bf, cond_true, cond_false, map_some', chk_t, Bool.and_true, Bool.true_and, Bool.and_false, Bool.false_and, Bool.or_true, Bool.true_or, Bool.or_false, Bool.false_or, Bool.not_true, Bool.not_false, if_true, if_false, beq_self_eq_true, wrap_i64_of, wrap_u64_of, wrap_i32_of, wrap_u32_of, wrap_u8_of, tdiv_of, tmod_of, Int.toNat_natCast, List.take_length, List.drop_zero, or_true, true_or, or_false, false_or, or_self, c1, J5_eq]
  have d9 : (k.kind == 9) = false := by simp; omega
  simp only [d9, cond_false]
  by_cases h14 : k.kind = 14
  · simp only [h14]
    simp (disch := omega) only [dt, df, it, iF, bt, bf, cond_true, cond_false, map_some', chk_t, Bool.and_true, Bool.true_and, Bool.and_false, Bool.false_and, Bool.or_true, Bool.true_or, Bool.or_false, Bool.false_or, Bool.not_true, Bool.not_false, if_true, if_false, beq_self_eq_true, wrap_i64_of, wrap_u64_of, wrap_i32_of, wrap_u32_of, wrap_u8_of, tdiv_of, tmod_of, Int.toNat_natCast, List.take_length, List.drop_zero, or_true, true_or, or_false, false_or, or_self, ]
    by_cases b0 : 0 ≤ b
    rotate_left
    · simp (disch := omega) only [dt, df, it, iF, bt, bf, cond_true, cond_false, map_some', chk_t, Bool.and_true, Bool.true_and, Bool.and_false, Bool.false_and, Bool.or_true, Bool.true_or, Bool.or_false, Bool.false_or, Bool.not_true, Bool.not_false, if_true, if_false, beq_self_eq_true, wrap_i64_of, wrap_u64_of, wrap_i32_of, wrap_u32_of, wrap_u8_of, tdiv_of, tmod_of, Int.toNat_natCast, List.take_length, List.drop_zero, or_true, true_or, or_false, false_or, or_self, J8_eq]
    by_cases b1 : b < (k.branches.length : Int)
    rotate_left
    · simp (disch := omega) only [dt, df, it, iF, bt, bf, cond_true, cond_false, map_some', chk_t, Bool.and_true, Bool.true_and, Bool.and_false, Bool.false_and, Bool.or_true, Bool.true_or, Bool.or_false, Bool.false_or, Bool.not_true, Bool.not_false, if_true, if_false, beq_self_eq_true, wrap_i64_of, wrap_u64_of, wrap_i32_of, wrap_u32_of, wrap_u8_of, tdiv_of, tmod_of, Int.toNat_natCast, List.take_length, List.drop_zero, or_true, true_or, or_false, false_or, or_self, J8_eq]
    match l, h, c1 with
    | [], h, c1 =>
      have e1 : ((List.length ([] : List AVal) : Int) == 1) = false := rfl
      have e2 : decide (0 ≤ b) = true := decide_eq_true b0
      have e3 : decide (b < (k.branches.length : Int)) = true := decide_eq_true b1
      simp only [e1, e2, e3, cond_true, cond_false, J8_eq, Bool.false_and, Bool.and_false, Bool.true_and]
    | [v], h, c1 =>
      have hz : szV v = szL v.l + 1 := szV_eq v
      simp only [szL] at h
      have e1 : (decide ((0 : Int) ≤ b) && decide (b < (k.branches.length : Int))) = true := by simp [b0, b1]
      have e2 : decide (1000000 ≤ N - (szL v.l + 1)) = true := decide_eq_true (by omega)
      have e3 : ([v] : List AVal).getD (Int.toNat 0) (dflt .aval) = v := rfl
      simp only [e1, e3, AVal.eta, chk_t, e2]
      simp (disch := omega) only [dt, df, it, iF, bt, bf, cond_true, cond_false, map_some', chk_t, Bool.and_true, Bool.true_and, Bool.and_false, Bool.false_and, Bool.or_true, Bool.true_or, Bool.or_false, Bool.false_or, Bool.not_true, Bool.not_false, if_true, if_false, beq_self_eq_true, wrap_i64_of, wrap_u64_of, wrap_i32_of, wrap_u32_of, wrap_u8_of, tdiv_of, tmod_of, Int.toNat_natCast, List.take_length, List.drop_zero, or_true, true_or, or_false, false_or, or_self, J8_eq, List.length_singleton, eachS]
      rfl
    | v :: w :: l, h, c1 =>
      have e1 : (((v :: w :: l).length : Int) == 1) = false := by simp; omega
      simp (disch := omega) only [dt, df, it, iF, bt, bf, cond_true, cond_false, map_some', chk_t, Bool.and_true, Bool.true_and, Bool.and_false, Bool.false_and, Bool.or_true, Bool.true_or, Bool.or_false, Bool.false_or, Bool.not_true, Bool.not_false, if_true, if_false, beq_self_eq_true, wrap_i64_of, wrap_u64_of, wrap_i32_of, wrap_u32_of, wrap_u8_of, tdiv_of, tmod_of, Int.toNat_natCast, List.take_length, List.drop_zero, or_true, true_or, or_false, false_or, or_self, J8_eq, e1]
  have d14 : (k.kind == 14) = false := by simp; omega
  simp only [d14, cond_false, J4_eq, Bool.false_and]

theorem pure_glyph_tail (a0 : Int) (a1 : Int) (hc : (decide (0 ≤ (a1 : Int)) && decide ((a1 : Int) ≤ 32)) = true) : PureOK Try.prog i_glyph_tail [.int .u32 a0, .int .i64 a1] (.int .u8 (tailG a0 a1)) := by
  refine PureOK.fits fun hf => ?_
  have r0 := fits_u32 (hf (.int .u32 a0) (by simp))
  have hc1 : 0 ≤ a1 ∧ a1 ≤ 32 := by simpa using hc
  exact ok_glyph_tail spec_glyph_tail 1000 a0 a1 (sh_glyph_tail_eq 1000 a0 a1 r0 hc1)
theorem pure_glyph_Put_none : PureOK Try.prog i_glyph_Put [.int .u32 65533] (.str (putG 65533)) :=
  ok_glyph_Put 0 (spec_glyph_Put 0 (by intro a0 h; simp at h) pure_glyph_tail) 65533 (sh_glyph_Put_eq 0 65533 (by omega) (.inl (by omega)))
theorem pure_glyph_Put (a0 : Int) : PureOK Try.prog i_glyph_Put [.int .u32 a0] (.str (putG a0)) := by
  refine PureOK.fits fun hf => ?_
  have r0 := fits_u32 (hf (.int .u32 a0) (by simp))
  refine ok_glyph_Put 1 (spec_glyph_Put 1 (fun b h => ?_) pure_glyph_tail) a0 (sh_glyph_Put_eq 1 a0 r0 (.inr (by omega)))
  have hb : b = 65533 := by simpa using h
  subst hb
  exact pure_glyph_Put_none
theorem pure_glyph_point (a0 : List UInt8) (hc : (!decide (a0 = [])) = true) : PureOK Try.prog i_glyph_point [.str a0] (.tup [.int .u32 ((pointG a0).1), .int .i64 ((pointG a0).2)]) := by
  refine PureOK.fits fun hf => ?_
  have r0 := fits_str (hf (.str a0) (by simp))
  have hc1 : a0 ≠ [] := by simpa using hc
  exact ok_glyph_point (spec_glyph_point pure_glyph_Put) 1000 a0 (sh_glyph_point_eq 995 a0 hc1 r0)
theorem pure_glyph_Valid (a0 : List UInt8) : PureOK Try.prog i_glyph_Valid [.str a0] (.bool (validG a0)) := by
  refine PureOK.fits fun hf => ?_
  have r0 := fits_str (hf (.str a0) (by simp))
  exact ok_glyph_Valid (spec_glyph_Valid pure_glyph_point) (a0.length + 1) a0 (sh_glyph_Valid_eq (a0.length + 1) a0 r0 (by omega))

theorem pure_is (ts : List AType) (t : Int) : PureOK Try.prog i_aval_is [.agg [.sl .atype false ts], .int .i64 t] (.bool (isT ts t)) :=
  ok_aval_is spec_aval_is 0 _ _ (sh_aval_is_eq 0 ts t)
theorem pure_bare (n : Int) (s : List UInt8) (l : List AVal) (ks : List (List UInt8)) (b : Int) : PureOK Try.prog i_aval_bare [.agg [.int .u64 n, .str s, .sl .aval false l, .sl .str false ks, .int .i64 b]] (.bool (bareS n s l ks b)) :=
  ok_aval_bare spec_aval_bare 0 _ _ _ _ _ (sh_aval_bare_eq 0 n s l ks b)
theorem pure_number (a0 : Int) (a1 : List UInt8) (a2 : List (List UInt8)) (a3 : Int) (a4 : List (List UInt8)) (a5 : Bool) (a6 : List UInt8) (a7 : Int) (a8 : List AField) (a9 : List Int) (n : Int) :
    PureOK Try.prog i_aval_number [.agg [.int .i64 a0, .str a1, .sl .str false a2, .int .i64 a3, .sl .str false a4, .bool a5, .str a6, .int .i64 a7, .sl .afield false a8, .sl (.num .i64) false a9], .int .u64 n] (.bool (numS a0 a4 n)) :=
  ok_aval_number spec_aval_number 0 _ _ _ _ _ _ _ _ _ _ _ (sh_aval_number_eq 0 a0 a1 a2 a3 a4 a5 a6 a7 a8 a9 n)
theorem pure_text (a0 : Int) (a1 : List UInt8) (a2 : List (List UInt8)) (a3 : Int) (a4 : List (List UInt8)) (a5 : Bool) (a6 : List UInt8) (a7 : Int) (a8 : List AField) (a9 : List Int) (s : List UInt8) :
    PureOK Try.prog i_aval_text [.agg [.int .i64 a0, .str a1, .sl .str false a2, .int .i64 a3, .sl .str false a4, .bool a5, .str a6, .int .i64 a7, .sl .afield false a8, .sl (.num .i64) false a9], .str s] (.bool (textS a0 a7 s)) :=
  ok_aval_text (spec_aval_text pure_glyph_Valid) 0 _ _ _ _ _ _ _ _ _ _ _ (sh_aval_text_eq 0 a0 a1 a2 a3 a4 a5 a6 a7 a8 a9 s)
theorem pure_keys (l : List (List UInt8)) : PureOK Try.prog i_aval_keys [.sl .str false l] (.bool (keysS l)) := by
  refine PureOK.fits fun hf => ?_
  have r0 := fits_sl (hf (.sl .str false l) (by simp))
  exact ok_aval_keys (spec_aval_keys pure_glyph_Valid) (l.length + 1) l (sh_aval_keys_eq _ l r0 (by omega))

def FitsUp (n : Nat) : Prop := ∀ (ts : List AType) (t : Int) (m : Int) (s : List UInt8) (l : List AVal) (ks : List (List UInt8)) (b : Int), szL l + 1 ≤ n →
  PureOK Try.prog i_aval_Fits [.agg [.sl .atype false ts], .int .i64 t, .agg [.int .u64 m, .str s, .sl .aval false l, .sl .str false ks, .int .i64 b]] (.bool (fitsS ts t (.mk m s l ks b)))
def EachUp (n : Nat) : Prop := ∀ (ts : List AType) (t : Int) (l : List AVal), szL l ≤ n → PureOK Try.prog i_aval_each [.agg [.sl .atype false ts], .int .i64 t, .sl .aval false l] (.bool (eachS ts t l))
def RecUp (n : Nat) : Prop := ∀ (ts : List AType) (a0 : Int) (a1 : List UInt8) (a2 : List (List UInt8)) (a3 : Int) (a4 : List (List UInt8)) (a5 : Bool) (a6 : List UInt8) (a7 : Int) (a8 : List AField) (a9 : List Int) (l : List AVal), szL l ≤ n →
  PureOK Try.prog i_aval_record [.agg [.sl .atype false ts], .agg [.int .i64 a0, .str a1, .sl .str false a2, .int .i64 a3, .sl .str false a4, .bool a5, .str a6, .int .i64 a7, .sl .afield false a8, .sl (.num .i64) false a9], .sl .aval false l] (.bool (decide (List.length l = List.length a8) && recS ts a8 l))

theorem szL_len : ∀ l : List AVal, l.length ≤ szL l
  | [] => by simp
  | v :: l => by simp only [List.length_cons, szL]; have := szV_eq v; have := szL_len l; omega

theorem each_of (n : Nat) (hF : FitsUp n) : EachUp n := by
  have h1 : ∀ (m : Int) (s : List UInt8) (l : List AVal) (ks : List (List UInt8)) (b : Int) (ts : List AType) (t : Int), szL l + 1 ≤ n →
      PureOK Try.prog i_aval_each_c1 [.agg [.int .u64 m, .str s, .sl .aval false l, .sl .str false ks, .int .i64 b], .ea [.sl .atype false ts], .ea [.int .i64 t]] (.bool (!fitsS ts t (.mk m s l ks b))) := by
    intro m s l ks b ts t hs
    refine ok_aval_each_c1 (n + 1000000) (spec_aval_each_c1 _ ?_) m s l ks b ts t (sh_each1_eq _ ts t m s l ks b (by omega))
    intro ts t m s l ks b hd
    have := of_decide_eq_true hd
    exact hF ts t m s l ks b (by omega)
  have h2 : ∀ (l : List AVal) (ts : List AType) (t : Int), szL l ≤ n → PureOK Try.prog i_slices_IndexFunc_api_AVal_api_AVal_aval_each_c1 [.sl .aval false l, .fn i_aval_each_c1 [.ea [.sl .atype false ts], .ea [.int .i64 t]]] (.int .i64 (badV ts t l 0)) := by
    intro l ts t hs
    refine PureOK.fits fun hf => ?_
    have r0 := fits_sl (hf (.sl .aval false l) (by simp))
    have hlen : l.length ≤ szL l := szL_len l
    refine ok_slices_IndexFunc_api_AVal_api_AVal_aval_each_c1 (n + 1000000) (spec_slices_IndexFunc_api_AVal_api_AVal_aval_each_c1 _ ?_) l ts t (sh_IF_eq _ ts t l r0 (by omega) (by omega))
    intro m s l ks b ts t hd
    have := of_decide_eq_true hd
    exact h1 m s l ks b ts t (by omega)
  have h3 : ∀ (l : List AVal) (ts : List AType) (t : Int), szL l ≤ n → PureOK Try.prog i_slices_ContainsFunc_api_AVal_api_AVal_aval_each_c1 [.sl .aval false l, .fn i_aval_each_c1 [.ea [.sl .atype false ts], .ea [.int .i64 t]]] (.bool (!eachS ts t l)) := by
    intro l ts t hs
    refine ok_slices_ContainsFunc_api_AVal_api_AVal_aval_each_c1 (n + 1000000) (spec_slices_ContainsFunc_api_AVal_api_AVal_aval_each_c1 _ ?_) l ts t (sh_CF_eq _ ts t l (by omega))
    intro l ts t hd
    have := of_decide_eq_true hd
    exact h2 l ts t (by omega)
  intro ts t l hs
  refine ok_aval_each (n + 1000000) (spec_aval_each _ ?_) ts t l (sh_aval_each_eq _ ts t l (by omega))
  intro l ts t hd
  have := of_decide_eq_true hd
  exact h3 l ts t (by omega)

theorem rec_of (n : Nat) (hF : FitsUp n) : RecUp n := by
  intro ts a0 a1 a2 a3 a4 a5 a6 a7 a8 a9 l hs
  refine PureOK.fits fun hf => ?_
  have r0 := hf (.agg [.int .i64 a0, .str a1, .sl .str false a2, .int .i64 a3, .sl .str false a4, .bool a5, .str a6, .int .i64 a7, .sl .afield false a8, .sl (.num .i64) false a9]) (by simp)
  have r1 : a8.length ≤ 9223372036854775807 := r0 (.sl .afield false a8) (by simp)
  have hlen : l.length ≤ szL l := szL_len l
  refine ok_aval_record (n + 1000000) (spec_aval_record _ ?_) ts a0 a1 a2 a3 a4 a5 a6 a7 a8 a9 l (sh_record_eq _ ts a0 a1 a2 a3 a4 a5 a6 a7 a8 a9 l r1 (by omega) (by omega))
  intro ts t m s l ks b hd
  have := of_decide_eq_true hd
  exact hF ts t m s l ks b (by omega)

theorem fits_up : ∀ n, FitsUp n
  | 0 => fun ts t m s l ks b h => by omega
  | n + 1 => by
    have hF := fits_up n
    intro ts t m s l ks b hs
    obtain ⟨hp, h⟩ := of_fst (sh_Fits_eq (n + 1000000) ts t m s l ks b (by omega))
    refine ok_aval_Fits (n + 1000000) (spec_aval_Fits _ ?_ pure_is pure_number pure_text ?_ pure_keys ?_ pure_bare) ts t m s l ks b h
    · intro ts t m s l ks b hd
      have := of_decide_eq_true hd
      exact hF ts t m s l ks b (by omega)
    · intro ts t l hd
      have := of_decide_eq_true hd
      exact each_of n hF ts t l (by omega)
    · intro ts a0 a1 a2 a3 a4 a5 a6 a7 a8 a9 l hd
      have := of_decide_eq_true hd
      exact rec_of n hF ts a0 a1 a2 a3 a4 a5 a6 a7 a8 a9 l (by omega)

theorem pure_Fits (ts : List AType) (t : Int) (m : Int) (s : List UInt8) (l : List AVal) (ks : List (List UInt8)) (b : Int) :
    PureOK Try.prog i_aval_Fits [.agg [.sl .atype false ts], .int .i64 t, .agg [.int .u64 m, .str s, .sl .aval false l, .sl .str false ks, .int .i64 b]] (.bool (fitsS ts t (.mk m s l ks b))) :=
  fits_up (szL l + 1) ts t m s l ks b (Nat.le_refl _)

theorem pure_Equal (a b : List (List UInt8)) : PureOK Try.prog i_slices_Equal_string_string [.sl .str false a, .sl .str false b] (.bool (decide (a = b))) := by
  refine PureOK.fits fun hf => ?_
  have r0 := fits_sl (hf (.sl .str false a) (by simp))
  exact ok_slices_Equal_string_string spec_slices_Equal_string_string (a.length + 1) a b (sh_Equal_eq _ a b r0 (by omega))

def SameUp (n : Nat) : Prop := ∀ (m : Int) (s : List UInt8) (l : List AVal) (ks : List (List UInt8)) (b : Int) (m2 : Int) (s2 : List UInt8) (l2 : List AVal) (ks2 : List (List UInt8)) (b2 : Int), szL l + 1 ≤ n →
  PureOK Try.prog i_aval_Same [.agg [.int .u64 m, .str s, .sl .aval false l, .sl .str false ks, .int .i64 b], .agg [.int .u64 m2, .str s2, .sl .aval false l2, .sl .str false ks2, .int .i64 b2]] (.bool (sameV (.mk m s l ks b) (.mk m2 s2 l2 ks2 b2)))

theorem equalF_of (n : Nat) (hS : SameUp n) (a b : List AVal) (hs : szL a ≤ n) :
    PureOK Try.prog i_slices_EqualFunc_api_AVal_api_AVal_api_AVal_api_AVal_aval_Same [.sl .aval false a, .sl .aval false b, .fn i_aval_Same []] (.bool (sameL a b)) := by
  refine PureOK.fits fun hf => ?_
  have r0 := fits_sl (hf (.sl .aval false a) (by simp))
  have hlen : a.length ≤ szL a := szL_len a
  refine ok_slices_EqualFunc_api_AVal_api_AVal_api_AVal_api_AVal_aval_Same (n + 1000000) (spec_slices_EqualFunc_api_AVal_api_AVal_api_AVal_api_AVal_aval_Same _ ?_) a b (sh_EqualFunc_eq _ a b r0 (by omega) (by omega))
  intro m s l ks b m2 s2 l2 ks2 b2 hd
  have := of_decide_eq_true hd
  exact hS m s l ks b m2 s2 l2 ks2 b2 (by omega)

theorem same_up : ∀ n, SameUp n
  | 0 => fun m s l ks b m2 s2 l2 ks2 b2 h => by omega
  | n + 1 => by
    have hS := same_up n
    intro m s l ks b m2 s2 l2 ks2 b2 hs
    refine ok_aval_Same (n + 1000000) (spec_aval_Same _ pure_Equal ?_) m s l ks b m2 s2 l2 ks2 b2 (sh_Same_eq _ m s l ks b m2 s2 l2 ks2 b2 (by omega))
    intro a b hd
    have := of_decide_eq_true hd
    exact equalF_of n hS a b (by omega)

theorem pure_Same (m : Int) (s : List UInt8) (l : List AVal) (ks : List (List UInt8)) (b : Int) (m2 : Int) (s2 : List UInt8) (l2 : List AVal) (ks2 : List (List UInt8)) (b2 : Int) :
    PureOK Try.prog i_aval_Same [.agg [.int .u64 m, .str s, .sl .aval false l, .sl .str false ks, .int .i64 b], .agg [.int .u64 m2, .str s2, .sl .aval false l2, .sl .str false ks2, .int .i64 b2]] (.bool (sameV (.mk m s l ks b) (.mk m2 s2 l2 ks2 b2))) :=
  same_up (szL l + 1) m s l ks b m2 s2 l2 ks2 b2 (Nat.le_refl _)

def SizeUp (n : Nat) : Prop := ∀ (m : Int) (s : List UInt8) (l : List AVal) (ks : List (List UInt8)) (b : Int), szL l + 1 ≤ n →
  PureOK Try.prog i_aval_Size [.agg [.int .u64 m, .str s, .sl .aval false l, .sl .str false ks, .int .i64 b]] (.tup [.int .i64 (sizeV (.mk m s l ks b)).1, .int .i64 (sizeV (.mk m s l ks b)).2])

theorem size_up : ∀ n, SizeUp n
  | 0 => fun m s l ks b h => by omega
  | n + 1 => by
    have hS := size_up n
    intro m s l ks b hs
    refine PureOK.fits fun hf => ?_
    have r0 : l.length ≤ 9223372036854775807 := hf (.agg [.int .u64 m, .str s, .sl .aval false l, .sl .str false ks, .int .i64 b]) (by simp) (.sl .aval false l) (by simp)
    have hlen : l.length ≤ szL l := szL_len l
    refine ok_aval_Size (n + 1000000) (spec_aval_Size _ ?_) m s l ks b (sh_Size_eq _ m s l ks b r0 (by omega) (by omega))
    intro m s l ks b hd
    have := of_decide_eq_true hd
    exact hS m s l ks b (by omega)

theorem pure_Size (m : Int) (s : List UInt8) (l : List AVal) (ks : List (List UInt8)) (b : Int) :
    PureOK Try.prog i_aval_Size [.agg [.int .u64 m, .str s, .sl .aval false l, .sl .str false ks, .int .i64 b]] (.tup [.int .i64 (sizeV (.mk m s l ks b)).1, .int .i64 (sizeV (.mk m s l ks b)).2]) :=
  size_up (szL l + 1) m s l ks b (Nat.le_refl _)
end Go.Proofs.Ytdpajabhmmmjoaa
