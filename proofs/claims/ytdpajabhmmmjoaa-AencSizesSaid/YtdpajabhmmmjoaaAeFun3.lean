/-
  The runs of value and Encode; the contracts of layer 22.
-/
import Derived.Test.YtdpajabhmmmjoaaAeFun2
namespace Go.Proofs.Ytdpajabhmmmjoaa
open Go.AM
set_option autoImplicit false
set_option linter.unusedSimpArgs false
set_option linter.unusedVariables false
set_option maxRecDepth 100000

theorem kinds_of {k : Int} {c1 c2 c3 c4 c5 c6 c7 : Bool}
    (h : cond (k == 1) c1 (cond (k == 2 || (k == 3 || (k == 4 || (k == 5 || (k == 6 || k == 10))))) c2 (cond (k == 7 || (k == 8 || k == 11)) c3 (cond (k == 12) c4 (cond (k == 13) c5 (cond (k == 9) c6 (cond (k == 14) c7 false)))))) = true) :
    k = 1 ∨ k = 2 ∨ k = 3 ∨ k = 4 ∨ k = 5 ∨ k = 6 ∨ k = 7 ∨ k = 8 ∨ k = 9 ∨ k = 10 ∨ k = 11 ∨ k = 12 ∨ k = 13 ∨ k = 14 := by
  apply Classical.byContradiction
  intro hn
  have e : ∀ c : Int, (c = 1 ∨ c = 2 ∨ c = 3 ∨ c = 4 ∨ c = 5 ∨ c = 6 ∨ c = 7 ∨ c = 8 ∨ c = 9 ∨ c = 10 ∨ c = 11 ∨ c = 12 ∨ c = 13 ∨ c = 14) → (k == c) = false := fun c hc => bf (by omega)
  rw [e 1 (by omega), e 2 (by omega), e 3 (by omega), e 4 (by omega), e 5 (by omega), e 6 (by omega), e 7 (by omega), e 8 (by omega), e 9 (by omega), e 10 (by omega), e 11 (by omega), e 12 (by omega), e 13 (by omega), e 14 (by omega)] at h
  exact Bool.noConfusion h

set_option maxHeartbeats 4000000 in
theorem sh_value_eq (N : Nat) (ts : List AType) (t : Int) (n : Int) (s : List UInt8) (l : List AVal) (ks : List (List UInt8)) (b : Int) (hl : l.length ≤ 9223372036854775807) (h : szL l + 1000000 ≤ N)
    (hf : fitOK ts t (.mk n s l ks b) = true) : sh_aenc_value N ts t n s l ks b = some (.str (valueS ts t (.mk n s l ks b)), []) := by
  simp only [fitOK, Bool.and_eq_true, decide_eq_true_eq] at hf
  obtain ⟨hF, hW⟩ := hf
  simp only [wV] at hW
  simp only [fitsS, Bool.and_eq_true] at hF
  obtain ⟨hT, hF⟩ := hF
  have hT' : (decide (0 ≤ t) && decide (t < (ts.length : Int))) = true := hT
  simp only [sh_aenc_value, sa_aenc_value, hT', chk_t, AVal.eta]
  rw [valueS]
  generalize ts.getD t.toNat (dflt .atype) = k at *
  have hlz := szL_len l
  have kb := longS_len b
  rcases kinds_of hF with e | e | e | e | e | e | e | e | e | e | e | e | e | e
  all_goals simp only [e] at hF ⊢
  · simp (disch := omega) only [dt, df, it, iF, bt, bf, cond_true, cond_false, map_some', chk_t, Bool.and_true, Bool.true_and, Bool.and_false, Bool.false_and, Bool.or_true, Bool.true_or, Bool.or_false, Bool.false_or, Bool.not_true, Bool.not_false, if_true, if_false, beq_self_eq_true, wrap_i64_of, wrap_u64_of, wrap_i32_of, wrap_u32_of, wrap_u8_of, tdiv_of, tmod_of, Int.toNat_natCast, List.take_length, List.drop_zero, or_true, true_or, or_false, false_or, or_self, ]
  · simp (disch := omega) only [dt, df, it, iF, bt, bf, cond_true, cond_false, map_some', chk_t, Bool.and_true, Bool.true_and, Bool.and_false, Bool.false_and, Bool.or_true, Bool.true_or, Bool.or_false, Bool.false_or, Bool.not_true, Bool.not_false, if_true, if_false, beq_self_eq_true, wrap_i64_of, wrap_u64_of, wrap_i32_of, wrap_u32_of, wrap_u8_of, tdiv_of, tmod_of, Int.toNat_natCast, List.take_length, List.drop_zero, or_true, true_or, or_false, false_or, or_self, ]
  · simp (disch := omega) only [dt, df, it, iF, bt, bf, cond_true, cond_false, map_some', chk_t, Bool.and_true, Bool.true_and, Bool.and_false, Bool.false_and, Bool.or_true, Bool.true_or, Bool.or_false, Bool.false_or, Bool.not_true, Bool.not_false, if_true, if_false, beq_self_eq_true, wrap_i64_of, wrap_u64_of, wrap_i32_of, wrap_u32_of, wrap_u8_of, tdiv_of, tmod_of, Int.toNat_natCast, List.take_length, List.drop_zero, or_true, true_or, or_false, false_or, or_self, ]
  · simp (disch := omega) only [dt, df, it, iF, bt, bf, cond_true, cond_false, map_some', chk_t, Bool.and_true, Bool.true_and, Bool.and_false, Bool.false_and, Bool.or_true, Bool.true_or, Bool.or_false, Bool.false_or, Bool.not_true, Bool.not_false, if_true, if_false, beq_self_eq_true, wrap_i64_of, wrap_u64_of, wrap_i32_of, wrap_u32_of, wrap_u8_of, tdiv_of, tmod_of, Int.toNat_natCast, List.take_length, List.drop_zero, or_true, true_or, or_false, false_or, or_self, ]
  · simp (disch := omega) only [dt, df, it, iF, bt, bf, cond_true, cond_false, map_some', chk_t, Bool.and_true, Bool.true_and, Bool.and_false, Bool.false_and, Bool.or_true, Bool.true_or, Bool.or_false, Bool.false_or, Bool.not_true, Bool.not_false, if_true, if_false, beq_self_eq_true, wrap_i64_of, wrap_u64_of, wrap_i32_of, wrap_u32_of, wrap_u8_of, tdiv_of, tmod_of, Int.toNat_natCast, List.take_length, List.drop_zero, or_true, true_or, or_false, false_or, or_self, ]
  · simp (disch := omega) only [dt, df, it, iF, bt, bf, cond_true, cond_false, map_some', chk_t, Bool.and_true, Bool.true_and, Bool.and_false, Bool.false_and, Bool.or_true, Bool.true_or, Bool.or_false, Bool.false_or, Bool.not_true, Bool.not_false, if_true, if_false, beq_self_eq_true, wrap_i64_of, wrap_u64_of, wrap_i32_of, wrap_u32_of, wrap_u8_of, tdiv_of, tmod_of, Int.toNat_natCast, List.take_length, List.drop_zero, or_true, true_or, or_false, false_or, or_self, ]
  · simp (disch := omega) only [dt, df, it, iF, bt, bf, cond_true, cond_false, map_some', chk_t, Bool.and_true, Bool.true_and, Bool.and_false, Bool.false_and, Bool.or_true, Bool.true_or, Bool.or_false, Bool.false_or, Bool.not_true, Bool.not_false, if_true, if_false, beq_self_eq_true, wrap_i64_of, wrap_u64_of, wrap_i32_of, wrap_u32_of, wrap_u8_of, tdiv_of, tmod_of, Int.toNat_natCast, List.take_length, List.drop_zero, or_true, true_or, or_false, false_or, or_self, ]
  · simp (disch := omega) only [dt, df, it, iF, bt, bf, cond_true, cond_false, map_some', chk_t, Bool.and_true, Bool.true_and, Bool.and_false, Bool.false_and, Bool.or_true, Bool.true_or, Bool.or_false, Bool.false_or, Bool.not_true, Bool.not_false, if_true, if_false, beq_self_eq_true, wrap_i64_of, wrap_u64_of, wrap_i32_of, wrap_u32_of, wrap_u8_of, tdiv_of, tmod_of, Int.toNat_natCast, List.take_length, List.drop_zero, or_true, true_or, or_false, false_or, or_self, ]
  · have hF' : ((decide (l.length = k.fields.length) && recS ts k.fields l) && bareS n s [] ks b) = true := by
      rw [← hF]; rfl
    simp only [Bool.and_eq_true, decide_eq_true_eq] at hF'
    obtain ⟨⟨h1, h2⟩, -⟩ := hF'
    simp (disch := omega) only [dt, df, it, iF, bt, bf, cond_true, cond_false, map_some', chk_t, Bool.and_true, Bool.true_and, Bool.and_false, Bool.false_and, Bool.or_true, Bool.true_or, Bool.or_false, Bool.false_or, Bool.not_true, Bool.not_false, if_true, if_false, beq_self_eq_true, wrap_i64_of, wrap_u64_of, wrap_i32_of, wrap_u32_of, wrap_u8_of, tdiv_of, tmod_of, Int.toNat_natCast, List.take_length, List.drop_zero, or_true, true_or, or_false, false_or, or_self, ]
    exact rec_loop N ts k.fields n s l ks b (by omega) h (by omega) h1 h2 (by omega)
  · simp (disch := omega) only [dt, df, it, iF, bt, bf, cond_true, cond_false, map_some', chk_t, Bool.and_true, Bool.true_and, Bool.and_false, Bool.false_and, Bool.or_true, Bool.true_or, Bool.or_false, Bool.false_or, Bool.not_true, Bool.not_false, if_true, if_false, beq_self_eq_true, wrap_i64_of, wrap_u64_of, wrap_i32_of, wrap_u32_of, wrap_u8_of, tdiv_of, tmod_of, Int.toNat_natCast, List.take_length, List.drop_zero, or_true, true_or, or_false, false_or, or_self, ]
  · simp (disch := omega) only [dt, df, it, iF, bt, bf, cond_true, cond_false, map_some', chk_t, Bool.and_true, Bool.true_and, Bool.and_false, Bool.false_and, Bool.or_true, Bool.true_or, Bool.or_false, Bool.false_or, Bool.not_true, Bool.not_false, if_true, if_false, beq_self_eq_true, wrap_i64_of, wrap_u64_of, wrap_i32_of, wrap_u32_of, wrap_u8_of, tdiv_of, tmod_of, Int.toNat_natCast, List.take_length, List.drop_zero, or_true, true_or, or_false, false_or, or_self, ]
  · have hF' : (eachS ts k.items l && bareS n s [] ks b) = true := by rw [← hF]; rfl
    simp only [Bool.and_eq_true] at hF'
    have ho : itemsOK ts 12 k.items ks l = true := by
      simp only [itemsOK, hF'.1, Bool.true_and, beq_self_eq_true, Bool.true_or, Bool.and_true, decide_eq_true_eq]; omega
    simp (disch := omega) only [dt, df, it, iF, bt, bf, cond_true, cond_false, map_some', chk_t, Bool.and_true, Bool.true_and, Bool.and_false, Bool.false_and, Bool.or_true, Bool.true_or, Bool.or_false, Bool.false_or, Bool.not_true, Bool.not_false, if_true, if_false, beq_self_eq_true, wrap_i64_of, wrap_u64_of, wrap_i32_of, wrap_u32_of, wrap_u8_of, tdiv_of, tmod_of, Int.toNat_natCast, List.take_length, List.drop_zero, or_true, true_or, or_false, false_or, or_self, ho]
    rfl
  · have hF' : ((((ks.length : Int) == (l.length : Int)) && (keysS ks && eachS ts k.items l)) && bareS n s [] [] b) = true := by rw [← hF]; rfl
    simp only [Bool.and_eq_true] at hF'
    obtain ⟨⟨h1, h2, h3⟩, -⟩ := hF'
    have ho : itemsOK ts 13 k.items ks l = true := by
      simp only [itemsOK, h3, h1, Bool.true_and, beq_self_eq_true, Bool.and_true, Bool.or_true, decide_eq_true_eq]; omega
    simp (disch := omega) only [dt, df, it, iF, bt, bf, cond_true, cond_false, map_some', chk_t, Bool.and_true, Bool.true_and, Bool.and_false, Bool.false_and, Bool.or_true, Bool.true_or, Bool.or_false, Bool.false_or, Bool.not_true, Bool.not_false, if_true, if_false, beq_self_eq_true, wrap_i64_of, wrap_u64_of, wrap_i32_of, wrap_u32_of, wrap_u8_of, tdiv_of, tmod_of, Int.toNat_natCast, List.take_length, List.drop_zero, or_true, true_or, or_false, false_or, or_self, ho]
    rfl
  · have hF' : ((decide (0 ≤ b) && (decide (b < (k.branches.length : Int)) && (((l.length : Int) == 1) && eachS ts (k.branches.getD b.toNat 0) l))) && bareS n s [] ks 0) = true := by rw [← hF]; rfl
    simp only [Bool.and_eq_true, decide_eq_true_eq, beq_iff_eq] at hF'
    obtain ⟨⟨h1, h2, h3, h4⟩, -⟩ := hF'
    match l, h3, h4, h, hl, hW, hlz with
    | [v], h3, h4, h, hl, hW, hlz =>
      have hz := szV_eq v
      simp only [szL] at h
      simp only [wL] at hW
      simp only [eachS, Bool.and_true] at h4
      have hlen := len_valueS ts (k.branches.getD b.toNat 0) v
      have e0 : ([v] : List AVal).getD (Int.toNat 0) (dflt .aval) = v := rfl
      have ef : fitOK ts (k.branches.getD b.toNat 0) v = true := by
        simp only [fitOK, h4, Bool.true_and, decide_eq_true_eq]; omega
      have e1 : decide ((0 : Int) < (([v] : List AVal).length : Int)) = true := rfl
      have e2 : k.branches.getD b.toNat (dflt (.num .i64)) = k.branches.getD b.toNat 0 := rfl
      simp only [e0, e1, e2]
      simp (disch := omega) only [dt, df, it, iF, bt, bf, cond_true, cond_false, map_some', chk_t, Bool.and_true, Bool.true_and, Bool.and_false, Bool.false_and, Bool.or_true, Bool.true_or, Bool.or_false, Bool.false_or, Bool.not_true, Bool.not_false, if_true, if_false, beq_self_eq_true, wrap_i64_of, wrap_u64_of, wrap_i32_of, wrap_u32_of, wrap_u8_of, tdiv_of, tmod_of, Int.toNat_natCast, List.take_length, List.drop_zero, or_true, true_or, or_false, false_or, or_self, ef, allV, List.append_nil]
    | [], h3, _, _, _, _, _ => simp at h3
    | _ :: _ :: _, h3, _, _, _, _, _ => simp at h3; omega

theorem sh_Encode_eq (N : Nat) (ts : List AType) (t : Int) (n : Int) (s : List UInt8) (l : List AVal) (ks : List (List UInt8)) (b : Int) (h : szL l + 1 + 1000000 ≤ N) (hW : wV (.mk n s l ks b) ≤ 1000000000000000) :
    sh_aenc_Encode N ts t n s l ks b = some (.tup [.sl .u8 false (encS ts t (.mk n s l ks b)).1, .int .i64 (encS ts t (.mk n s l ks b)).2], []) := by
  simp only [sh_aenc_Encode, sa_aenc_Encode, encS]
  by_cases h0 : t < 0
  · have hT : isT ts t = false := by simp only [isT]; simp (disch := omega) only [dt, df, it, iF, bt, bf, cond_true, cond_false, map_some', chk_t, Bool.and_true, Bool.true_and, Bool.and_false, Bool.false_and, Bool.or_true, Bool.true_or, Bool.or_false, Bool.false_or, Bool.not_true, Bool.not_false, if_true, if_false, beq_self_eq_true, wrap_i64_of, wrap_u64_of, wrap_i32_of, wrap_u32_of, wrap_u8_of, tdiv_of, tmod_of, Int.toNat_natCast, List.take_length, List.drop_zero, or_true, true_or, or_false, false_or, or_self, ]
    simp (disch := omega) only [dt, df, it, iF, bt, bf, cond_true, cond_false, map_some', chk_t, Bool.and_true, Bool.true_and, Bool.and_false, Bool.false_and, Bool.or_true, Bool.true_or, Bool.or_false, Bool.false_or, Bool.not_true, Bool.not_false, if_true, if_false, beq_self_eq_true, wrap_i64_of, wrap_u64_of, wrap_i32_of, wrap_u32_of, wrap_u8_of, tdiv_of, tmod_of, Int.toNat_natCast, List.take_length, List.drop_zero, or_true, true_or, or_false, false_or, or_self, hT]
  by_cases h1 : (ts.length : Int) ≤ t
  · have hT : isT ts t = false := by simp only [isT]; simp (disch := omega) only [dt, df, it, iF, bt, bf, cond_true, cond_false, map_some', chk_t, Bool.and_true, Bool.true_and, Bool.and_false, Bool.false_and, Bool.or_true, Bool.true_or, Bool.or_false, Bool.false_or, Bool.not_true, Bool.not_false, if_true, if_false, beq_self_eq_true, wrap_i64_of, wrap_u64_of, wrap_i32_of, wrap_u32_of, wrap_u8_of, tdiv_of, tmod_of, Int.toNat_natCast, List.take_length, List.drop_zero, or_true, true_or, or_false, false_or, or_self, ]
    simp (disch := omega) only [dt, df, it, iF, bt, bf, cond_true, cond_false, map_some', chk_t, Bool.and_true, Bool.true_and, Bool.and_false, Bool.false_and, Bool.or_true, Bool.true_or, Bool.or_false, Bool.false_or, Bool.not_true, Bool.not_false, if_true, if_false, beq_self_eq_true, wrap_i64_of, wrap_u64_of, wrap_i32_of, wrap_u32_of, wrap_u8_of, tdiv_of, tmod_of, Int.toNat_natCast, List.take_length, List.drop_zero, or_true, true_or, or_false, false_or, or_self, hT]
  have hT : isT ts t = true := by simp only [isT]; simp (disch := omega) only [dt, df, it, iF, bt, bf, cond_true, cond_false, map_some', chk_t, Bool.and_true, Bool.true_and, Bool.and_false, Bool.false_and, Bool.or_true, Bool.true_or, Bool.or_false, Bool.false_or, Bool.not_true, Bool.not_false, if_true, if_false, beq_self_eq_true, wrap_i64_of, wrap_u64_of, wrap_i32_of, wrap_u32_of, wrap_u8_of, tdiv_of, tmod_of, Int.toNat_natCast, List.take_length, List.drop_zero, or_true, true_or, or_false, false_or, or_self, ]
  rw [if_neg (show ¬ (isT ts t = false) by rw [hT]; simp)]
  have c1 : decide (1000000 ≤ N - (szL l + 1)) = true := decide_eq_true (by omega)
  have d0 : decide (t < 0) = false := decide_eq_false h0
  have d1 : decide ((ts.length : Int) ≤ t) = false := decide_eq_false h1
  simp only [d0, d1, cond_false, c1, chk_t]
  cases hF : fitsS ts t (.mk n s l ks b)
  · simp only [Bool.not_false, cond_true, if_true]
  · have ho : fitOK ts t (.mk n s l ks b) = true := by simp only [fitOK, hF, Bool.true_and, decide_eq_true_eq]; exact hW
    simp only [Bool.not_true, cond_false, ho, Bool.and_self, chk_t, Bool.true_eq_false, if_false]
    by_cases h5 : 5000 < (valueS ts t (.mk n s l ks b)).length
    · rw [if_pos h5]
      have d5 : decide ((5000 : Int) < ((valueS ts t (.mk n s l ks b)).length : Int)) = true := decide_eq_true (by omega)
      simp only [d5, cond_true]
    · rw [if_neg h5]
      have d5 : decide ((5000 : Int) < ((valueS ts t (.mk n s l ks b)).length : Int)) = false := decide_eq_false (by omega)
      simp only [d5, cond_false]

theorem pure_To (n : Int) (k : Int) (hk : decide ((k : Int) = 8) = true) : PureOK Try.prog i_cast_To [.int .i64 k, .int .u64 n] (.int .u64 (zigS n)) := by
  refine PureOK.fits fun hf => ?_
  have r0 := fits_u64 (hf (.int .u64 n) (by simp))
  obtain rfl := of_decide_eq_true hk
  exact ok_cast_To spec_cast_To 0 _ _ (sh_To_eq 0 n r0)
theorem pure_PutVarint (n : Int) : PureOK Try.prog i_rec_PutVarint [.int .u64 n] (.str (putV n)) := by
  refine PureOK.fits fun hf => ?_
  have r0 := fits_u64 (hf (.int .u64 n) (by simp))
  exact ok_rec_PutVarint spec_rec_PutVarint (2 ^ 64 + 1) _ (sh_rec_PutVarint_eq _ n r0 (by omega))
theorem pure_long (n : Int) : PureOK Try.prog i_aenc_long [.int .i64 n] (.str (longS n)) :=
  ok_aenc_long (spec_aenc_long pure_PutVarint (fun k n hk => pure_To n k hk)) 0 _ (sh_long_eq 0 n)
theorem pure_fixed (v n : Int) (hn : (decide (0 ≤ (n : Int)) && decide ((n : Int) ≤ 8)) = true) : PureOK Try.prog i_aenc_fixed [.int .u64 v, .int .i64 n] (.str (lowsR v n)) := by
  refine PureOK.fits fun hf => ?_
  have r0 := fits_u64 (hf (.int .u64 v) (by simp))
  have hn' : 0 ≤ n ∧ n ≤ 8 := by simpa using hn
  exact ok_aenc_fixed spec_aenc_fixed 100 _ _ (sh_fixed_eq 100 v n r0 hn' (by omega))
theorem pure_text' (s : List UInt8) (hs : decide (s.length ≤ 1000000000000000) = true) : PureOK Try.prog i_aenc_text [.str s] (.str (textV s)) :=
  ok_aenc_text (spec_aenc_text pure_long) 0 _ (sh_text_eq 0 s (of_decide_eq_true hs))

def ValUp (n : Nat) : Prop := ∀ (ts : List AType) (t : Int) (m : Int) (s : List UInt8) (l : List AVal) (ks : List (List UInt8)) (b : Int), szL l + 1 ≤ n → fitOK ts t (.mk m s l ks b) = true →
  PureOK Try.prog i_aenc_value [.agg [.sl .atype false ts], .int .i64 t, .agg [.int .u64 m, .str s, .sl .aval false l, .sl .str false ks, .int .i64 b]] (.str (valueS ts t (.mk m s l ks b)))

theorem val_up : ∀ n, ValUp n
  | 0 => fun ts t m s l ks b h _ => by omega
  | n + 1 => by
    have hV := val_up n
    have hI : ∀ (ts : List AType) (a0 : Int) (a1 : List UInt8) (a2 : List (List UInt8)) (a3 : Int) (a4 : List (List UInt8)) (a5 : Bool) (a6 : List UInt8) (a7 : Int) (a8 : List AField) (a9 : List Int) (m : Int) (s : List UInt8) (l : List AVal) (ks : List (List UInt8)) (b : Int),
        (decide (1000000 ≤ n + 1000000 - szL l) && itemsOK ts a0 a3 ks l) = true →
        PureOK Try.prog i_aenc_items [.agg [.sl .atype false ts], .agg [.int .i64 a0, .str a1, .sl .str false a2, .int .i64 a3, .sl .str false a4, .bool a5, .str a6, .int .i64 a7, .sl .afield false a8, .sl (.num .i64) false a9], .agg [.int .u64 m, .str s, .sl .aval false l, .sl .str false ks, .int .i64 b]] (.str (itemsS ts a0 a3 ks l)) := by
      intro ts a0 a1 a2 a3 a4 a5 a6 a7 a8 a9 m s l ks b hc
      simp only [Bool.and_eq_true, decide_eq_true_eq] at hc
      refine PureOK.fits fun hf => ?_
      have r0 : l.length ≤ 9223372036854775807 := hf (.agg [.int .u64 m, .str s, .sl .aval false l, .sl .str false ks, .int .i64 b]) (by simp) (.sl .aval false l) (by simp)
      have hlen := szL_len l
      refine ok_aenc_items (n + 1000000) (spec_aenc_items _ ?_ pure_long pure_text') ts a0 a1 a2 a3 a4 a5 a6 a7 a8 a9 m s l ks b (sh_items_eq _ ts a0 a1 a2 a3 a4 a5 a6 a7 a8 a9 m s l ks b r0 (by omega) (by omega) hc.2)
      intro ts t m s l ks b hd
      simp only [Bool.and_eq_true, decide_eq_true_eq] at hd
      exact hV ts t m s l ks b (by omega) hd.2
    intro ts t m s l ks b hs hF
    refine PureOK.fits fun hf => ?_
    have r0 : l.length ≤ 9223372036854775807 := hf (.agg [.int .u64 m, .str s, .sl .aval false l, .sl .str false ks, .int .i64 b]) (by simp) (.sl .aval false l) (by simp)
    refine ok_aenc_value (n + 1000000) (spec_aenc_value _ ?_ pure_fixed pure_long pure_text' hI) ts t m s l ks b (sh_value_eq _ ts t m s l ks b r0 (by omega) hF)
    intro ts t m s l ks b hd
    simp only [Bool.and_eq_true, decide_eq_true_eq] at hd
    exact hV ts t m s l ks b (by omega) hd.2

theorem pure_Encode (ts : List AType) (t : Int) (m : Int) (s : List UInt8) (l : List AVal) (ks : List (List UInt8)) (b : Int) (hW : wV (.mk m s l ks b) ≤ 1000000000000000) :
    PureOK Try.prog i_aenc_Encode [.agg [.sl .atype false ts], .int .i64 t, .agg [.int .u64 m, .str s, .sl .aval false l, .sl .str false ks, .int .i64 b]] (.tup [.sl .u8 false (encS ts t (.mk m s l ks b)).1, .int .i64 (encS ts t (.mk m s l ks b)).2]) :=
  ok_aenc_Encode (szL l + 1 + 1000000) (spec_aenc_Encode _ (fun ts t m s l ks b _ => pure_Fits ts t m s l ks b) (fun ts t m s l ks b hd => by
    simp only [Bool.and_eq_true, decide_eq_true_eq] at hd
    exact val_up (szL l + 1) ts t m s l ks b (Nat.le_refl _) hd.2)) ts t m s l ks b (sh_Encode_eq _ ts t m s l ks b (by omega) hW)
end Go.Proofs.Ytdpajabhmmmjoaa
