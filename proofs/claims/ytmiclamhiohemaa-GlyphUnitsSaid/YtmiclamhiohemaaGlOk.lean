/-
  The contracts of layer 3: written by wip/glyph/asm_glyph.py.
-/
import Derived.Test.YtmiclamhiohemaaGlRef3
namespace Go.Proofs.Ytmiclamhiohemaa
open Go.AM
set_option autoImplicit false
set_option linter.unusedVariables false
set_option linter.unusedSimpArgs false
theorem pure_glyph_tail (a0 : Int) (a1 : Int) (hc : (decide (0 ≤ (a1 : Int)) && decide ((a1 : Int) ≤ 32)) = true) : PureOK Try.prog i_glyph_tail [.int .u32 a0, .int .i64 a1] (.int .u8 (tailG a0 a1)) := by
  refine PureOK.fits fun hf => ?_
  have r0 := fits_u32 (hf (.int .u32 a0) (by simp))
  have r1 := fits_i64 (hf (.int .i64 a1) (by simp))
  have hc1 : 0 ≤ a1 ∧ a1 ≤ 32 := by simpa using hc
  exact ok_glyph_tail spec_glyph_tail 1000 a0 a1 (sh_glyph_tail_eq 1000 a0 a1 r0 hc1)
theorem pure_glyph_Put_none : PureOK Try.prog i_glyph_Put [.int .u32 65533] (.str (putG 65533)) :=
  ok_glyph_Put 0 (spec_glyph_Put 0 (by intro a0 h; simp at h) pure_glyph_tail) 65533 (sh_glyph_Put_eq 0 65533 (by omega) (.inl (by omega)))
theorem pure_glyph_Put (a0 : Int) : PureOK Try.prog i_glyph_Put [.int .u32 a0] (.str (putG a0)) := by
  refine PureOK.fits fun hf => ?_
  have r0 := fits_u32 (hf (.int .u32 a0) (by simp))
  refine ok_glyph_Put 1 (spec_glyph_Put 1 (fun b h => ?_) pure_glyph_tail) a0 (sh_glyph_Put_eq 1 a0 r0 (.inr (by omega)))
  have hb : b = 65533 := by simpa using h
  subst hb
  exact pure_glyph_Put_none
theorem pure_strings_IndexByte (a0 : List UInt8) (a1 : Int) : PureOK Try.prog i_strings_IndexByte [.str a0, .int .u8 a1] (.int .i64 (indexB a0 a1)) := by
  refine PureOK.fits fun hf => ?_
  have r0 := fits_str (hf (.str a0) (by simp))
  have r1 := fits_u8 (hf (.int .u8 a1) (by simp))
  exact ok_strings_IndexByte (spec_strings_IndexByte pure_internal_stringslite_IndexByte) 1000 a0 a1 (rfl)
theorem pure_internal_stringslite_HasPrefix (a0 : List UInt8) (a1 : List UInt8) : PureOK Try.prog i_internal_stringslite_HasPrefix [.str a0, .str a1] (.bool (prefixB a0 a1)) := by
  refine PureOK.fits fun hf => ?_
  have r0 := fits_str (hf (.str a0) (by simp))
  have r1 := fits_str (hf (.str a1) (by simp))
  exact ok_internal_stringslite_HasPrefix spec_internal_stringslite_HasPrefix 1000 a0 a1 (sh_internal_stringslite_HasPrefix_eq 1000 a0 a1)
theorem pure_strings_HasPrefix (a0 : List UInt8) (a1 : List UInt8) : PureOK Try.prog i_strings_HasPrefix [.str a0, .str a1] (.bool (prefixB a0 a1)) := by
  refine PureOK.fits fun hf => ?_
  have r0 := fits_str (hf (.str a0) (by simp))
  have r1 := fits_str (hf (.str a1) (by simp))
  exact ok_strings_HasPrefix (spec_strings_HasPrefix pure_internal_stringslite_HasPrefix) 1000 a0 a1 (rfl)
theorem pure_glyph_point (a0 : List UInt8) (hc : (!decide (a0 = [])) = true) : PureOK Try.prog i_glyph_point [.str a0] (.tup [.int .u32 ((pointG a0).1), .int .i64 ((pointG a0).2)]) := by
  refine PureOK.fits fun hf => ?_
  have r0 := fits_str (hf (.str a0) (by simp))
  have hc1 : a0 ≠ [] := by simpa using hc
  exact ok_glyph_point (spec_glyph_point pure_glyph_Put) 1000 a0 (sh_glyph_point_eq 995 a0 hc1 r0)
theorem pure_glyph_Valid (a0 : List UInt8) : PureOK Try.prog i_glyph_Valid [.str a0] (.bool (validG a0)) := by
  refine PureOK.fits fun hf => ?_
  have r0 := fits_str (hf (.str a0) (by simp))
  exact ok_glyph_Valid (spec_glyph_Valid pure_glyph_point) (a0.length + 1) a0 (sh_glyph_Valid_eq (a0.length + 1) a0 r0 (by omega))
theorem pure_glyph_Quote (a0 : List UInt8) (hc : decide (List.length a0 ≤ 1000) = true) : PureOK Try.prog i_glyph_Quote [.str a0] (.str (quoteG a0)) := by
  refine PureOK.fits fun hf => ?_
  have r0 := fits_str (hf (.str a0) (by simp))
  have hc1 : a0.length ≤ 1000 := of_decide_eq_true hc
  obtain ⟨hp, h⟩ := of_fst (sh_glyph_Quote_eq 1001 a0 hc1 (by omega))
  exact ok_glyph_Quote (spec_glyph_Quote pure_strings_IndexByte) 1001 a0 h
theorem pure_glyph_cursor_next (o0 : List UInt8) (o1 : Int) (o3 : List UInt8) (o4 : Bool) (hc : (decide (0 ≤ (o1 : Int)) && decide (List.length o0 ≤ 1000)) = true) : ObjFn Try.prog i_glyph_cursor_next [] [.str o0, .int .i64 o1, .bn 62 5, .sl .u8 true o3, .bool o4] (.int .u8 (nextC o0 o1)) [.str o0, .int .i64 (nextAt o0 o1), .bn 62 5, .sl .u8 true o3, .bool (nextBad o0 o1 o4)] := by
  have hc1 : 0 ≤ o1 ∧ o0.length ≤ 1000 := by simpa using hc
  exact ok_glyph_cursor_next spec_glyph_cursor_next 1000 o0 o1 o3 o4 (sh_glyph_cursor_next_eq 1000 o0 o1 o3 o4 hc1.1 (by omega))
theorem pure_glyph_cursor_unit (o0 : List UInt8) (o1 : Int) (o3 : List UInt8) (o4 : Bool) (hc : (decide (0 ≤ (o1 : Int)) && decide (List.length o0 ≤ 1000)) = true) : ObjFn Try.prog i_glyph_cursor_unit [] [.str o0, .int .i64 o1, .bn 62 5, .sl .u8 true o3, .bool o4] (.int .u32 (unitC o0 o1)) [.str o0, .int .i64 (unitAt o0 o1), .bn 62 5, .sl .u8 true o3, .bool (unitBad o0 o1 o4)] := by
  have hc1 : 0 ≤ o1 ∧ o0.length ≤ 1000 := by simpa using hc
  exact ok_glyph_cursor_unit (spec_glyph_cursor_unit pure_glyph_cursor_next pure_strings_IndexByte) 1000 o0 o1 o3 o4 (sh_glyph_cursor_unit_eq 995 o0 o1 o3 o4 hc1.1 hc1.2)
theorem pure_glyph_cursor_escaped (o0 : List UInt8) (o1 : Int) (o3 : List UInt8) (o4 : Bool) (hc : ((decide (0 ≤ (o1 : Int)) && decide (List.length o0 ≤ 1000)) && (decide (o1 ≤ (List.length o0 : Int)) && decide (List.length o3 ≤ 5000))) = true) : ObjFn Try.prog i_glyph_cursor_escaped [] [.str o0, .int .i64 o1, .bn 62 5, .sl .u8 true o3, .bool o4] (.tup []) [.str o0, .int .i64 (escAt o0 o1), .bn 62 5, .sl .u8 true (escOut o0 o1 o3), .bool (escBad o0 o1 o4)] := by
  have hc1 : (0 ≤ o1 ∧ o0.length ≤ 1000) ∧ o1 ≤ (o0.length : Int) ∧ o3.length ≤ 5000 := by simpa using hc
  exact ok_glyph_cursor_escaped (spec_glyph_cursor_escaped pure_glyph_cursor_next pure_glyph_cursor_unit pure_glyph_Put pure_strings_IndexByte pure_strings_HasPrefix) 1000 o0 o1 o3 o4 (sh_glyph_cursor_escaped_eq 1000 o0 o1 o3 o4 hc1.1.1 hc1.2.1 hc1.1.2 hc1.2.2)
theorem pure_glyph_Unquote (a0 : List UInt8) (hc : decide (List.length a0 ≤ 1000) = true) : PureOK Try.prog i_glyph_Unquote [.str a0] (.tup [.str (unqT a0), .int .i64 (unqC a0), .int .i64 (unqE a0)]) := by
  refine PureOK.fits fun hf => ?_
  have r0 := fits_str (hf (.str a0) (by simp))
  have hc1 : a0.length ≤ 1000 := of_decide_eq_true hc
  obtain ⟨hp, h⟩ := of_fst (sh_glyph_Unquote_eq 0 a0 hc1)
  exact ok_glyph_Unquote (spec_glyph_Unquote pure_glyph_cursor_next pure_glyph_cursor_escaped pure_glyph_Valid) 1002 a0 h
theorem pure_ref1_point (a0 : List UInt8) : PureOK Try.prog i_ref1_point [.str a0] (.tup [.int .u32 ((pointG a0).1), .int .i64 ((pointG a0).2)]) := by
  refine PureOK.fits fun hf => ?_
  have r0 := fits_str (hf (.str a0) (by simp))
  exact ok_ref1_point spec_ref1_point 1000 a0 (sh_ref1_point_eq 995 a0 r0)
theorem pure_ref1_Valid (a0 : List UInt8) : PureOK Try.prog i_ref1_Valid [.str a0] (.bool (validG a0)) := by
  refine PureOK.fits fun hf => ?_
  have r0 := fits_str (hf (.str a0) (by simp))
  exact ok_ref1_Valid (spec_ref1_Valid pure_ref1_point) (a0.length + 1) a0 (sh_ref1_Valid_eq (a0.length + 1) a0 r0 (by omega))
theorem pure_ref1_Glyph (a0 : Int) : PureOK Try.prog i_ref1_Glyph [.int .u32 a0] (.str (putG a0)) := by
  refine PureOK.fits fun hf => ?_
  have r0 := fits_u32 (hf (.int .u32 a0) (by simp))
  exact ok_ref1_Glyph spec_ref1_Glyph 1000 a0 (sh_ref1_Glyph_eq 1000 a0 r0)
theorem pure_ref1_Quote (a0 : List UInt8) (hc : decide (List.length a0 ≤ 1000) = true) : PureOK Try.prog i_ref1_Quote [.str a0] (.str (quoteG a0)) := by
  refine PureOK.fits fun hf => ?_
  have r0 := fits_str (hf (.str a0) (by simp))
  have hc1 : a0.length ≤ 1000 := of_decide_eq_true hc
  exact ok_ref1_Quote spec_ref1_Quote 1002 a0 (sh_ref1_Quote_eq 0 a0 hc1)
theorem pure_ref1_Digit (a0 : Int) : PureOK Try.prog i_ref1_Digit [.int .u8 a0] (.int .i64 (digitI a0)) := by
  refine PureOK.fits fun hf => ?_
  have r0 := fits_u8 (hf (.int .u8 a0) (by simp))
  exact ok_ref1_Digit spec_ref1_Digit 1000 a0 (sh_ref1_Digit_eq 1000 a0 r0)
theorem pure_ref1_unit (a0 : List UInt8) : PureOK Try.prog i_ref1_unit [.str a0] (.tup [.int .u32 (runitV a0), .bool (runitB a0)]) := by
  refine PureOK.fits fun hf => ?_
  have r0 := fits_str (hf (.str a0) (by simp))
  exact ok_ref1_unit (spec_ref1_unit pure_ref1_Digit) 1000 a0 (sh_ref1_unit_eq 995 a0 r0)
theorem pure_ref1_escape (a0 : List UInt8) (hc : decide (List.length a0 ≤ 1000) = true) : PureOK Try.prog i_ref1_escape [.str a0] (.tup [.str (rescT a0), .int .i64 (rescN a0)]) := by
  refine PureOK.fits fun hf => ?_
  have r0 := fits_str (hf (.str a0) (by simp))
  have hc1 : a0.length ≤ 1000 := of_decide_eq_true hc
  exact ok_ref1_escape (spec_ref1_escape pure_ref1_Glyph pure_ref1_unit) 1000 a0 (sh_ref1_escape_eq 991 a0 hc1)
theorem pure_ref1_Unquote (a0 : List UInt8) (hc : decide (List.length a0 ≤ 1000) = true) : PureOK Try.prog i_ref1_Unquote [.str a0] (.tup [.str (unqT a0), .int .i64 (unqC a0), .int .i64 (unqE a0)]) := by
  refine PureOK.fits fun hf => ?_
  have r0 := fits_str (hf (.str a0) (by simp))
  have hc1 : a0.length ≤ 1000 := of_decide_eq_true hc
  exact ok_ref1_Unquote (spec_ref1_Unquote pure_ref1_Valid pure_ref1_escape) 1002 a0 (sh_ref1_Unquote_eq 0 a0 hc1)
theorem sh_law3_begun_eq (N : Nat) : sh_law3_begun N = some (.bool true, []) := by kernel_rfl
theorem pure_law3_begun  : PureOK Try.prog i_law3_begun [] (.bool true) := by
  exact ok_law3_begun (spec_law3_begun pure_glyph_Unquote pure_glyph_Valid pure_glyph_Quote pure_glyph_Put) 1000  (sh_law3_begun_eq 1000)
theorem sh_law3_GlyphForms_eq : sh_law3_GlyphForms 100 = some (.bool true, []) := by kernel_rfl
theorem pure_law3_GlyphForms  : PureOK Try.prog i_law3_GlyphForms [] (.bool true) := by
  exact ok_law3_GlyphForms (spec_law3_GlyphForms pure_law3_begun pure_glyph_Unquote pure_glyph_Quote) 100  (sh_law3_GlyphForms_eq)
theorem sh_law3_GlyphAll_eq (N : Nat) (s q : List UInt8) (r : Int) : sh_law3_GlyphAll N s q r = some (.bool true, []) := by
  simp only [sh_law3_GlyphAll, sa_law3_GlyphAll]
  by_cases h1 : 60 < s.length
  · simp (disch := omega) only [dt, df, it, iF, bt, bf, cond_true, cond_false, map_some', chk_t, Bool.and_true, Bool.true_and, Bool.and_false, Bool.false_and, Bool.or_true, Bool.true_or, Bool.or_false, Bool.false_or, Bool.not_true, Bool.not_false, if_true, if_false, beq_self_eq_true, wrap_i64_of, wrap_u64_of, wrap_i32_of, wrap_u32_of, wrap_u8_of, tdiv_of, tmod_of, Int.toNat_natCast, List.take_length, List.drop_zero, or_true, true_or, or_false, false_or, or_self, ]
  by_cases h2 : 60 < q.length
  · simp (disch := omega) only [dt, df, it, iF, bt, bf, cond_true, cond_false, map_some', chk_t, Bool.and_true, Bool.true_and, Bool.and_false, Bool.false_and, Bool.or_true, Bool.true_or, Bool.or_false, Bool.false_or, Bool.not_true, Bool.not_false, if_true, if_false, beq_self_eq_true, wrap_i64_of, wrap_u64_of, wrap_i32_of, wrap_u32_of, wrap_u8_of, tdiv_of, tmod_of, Int.toNat_natCast, List.take_length, List.drop_zero, or_true, true_or, or_false, false_or, or_self, ]
  · simp (disch := omega) only [dt, df, it, iF, bt, bf, cond_true, cond_false, map_some', chk_t, Bool.and_true, Bool.true_and, Bool.and_false, Bool.false_and, Bool.or_true, Bool.true_or, Bool.or_false, Bool.false_or, Bool.not_true, Bool.not_false, if_true, if_false, beq_self_eq_true, wrap_i64_of, wrap_u64_of, wrap_i32_of, wrap_u32_of, wrap_u8_of, tdiv_of, tmod_of, Int.toNat_natCast, List.take_length, List.drop_zero, or_true, true_or, or_false, false_or, or_self, decide_true]
theorem pure_law3_GlyphAll (a0 : List UInt8) (a1 : List UInt8) (a2 : Int) : PureOK Try.prog i_law3_GlyphAll [.str a0, .str a1, .int .u32 a2] (.bool true) := by
  refine PureOK.fits fun hf => ?_
  have r0 := fits_str (hf (.str a0) (by simp))
  have r1 := fits_str (hf (.str a1) (by simp))
  have r2 := fits_u32 (hf (.int .u32 a2) (by simp))
  exact ok_law3_GlyphAll (spec_law3_GlyphAll pure_law3_begun pure_glyph_Unquote pure_ref1_Unquote pure_glyph_Valid pure_ref1_Valid pure_glyph_Quote pure_ref1_Quote pure_glyph_Put pure_ref1_Glyph) 1000 a0 a1 a2 (sh_law3_GlyphAll_eq 1000 a0 a1 a2)
end Go.Proofs.Ytmiclamhiohemaa
