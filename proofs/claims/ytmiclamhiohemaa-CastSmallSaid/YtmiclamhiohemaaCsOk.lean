/-
  The contracts of layer 2's functions: written by wip/cast/asm_cast.py.
-/
import Derived.Test.YtmiclamhiohemaaCsLaws
namespace Go.Proofs.Ytmiclamhiohemaa
open Go.AM
set_option autoImplicit false
set_option linter.unusedVariables false
theorem pure_math_bits_Len64 (a0 : Int) : PureOK Try.prog i_math_bits_Len64 [.int .u64 a0] (.int .i64 (lenR a0)) := by
  refine PureOK.fits fun hf => ?_
  have r0 := fits_u64 (hf (.int .u64 a0) (by simp))
  exact ok_math_bits_Len64 spec_math_bits_Len64 1000 a0 (sh_math_bits_Len64_eq _ a0 r0)
theorem pure_cast_drawn (a0 : Int) : PureOK Try.prog i_cast_drawn [.int .u64 a0] (.int .u64 (drawR a0)) := by
  refine PureOK.fits fun hf => ?_
  have r0 := fits_u64 (hf (.int .u64 a0) (by simp))
  exact ok_cast_drawn spec_cast_drawn 1000 a0 (sh_cast_drawn_eq _ a0 r0)
theorem pure_cast_Wire (a0 : Int) : PureOK Try.prog i_cast_Wire [.int .i64 a0] (.int .i64 (wireR a0)) := by
  refine PureOK.fits fun hf => ?_
  have r0 := fits_i64 (hf (.int .i64 a0) (by simp))
  exact ok_cast_Wire spec_cast_Wire 1000 a0 (sh_cast_Wire_eq _ a0)
theorem pure_cast_From (a0 : Int) (a1 : Int) : PureOK Try.prog i_cast_From [.int .i64 a0, .int .u64 a1] (.int .u64 (fromR a0 a1)) := by
  refine PureOK.fits fun hf => ?_
  have r0 := fits_i64 (hf (.int .i64 a0) (by simp))
  have r1 := fits_u64 (hf (.int .u64 a1) (by simp))
  exact ok_cast_From (spec_cast_From pure_cast_drawn) 1000 a0 a1 (sh_cast_From_eq _ a0 a1 r1)
theorem pure_cast_To (a0 : Int) (a1 : Int) : PureOK Try.prog i_cast_To [.int .i64 a0, .int .u64 a1] (.int .u64 (toR a0 a1)) := by
  refine PureOK.fits fun hf => ?_
  have r0 := fits_i64 (hf (.int .i64 a0) (by simp))
  have r1 := fits_u64 (hf (.int .u64 a1) (by simp))
  exact ok_cast_To (spec_cast_To pure_cast_drawn) 1000 a0 a1 (sh_cast_To_eq _ a0 a1 r1)
theorem pure_cast_Fits (a0 : Int) (a1 : Int) : PureOK Try.prog i_cast_Fits [.int .i64 a0, .int .u64 a1] (.bool (fitsR a0 a1)) := by
  refine PureOK.fits fun hf => ?_
  have r0 := fits_i64 (hf (.int .i64 a0) (by simp))
  have r1 := fits_u64 (hf (.int .u64 a1) (by simp))
  exact ok_cast_Fits (spec_cast_Fits pure_cast_drawn) 1000 a0 a1 (sh_cast_Fits_eq _ a0 a1 r1)
theorem pure_cast_nearest (a0 : Int) (a1 : Int) (hc : (decide (a1 = 52) || decide (a1 = 23)) = true) : PureOK Try.prog i_cast_nearest [.int .i64 a0, .int .i64 a1] (.tup [.bool ((nearR a0 a1).1), .int .i64 ((nearR a0 a1).2.1), .int .u64 ((nearR a0 a1).2.2)]) := by
  refine PureOK.fits fun hf => ?_
  have r0 := fits_i64 (hf (.int .i64 a0) (by simp))
  have r1 := fits_i64 (hf (.int .i64 a1) (by simp))
  have hf1 : a1 = 52 ∨ a1 = 23 := by simpa using hc
  obtain ⟨f, rfl, hf2⟩ : ∃ f : Nat, a1 = (f : Int) ∧ 1 ≤ f ∧ f ≤ 52 := ⟨a1.toNat, by omega, by omega⟩
  have e : sh_cast_nearest 1000 a0 (f : Int) = some (.tup [.bool (nearR a0 f).1, .int .i64 (nearR a0 f).2.1, .int .u64 (nearR a0 f).2.2], []) := by
    by_cases h0 : a0 = 0
    · subst h0; exact sh_cast_nearest_0 _ f hf2.1 hf2.2
    · exact sh_cast_nearest_eq _ a0 f h0 hf2.1 hf2.2 r0
  exact ok_cast_nearest (spec_cast_nearest pure_math_bits_Len64) 1000 a0 _ e
theorem pure_cast_Double (a0 : Int) : PureOK Try.prog i_cast_Double [.int .i64 a0] (.int .u64 (doubleR a0)) := by
  refine PureOK.fits fun hf => ?_
  have r0 := fits_i64 (hf (.int .i64 a0) (by simp))
  exact ok_cast_Double (spec_cast_Double pure_cast_nearest) 1000 a0 (sh_cast_Double_eq _ a0 r0)
theorem pure_cast_Float (a0 : Int) : PureOK Try.prog i_cast_Float [.int .i64 a0] (.int .u32 (floatR a0)) := by
  refine PureOK.fits fun hf => ?_
  have r0 := fits_i64 (hf (.int .i64 a0) (by simp))
  exact ok_cast_Float (spec_cast_Float pure_cast_nearest) 1000 a0 (sh_cast_Float_eq _ a0 r0)
theorem pure_cast_Widen (a0 : Int) : PureOK Try.prog i_cast_Widen [.int .u32 a0] (.int .u64 (widenR a0)) := by
  refine PureOK.fits fun hf => ?_
  have r0 := fits_u32 (hf (.int .u32 a0) (by simp))
  exact ok_cast_Widen (spec_cast_Widen pure_math_bits_Len64) 1000 a0 (sh_cast_Widen_eq _ a0 r0)
theorem pure_ref1_near (a0 : Int) (a1 : Int) (a2 : Int) (hc : ((decide (a1 = 52) && decide (a2 = 1023)) || (decide (a1 = 23) && decide (a2 = 127))) = true) : PureOK Try.prog i_ref1_near [.int .u64 a0, .int .i64 a1, .int .i64 a2] (.int .u64 (nearB a0 a1 a2)) := by
  refine PureOK.fits fun hf => ?_
  have r0 := fits_u64 (hf (.int .u64 a0) (by simp))
  have r1 := fits_i64 (hf (.int .i64 a1) (by simp))
  have r2 := fits_i64 (hf (.int .i64 a2) (by simp))
  have hf1 : a1 = 52 ∧ a2 = 1023 ∨ a1 = 23 ∧ a2 = 127 := by simpa using hc
  obtain ⟨f, b, rfl, rfl, hf2⟩ : ∃ f b : Nat, a1 = (f : Int) ∧ a2 = (b : Int) ∧ (f = 52 ∧ b = 1023 ∨ f = 23 ∧ b = 127) := ⟨a1.toNat, a2.toNat, by omega, by omega, by omega⟩
  exact ok_ref1_near spec_ref1_near 1000 a0 _ _ (sh_ref1_near_eq _ (by omega) a0 f b r0 hf2)
theorem pure_ref1_Double (a0 : Int) : PureOK Try.prog i_ref1_Double [.int .i64 a0] (.int .u64 (doubleR a0)) := by
  refine PureOK.fits fun hf => ?_
  have r0 := fits_i64 (hf (.int .i64 a0) (by simp))
  exact ok_ref1_Double (spec_ref1_Double pure_ref1_near) 1000 a0 (sh_ref1_Double_eq _ a0 r0)
theorem pure_ref1_Float (a0 : Int) : PureOK Try.prog i_ref1_Float [.int .i64 a0] (.int .u32 (floatR a0)) := by
  refine PureOK.fits fun hf => ?_
  have r0 := fits_i64 (hf (.int .i64 a0) (by simp))
  exact ok_ref1_Float (spec_ref1_Float pure_ref1_near) 1000 a0 (sh_ref1_Float_eq _ a0 r0)
theorem pure_ref1_Widen (a0 : Int) : PureOK Try.prog i_ref1_Widen [.int .u32 a0] (.int .u64 (widenR a0)) := by
  refine PureOK.fits fun hf => ?_
  have r0 := fits_u32 (hf (.int .u32 a0) (by simp))
  exact ok_ref1_Widen spec_ref1_Widen 1000 a0 (sh_ref1_Widen_eq _ (by omega) a0 r0)
theorem pure_law2_begun  : PureOK Try.prog i_law2_begun [] (.bool true) := by
  exact ok_law2_begun (spec_law2_begun pure_cast_Double pure_cast_Float pure_cast_Widen pure_cast_Wire pure_cast_Fits pure_cast_From pure_cast_To) 1000  (sh_law2_begun_eq _)
theorem pure_law2_CastFloats (a0 : Int) (a1 : Int) : PureOK Try.prog i_law2_CastFloats [.int .i64 a0, .int .u32 a1] (.bool true) := by
  refine PureOK.fits fun hf => ?_
  have r0 := fits_i64 (hf (.int .i64 a0) (by simp))
  have r1 := fits_u32 (hf (.int .u32 a1) (by simp))
  exact ok_law2_CastFloats (spec_law2_CastFloats pure_law2_begun pure_cast_Double pure_ref1_Double pure_cast_Float pure_ref1_Float pure_cast_Widen pure_ref1_Widen) 1000 a0 a1 (sh_law2_CastFloats_eq _ a0 a1)
theorem pure_law2_CastBack (a0 : Int) : PureOK Try.prog i_law2_CastBack [.int .u64 a0] (.bool true) := by
  refine PureOK.fits fun hf => ?_
  have r0 := fits_u64 (hf (.int .u64 a0) (by simp))
  exact ok_law2_CastBack (spec_law2_CastBack pure_law2_begun pure_cast_Wire pure_cast_Fits pure_cast_From pure_cast_To) 1000 a0 (sh_law2_CastBack_eq _ (by omega) a0 r0)
theorem pure_law2_CastGo (a0 : Int) : PureOK Try.prog i_law2_CastGo [.int .u64 a0] (.bool true) := by
  refine PureOK.fits fun hf => ?_
  have r0 := fits_u64 (hf (.int .u64 a0) (by simp))
  exact ok_law2_CastGo (spec_law2_CastGo pure_law2_begun pure_cast_From) 1000 a0 (sh_law2_CastGo_eq _ a0 r0)
end Go.Proofs.Ytmiclamhiohemaa
