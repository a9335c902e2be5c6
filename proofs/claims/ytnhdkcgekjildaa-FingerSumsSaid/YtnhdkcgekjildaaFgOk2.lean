/-
  The contracts of FingerOne and FingerSums.
-/
import Derived.Test.YtnhdkcgekjildaaFgWrite
namespace Go.Proofs.Ytnhdkcgekjildaa
open Go.AM
set_option autoImplicit false
set_option linter.unusedVariables false
set_option linter.unusedSimpArgs false
theorem pure_law5_FingerOne (a0 : List UInt8) (a1 : Int) (a2 : Int) (a3 : Int) : PureOK Try.prog i_law5_FingerOne [.str a0, .int .u16 a1, .int .u8 a2, .int .u8 a3] (.bool true) := by
  refine PureOK.fits fun hf => ?_
  have r0 := fits_str (hf (.str a0) (by simp))
  have r1 := fits_u16 (hf (.int .u16 a1) (by simp))
  have r2 := fits_u8 (hf (.int .u8 a2) (by simp))
  have r3 := fits_u8 (hf (.int .u8 a3) (by simp))
  obtain ⟨hp, h⟩ := of_fst (sh_law5_FingerOne_eq 1000 a0 a1 a2 a3 r1 r2 r3)
  exact ok_law5_FingerOne (spec_law5_FingerOne pure_law5_begun pure_finger_Of) 1000 a0 a1 a2 a3 h
theorem pure_law5_FingerSums (a0 : List UInt8) (a1 : List UInt8) : PureOK Try.prog i_law5_FingerSums [.str a0, .str a1] (.bool true) := by
  refine PureOK.fits fun hf => ?_
  have r0 := fits_str (hf (.str a0) (by simp))
  have r1 := fits_str (hf (.str a1) (by simp))
  obtain ⟨hp, h⟩ := of_fst (sh_law5_FingerSums_eq a0 a1)
  exact ok_law5_FingerSums (spec_law5_FingerSums pure_law5_begun pure_finger_Of) 1000 a0 a1 h
end Go.Proofs.Ytnhdkcgekjildaa
