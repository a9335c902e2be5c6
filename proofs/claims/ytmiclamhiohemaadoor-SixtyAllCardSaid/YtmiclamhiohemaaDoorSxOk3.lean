/-
  The contracts of SixtyAll: written by wip/sixty/asm_sixty.py.
-/
import Derived.Test.YtmiclamhiohemaaDoorSxOk
import Derived.Test.YtmiclamhiohemaaDoorSxRef2
namespace Go.Proofs.YtmiclamhiohemaaDoor
open Go.AM
set_option autoImplicit false
set_option linter.unusedVariables false
set_option linter.unusedSimpArgs false
theorem pure_ref1_Sixty (a0 : List UInt8) (hc : decide (List.length a0 ≤ 1000) = true) : PureOK Tryd.prog i_ref1_Sixty [.str a0] (.str (putS a0)) := by
  refine PureOK.fits fun hf => ?_
  have r0 := fits_str (hf (.str a0) (by simp))
  have hc1 : a0.length ≤ 1000 := of_decide_eq_true hc
  exact ok_ref1_Sixty spec_ref1_Sixty 1006 a0 (sh_ref1_Sixty_eq a0 hc1)
theorem pure_ref1_TakeSixty (a0 : List UInt8) (hc : decide (List.length a0 ≤ 1000) = true) : PureOK Tryd.prog i_ref1_TakeSixty [.str a0] (.tup [.str (takeT a0), .int .i64 (takeE a0)]) := by
  refine PureOK.fits fun hf => ?_
  have r0 := fits_str (hf (.str a0) (by simp))
  have hc1 : a0.length ≤ 1000 := of_decide_eq_true hc
  exact ok_ref1_TakeSixty (spec_ref1_TakeSixty pure_ref1_Sixty) 1066 a0 (sh_ref1_TakeSixty_eq a0 hc1)
theorem pure_law4_SixtyAll (a0 : List UInt8) (a1 : List UInt8) : PureOK Tryd.prog i_law4_SixtyAll [.str a0, .str a1] (.bool true) := by
  refine PureOK.fits fun hf => ?_
  have r0 := fits_str (hf (.str a0) (by simp))
  have r1 := fits_str (hf (.str a1) (by simp))
  exact ok_law4_SixtyAll (spec_law4_SixtyAll pure_law4_begun pure_sixty_Take pure_ref1_TakeSixty pure_sixty_Put pure_ref1_Sixty) 1000 a0 a1 (sh_law4_SixtyAll_eq 1000 a0 a1)
end Go.Proofs.YtmiclamhiohemaaDoor
