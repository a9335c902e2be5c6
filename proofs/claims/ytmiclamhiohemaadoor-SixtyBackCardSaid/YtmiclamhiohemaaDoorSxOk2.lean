/-
  The contracts of SixtyBack: written by wip/sixty/asm_sixty.py.
-/
import Derived.Test.YtmiclamhiohemaaDoorSxOk
import Derived.Test.YtmiclamhiohemaaDoorSxBack
namespace Go.Proofs.YtmiclamhiohemaaDoor
open Go.AM
set_option autoImplicit false
set_option linter.unusedVariables false
set_option linter.unusedSimpArgs false
theorem pure_law4_SixtyBack (a0 : List UInt8) (a1 : Int) (a2 : Int) : PureOK Tryd.prog i_law4_SixtyBack [.str a0, .int .u8 a1, .int .u8 a2] (.bool true) := by
  refine PureOK.fits fun hf => ?_
  have r0 := fits_str (hf (.str a0) (by simp))
  have r1 := fits_u8 (hf (.int .u8 a1) (by simp))
  have r2 := fits_u8 (hf (.int .u8 a2) (by simp))
  obtain ⟨hp, h⟩ := of_fst (sh_law4_SixtyBack_eq 1000 a0 a1 a2 r1 r2)
  exact ok_law4_SixtyBack (spec_law4_SixtyBack pure_law4_begun pure_sixty_Take pure_sixty_Put) 1000 a0 a1 a2 h
end Go.Proofs.YtmiclamhiohemaaDoor
