/-
  The contracts of CastWide: written by wip/cast/asm_cast.py.
-/
import Derived.Test.YtmiclamhiohemaaCsOk
import Derived.Test.YtmiclamhiohemaaCsWiden
namespace Go.Proofs.Ytmiclamhiohemaa
open Go.AM
set_option autoImplicit false
set_option linter.unusedVariables false
theorem pure_law2_CastWide (a0 : Int) (a1 : Int) : PureOK Try.prog i_law2_CastWide [.int .u32 a0, .int .u32 a1] (.bool true) := by
  refine PureOK.fits fun hf => ?_
  have r0 := fits_u32 (hf (.int .u32 a0) (by simp))
  have r1 := fits_u32 (hf (.int .u32 a1) (by simp))
  exact ok_law2_CastWide (spec_law2_CastWide pure_law2_begun pure_cast_Widen) 1000 a0 a1 (sh_law2_CastWide_eq _ a0 a1 r0 r1)
end Go.Proofs.Ytmiclamhiohemaa
