/-
  The contracts of CastSmall: written by wip/cast/asm_cast.py.
-/
import Derived.Test.YtmiclamhiohemaaCsOk
import Derived.Test.YtmiclamhiohemaaCsSmall
namespace Go.Proofs.Ytmiclamhiohemaa
open Go.AM
set_option autoImplicit false
set_option linter.unusedVariables false
theorem pure_law2_CastSmall (a0 : Int) : PureOK Try.prog i_law2_CastSmall [.int .i32 a0] (.bool true) := by
  refine PureOK.fits fun hf => ?_
  have r0 := fits_i32 (hf (.int .i32 a0) (by simp))
  exact ok_law2_CastSmall (spec_law2_CastSmall pure_law2_begun pure_cast_Double pure_cast_Float pure_cast_Widen) 1000 a0 (sh_law2_CastSmall_eq _ (by omega) a0 r0)
end Go.Proofs.Ytmiclamhiohemaa
