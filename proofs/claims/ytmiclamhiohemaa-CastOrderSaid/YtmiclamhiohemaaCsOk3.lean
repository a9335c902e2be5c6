/-
  The contracts of CastOrder: written by wip/cast/asm_cast.py.
-/
import Derived.Test.YtmiclamhiohemaaCsOk
import Derived.Test.YtmiclamhiohemaaCsOrder
namespace Go.Proofs.Ytmiclamhiohemaa
open Go.AM
set_option autoImplicit false
set_option linter.unusedVariables false
theorem pure_law2_step (a0 : Int) (a1 : Int) (hc : (decide (0 ≤ a1) && decide (a1 ≤ 53)) = true) : PureOK Try.prog i_law2_step [.int .i64 a0, .int .i64 a1] (.int .u64 (stepR a0 a1)) := by
  refine PureOK.fits fun hf => ?_
  have r0 := fits_i64 (hf (.int .i64 a0) (by simp))
  have r1 := fits_i64 (hf (.int .i64 a1) (by simp))
  exact ok_law2_step spec_law2_step 1000 a0 a1 (sh_law2_step_eq _ a0 a1 (by simpa using hc))
theorem pure_law2_CastOrder (a0 : Int) (a1 : Int) : PureOK Try.prog i_law2_CastOrder [.int .u64 a0, .int .u64 a1] (.bool true) := by
  refine PureOK.fits fun hf => ?_
  have r0 := fits_u64 (hf (.int .u64 a0) (by simp))
  have r1 := fits_u64 (hf (.int .u64 a1) (by simp))
  exact ok_law2_CastOrder (spec_law2_CastOrder pure_law2_begun pure_cast_Double pure_cast_Float pure_law2_step) 1000 a0 a1 (sh_law2_CastOrder_eq _ (by omega) a0 a1 r0 r1)
end Go.Proofs.Ytmiclamhiohemaa
