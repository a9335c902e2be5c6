/-
  The contracts of RecPads: written by wip/rec/asm_rec.py.
-/
import Derived.Test.YtifmekddikapeaaRcPads
namespace Go.Proofs.Ytifmekddikapeaa
open Go.AM
set_option autoImplicit false
set_option linter.unusedVariables false
theorem pure_law1_RecPads (a0 : Int) (a1 : Int) : PureOK Try.prog i_law1_RecPads [.int .u64 a0, .int .u8 a1] (.bool true) := by
  refine PureOK.fits fun hf => ?_
  have r0 := fits_u64 (hf (.int .u64 a0) (by simp))
  have r1 := fits_u8 (hf (.int .u8 a1) (by simp))
  exact ok_law1_RecPads (spec_law1_RecPads pure_law1_begun pure_rec_Varint pure_rec_PutVarint) 1000 a0 a1 (sh_law1_RecPads_eq 1000 (by omega) a0 a1 r0 r1)
end Go.Proofs.Ytifmekddikapeaa
