/-
  The contracts of RecNumbers: written by wip/rec/asm_rec.py.
-/
import Derived.Test.YtifmekddikapeaaRcLaw1
namespace Go.Proofs.Ytifmekddikapeaa
open Go.AM
set_option autoImplicit false
set_option linter.unusedVariables false
theorem pure_law1_RecNumbers (a0 : List UInt8) (a1 : Int) : PureOK Try.prog i_law1_RecNumbers [.str a0, .int .u64 a1] (.bool true) := by
  refine PureOK.fits fun hf => ?_
  have r0 := fits_str (hf (.str a0) (by simp))
  have r1 := fits_u64 (hf (.int .u64 a1) (by simp))
  exact ok_law1_RecNumbers (spec_law1_RecNumbers pure_law1_begun pure_rec_Varint pure_ref1_Varint pure_rec_PutVarint pure_ref1_PutVarint) 1000 a0 a1 (sh_law1_RecNumbers_eq _ a0 a1)
end Go.Proofs.Ytifmekddikapeaa
