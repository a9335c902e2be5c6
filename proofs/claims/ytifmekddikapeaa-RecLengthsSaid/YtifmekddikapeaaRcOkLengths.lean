/-
  The contracts of RecLengths: written by wip/rec/asm_rec.py.
-/
import Derived.Test.YtifmekddikapeaaRcLaw2
namespace Go.Proofs.Ytifmekddikapeaa
open Go.AM
set_option autoImplicit false
set_option linter.unusedVariables false
theorem pure_law1_RecLengths (a0 : Int) (a1 : List UInt8) : PureOK Try.prog i_law1_RecLengths [.int .u64 a0, .str a1] (.bool true) := by
  refine PureOK.fits fun hf => ?_
  have r0 := fits_u64 (hf (.int .u64 a0) (by simp))
  have r1 := fits_str (hf (.str a1) (by simp))
  exact ok_law1_RecLengths (spec_law1_RecLengths pure_law1_begun pure_rec_Varint pure_rec_PutVarint) 1000 a0 a1 (sh_law1_RecLengths_eq 1000 (by omega) a0 a1 r0)
end Go.Proofs.Ytifmekddikapeaa
