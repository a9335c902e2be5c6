/-
  The contracts of RecJoins: written by wip/rec/asm_rec.py.
-/
import Derived.Test.YtifmekddikapeaaRcLaw3
namespace Go.Proofs.Ytifmekddikapeaa
open Go.AM
set_option autoImplicit false
set_option linter.unusedVariables false
theorem pure_law1_RecJoins (a0 : List UInt8) (a1 : List UInt8) : PureOK Try.prog i_law1_RecJoins [.str a0, .str a1] (.bool true) := by
  refine PureOK.fits fun hf => ?_
  have r0 := fits_str (hf (.str a0) (by simp))
  have r1 := fits_str (hf (.str a1) (by simp))
  obtain ⟨hp, h⟩ := of_fst (sh_law1_RecJoins_eq 1000 (by omega) a0 a1)
  exact ok_law1_RecJoins (spec_law1_RecJoins pure_law1_begun pure_rec_Split pure_rec_Join) 1000 a0 a1 h
end Go.Proofs.Ytifmekddikapeaa
