/-
  RecBack's contract.
-/
import Derived.Test.YtifmekddikapeaaRcBack
namespace Go.Proofs.Ytifmekddikapeaa
open Go.AM
set_option autoImplicit false
set_option linter.unusedVariables false
theorem pure_law1_RecBack (a0 a1 a2 : Int) (a3 : List UInt8) : PureOK Try.prog i_law1_RecBack [.int .u32 a0, .int .u8 a1, .int .u64 a2, .str a3] (.bool true) := by
  refine PureOK.fits fun hf => ?_
  have r0 := fits_u32 (hf (.int .u32 a0) (by simp))
  have r1 := fits_u8 (hf (.int .u8 a1) (by simp))
  have r2 := fits_u64 (hf (.int .u64 a2) (by simp))
  obtain ⟨hp, h⟩ := of_fst (back_core 1000 a0 a1 a2 a3 r0 r1 r2)
  exact ok_law1_RecBack (spec_law1_RecBack row_rec_Split pure_law1_begun pure_rec_Put) 1000 a0 a1 a2 a3 h
end Go.Proofs.Ytifmekddikapeaa
