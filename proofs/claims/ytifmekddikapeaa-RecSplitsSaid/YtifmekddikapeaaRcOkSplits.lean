/-
  The contracts of RecSplits: written by wip/rec/asm_rec.py.
-/
import Derived.Test.YtifmekddikapeaaRcLaw1
namespace Go.Proofs.Ytifmekddikapeaa
open Go.AM
set_option autoImplicit false
set_option linter.unusedVariables false
theorem pure_law1_RecSplits (a0 : List UInt8) (a1_0 : Int) (a1_1 : Int) (a1_2 : Int) (a1_3 : List UInt8) (a1_4 : List UInt8) : PureOK Try.prog i_law1_RecSplits [.str a0, .agg [.int .i64 a1_0, .int .i64 a1_1, .int .u64 a1_2, .str a1_3, .str a1_4]] (.bool true) := by
  refine PureOK.fits fun hf => ?_
  have r0 := fits_str (hf (.str a0) (by simp))
  have r1 := fits_agg_i64 (hf (.agg [.int .i64 a1_0, .int .i64 a1_1, .int .u64 a1_2, .str a1_3, .str a1_4]) (by simp)) (a1_0) (by simp)
  have r2 := fits_agg_i64 (hf (.agg [.int .i64 a1_0, .int .i64 a1_1, .int .u64 a1_2, .str a1_3, .str a1_4]) (by simp)) (a1_1) (by simp)
  have r3 := fits_agg_u64 (hf (.agg [.int .i64 a1_0, .int .i64 a1_1, .int .u64 a1_2, .str a1_3, .str a1_4]) (by simp)) (a1_2) (by simp)
  have r4 := fits_agg_str (hf (.agg [.int .i64 a1_0, .int .i64 a1_1, .int .u64 a1_2, .str a1_3, .str a1_4]) (by simp)) (a1_3) (by simp)
  have r5 := fits_agg_str (hf (.agg [.int .i64 a1_0, .int .i64 a1_1, .int .u64 a1_2, .str a1_3, .str a1_4]) (by simp)) (a1_4) (by simp)
  obtain ⟨hp, h⟩ := of_fst (sh_law1_RecSplits_eq 1000 a0 a1_0 a1_1 a1_2 a1_3 a1_4)
  exact ok_law1_RecSplits (spec_law1_RecSplits pure_law1_begun pure_rec_Split pure_ref1_Split pure_ref1_SameRecords pure_rec_Put pure_ref1_Put pure_rec_Join pure_ref1_Join) 1000 a0 a1_0 a1_1 a1_2 a1_3 a1_4 h
end Go.Proofs.Ytifmekddikapeaa
