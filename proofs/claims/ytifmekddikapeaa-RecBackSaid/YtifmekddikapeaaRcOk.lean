/-
  The contracts of layer 1: written by wip/rec/asm_rec.py.
-/
import Derived.Test.YtifmekddikapeaaRcJoin
namespace Go.Proofs.Ytifmekddikapeaa
open Go.AM
set_option autoImplicit false
set_option linter.unusedVariables false
theorem pure_rec_Varint (a0 : List UInt8) : PureOK Try.prog i_rec_Varint [.str a0] (.tup [.int .u64 ((vintR a0).1), .int .i64 ((vintR a0).2.1), .int .i64 ((vintR a0).2.2)]) := by
  refine PureOK.fits fun hf => ?_
  have r0 := fits_str (hf (.str a0) (by simp))
  exact ok_rec_Varint spec_rec_Varint 1000 a0 (sh_rec_Varint_eq 1000 a0 (by unfold maxI; omega) (by omega))
theorem pure_ref1_Varint (a0 : List UInt8) : PureOK Try.prog i_ref1_Varint [.str a0] (.tup [.int .u64 ((vintR a0).1), .int .i64 ((vintR a0).2.1), .int .i64 ((vintR a0).2.2)]) := by
  refine PureOK.fits fun hf => ?_
  have r0 := fits_str (hf (.str a0) (by simp))
  exact ok_ref1_Varint spec_ref1_Varint 1000 a0 (sh_ref1_Varint_eq 1000 a0 (by unfold maxI; omega) (by omega))
theorem pure_rec_PutVarint (a0 : Int) : PureOK Try.prog i_rec_PutVarint [.int .u64 a0] (.str (putV a0)) := by
  refine PureOK.fits fun hf => ?_
  have r0 := fits_u64 (hf (.int .u64 a0) (by simp))
  exact ok_rec_PutVarint spec_rec_PutVarint (2 ^ 64 + 1) a0 (sh_rec_PutVarint_eq (2 ^ 64 + 1) a0 r0 (by omega))
theorem pure_ref1_PutVarint (a0 : Int) : PureOK Try.prog i_ref1_PutVarint [.int .u64 a0] (.str (putV a0)) := by
  refine PureOK.fits fun hf => ?_
  have r0 := fits_u64 (hf (.int .u64 a0) (by simp))
  obtain ⟨v, rfl⟩ : ∃ v : Nat, a0 = (v : Int) := ⟨a0.toNat, by omega⟩
  exact pure_ref1_PutVarint_nat v v (Nat.le_refl _) (by omega)
theorem pure_rec_size (a0 : Int) : PureOK Try.prog i_rec_size [.int .i64 a0] (.int .i64 (sizeR a0)) := by
  refine PureOK.fits fun hf => ?_
  have r0 := fits_i64 (hf (.int .i64 a0) (by simp))
  exact ok_rec_size spec_rec_size 1000 a0 (sh_rec_size_eq _ a0)
theorem pure_rec_fixed (a0 : List UInt8) : PureOK Try.prog i_rec_fixed [.str a0] (.int .u64 (lowR a0)) := by
  refine PureOK.fits fun hf => ?_
  have r0 := fits_str (hf (.str a0) (by simp))
  exact ok_rec_fixed spec_rec_fixed (a0.length + 1) a0 (sh_rec_fixed_eq _ a0 (by unfold maxI; omega) (by omega))
theorem pure_ref1_low (a0 : List UInt8) : PureOK Try.prog i_ref1_low [.str a0] (.int .u64 (lowR a0)) := by
  refine PureOK.fits fun hf => ?_
  have r0 := fits_str (hf (.str a0) (by simp))
  exact ok_ref1_low spec_ref1_low (a0.length + 1) a0 (sh_ref1_low_eq _ a0 (by unfold maxI; omega) (by omega))
theorem pure_rec_one (a0 : List UInt8) : PureOK Try.prog i_rec_one [.str a0] (.tup [.agg [.int .i64 (((oneR a0).1).num), .int .i64 (((oneR a0).1).wire), .int .u64 (((oneR a0).1).n), .str (((oneR a0).1).s), .str (((oneR a0).1).raw)], .int .i64 ((oneR a0).2)]) := by
  refine PureOK.fits fun hf => ?_
  have r0 := fits_str (hf (.str a0) (by simp))
  obtain ⟨hp, h⟩ := of_fst (sh_rec_one_eq 1000 a0 (by unfold maxI; omega))
  exact ok_rec_one (spec_rec_one pure_rec_Varint pure_rec_size pure_rec_fixed) 1000 a0 h
theorem pure_rec_Split (a0 : List UInt8) : PureOK Try.prog i_rec_Split [.str a0] (.tup [.sl .record (.may false) ((splitR a0).1), .int .i64 ((splitR a0).2)]) := by
  refine PureOK.fits fun hf => ?_
  have r0 := fits_str (hf (.str a0) (by simp))
  obtain ⟨hp, h⟩ := of_fst (sh_rec_Split_eq (a0.length + 1) a0 (by unfold maxI; omega) (by omega))
  exact ok_rec_Split (spec_rec_Split pure_rec_one) (a0.length + 1) a0 h
theorem pure_ref1_Split (a0 : List UInt8) : PureOK Try.prog i_ref1_Split [.str a0] (.tup [.sl .record (.may false) ((splitR a0).1), .int .i64 ((splitR a0).2)]) := by
  refine PureOK.fits fun hf => ?_
  have r0 := fits_str (hf (.str a0) (by simp))
  obtain ⟨hp, h⟩ := of_fst (sh_ref1_Split_eq (a0.length + 1) a0 (by unfold maxI; omega) (by omega))
  exact ok_ref1_Split (spec_ref1_Split pure_ref1_Varint pure_ref1_low) (a0.length + 1) a0 h
theorem pure_ref1_Low (a0 : Int) (a1 : Int) (hc : decide ((a1 : Int) ≤ 1000) = true) : PureOK Try.prog i_ref1_Low [.int .u64 a0, .int .i64 a1] (.str (lowsR a0 a1)) := by
  refine PureOK.fits fun hf => ?_
  have r0 := fits_u64 (hf (.int .u64 a0) (by simp))
  have r1 := fits_i64 (hf (.int .i64 a1) (by simp))
  have hc1 : a1 ≤ 1000 := of_decide_eq_true hc
  exact ok_ref1_Low spec_ref1_Low 1001 a0 a1 (sh_ref1_Low_eq _ a0 a1 r0 hc1 (by omega))
theorem pure_rec_Put (a0_0 : Int) (a0_1 : Int) (a0_2 : Int) (a0_3 : List UInt8) (a0_4 : List UInt8) (hc : decide (List.length a0_3 ≤ 9223372036854000000) = true) : PureOK Try.prog i_rec_Put [.agg [.int .i64 a0_0, .int .i64 a0_1, .int .u64 a0_2, .str a0_3, .str a0_4]] (.str (putR ⟨a0_0, a0_1, a0_2, a0_3, a0_4⟩)) := by
  refine PureOK.fits fun hf => ?_
  have r0 := fits_agg_i64 (hf (.agg [.int .i64 a0_0, .int .i64 a0_1, .int .u64 a0_2, .str a0_3, .str a0_4]) (by simp)) (a0_0) (by simp)
  have r1 := fits_agg_i64 (hf (.agg [.int .i64 a0_0, .int .i64 a0_1, .int .u64 a0_2, .str a0_3, .str a0_4]) (by simp)) (a0_1) (by simp)
  have r2 := fits_agg_u64 (hf (.agg [.int .i64 a0_0, .int .i64 a0_1, .int .u64 a0_2, .str a0_3, .str a0_4]) (by simp)) (a0_2) (by simp)
  have r3 := fits_agg_str (hf (.agg [.int .i64 a0_0, .int .i64 a0_1, .int .u64 a0_2, .str a0_3, .str a0_4]) (by simp)) (a0_3) (by simp)
  have r4 := fits_agg_str (hf (.agg [.int .i64 a0_0, .int .i64 a0_1, .int .u64 a0_2, .str a0_3, .str a0_4]) (by simp)) (a0_4) (by simp)
  have hc1 : a0_3.length ≤ 9223372036854000000 := of_decide_eq_true hc
  obtain ⟨hp, h⟩ := of_fst (sh_rec_Put_eq 1000 (by omega) a0_0 a0_1 a0_2 a0_3 a0_4 r1 r2.1 hc1)
  exact ok_rec_Put (spec_rec_Put pure_rec_PutVarint pure_rec_size) 1000 a0_0 a0_1 a0_2 a0_3 a0_4 h
theorem pure_ref1_Put (a0_0 : Int) (a0_1 : Int) (a0_2 : Int) (a0_3 : List UInt8) (a0_4 : List UInt8) (hc : decide (List.length a0_3 ≤ 9223372036854000000) = true) : PureOK Try.prog i_ref1_Put [.agg [.int .i64 a0_0, .int .i64 a0_1, .int .u64 a0_2, .str a0_3, .str a0_4]] (.str (putR ⟨a0_0, a0_1, a0_2, a0_3, a0_4⟩)) := by
  refine PureOK.fits fun hf => ?_
  have r0 := fits_agg_i64 (hf (.agg [.int .i64 a0_0, .int .i64 a0_1, .int .u64 a0_2, .str a0_3, .str a0_4]) (by simp)) (a0_0) (by simp)
  have r1 := fits_agg_i64 (hf (.agg [.int .i64 a0_0, .int .i64 a0_1, .int .u64 a0_2, .str a0_3, .str a0_4]) (by simp)) (a0_1) (by simp)
  have r2 := fits_agg_u64 (hf (.agg [.int .i64 a0_0, .int .i64 a0_1, .int .u64 a0_2, .str a0_3, .str a0_4]) (by simp)) (a0_2) (by simp)
  have r3 := fits_agg_str (hf (.agg [.int .i64 a0_0, .int .i64 a0_1, .int .u64 a0_2, .str a0_3, .str a0_4]) (by simp)) (a0_3) (by simp)
  have r4 := fits_agg_str (hf (.agg [.int .i64 a0_0, .int .i64 a0_1, .int .u64 a0_2, .str a0_3, .str a0_4]) (by simp)) (a0_4) (by simp)
  have hc1 : a0_3.length ≤ 9223372036854000000 := of_decide_eq_true hc
  obtain ⟨hp, h⟩ := of_fst (sh_ref1_Put_eq 1000 a0_0 a0_1 a0_2 a0_3 a0_4 r1 hc1)
  exact ok_ref1_Put (spec_ref1_Put pure_ref1_PutVarint pure_ref1_Low) 1000 a0_0 a0_1 a0_2 a0_3 a0_4 h
theorem pure_rec_Join (a0 : List Record) (hc : decide (List.length (joinR a0) ≤ 140737488355328) = true) : PureOK Try.prog i_rec_Join [.sl .record (.may false) a0] (.str (joinR a0)) := by
  refine PureOK.fits fun hf => ?_
  have r0 := fits_sl (hf (.sl .record (.may false) a0) (by simp))
  have hc1 : (joinR a0).length ≤ 140737488355328 := of_decide_eq_true hc
  obtain ⟨hp, h⟩ := of_fst (sh_rec_Join_eq (a0.length + 1) a0 hc1 r0 (by omega))
  exact ok_rec_Join spec_rec_Join (a0.length + 1) a0 h
theorem pure_ref1_Join (a0 : List Record) (hc : decide (List.length (joinR a0) ≤ 140737488355328) = true) : PureOK Try.prog i_ref1_Join [.sl .record (.may false) a0] (.str (joinR a0)) := by
  refine PureOK.fits fun hf => ?_
  have r0 := fits_sl (hf (.sl .record (.may false) a0) (by simp))
  have hc1 : (joinR a0).length ≤ 140737488355328 := of_decide_eq_true hc
  obtain ⟨hp, h⟩ := of_fst (sh_ref1_Join_eq (a0.length + 1) a0 hc1 r0 (by omega))
  exact ok_ref1_Join spec_ref1_Join (a0.length + 1) a0 h
theorem pure_ref1_SameRecords (a0 : List Record) (a1 : List Record) (hc : decide (a0 = a1) = true) : PureOK Try.prog i_ref1_SameRecords [.sl .record (.may false) a0, .sl .record (.may false) a1] (.bool true) := by
  refine PureOK.fits fun hf => ?_
  have r0 := fits_sl (hf (.sl .record (.may false) a0) (by simp))
  have r1 := fits_sl (hf (.sl .record (.may false) a1) (by simp))
  have hc1 : a0 = a1 := of_decide_eq_true hc
  subst hc1
  obtain ⟨hp, h⟩ := of_fst (sh_ref1_SameRecords_eq (a0.length + 1) a0 r0 (by omega))
  exact ok_ref1_SameRecords spec_ref1_SameRecords (a0.length + 1) a0 a0 h
theorem pure_law1_begun  : PureOK Try.prog i_law1_begun [] (.bool true) := by
  exact ok_law1_begun (spec_law1_begun pure_rec_Varint pure_rec_PutVarint pure_rec_Split pure_rec_Put pure_rec_Join) 1000  (sh_law1_begun_eq _)
end Go.Proofs.Ytifmekddikapeaa
