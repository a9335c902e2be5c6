/-
  The contracts of layer 4: written by wip/sixty/asm_sixty.py.
-/
import Derived.Test.YtmiclamhiohemaaDoorSxIndex
import Derived.Test.YtmiclamhiohemaaDoorSxTake
namespace Go.Proofs.YtmiclamhiohemaaDoor
open Go.AM
set_option autoImplicit false
set_option linter.unusedVariables false
set_option linter.unusedSimpArgs false
theorem pure_sixty_four (a0 : List UInt8) (hc : decide (List.length a0 ≤ 3) = true) : PureOK Tryd.prog i_sixty_four [.str a0] (.str (fourS a0)) := by
  refine PureOK.fits fun hf => ?_
  have r0 := fits_str (hf (.str a0) (by simp))
  have hc1 : a0.length ≤ 3 := of_decide_eq_true hc
  obtain ⟨hp, h⟩ := of_fst (sh_sixty_four_eq 994 a0 hc1)
  exact ok_sixty_four spec_sixty_four 1000 a0 h
theorem pure_sixty_Put (a0 : List UInt8) (hc : decide (List.length a0 ≤ 1000) = true) : PureOK Tryd.prog i_sixty_Put [.str a0] (.str (putS a0)) := by
  refine PureOK.fits fun hf => ?_
  have r0 := fits_str (hf (.str a0) (by simp))
  have hc1 : a0.length ≤ 1000 := of_decide_eq_true hc
  obtain ⟨hp, h⟩ := of_fst (sh_sixty_Put_eq a0 hc1)
  exact ok_sixty_Put (spec_sixty_Put pure_sixty_four) 1001 a0 h
theorem pure_strings_trimRightByte (a0 : List UInt8) (a1 : Int) (hc : decide ((a1 : Int) = 61) = true) : PureOK Tryd.prog i_strings_trimRightByte [.str a0, .int .u8 a1] (.str (trimS a0)) := by
  refine PureOK.fits fun hf => ?_
  have r0 := fits_str (hf (.str a0) (by simp))
  have r1 := fits_u8 (hf (.int .u8 a1) (by simp))
  have hc1 : a1 = 61 := of_decide_eq_true hc
  subst hc1
  exact ok_strings_trimRightByte spec_strings_trimRightByte (a0.length + 1) a0 61 (sh_strings_trimRightByte_eq a0 r0)
theorem pure_strings_TrimRight (a0 : List UInt8) (a1 : List UInt8) (hc : decide (a1 = [61]) = true) : PureOK Tryd.prog i_strings_TrimRight [.str a0, .str a1] (.str (trimS a0)) := by
  refine PureOK.fits fun hf => ?_
  have r0 := fits_str (hf (.str a0) (by simp))
  have r1 := fits_str (hf (.str a1) (by simp))
  have hc1 : a1 = [61] := of_decide_eq_true hc
  subst hc1
  exact ok_strings_TrimRight (spec_strings_TrimRight pure_strings_trimRightByte) 1000 a0 [61] (sh_strings_TrimRight_eq 1000 a0)
theorem pure_strings_IndexByte (a0 : List UInt8) (a1 : Int) : PureOK Tryd.prog i_strings_IndexByte [.str a0, .int .u8 a1] (.int .i64 (indexB a0 a1)) := by
  refine PureOK.fits fun hf => ?_
  have r0 := fits_str (hf (.str a0) (by simp))
  have r1 := fits_u8 (hf (.int .u8 a1) (by simp))
  exact ok_strings_IndexByte (spec_strings_IndexByte pure_internal_stringslite_IndexByte) 1000 a0 a1 (rfl)
theorem pure_sixty_Take (a0 : List UInt8) (hc : decide (List.length a0 ≤ 1000) = true) : PureOK Tryd.prog i_sixty_Take [.str a0] (.tup [.str (takeT a0), .int .i64 (takeE a0)]) := by
  refine PureOK.fits fun hf => ?_
  have r0 := fits_str (hf (.str a0) (by simp))
  have hc1 : a0.length ≤ 1000 := of_decide_eq_true hc
  exact ok_sixty_Take (spec_sixty_Take pure_sixty_Put pure_strings_TrimRight pure_strings_IndexByte) 1001 a0 (sh_sixty_Take_eq a0 hc1)
theorem sh_law4_begun_eq : sh_law4_begun 100 = some (.bool true, []) := by kernel_rfl
theorem pure_law4_begun  : PureOK Tryd.prog i_law4_begun [] (.bool true) := by
  exact ok_law4_begun (spec_law4_begun pure_sixty_Take pure_sixty_Put) 100  (sh_law4_begun_eq)
theorem put_app : ∀ (k : Nat) (x b : List UInt8), x.length = 3 * k → putS (x ++ b) = putS x ++ putS b
  | 0, x, b, h => by
    have : x = [] := List.eq_nil_of_length_eq_zero (by omega)
    subst this
    rfl
  | k + 1, [], b, h => by simp at h
  | k + 1, [_], b, h => by simp at h; omega
  | k + 1, [_, _], b, h => by simp at h; omega
  | k + 1, p :: q :: r :: x, b, h => by
    show fourS [p, q, r] ++ putS (x ++ b) = fourS [p, q, r] ++ putS x ++ putS b
    rw [put_app k x b (by simp only [List.length_cons] at h; omega), List.append_assoc]

theorem put_len : ∀ (s : List UInt8), (putS s).length ≤ 4 * s.length
  | [] => by simp [putS]
  | [a] => by simp [putS, four_len]
  | [a, b] => by simp [putS, four_len]
  | a :: b :: c :: t => by
    have := put_len t
    simp only [putS, List.length_append, four_len, List.length_cons]
    omega

theorem sh_law4_SixtyJoins_eq (N : Nat) (a b : List UInt8) : sh_law4_SixtyJoins N a b = some (.bool true, []) := by
  simp only [sh_law4_SixtyJoins, sa_law4_SixtyJoins]
  by_cases h1 : 60 < a.length
  · simp (disch := omega) only [dt, df, it, iF, bt, bf, cond_true, cond_false, map_some', chk_t, Bool.and_true, Bool.true_and, Bool.and_false, Bool.false_and, Bool.or_true, Bool.true_or, Bool.or_false, Bool.false_or, Bool.not_true, Bool.not_false, if_true, if_false, beq_self_eq_true, wrap_i64_of, wrap_u64_of, wrap_i32_of, wrap_u32_of, wrap_u8_of, tdiv_of, tmod_of, Int.toNat_natCast, List.take_length, List.drop_zero, or_true, true_or, or_false, false_or, or_self, ]
  by_cases h2 : 60 < b.length
  · simp (disch := omega) only [dt, df, it, iF, bt, bf, cond_true, cond_false, map_some', chk_t, Bool.and_true, Bool.true_and, Bool.and_false, Bool.false_and, Bool.or_true, Bool.true_or, Bool.or_false, Bool.false_or, Bool.not_true, Bool.not_false, if_true, if_false, beq_self_eq_true, wrap_i64_of, wrap_u64_of, wrap_i32_of, wrap_u32_of, wrap_u8_of, tdiv_of, tmod_of, Int.toNat_natCast, List.take_length, List.drop_zero, or_true, true_or, or_false, false_or, or_self, ]
  have e1 : Int.tdiv (a.length : Int) 3 = ((a.length / 3 : Nat) : Int) := tdiv_nat _ 3
  have e2 : IntKind.wrap .i64 (IntKind.wrap .i64 ((a.length / 3 : Nat) : Int) * 3) = ((a.length / 3 * 3 : Nat) : Int) := by rw [wrap_i64_of ((a.length / 3 : Nat) : Int) (by omega), wrap_i64_of _ (by omega)]; omega
  have hl : (a.take (a.length / 3 * 3)).length = 3 * (a.length / 3) := by rw [List.length_take]; omega
  have hj := put_app (a.length / 3) (a.take (a.length / 3 * 3)) b hl
  have p1 := put_len (a.take (a.length / 3 * 3))
  have p2 := put_len b
  simp only [e1, e2, Int.toNat_natCast, List.drop_zero, hj]
  simp (disch := omega) only [dt, df, it, iF, bt, bf, cond_true, cond_false, map_some', chk_t, Bool.and_true, Bool.true_and, Bool.and_false, Bool.false_and, Bool.or_true, Bool.true_or, Bool.or_false, Bool.false_or, Bool.not_true, Bool.not_false, if_true, if_false, beq_self_eq_true, wrap_i64_of, wrap_u64_of, wrap_i32_of, wrap_u32_of, wrap_u8_of, tdiv_of, tmod_of, Int.toNat_natCast, List.take_length, List.drop_zero, or_true, true_or, or_false, false_or, or_self, List.length_append, decide_true]
theorem pure_law4_SixtyJoins (a0 : List UInt8) (a1 : List UInt8) : PureOK Tryd.prog i_law4_SixtyJoins [.str a0, .str a1] (.bool true) := by
  refine PureOK.fits fun hf => ?_
  have r0 := fits_str (hf (.str a0) (by simp))
  have r1 := fits_str (hf (.str a1) (by simp))
  exact ok_law4_SixtyJoins (spec_law4_SixtyJoins pure_law4_begun pure_sixty_Put) 1000 a0 a1 (sh_law4_SixtyJoins_eq 1000 a0 a1)
end Go.Proofs.YtmiclamhiohemaaDoor
