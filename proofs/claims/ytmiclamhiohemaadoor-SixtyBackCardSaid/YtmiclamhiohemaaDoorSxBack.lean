/-
  SixtyBack: bytes come back.
-/
import Derived.Test.YtmiclamhiohemaaDoorSxTake
import Derived.Test.YtmiclamhiohemaaDoorSxCode2
namespace Go.Proofs.YtmiclamhiohemaaDoor
open Go.AM
set_option autoImplicit false
set_option linter.unusedSimpArgs false
set_option linter.unusedVariables false

theorem take_vals_some (t o : List UInt8) (h : takeR t = some o) : takeT t = o ∧ takeE t = 0 := by
  unfold takeT takeE
  rw [h]
  exact ⟨rfl, rfl⟩

theorem take_vals_none (t : List UInt8) (h : takeR t = none) : takeT t = [] ∧ takeE t = 2 := by
  unfold takeT takeE
  rw [h]
  exact ⟨rfl, rfl⟩

theorem sh_law4_SixtyBack_eq (N : Nat) (s : List UInt8) (at' to : Int) (h1 : 0 ≤ at' ∧ at' ≤ 255) (h2 : 0 ≤ to ∧ to ≤ 255) : (sh_law4_SixtyBack N s at' to).map (·.1) = some (.bool true) := by
  simp only [sh_law4_SixtyBack, sa_law4_SixtyBack]
  by_cases g1 : 60 < s.length
  · simp (disch := omega) only [dt, df, it, iF, bt, bf, cond_true, cond_false, map_some', chk_t, Bool.and_true, Bool.true_and, Bool.and_false, Bool.false_and, Bool.or_true, Bool.true_or, Bool.or_false, Bool.false_or, Bool.not_true, Bool.not_false, if_true, if_false, beq_self_eq_true, wrap_i64_of, wrap_u64_of, wrap_i32_of, wrap_u32_of, wrap_u8_of, tdiv_of, tmod_of, Int.toNat_natCast, List.take_length, List.drop_zero, or_true, true_or, or_false, false_or, or_self, ]
  obtain ⟨e1, e2⟩ := take_vals_some _ _ (take_put s)
  have hl := put_length s
  obtain ⟨q, rfl⟩ : ∃ q : Nat, at' = (q : Int) := ⟨at'.toNat, by omega⟩
  have w1 : IntKind.wrap .i64 (q : Int) = (q : Int) := wrap_i64_of _ (by omega)
  have w2 : IntKind.wrap .i64 ((s.length : Int) + 2) = ((s.length + 2 : Nat) : Int) := by rw [wrap_i64_of _ (by omega)]; rfl
  have w3 : Int.tdiv ((s.length + 2 : Nat) : Int) 3 = (((s.length + 2) / 3 : Nat) : Int) := tdiv_nat _ 3
  have w4 : IntKind.wrap .i64 (IntKind.wrap .i64 (((s.length + 2) / 3 : Nat) : Int) * 4) = (((s.length + 2) / 3 * 4 : Nat) : Int) := by rw [wrap_i64_of (((s.length + 2) / 3 : Nat) : Int) (by omega), wrap_i64_of _ (by omega)]; omega
  have w5 : (((putS s).length : Int) == (((s.length + 2) / 3 * 4 : Nat) : Int)) = true := bt (by omega)
  simp only [e1, e2, w1, w2, w3, w4, w5]
  by_cases g2 : (putS s).length = 0
  · simp (disch := omega) only [dt, df, it, iF, bt, bf, cond_true, cond_false, map_some', chk_t, Bool.and_true, Bool.true_and, Bool.and_false, Bool.false_and, Bool.or_true, Bool.true_or, Bool.or_false, Bool.false_or, Bool.not_true, Bool.not_false, if_true, if_false, beq_self_eq_true, wrap_i64_of, wrap_u64_of, wrap_i32_of, wrap_u32_of, wrap_u8_of, tdiv_of, tmod_of, Int.toNat_natCast, List.take_length, List.drop_zero, or_true, true_or, or_false, false_or, or_self, decide_true]
  have hn : q % (putS s).length < (putS s).length := Nat.mod_lt _ (by omega)
  have w6 : Int.tmod (q : Int) ((putS s).length : Int) = ((q % (putS s).length : Nat) : Int) := tmod_nat _ _
  simp only [w6, Int.toNat_natCast]
  generalize q % (putS s).length = n at hn
  have tk : List.take (putS s).length ((putS s).set n (UInt8.ofNat to.toNat)) = (putS s).set n (UInt8.ofNat to.toNat) := List.take_of_length_le (by simp)
  have tl : ((putS s).set n (UInt8.ofNat to.toNat)).length = (putS s).length := by simp
  simp only [tk]
  generalize (putS s).set n (UInt8.ofNat to.toNat) = t at tl ⊢
  cases ht : takeR t with
  | none =>
    obtain ⟨e3, e4⟩ := take_vals_none _ ht
    simp only [e3, e4]
    simp (disch := omega) only [dt, df, it, iF, bt, bf, cond_true, cond_false, map_some', chk_t, Bool.and_true, Bool.true_and, Bool.and_false, Bool.false_and, Bool.or_true, Bool.true_or, Bool.or_false, Bool.false_or, Bool.not_true, Bool.not_false, if_true, if_false, beq_self_eq_true, wrap_i64_of, wrap_u64_of, wrap_i32_of, wrap_u32_of, wrap_u8_of, tdiv_of, tmod_of, Int.toNat_natCast, List.take_length, List.drop_zero, or_true, true_or, or_false, false_or, or_self, decide_true]
  | some c =>
    obtain ⟨e3, e4⟩ := take_vals_some _ _ ht
    have hp := take_some t c ht
    have hcl := put_length c
    rw [hp] at hcl
    have hx : (decide (c = s) == decide (t = putS s)) = true := by
      by_cases hc : c = s
      · have : t = putS s := by rw [← hp, hc]
        simp [hc, this]
      · have : ¬ t = putS s := by
          intro h
          rw [h, take_put] at ht
          exact hc (Option.some.inj ht).symm
        simp [hc, this]
    simp only [e3, e4, hp, hx]
    simp (disch := omega) only [dt, df, it, iF, bt, bf, cond_true, cond_false, map_some', chk_t, Bool.and_true, Bool.true_and, Bool.and_false, Bool.false_and, Bool.or_true, Bool.true_or, Bool.or_false, Bool.false_or, Bool.not_true, Bool.not_false, if_true, if_false, beq_self_eq_true, wrap_i64_of, wrap_u64_of, wrap_i32_of, wrap_u32_of, wrap_u8_of, tdiv_of, tmod_of, Int.toNat_natCast, List.take_length, List.drop_zero, or_true, true_or, or_false, false_or, or_self, decide_true]
end Go.Proofs.YtmiclamhiohemaaDoor
