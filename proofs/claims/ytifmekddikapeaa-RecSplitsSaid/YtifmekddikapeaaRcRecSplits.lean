/-
  The statement 'RecSplits' of its law: whatever the arguments, the call returns true and they read as they did. No condition.
-/
import Derived.Test.YtifmekddikapeaaRows
import Derived.Test.YtifmekddikapeaaRcOkSplits
import Derived.Test.YtifmekddikapeaaRcOpen
import Derived.WalkKit
import Derived.ProofKit
import Derived.OpenShut
import Derived.ShutString
import Derived.ChangeOld
import Derived.Below
namespace Go.Proofs.Ytifmekddikapeaa.recSplits
open Go.ChangeShapes Go.WideShapes Go.ChangeAt Go.RowKit Go.AM
open Go.ChangeMaps (open_string shut_string)
set_option linter.unusedVariables false
set_option linter.unusedSimpArgs false

theorem own : ownKnob Try.prog.godebug = none := by kernel_rfl

theorem walk (a0 : ByteArray) (a1_0 : Int) (a1_1 : Int) (a1_2 : Int) (a1_3 : ByteArray) (a1_4 : ByteArray) (w : World) (w0 : a0.size ≤ maxLen) (w1_0 : (Lit.int .i64 a1_0).wf = true) (w1_1 : (Lit.int .i64 a1_1).wf = true) (w1_2 : (Lit.int .u64 a1_2).wf = true) (w1_3 : a1_3.size ≤ maxLen) (w1_4 : a1_4.size ≤ maxLen) :
    Calls Try.prog 4 #[.string a0, .agg #[.int .i64 a1_0, .int .i64 a1_1, .int .u64 a1_2, .string a1_3, .string a1_4]] w fun e w' => e = .returned (.bool true) ∧ Below w.heap.size w w' := by
  refine law_calls (pure_law1_RecSplits a0.data.toList a1_0 a1_1 a1_2 a1_3.data.toList a1_4.data.toList) (by simp) (by simp [V.bare]) ?_
  intro i x cv hx hcv
  match i, hx, hcv with
  | 0, hx, hcv => simp at hx hcv; subst hx hcv; exact arg_str a0 w0
  | 1, hx, hcv => simp at hx hcv; subst hx hcv; exact .agg _ _ rfl (by simp [V.one]) (by
      intro j c cv hc hv
      match j, hc, hv with
      | 0, hc, hv => simp at hc hv; subst hc hv; trivial
      | 1, hc, hv => simp at hc hv; subst hc hv; trivial
      | 2, hc, hv => simp at hc hv; subst hc hv; trivial
      | 3, hc, hv => simp at hc hv; subst hc hv; trivial
      | 4, hc, hv => simp at hc hv; subst hc hv; trivial
      | (j + 5), hc, hv => simp at hc) (by
      intro j c cv hc hv
      match j, hc, hv with
      | 0, hc, hv => simp at hc hv; subst hc hv; exact arg_int .i64 a1_0 w1_0
      | 1, hc, hv => simp at hc hv; subst hc hv; exact arg_int .i64 a1_1 w1_1
      | 2, hc, hv => simp at hc hv; subst hc hv; exact arg_int .u64 a1_2 w1_2
      | 3, hc, hv => simp at hc hv; subst hc hv; exact arg_str a1_3 w1_3
      | 4, hc, hv => simp at hc hv; subst hc hv; exact arg_str a1_4 w1_4
      | (j + 5), hc, hv => simp at hc)
  | (i + 2), hx, hcv => simp at hx

set_option maxRecDepth 100000 in
theorem lifted (os : Os) (started : os.Started) (H : Type) (enc : TypeId × Value → H) :
    ReturnsInHanded {} Try.checked os 4 .any (Rows.recSplitsSpec.pre6 enc Try.prog Try.f4 Rows.recSplitsRow.domain false) (Rows.recSplitsSpec.post enc Try.prog Try.f4 false true false false) := by
  refine returnsInHanded_of_change (C := Try.checked) own started (by kernel_rfl) Try.func4
    (ChangeSpec.witness6 (enc := enc) (C := Try.checked) false ⟨#[], #[.string ByteArray.empty, .agg #[.int .i64 0, .int .i64 0, .int .u64 0, .string ByteArray.empty, .string ByteArray.empty]], []⟩ 8 (by kernel_rfl) (by kernel_rfl) (by kernel_rfl) (by kernel_rfl)) ?_
  intro W base args ds gs before hval0 hW hcnd _
  have hval : ∀ (j : Nat) t v, Try.f4.params[j]? = some t → args[j]? = some v → Value.okWide Try.prog W .any base t v := hval0
  have hW' := hW
  obtain ⟨p, q, hA0, hV, rfl, hfz, hnd⟩ := hW
  have hA : DataW.TrodAll enc Try.prog W 0 (fun _ => true) true Try.f4.params.toList args.toList ds p := hA0
  rw [Try.params4] at hA hval
  obtain ⟨v0, vs0, d0, ds0, p0, q0, hargs, rfl, rfl, h0, r0⟩ := trodAll_cons hA
  obtain ⟨v1, vs1, d1, ds1, p1, q1, rfl, rfl, rfl, h1, r1⟩ := trodAll_cons r0
  obtain ⟨rfl, rfl, rfl⟩ := trodAll_nil r1
  obtain rfl : args = #[v0, v1] := by cases args; simp_all
  obtain ⟨rfl, rfl⟩ := trodVars_none hV
  obtain ⟨a0, rfl, rfl, rfl, w0⟩ := open_string Try.underlying9 (hval 0 9 v0 rfl rfl) h0
  obtain ⟨a1_0, a1_1, a1_2, a1_3, a1_4, rfl, rfl, w1_0, w1_1, w1_2, w1_3, w1_4⟩ := open_record (hval 1 30 v1 rfl rfl) h1
  clear hA0 hval0
  refine (walk a0 a1_0 a1_1 a1_2 a1_3 a1_4 W w0 w1_0 w1_1 w1_2 w1_3 w1_4).mono fun e W' ⟨he, bel⟩ => ?_
  subst he
  exact ⟨_, rfl, _, _, _, [], _, [], hW', trodAll_mk1 (shut_bool Try.underlying4 _), (trodAll_cons_mk (shut_string Try.underlying9 w0) (trodAll_cons_mk (Go.WideElems.Trod_stays (t := 30) (by kernel_rfl) (by kernel_rfl) (of_decide_eq_true (by kernel_rfl)) h1 (by simp) (by simp)) trodAll_mk0)), rfl, bel.frame _, fun h => by cases h⟩

theorem over : Rows.recSplitsRow.holds Try.pinned (OpenSpec.ofChange Rows.recSplitsSpec) :=
  OpenClaim.holds_of_wide 4 Try.f4 rfl rfl rfl rfl rfl rfl rfl ⟨rfl, rfl, rfl, rfl, rfl⟩ rfl rfl rfl rfl rfl (by kernel_rfl) Try.func4 (by kernel_rfl)
    (of_decide_eq_true (by kernel_rfl)) (by unfold Func.isWrapper; first | (rw [if_pos (by decide +kernel)]; kernel_rfl) | (rw [if_neg (by decide +kernel)]; exact ⟨rfl, rfl⟩))
    (fun os started H enc _ => lifted os started H enc)

/-- the statement -/
theorem proved : Rows.RecSplitsSaid := over
end Go.Proofs.Ytifmekddikapeaa.recSplits
