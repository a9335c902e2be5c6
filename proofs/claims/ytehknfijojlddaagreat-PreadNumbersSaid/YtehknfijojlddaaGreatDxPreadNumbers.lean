/-
  The statement 'PreadNumbers' of its law: whatever the arguments, the call returns true and they read as they did. No condition.
-/
import Derived.Test.YtehknfijojlddaaGreatRows
import Derived.Test.YtehknfijojlddaaGreatDsPreadNumbers
import Derived.Test.YtehknfijojlddaaGreatDrPreadNumbers
import Derived.Test.YtehknfijojlddaaGreatPrSig
import Derived.WalkKit
import Derived.ProofKit
import Derived.OpenShut
import Derived.ShutString
import Derived.ChangeOld
import Derived.Below
import Derived.Carry
namespace Go.Proofs.YtehknfijojlddaaGreat.preadNumbers
open Go.ChangeShapes Go.WideShapes Go.ChangeAt Go.RowKit
open Go.ChangeMaps (open_string shut_string)
set_option linter.unusedVariables false
set_option linter.unusedSimpArgs false

theorem own : ownKnob Tryz.prog.godebug = none := by kernel_rfl


theorem rel2 {g : Go.DM.Gh} {x y : Go.DM.D} {c d : Value} (h1 : Go.DM.VRel g x c) (h2 : Go.DM.VRel g y d) : ∀ (i : Nat) x' cv, [x, y][i]? = some x' → #[c, d][i]? = some cv → Go.DM.VRel g x' cv := by
  intro i x' cv hx hcv
  match i, hx, hcv with
  | 0, hx, hcv => simp at hx hcv; subst hx hcv; exact h1
  | 1, hx, hcv => simp at hx hcv; subst hx hcv; exact h2
  | (i + 2), hx, hcv => simp at hx
theorem rel_sym {g : Go.DM.Gh} {k : IntKind} {i : Nat} {n : Int} (h : g.s.1 i = n) (hn : k.min ≤ n ∧ n ≤ k.max) : Go.DM.VRel g (.sym k i) (.int k n) := by
  subst h
  exact .sym k i hn

theorem walk (w : World) (a0 : Int) (a1 : Int) (w0 : (Lit.int .i32 a0).wf = true) (w1 : (Lit.int .i64 a1).wf = true) :
    Calls Tryz.prog 3 #[.int .i32 a0, .int .i64 a1] w fun e w' => e = .returned (.bool true) ∧ Below w.heap.size w w' := by
  have r0 : IntKind.i32.min ≤ a0 ∧ a0 ≤ IntKind.i32.max := by simpa [Lit.wf] using w0
  have r1 : IntKind.i64.min ≤ a1 ∧ a1 ≤ IntKind.i64.max := by simpa [Lit.wf] using w1
  have ha : -2147483648 ≤ a0 ∧ a0 ≤ 2147483647 := r0
  have hb : -9223372036854775808 ≤ a1 ∧ a1 ≤ 9223372036854775807 := r1
  by_cases z0 : a0 = 0
  · by_cases z1 : a1 = 0
    · subst z0 z1
      exact Go.DM.closedYA ts_ok Go.DM.yB_ok ev3 (Go.DM.sig 1 1 (by decide) (by decide) (by decide) (by decide)) w _ rfl fun g hs => rel2 (.int _ _ r0) (.int _ _ r1)
    · subst z0
      exact Go.DM.closedYA ts_ok Go.DM.yB_ok ev1 (Go.DM.sig 1 a1 (by decide) hb (by decide) z1) w _ rfl fun g hs => rel2 (.int _ _ r0) (rel_sym (by rw [hs]; rfl) r1)
  · by_cases z1 : a1 = 0
    · subst z1
      exact Go.DM.closedYA ts_ok Go.DM.yB_ok ev2 (Go.DM.sig a0 1 ha (by decide) z0 (by decide)) w _ rfl fun g hs => rel2 (rel_sym (by rw [hs]; rfl) r0) (.int _ _ r1)
    · exact Go.DM.closedYA ts_ok Go.DM.yB_ok ev0 (Go.DM.sig a0 a1 ha hb z0 z1) w _ rfl fun g hs => rel2 (rel_sym (by rw [hs]; rfl) r0) (rel_sym (by rw [hs]; rfl) r1)

set_option maxRecDepth 100000 in
theorem lifted (os : Os) (started : os.Started) (H : Type) (enc : TypeId × Value → H) :
    ReturnsInHanded {} Tryz.checked os 3 .any (Rows.preadNumbersSpec.pre6 enc Tryz.prog Tryz.f3 Rows.preadNumbersRow.domain false) (Rows.preadNumbersSpec.post enc Tryz.prog Tryz.f3 false true false false) := by
  refine returnsInHanded_of_change (C := Tryz.checked) own started (by kernel_rfl) Tryz.func3
    (ChangeSpec.witness6 (enc := enc) (C := Tryz.checked) false ⟨#[], #[.int .i32 0, .int .i64 0], []⟩ 8 (by kernel_rfl) (by kernel_rfl) (by kernel_rfl) (by kernel_rfl)) ?_
  intro W base args ds gs before hval0 hW hcnd _
  have hval : ∀ (j : Nat) t v, Tryz.f3.params[j]? = some t → args[j]? = some v → Value.okWide Tryz.prog W .any base t v := hval0
  have hW' := hW
  obtain ⟨p, q, hA0, hV, rfl, hfz, hnd⟩ := hW
  have hA : DataW.TrodAll enc Tryz.prog W 0 (fun _ => true) true Tryz.f3.params.toList args.toList ds p := hA0
  rw [Tryz.params3] at hA hval
  obtain ⟨v0, vs0, d0, ds0, p0, q0, hargs, rfl, rfl, h0, r0⟩ := trodAll_cons hA
  obtain ⟨v1, vs1, d1, ds1, p1, q1, rfl, rfl, rfl, h1, r1⟩ := trodAll_cons r0
  obtain ⟨rfl, rfl, rfl⟩ := trodAll_nil r1
  obtain rfl : args = #[v0, v1] := by cases args; simp_all
  obtain ⟨rfl, rfl⟩ := trodVars_none hV
  obtain ⟨a0, rfl, rfl, rfl, w0⟩ := open_int Tryz.underlying21 (hval 0 21 v0 rfl rfl) h0
  obtain ⟨a1, rfl, rfl, rfl, w1⟩ := open_int Tryz.underlying2 (hval 1 2 v1 rfl rfl) h1
  clear hA0 hval0
  refine (walk W a0 a1 w0 w1).mono fun e W' ⟨he, bel⟩ => ?_
  subst he
  exact ⟨_, rfl, _, _, _, [], _, [], hW', trodAll_mk1 (shut_bool Tryz.underlying4 _), (trodAll_cons_mk (shut_int Tryz.underlying21 w0) (trodAll_cons_mk (shut_int Tryz.underlying2 w1) trodAll_mk0)), rfl, bel.frame _, fun h => by cases h⟩

theorem over : Rows.preadNumbersRow.holds Tryz.pinned (OpenSpec.ofChange Rows.preadNumbersSpec) :=
  OpenClaim.holds_of_wide 3 Tryz.f3 rfl rfl rfl rfl rfl rfl rfl ⟨rfl, rfl, rfl, rfl, rfl⟩ rfl rfl rfl rfl rfl (by kernel_rfl) Tryz.func3 (by kernel_rfl)
    (of_decide_eq_true (by kernel_rfl)) (by unfold Func.isWrapper; first | (rw [if_pos (by decide +kernel)]; kernel_rfl) | (rw [if_neg (by decide +kernel)]; exact ⟨rfl, rfl⟩))
    (fun os started H enc _ => lifted os started H enc)

/-- the statement -/
theorem proved : Rows.PreadNumbersSaid := over
end Go.Proofs.YtehknfijojlddaaGreat.preadNumbers
