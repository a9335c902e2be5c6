import Derived.Test.YtdpajabhmmmjoaaRows
import Derived.WalkKit
import Derived.ProofKit
import Derived.OpenShut
import Derived.ShutString
import Derived.ChangeOld
import Derived.Below
import Derived.Carry
import Derived.Test.YtdpajabhmmmjoaaZ03
import Derived.Test.YtdpajabhmmmjoaaZ08
namespace Go.Proofs.Ytdpajabhmmmjoaa.avalAll
open Go.ChangeShapes Go.WideShapes Go.ChangeAt Go.RowKit Go.AM
open Go.ChangeMaps (open_string shut_string)
set_option linter.unusedVariables false
set_option linter.unusedSimpArgs false
theorem own : ownKnob Try.prog.godebug = none := by kernel_rfl
theorem laidOut : laidOutB Try.prog = true := by kernel_rfl
theorem walk (w : World) (v0 : Value) (x0 : List UInt8) (v1 : Value) (n1 : Int) (s1 : List UInt8) (l1 : List ab) (k1 : List (List UInt8)) (b1 : Int) (v2 : Value) (n2 : Int) (s2 : List UInt8) (l2 : List ab) (k2 : List (List UInt8)) (b2 : Int) (a3 : Int) (w0 : VRel (dM w).I id 0 w (.sl .u8 (.may false) x0) v0) (w1 : VRel (dM w).I id 0 w (.agg [.int .u64 n1, .str s1, .sl .aval (.may false) l1, .sl .str (.may false) k1, .int .i64 b1]) v1) (w2 : VRel (dM w).I id 0 w (.agg [.int .u64 n2, .str s2, .sl .aval (.may false) l2, .sl .str (.may false) k2, .int .i64 b2]) v2) (w3 : (Lit.int .i64 a3).wf = true) :
  Calls Try.prog 4 #[v0, v1, v2, .int .i64 a3] w fun e w' => e = .returned (.bool true) ∧ Below w.heap.size w w' := by
 refine aC8 (aBf x0 n1 s1 l1 k1 b1 n2 s2 l2 k2 b2 a3) (by simp) (by simp [V.bare]) ?_
 intro i x cv hx hcv
 match i, hx, hcv with
 | 0, hx, hcv => simp at hx hcv; subst hx hcv; exact w0
 | 1, hx, hcv => simp at hx hcv; subst hx hcv; exact w1
 | 2, hx, hcv => simp at hx hcv; subst hx hcv; exact w2
 | 3, hx, hcv => simp at hx hcv; subst hx hcv; exact auD .i64 a3 w3
 | (i + 4), hx, hcv => simp at hx
set_option maxRecDepth 100000 in
theorem lifted (os : Os) (started : os.Started) (H : Type) (enc : TypeId × Value → H) :
  ReturnsInHanded {} Try.checked os 4 .any (Rows.avalAllSpec.pre6 enc Try.prog Try.f4 Rows.avalAllRow.domain false) (Rows.avalAllSpec.post enc Try.prog Try.f4 false true false false) := by
 refine returnsInHanded_of_change (C := Try.checked) own started (by kernel_rfl) Try.func4
  (ChangeSpec.witness6 (enc := enc) (C := Try.checked) false ⟨#[], #[.slice none 0 0, .agg #[.int .u64 0, .string ByteArray.empty, .slice none 0 0, .slice none 0 0, .int .i64 0], .agg #[.int .u64 0, .string ByteArray.empty, .slice none 0 0, .slice none 0 0, .int .i64 0], .int .i64 0], []⟩ 8 (by kernel_rfl) (by kernel_rfl) (by kernel_rfl) (by kernel_rfl)) ?_
 intro W base args ds gs before hval0 hW hcnd _
 have hval : ∀ (j : Nat) t v, Try.f4.params[j]? = some t → args[j]? = some v → Value.okWide Try.prog W .any base t v := hval0
 have hW' := hW
 obtain ⟨p, q, hA0, hV, rfl, hfz, hnd⟩ := hW
 have hA : DataW.TrodAll enc Try.prog W 0 (fun _ => true) true Try.f4.params.toList args.toList ds p := hA0
 rw [Try.params4] at hA hval
 obtain ⟨v0, vs0, d0, ds0, p0, q0, hargs, rfl, rfl, h0, r0⟩ := trodAll_cons hA
 obtain ⟨v1, vs1, d1, ds1, p1, q1, rfl, rfl, rfl, h1, r1⟩ := trodAll_cons r0
 obtain ⟨v2, vs2, d2, ds2, p2, q2, rfl, rfl, rfl, h2, r2⟩ := trodAll_cons r1
 obtain ⟨v3, vs3, d3, ds3, p3, q3, rfl, rfl, rfl, h3, r3⟩ := trodAll_cons r2
 obtain ⟨rfl, rfl, rfl⟩ := trodAll_nil r3
 obtain rfl : args = #[v0, v1, v2, v3] := by cases args; simp_all
 obtain ⟨rfl, rfl⟩ := trodVars_none hV
 obtain ⟨x0, w0⟩ := aCF (hval 0 22 v0 rfl rfl) h0
 obtain ⟨n1, s1, l1, k1, b1, w1⟩ := aAn (hval 1 37 v1 rfl rfl) h1
 obtain ⟨n2, s2, l2, k2, b2, w2⟩ := aAn (hval 2 37 v2 rfl rfl) h2
 obtain ⟨a3, rfl, rfl, rfl, w3⟩ := open_int Try.underlying3 (hval 3 3 v3 rfl rfl) h3
 clear hA0 hval0
 refine (walk W v0 x0 v1 n1 s1 l1 k1 b1 v2 n2 s2 l2 k2 b2 a3 w0 w1 w2 w3).mono fun e W' ⟨he, bel⟩ => ?_
 subst he
 exact ⟨_, rfl, _, _, _, [], _, [], hW', trodAll_mk1 (shut_bool Try.underlying4 _), (trodAll_cons_mk (Below.trod laidOut (by kernel_rfl) (of_decide_eq_true (by kernel_rfl)) h0 bel (fun x hx => hW'.lt x (by simp [hx]))) (trodAll_cons_mk (Below.trod laidOut (by kernel_rfl) (of_decide_eq_true (by kernel_rfl)) h1 bel (fun x hx => hW'.lt x (by simp [hx]))) (trodAll_cons_mk (Below.trod laidOut (by kernel_rfl) (of_decide_eq_true (by kernel_rfl)) h2 bel (fun x hx => hW'.lt x (by simp [hx]))) (trodAll_cons_mk (shut_int Try.underlying3 w3) trodAll_mk0)))), rfl, bel.frame _, fun h => by cases h⟩
theorem over : Rows.avalAllRow.holds Try.pinned (OpenSpec.ofChange Rows.avalAllSpec) :=
 OpenClaim.holds_of_wide 4 Try.f4 rfl rfl rfl rfl rfl rfl rfl ⟨rfl, rfl, rfl, rfl, rfl⟩ rfl rfl rfl rfl rfl (by kernel_rfl) Try.func4 (by kernel_rfl)
  (of_decide_eq_true (by kernel_rfl)) (by unfold Func.isWrapper; first | (rw [if_pos (by decide +kernel)]; kernel_rfl) | (rw [if_neg (by decide +kernel)]; exact ⟨rfl, rfl⟩))
  (fun os started H enc _ => lifted os started H enc)
theorem proved : Rows.AvalAllSaid := over
end Go.Proofs.Ytdpajabhmmmjoaa.avalAll
