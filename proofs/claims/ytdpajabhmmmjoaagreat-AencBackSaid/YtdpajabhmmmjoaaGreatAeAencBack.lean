import Derived.Test.YtdpajabhmmmjoaaGreatRows
import Derived.WalkKit
import Derived.ProofKit
import Derived.OpenShut
import Derived.ShutString
import Derived.ChangeOld
import Derived.Below
import Derived.Carry
import Derived.Test.YtdpajabhmmmjoaaGreatZ07
section
namespace Go.Proofs.YtdpajabhmmmjoaaGreat.aencBack
open Go.ChangeShapes Go.WideShapes Go.ChangeAt Go.RowKit Go.AM
open Go.ChangeMaps (open_string shut_string)
set_option linter.unusedVariables false
set_option linter.unusedSimpArgs false
theorem own:ownKnob Tryz.prog.godebug=none:=by kernel_rfl
theorem laidOut:laidOutB Tryz.prog=true:=by kernel_rfl
theorem walk(w:World)(v0:Value)(x0:List UInt8)(v1:Value)(x1:List UInt8)(v2:Value)(x2:List UInt8)(w0:VRel (pV w).I id 0 w (.sl .u8 (.may false) x0) v0)(w1:VRel (pV w).I id 0 w (.sl .u8 (.may false) x1) v1)(w2:VRel (pV w).I id 0 w (.sl .u8 (.may false) x2) v2):
  Calls Tryz.prog 3 #[v0,v1,v2] w fun e w'=>e=.returned (.bool true)∧Below w.heap.size w w':=by
 refine aBd (awi x0 x1 x2) (by simp) (by simp[V.bare]) ?_
 intro i x cv hx hcv
 match i,hx,hcv with
 |0,hx,hcv=>simp at hx hcv;subst hx hcv;exact w0
 |1,hx,hcv=>simp at hx hcv;subst hx hcv;exact w1
 |2,hx,hcv=>simp at hx hcv;subst hx hcv;exact w2
 |(i+3),hx,hcv=>simp at hx
set_option maxRecDepth 100000 in
theorem lifted(os:Os)(started:os.Started)(H:Type)(enc:TypeId×Value→H):
  ReturnsInHanded {} Tryz.checked os 3 .any (Rows.aencBackSpec.pre6 enc Tryz.prog Tryz.f3 Rows.aencBackRow.domain false) (Rows.aencBackSpec.post enc Tryz.prog Tryz.f3 false true false false):=by
 refine returnsInHanded_of_change (C:=Tryz.checked) own started (by kernel_rfl) Tryz.func3
  (ChangeSpec.witness6 (enc:=enc) (C:=Tryz.checked) false ⟨#[], #[.slice none 0 0,.slice none 0 0,.slice none 0 0],[]⟩ 8 (by kernel_rfl) (by kernel_rfl) (by kernel_rfl) (by kernel_rfl)) ?_
 intro W base args ds gs before hval0 hW hcnd _
 have hval:∀(j:Nat) t v,Tryz.f3.params[j]? =some t→args[j]? =some v→Value.okWide Tryz.prog W .any base t v:=hval0
 have hW':=hW
 obtain⟨p,q,hA0,hV,rfl,hfz,hnd⟩:=hW
 have hA:DataW.TrodAll enc Tryz.prog W 0 (fun _=>true) true Tryz.f3.params.toList args.toList ds p:=hA0
 rw[Tryz.params3] at hA hval
 obtain⟨v0,vs0,d0,ds0,p0,q0,hargs,rfl,rfl,h0,r0⟩:=trodAll_cons hA
 obtain⟨v1,vs1,d1,ds1,p1,q1,rfl,rfl,rfl,h1,r1⟩:=trodAll_cons r0
 obtain⟨v2,vs2,d2,ds2,p2,q2,rfl,rfl,rfl,h2,r2⟩:=trodAll_cons r1
 obtain⟨rfl,rfl,rfl⟩:=trodAll_nil r2
 obtain rfl:args= #[v0,v1,v2]:=by cases args;simp_all
 obtain⟨rfl,rfl⟩:=trodVars_none hV
 obtain⟨x0,w0⟩:=ajb (hval 0 22 v0 rfl rfl) h0
 obtain⟨x1,w1⟩:=ajb (hval 1 22 v1 rfl rfl) h1
 obtain⟨x2,w2⟩:=ajb (hval 2 22 v2 rfl rfl) h2
 clear hA0 hval0
 refine(walk W v0 x0 v1 x1 v2 x2 w0 w1 w2).mono fun e W' ⟨he,bel⟩=>?_
 subst he
 exact⟨_,rfl,_,_,_,[],_,[],hW',trodAll_mk1 (shut_bool Tryz.underlying4 _),(trodAll_cons_mk (Below.trod laidOut (by kernel_rfl) (of_decide_eq_true (by kernel_rfl)) h0 bel (fun x hx=>hW'.lt x (by simp[hx]))) (trodAll_cons_mk (Below.trod laidOut (by kernel_rfl) (of_decide_eq_true (by kernel_rfl)) h1 bel (fun x hx=>hW'.lt x (by simp[hx]))) (trodAll_cons_mk (Below.trod laidOut (by kernel_rfl) (of_decide_eq_true (by kernel_rfl)) h2 bel (fun x hx=>hW'.lt x (by simp[hx]))) trodAll_mk0))),rfl,bel.frame _,fun h=>by cases h⟩
theorem over:Rows.aencBackRow.holds Tryz.pinned (OpenSpec.ofChange Rows.aencBackSpec):=
 OpenClaim.holds_of_wide 3 Tryz.f3 rfl rfl rfl rfl rfl rfl rfl ⟨rfl,rfl,rfl,rfl,rfl⟩ rfl rfl rfl rfl rfl (by kernel_rfl) Tryz.func3 (by kernel_rfl)
  (of_decide_eq_true (by kernel_rfl)) (by unfold Func.isWrapper;first|(rw[if_pos (by decide+kernel)];kernel_rfl)|(rw[if_neg (by decide+kernel)];exact⟨rfl,rfl⟩))
  (fun os started H enc _=>lifted os started H enc)
theorem proved:Rows.AencBackSaid:=over
end Go.Proofs.YtdpajabhmmmjoaaGreat.aencBack
end
