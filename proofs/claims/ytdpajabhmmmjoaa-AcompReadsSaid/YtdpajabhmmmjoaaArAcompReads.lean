import Derived.Test.YtdpajabhmmmjoaaRows
import Derived.WalkKit
import Derived.ProofKit
import Derived.OpenShut
import Derived.ShutString
import Derived.ChangeOld
import Derived.Below
import Derived.Carry
import Derived.Test.YtdpajabhmmmjoaaZ07
section
namespace Go.Proofs.Ytdpajabhmmmjoaa.acompReads
open Go.ChangeShapes Go.WideShapes Go.ChangeAt Go.RowKit Go.AM
open Go.ChangeMaps (open_string shut_string)
set_option linter.unusedVariables false
set_option linter.unusedSimpArgs false
theorem own:ownKnob Try.prog.godebug=none:=by kernel_rfl
theorem laidOut:laidOutB Try.prog=true:=by kernel_rfl
theorem walk(w:World)(v0:Value)(x0:List UInt8)(v1:Value)(x1:List UInt8)(w0:VRel (uj w).I id 0 w (.sl .u8 (.may false) x0) v0)(w1:VRel (uj w).I id 0 w (.sl .u8 (.may false) x1) v1):
  Calls Try.prog 8 #[v0,v1] w fun e w'=>e=.returned (.bool true)∧Below w.heap.size w w':=by
 refine azM (arC x0 x1) (by simp) (by simp[V.bare]) ?_
 intro i x cv hx hcv
 match i,hx,hcv with
 |0,hx,hcv=>simp at hx hcv;subst hx hcv;exact w0
 |1,hx,hcv=>simp at hx hcv;subst hx hcv;exact w1
 |(i+2),hx,hcv=>simp at hx
set_option maxRecDepth 100000 in
theorem lifted(os:Os)(started:os.Started)(H:Type)(enc:TypeId×Value→H):
  ReturnsInHanded {} Try.checked os 8 .any (Rows.acompReadsSpec.pre6 enc Try.prog Try.f8 Rows.acompReadsRow.domain false) (Rows.acompReadsSpec.post enc Try.prog Try.f8 false true false false):=by
 refine returnsInHanded_of_change (C:=Try.checked) own started (by kernel_rfl) Try.func8
  (ChangeSpec.witness6 (enc:=enc) (C:=Try.checked) false ⟨#[], #[.slice none 0 0,.slice none 0 0],[]⟩ 8 (by kernel_rfl) (by kernel_rfl) (by kernel_rfl) (by kernel_rfl)) ?_
 intro W base args ds gs before hval0 hW hcnd _
 have hval:∀(j:Nat) t v,Try.f8.params[j]? =some t→args[j]? =some v→Value.okWide Try.prog W .any base t v:=hval0
 have hW':=hW
 obtain⟨p,q,hA0,hV,rfl,hfz,hnd⟩:=hW
 have hA:DataW.TrodAll enc Try.prog W 0 (fun _=>true) true Try.f8.params.toList args.toList ds p:=hA0
 rw[Try.params8] at hA hval
 obtain⟨v0,vs0,d0,ds0,p0,q0,hargs,rfl,rfl,h0,r0⟩:=trodAll_cons hA
 obtain⟨v1,vs1,d1,ds1,p1,q1,rfl,rfl,rfl,h1,r1⟩:=trodAll_cons r0
 obtain⟨rfl,rfl,rfl⟩:=trodAll_nil r1
 obtain rfl:args= #[v0,v1]:=by cases args;simp_all
 obtain⟨rfl,rfl⟩:=trodVars_none hV
 obtain⟨x0,w0⟩:=arD (hval 0 22 v0 rfl rfl) h0
 obtain⟨x1,w1⟩:=arD (hval 1 22 v1 rfl rfl) h1
 clear hA0 hval0
 refine(walk W v0 x0 v1 x1 w0 w1).mono fun e W' ⟨he,bel⟩=>?_
 subst he
 exact⟨_,rfl,_,_,_,[],_,[],hW',trodAll_mk1 (shut_bool Try.underlying4 _),(trodAll_cons_mk (Below.trod laidOut (by kernel_rfl) (of_decide_eq_true (by kernel_rfl)) h0 bel (fun x hx=>hW'.lt x (by simp[hx]))) (trodAll_cons_mk (Below.trod laidOut (by kernel_rfl) (of_decide_eq_true (by kernel_rfl)) h1 bel (fun x hx=>hW'.lt x (by simp[hx]))) trodAll_mk0)),rfl,bel.frame _,fun h=>by cases h⟩
theorem over:Rows.acompReadsRow.holds Try.pinned (OpenSpec.ofChange Rows.acompReadsSpec):=
 OpenClaim.holds_of_wide 8 Try.f8 rfl rfl rfl rfl rfl rfl rfl ⟨rfl,rfl,rfl,rfl,rfl⟩ rfl rfl rfl rfl rfl (by kernel_rfl) Try.func8 (by kernel_rfl)
  (of_decide_eq_true (by kernel_rfl)) (by unfold Func.isWrapper;first|(rw[if_pos (by decide+kernel)];kernel_rfl)|(rw[if_neg (by decide+kernel)];exact⟨rfl,rfl⟩))
  (fun os started H enc _=>lifted os started H enc)
theorem proved:Rows.AcompReadsSaid:=over
end Go.Proofs.Ytdpajabhmmmjoaa.acompReads
end
