/-
  The statement 'AvscTurned' of its law: whatever the arguments, the call returns true and they read as they did. No condition.
-/
import Derived.Test.YtkinflmjagfapaaGreatDoorCards
import Derived.Test.YtkinflmjagfapaaGreatDoorTie
import Derived.WalkKit
import Derived.ProofKit
import Derived.OpenShut
import Derived.ShutString
import Derived.ChangeOld
import Derived.Below
import Derived.Deep.DeepHandedRow
import Derived.Lib.LaidTab
import Derived.Test.YtkinflmjagfapaaGreatDoorZ06
open Go.OpenSpec renaming ofChange→DF
open List renaming all_eq_true→Al
open Option.some renaming inj→Au
set_option linter.all false
section
namespace Go.Proofs.YtkinflmjagfapaaGreatDoor.avscTurned
open Go.ChangeShapes Go.WideShapes Go.ChangeAt Go.RowKit Go.AM
open Go.ChangeMaps (open_string shut_string)
theorem own:ownKnob Tryz.prog.godebug=none:=by kernel_rfl
theorem laidOut:laidOutB Tryz.prog=true:=by kernel_rfl
theorem walk(w:World)(g:Value)(f:List UInt8)(h:Value)(d:List UInt8)(c:Int)(j:VRel (td w).I id 0 w (.sl .u8 (.may false) f) g)(m:VRel (td w).I id 0 w (.sl .u8 (.may false) d) h)(k:(Lit.int .u8 c).wf=true):
  Calls Tryz.prog 3 #[g,h,.int .u8 c] w λe w'=>e=.returned (.bool true)∧Below w.heap.size w w':=by
 refine ap9 rfl (amq f d c) (by simp) (by simp[V.bare]) ?_;intro i x cv b a;match i,b,a with
 |0,b,a=>simp at b a;subst b a;exact ajc j
 |1,b,a=>simp at b a;subst b a;exact ajc m
 |2,b,a=>simp at b a;subst b a;exact .int _ _ (by simpa [Lit.wf] using k)
 |(i+3),b,a=>simp at b
set_option maxRecDepth 100000 in
theorem contract(H:Type)(enc:TypeId×Value->H)(W:World)(base:Nat)(a:Array Value)(B G:List (DataW H))(c:List MemPlace)
  (b:∀(j:Nat) t v,Tryz.f3.params[j]? =some t->a[j]? =some v->Value.okWide Tryz.prog W .any base t v)
  (A:DataW.Whole enc Tryz.prog Tryz.f3.params.toList Rows.avscTurnedSpec.vars false W a.toList B G c):
  Calls Tryz.prog 3 a W λe C=>∃v,e=.returned v∧Rows.avscTurnedSpec.post enc Tryz.prog Tryz.f3 false true false false W a v C:=by
 have f:=A;obtain⟨p,q,g,hV,rfl,J,Y⟩:=A;have w:DataW.TrodAll enc Tryz.prog W 0 (λ_=>true) true Tryz.f3.params.toList a.toList B p:=g;rw[Tryz.params3] at w b;obtain⟨m,P,d0,X,p0,q0,k,rfl,rfl,u,Z⟩:=trodAll_cons w;obtain⟨i,R,d1,Q,p1,q1,rfl,rfl,rfl,y,L⟩:=trodAll_cons Z;obtain⟨r,M,d2,O,p2,q2,rfl,rfl,rfl,S,F⟩:=trodAll_cons L;obtain⟨rfl,rfl,rfl⟩:=trodAll_nil F;obtain rfl:a= #[m,i,r]:=by cases a;simp_all
 obtain⟨rfl,rfl⟩:=trodVars_none hV;obtain⟨I,N⟩:=ajZ (b 0 22 m rfl rfl) u;obtain⟨E,w1⟩:=ajZ (b 1 22 i rfl rfl) y;obtain⟨a2,rfl,rfl,rfl,D⟩:=open_int Tryz.underlying5 (b 2 5 r rfl rfl) S;clear g;refine(walk W m I i E a2 N w1 D).mono λe C ⟨he,d⟩=>?_
 subst he;exact⟨_,rfl,_,_,_,[],_,[],f,trodAll_mk1 (shut_bool Tryz.underlying4 _),(trodAll_cons_mk (Below.trod laidOut (by kernel_rfl) (of_decide_eq_true (by kernel_rfl)) u d (λx o=>f.lt x (by simp[o]))) (trodAll_cons_mk (Below.trod laidOut (by kernel_rfl) (of_decide_eq_true (by kernel_rfl)) y d (λx o=>f.lt x (by simp[o]))) (trodAll_cons_mk (shut_int Tryz.underlying5 D) trodAll_mk0))),rfl,d.frame _,λh=>by cases h⟩
def accL:List Nat:=[128,191,160,191,128,159,144,191,128,143,0,0,0,0,0,0,0,0,0,0,0,0,0,0,0,0,0,0,0,0,0,0]
def tabAcc:Array Value:=(accL.map λ(n:Nat)=>Value.int .u8 n).toArray
def tabFirst:Array Value:=(Go.Pinned.utf8FirstZ.map λ(n:Nat)=>Value.int .u8 n).toArray
def putTab(tab:Array Value):Obj->Obj
 | .cells _ t frozen=>.cells tab t frozen
 |o=>o
noncomputable def laidWorld(a:Os):World:=
 {World.holding Tryz.prog a ⟨#[], #[],[]⟩ with heap:=((World.holding Tryz.prog a ⟨#[], #[],[]⟩).heap.modify 2 (putTab tabAcc)).modify 1 (putTab tabFirst)}
theorem laid_met(a:Os):laidMet Tryz.prog Rows.avscTurnedRow.laid ((laidWorld a).forCall (λ_ _=>0) ⟨#[], #[.slice none 0 0,.slice none 0 0,.int .u8 0],[]⟩).memory:=
 laidMet_of_run' 8 (by kernel_rfl) (by kernel_rfl)
theorem reads(a:Os){H:Type}(enc:TypeId×Value->H):∃places,DataW.whole enc Tryz.prog ((laidWorld a).forCall (λ_ _=>0) ⟨#[], #[.slice none 0 0,.slice none 0 0,.int .u8 0],[]⟩).memory Tryz.f3.params.toList Rows.avscTurnedSpec.vars false (#[.slice none 0 0,.slice none 0 0,.int .u8 0]:Array Value).toList 8=some ([.nil,.nil,.lit (.int .u8 0)],[],places):=
 ⟨[],by kernel_rfl⟩
set_option maxRecDepth 100000 in
theorem lifted(c:Os)(a:c.Started)(H:Type)(enc:TypeId×Value->H)(F:Stop.Interp):
  ReturnsInHanded {} Tryz.checked c 3 .any ((DF Rows.avscTurnedSpec).preRow enc Tryz.prog Tryz.f3 Rows.avscTurnedRow.domain false Rows.avscTurnedRow.laid) (((DF Rows.avscTurnedSpec).at F).post enc Tryz.prog Tryz.f3 false true false false):=by
 obtain⟨places,g⟩:=reads c enc
 refine returnsInHanded_of_row (C:=Tryz.checked) (s:=DF Rows.avscTurnedSpec) own a (by kernel_rfl) Tryz.func3
  (witness_row_at (enc:=enc) (C:=Tryz.checked) false (laidWorld c) #[.slice none 0 0,.slice none 0 0,.int .u8 0] rfl (by kernel_rfl) (by kernel_rfl) (by kernel_rfl)
   (OpenSpec.preRow_of_cond 8 g (by kernel_rfl) (λk i=>by cases i) (by kernel_rfl) (laid_met c))) ?_
 intro W base d j h b e f _ _ _ m _ _;exact contract H enc W base d j h b e f
theorem said:Rows.AvscTurnedSaid:=
 OpenClaim.holds_of_cond 3 Tryz.f3 rfl rfl rfl rfl rfl rfl rfl ⟨rfl,rfl,rfl,rfl,rfl⟩ rfl rfl rfl rfl rfl (by kernel_rfl) Tryz.func3 (by kernel_rfl)
  (of_decide_eq_true (by kernel_rfl)) (by unfold Func.isWrapper;first|(rw[if_pos (by decide+kernel)];kernel_rfl)|(rw[if_neg (by decide+kernel)];exact⟨rfl,rfl⟩))
  (λb a H enc _ F=>by rw[OpenClaim.pre_eq_preRow];exact lifted b a H enc F)
theorem plain(f:FuncId)(fn:Func)(d:Tryz.pinned.checked.prog.funcNamed "proclitic/procliticlaw11.AvscTurned"=some f)(b:Tryz.pinned.checked.prog.funcs[f]? =some fn):
  false=Tryz.pinned.checked.prog.looks []∧∀(j:Nat) t,fn.params[j]? =some t->Tryz.pinned.checked.prog.wantsStandIn t=false:=by
 obtain rfl:f=3:=Au ((show Tryz.prog.funcNamed "proclitic/procliticlaw11.AvscTurned"=some 3 by kernel_rfl).symm.trans d) |>.symm;obtain rfl:fn=Tryz.f3:=(Au (Tryz.func3.symm.trans b)).symm;refine⟨by kernel_rfl,λj t c=>?_⟩;rw[Tryz.params3] at c;have e:t∈[22,22,5]:=by simpa using Array.mem_of_getElem? c
 have a:([22,22,5].all λu=> !Tryz.prog.wantsStandIn u)=true:=by kernel_rfl
 exact(show Tryz.prog.wantsStandIn t=false by simpa using Al.1 a t e)
theorem proved:Rows.AvscTurnedCardSaid:=
 Claim7.holds_tied_plain_at .later [] _ _ _ _ said (λ_ h=>by cases h) (by kernel_rfl) (λ_ h=>by cases h) avscTurned_row_tie rfl ⟨rfl,rfl⟩ (by kernel_rfl) rfl plain (by kernel_rfl)
end Go.Proofs.YtkinflmjagfapaaGreatDoor.avscTurned
end
