/-
  The statement 'AvscMade' of its law: whatever the arguments, the call returns true and they read as they did. No condition.
-/
import Derived.Test.YtkinflmjagfapaaDoorCards
import Derived.Test.YtkinflmjagfapaaDoorTie
import Derived.WalkKit
import Derived.ProofKit
import Derived.OpenShut
import Derived.ShutString
import Derived.ChangeOld
import Derived.Below
import Derived.Deep.DeepHandedRow
import Derived.Lib.LaidTab
import Derived.Test.YtkinflmjagfapaaDoorZ05
open Go.OpenSpec renaming ofChange→Dv
open List renaming all_eq_true→Ai
open Option.some renaming inj→Ar
set_option linter.all false
section
namespace Go.Proofs.YtkinflmjagfapaaDoor.avscMade
open Go.ChangeShapes Go.WideShapes Go.ChangeAt Go.RowKit Go.AM
open Go.ChangeMaps (open_string shut_string)
theorem own:ownKnob Tryd.prog.godebug=none:=by kernel_rfl
theorem laidOut:laidOutB Tryd.prog=true:=by kernel_rfl
theorem walk(w:World)(f:Value)(h:List UInt8)(g:Value)(d:List UInt8)(c:Int)(m:VRel (nB w).I id 0 w (.sl .u8 (.may false) h) f)(j:VRel (nB w).I id 0 w (.sl .u8 (.may false) d) g)(k:(Lit.int .u8 c).wf=true):
  Calls Tryd.prog 7 #[f,g,.int .u8 c] w λe w'=>e=.returned (.bool true)∧Below w.heap.size w w':=by
 refine agl rfl (aff h d c) (by simp) (by simp[V.bare]) ?_;intro i x cv b a;match i,b,a with
 |0,b,a=>simp at b a;subst b a;exact aaK m
 |1,b,a=>simp at b a;subst b a;exact aaK j
 |2,b,a=>simp at b a;subst b a;exact .int _ _ (by simpa [Lit.wf] using k)
 |(i+3),b,a=>simp at b
set_option maxRecDepth 100000 in
theorem contract(H:Type)(enc:TypeId×Value->H)(W:World)(base:Nat)(a:Array Value)(r S:List (DataW H))(c:List MemPlace)
  (b:∀(j:Nat) t v,Tryd.f7.params[j]? =some t->a[j]? =some v->Value.okWide Tryd.prog W .any base t v)
  (A:DataW.Whole enc Tryd.prog Tryd.f7.params.toList Rows.avscMadeSpec.vars false W a.toList r S c):
  Calls Tryd.prog 7 a W λe y=>∃v,e=.returned v∧Rows.avscMadeSpec.post enc Tryd.prog Tryd.f7 false true false false W a v y:=by
 have d:=A;obtain⟨p,q,g,G,rfl,Z,R⟩:=A;have C:DataW.TrodAll enc Tryd.prog W 0 (λ_=>true) true Tryd.f7.params.toList a.toList r p:=g;rw[Tryd.params7] at C b;obtain⟨i,F,d0,L,p0,q0,o,rfl,rfl,u,X⟩:=trodAll_cons C;obtain⟨m,Q,d1,E,p1,q1,rfl,rfl,rfl,B,I⟩:=trodAll_cons X;obtain⟨z,al,d2,ad,p2,q2,rfl,rfl,rfl,O,Y⟩:=trodAll_cons I;obtain⟨rfl,rfl,rfl⟩:=trodAll_nil Y;obtain rfl:a= #[i,m,z]:=by cases a;simp_all
 obtain⟨rfl,rfl⟩:=trodVars_none G;obtain⟨x0,M⟩:=abj (b 0 22 i rfl rfl) u;obtain⟨D,J⟩:=abj (b 1 22 m rfl rfl) B;obtain⟨N,rfl,rfl,rfl,w⟩:=open_int Tryd.underlying5 (b 2 5 z rfl rfl) O;clear g;refine(walk W i x0 m D N M J w).mono λe y ⟨P,f⟩=>?_
 subst P;exact⟨_,rfl,_,_,_,[],_,[],d,trodAll_mk1 (shut_bool Tryd.underlying4 _),(trodAll_cons_mk (Below.trod laidOut (by kernel_rfl) (of_decide_eq_true (by kernel_rfl)) u f (λx k=>d.lt x (by simp[k]))) (trodAll_cons_mk (Below.trod laidOut (by kernel_rfl) (of_decide_eq_true (by kernel_rfl)) B f (λx k=>d.lt x (by simp[k]))) (trodAll_cons_mk (shut_int Tryd.underlying5 w) trodAll_mk0))),rfl,f.frame _,λh=>by cases h⟩
def accL:List Nat:=[128,191,160,191,128,159,144,191,128,143,0,0,0,0,0,0,0,0,0,0,0,0,0,0,0,0,0,0,0,0,0,0]
def tabAcc:Array Value:=(accL.map λ(n:Nat)=>Value.int .u8 n).toArray
def tabFirst:Array Value:=(Go.Pinned.utf8FirstZ.map λ(n:Nat)=>Value.int .u8 n).toArray
def putTab(tab:Array Value):Obj->Obj
 | .cells _ t frozen=>.cells tab t frozen
 |o=>o
noncomputable def laidWorld(a:Os):World:=
 {World.holding Tryd.prog a ⟨#[], #[],[]⟩ with heap:=((World.holding Tryd.prog a ⟨#[], #[],[]⟩).heap.modify 5 (putTab tabAcc)).modify 4 (putTab tabFirst)}
theorem laid_met(a:Os):laidMet Tryd.prog Rows.avscMadeRow.laid ((laidWorld a).forCall (λ_ _=>0) ⟨#[], #[.slice none 0 0,.slice none 0 0,.int .u8 0],[]⟩).memory:=
 laidMet_of_run' 8 (by kernel_rfl) (by kernel_rfl)
theorem reads(a:Os){H:Type}(enc:TypeId×Value->H):∃places,DataW.whole enc Tryd.prog ((laidWorld a).forCall (λ_ _=>0) ⟨#[], #[.slice none 0 0,.slice none 0 0,.int .u8 0],[]⟩).memory Tryd.f7.params.toList Rows.avscMadeSpec.vars false (#[.slice none 0 0,.slice none 0 0,.int .u8 0]:Array Value).toList 8=some ([.nil,.nil,.lit (.int .u8 0)],[],places):=
 ⟨[],by kernel_rfl⟩
set_option maxRecDepth 100000 in
theorem lifted(c:Os)(a:c.Started)(H:Type)(enc:TypeId×Value->H)(F:Stop.Interp):
  ReturnsInHanded {} Tryd.checked c 7 .any ((Dv Rows.avscMadeSpec).preRow enc Tryd.prog Tryd.f7 Rows.avscMadeRow.domain false Rows.avscMadeRow.laid) (((Dv Rows.avscMadeSpec).at F).post enc Tryd.prog Tryd.f7 false true false false):=by
 obtain⟨places,g⟩:=reads c enc
 refine returnsInHanded_of_row (C:=Tryd.checked) (s:=Dv Rows.avscMadeSpec) own a (by kernel_rfl) Tryd.func7
  (witness_row_at (enc:=enc) (C:=Tryd.checked) false (laidWorld c) #[.slice none 0 0,.slice none 0 0,.int .u8 0] rfl (by kernel_rfl) (by kernel_rfl) (by kernel_rfl)
   (OpenSpec.preRow_of_cond 8 g (by kernel_rfl) (λk h=>by cases h) (by kernel_rfl) (laid_met c))) ?_
 intro W base e f j b d i _ _ _ m _ _;exact contract H enc W base e f j b d i
theorem said:Rows.AvscMadeSaid:=
 OpenClaim.holds_of_cond 7 Tryd.f7 rfl rfl rfl rfl rfl rfl rfl ⟨rfl,rfl,rfl,rfl,rfl⟩ rfl rfl rfl rfl rfl (by kernel_rfl) Tryd.func7 (by kernel_rfl)
  (of_decide_eq_true (by kernel_rfl)) (by unfold Func.isWrapper;first|(rw[if_pos (by decide+kernel)];kernel_rfl)|(rw[if_neg (by decide+kernel)];exact⟨rfl,rfl⟩))
  (λb a H enc _ F=>by rw[OpenClaim.pre_eq_preRow];exact lifted b a H enc F)
theorem plain(f:FuncId)(fn:Func)(d:Tryd.pinned.checked.prog.funcNamed "proclitic/procliticlaw11.AvscMade"=some f)(b:Tryd.pinned.checked.prog.funcs[f]? =some fn):
  false=Tryd.pinned.checked.prog.looks []∧∀(j:Nat) t,fn.params[j]? =some t->Tryd.pinned.checked.prog.wantsStandIn t=false:=by
 obtain rfl:f=7:=Ar ((show Tryd.prog.funcNamed "proclitic/procliticlaw11.AvscMade"=some 7 by kernel_rfl).symm.trans d) |>.symm;obtain rfl:fn=Tryd.f7:=(Ar (Tryd.func7.symm.trans b)).symm;refine⟨by kernel_rfl,λj t c=>?_⟩;rw[Tryd.params7] at c;have e:t∈[22,22,5]:=by simpa using Array.mem_of_getElem? c
 have a:([22,22,5].all λu=> !Tryd.prog.wantsStandIn u)=true:=by kernel_rfl
 exact(show Tryd.prog.wantsStandIn t=false by simpa using Ai.1 a t e)
theorem proved:Rows.AvscMadeCardSaid:=
 Claim7.holds_tied_plain_at .later [] _ _ _ _ said (λ_ h=>by cases h) (by kernel_rfl) (λ_ h=>by cases h) avscMade_row_tie rfl ⟨rfl,rfl⟩ (by kernel_rfl) rfl plain (by kernel_rfl)
end Go.Proofs.YtkinflmjagfapaaDoor.avscMade
end
