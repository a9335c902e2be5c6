/-
  The statement 'CanonBack' of its law: whatever the arguments, the call returns true and they read as they did. No condition.
-/
import Derived.Test.YtkinflmjagfapaaDoorCards
import Derived.Test.YtkinflmjagfapaaDoorTie
import Derived.WalkKit
import Derived.ProofKit
import Derived.OpenShut
import Derived.ShutString
import Derived.ChangeOld
import Derived.Below
import Derived.Deep.DeepHandedRow
import Derived.Lib.LaidTab
import Derived.Test.YtkinflmjagfapaaDoorZ06
open Go.OpenSpec renaming ofChange→D3
open Go.Value renaming int→Dn
open List renaming all_eq_true→Ap
open Option.some renaming inj→Ax
set_option linter.all false
section
namespace Go.Proofs.YtkinflmjagfapaaDoor.canonBack
open Go.ChangeShapes Go.WideShapes Go.ChangeAt Go.RowKit Go.AM
open Go.ChangeMaps (open_string shut_string)
theorem own:ownKnob Tryd.prog.godebug=none:=by kernel_rfl
theorem laidOut:laidOutB Tryd.prog=true:=by kernel_rfl
theorem walk(w:World)(h:∃t,w.heap[tR]? =some (.cells nR.toArray t (0,0)))(d:Value)(f:List UInt8)(g:VRel (na w).I id 0 w (.sl .u8 (.may false) f) d):
  Calls Tryd.prog 4 #[d] w λe w'=>e=.returned (.bool true)∧Below w.heap.size w w':=by
 refine ash (alH f) (by simp) (by simp[V.bare]) ?_ (λ_=>h);intro i x cv b a;match i,b,a with
 |0,b,a=>simp at b a;subst b a;exact g
 |(i+1),b,a=>simp at b
set_option maxRecDepth 100000 in
theorem contract(H:Type)(enc:TypeId×Value->H)(W:World)(base:Nat)(a:Array Value)(A L:List (DataW H))(b:List MemPlace)
  (d:∀(j:Nat) t v,Tryd.f4.params[j]? =some t->a[j]? =some v->Value.okWide Tryd.prog W .any base t v)
  (w:DataW.Whole enc Tryd.prog Tryd.f4.params.toList Rows.canonBackSpec.vars false W a.toList A L b) (E:∃t,W.heap[tR]? =some (.cells nR.toArray t (0,0))):
  Calls Tryd.prog 4 a W λe o=>∃v,e=.returned v∧Rows.canonBackSpec.post enc Tryd.prog Tryd.f4 false true false false W a v o:=by
 have i:=w;obtain⟨p,q,g,D,rfl,N,J⟩:=w;have y:DataW.TrodAll enc Tryd.prog W 0 (λ_=>true) true Tryd.f4.params.toList a.toList A p:=g;rw[Tryd.params4] at y d;obtain⟨m,C,R,M,P,Q,k,rfl,rfl,u,I⟩:=trodAll_cons y;obtain⟨rfl,rfl,rfl⟩:=trodAll_nil I;obtain rfl:a= #[m]:=by cases a;simp_all
 obtain⟨rfl,rfl⟩:=trodVars_none D;obtain⟨O,B⟩:=arR (d 0 22 m rfl rfl) u;clear g;refine(walk W E m O B).mono λe o ⟨G,f⟩=>?_
 subst G;exact⟨_,rfl,_,_,_,[],_,[],i,trodAll_mk1 (shut_bool Tryd.underlying4 _),(trodAll_cons_mk (Below.trod laidOut (by kernel_rfl) (of_decide_eq_true (by kernel_rfl)) u f (λx F=>i.lt x (by simp[F]))) trodAll_mk0),rfl,f.frame _,λh=>by cases h⟩
def tab32:Array Value:=(([0,1,28,2,29,14,24,3,30,22,20,15,25,17,4,8,31,27,13,23,21,19,16,7,26,12,18,6,11,5,10,9]:List Nat).map λ(n:Nat)=>Dn .u8 n).toArray
def tab64:Array Value:=(([0,1,56,2,57,49,28,3,61,58,42,50,38,29,17,4,62,47,59,36,45,43,51,22,53,39,33,30,24,18,12,5,63,55,48,27,60,41,37,16,46,35,44,21,52,32,23,11,54,26,40,15,34,20,31,10,25,14,19,9,13,8,7,6]:List Nat).map λ(n:Nat)=>Dn .u8 n).toArray
def tabP:Array Value:=(([1,10,100,1000,10000,100000,1000000,10000000,100000000,1000000000,10000000000,100000000000,1000000000000,10000000000000,100000000000000,1000000000000000,10000000000000000,100000000000000000,1000000000000000000,10000000000000000000]:List Nat).map λ(n:Nat)=>Dn .u64 n).toArray
def putTab(tab:Array Value):Obj->Obj
 | .cells _ t frozen=>.cells tab t frozen
 |o=>o
noncomputable def laidWorld(a:Os):World:=
 {World.holding Tryd.prog a ⟨#[], #[],[]⟩ with heap:=(((World.holding Tryd.prog a ⟨#[], #[],[]⟩).heap.modify 2 (putTab tab32)).modify 3 (putTab tab64)).modify 1 (putTab tabP)}
theorem laid_met(a:Os):laidMet Tryd.prog Rows.canonBackRow.laid ((laidWorld a).forCall (λ_ _=>0) ⟨#[], #[.slice none 0 0],[]⟩).memory:=
 laidMet_of_run' 8 (by kernel_rfl) (by kernel_rfl)
theorem reads(a:Os){H:Type}(enc:TypeId×Value->H):∃places,DataW.whole enc Tryd.prog ((laidWorld a).forCall (λ_ _=>0) ⟨#[], #[.slice none 0 0],[]⟩).memory Tryd.f4.params.toList Rows.canonBackSpec.vars false (#[.slice none 0 0]:Array Value).toList 8=some ([.nil],[],places):=
 ⟨[],by kernel_rfl⟩
set_option maxRecDepth 100000 in
theorem lifted(f:Os)(a:f.Started)(H:Type)(enc:TypeId×Value->H)(F:Stop.Interp):
  ReturnsInHanded {} Tryd.checked f 4 .any ((D3 Rows.canonBackSpec).preRow enc Tryd.prog Tryd.f4 Rows.canonBackRow.domain false Rows.canonBackRow.laid) (((D3 Rows.canonBackSpec).at F).post enc Tryd.prog Tryd.f4 false true false false):=by
 obtain⟨places,o⟩:=reads f enc
 refine returnsInHanded_of_row (C:=Tryd.checked) (s:=D3 Rows.canonBackSpec) own a (by kernel_rfl) Tryd.func4
  (witness_row_at (enc:=enc) (C:=Tryd.checked) false (laidWorld f) #[.slice none 0 0] rfl (by kernel_rfl) (by kernel_rfl) (by kernel_rfl)
   (OpenSpec.preRow_of_cond 8 o (by kernel_rfl) (λk h=>by cases h) (by kernel_rfl) (laid_met f))) ?_
 intro W base d i g b e j _ _ _ m _ _;exact contract H enc W base d i g b e j (avD m)
theorem said:Rows.CanonBackSaid:=
 OpenClaim.holds_of_cond 4 Tryd.f4 rfl rfl rfl rfl rfl rfl rfl ⟨rfl,rfl,rfl,rfl,rfl⟩ rfl rfl rfl rfl rfl (by kernel_rfl) Tryd.func4 (by kernel_rfl)
  (of_decide_eq_true (by kernel_rfl)) (by unfold Func.isWrapper;first|(rw[if_pos (by decide+kernel)];kernel_rfl)|(rw[if_neg (by decide+kernel)];exact⟨rfl,rfl⟩))
  (λb a H enc _ F=>by rw[OpenClaim.pre_eq_preRow];exact lifted b a H enc F)
theorem plain(f:FuncId)(fn:Func)(g:Tryd.pinned.checked.prog.funcNamed "proclitic/procliticlaw12.CanonBack"=some f)(b:Tryd.pinned.checked.prog.funcs[f]? =some fn):
  false=Tryd.pinned.checked.prog.looks []∧∀(j:Nat) t,fn.params[j]? =some t->Tryd.pinned.checked.prog.wantsStandIn t=false:=by
 obtain rfl:f=4:=Ax ((show Tryd.prog.funcNamed "proclitic/procliticlaw12.CanonBack"=some 4 by kernel_rfl).symm.trans g) |>.symm;obtain rfl:fn=Tryd.f4:=(Ax (Tryd.func4.symm.trans b)).symm;refine⟨by kernel_rfl,λj t d=>?_⟩;rw[Tryd.params4] at d;have e:t∈[22]:=by simpa using Array.mem_of_getElem? d
 have a:([22].all λu=> !Tryd.prog.wantsStandIn u)=true:=by kernel_rfl
 exact(show Tryd.prog.wantsStandIn t=false by simpa using Ap.1 a t e)
theorem proved:Rows.CanonBackCardSaid:=
 Claim7.holds_tied_plain_at .later [] _ _ _ _ said (λ_ h=>by cases h) (by kernel_rfl) (λ_ h=>by cases h) canonBack_row_tie rfl ⟨rfl,rfl⟩ (by kernel_rfl) rfl plain (by kernel_rfl)
end Go.Proofs.YtkinflmjagfapaaDoor.canonBack
end
