/-
  The statement 'PencAll' of its law: whatever the arguments, the call returns true and they read as they did. No condition.
-/
import Derived.Test.YtndccphabnjkhaaGreatRows
import Derived.WalkKit
import Derived.ProofKit
import Derived.OpenShut
import Derived.ShutString
import Derived.ChangeOld
import Derived.Below
import Derived.Carry
import Derived.Test.YtndccphabnjkhaaGreatZ09
set_option linter.all false
section
namespace Go.Proofs.YtndccphabnjkhaaGreat.pencAll
open Go.ChangeShapes Go.WideShapes Go.ChangeAt Go.RowKit Go.AM
open Go.ChangeMaps (open_string shut_string)
theorem own:ownKnob Tryz.prog.godebug=none:=by kernel_rfl
theorem laidOut:laidOutB Tryz.prog=true:=by kernel_rfl
theorem walk(w:World)(l:Value)(h:List UInt8)(k:Value)(j:List UInt8)(c d:Int)(f:ByteArray)(r:VRel (kT w).I id 0 w (.sl .u8 (.may false) h) l)(p:VRel (kT w).I id 0 w (.sl .u8 (.may false) j) k)(q:(Lit.int .u8 c).wf=true)(m:(Lit.int .u64 d).wf=true)(t:f.size<=maxLen):
  Calls Tryz.prog 3 #[l,k,.int .u8 c,.int .u64 d,.string f] w λe w'=>e=.returned (.bool true)∧Below w.heap.size w w':=by
 refine aID (aEW h j c d f.data.toList) (by simp) (by simp[V.bare]) ?_;intro i x cv b a;match i,b,a with
 |0,b,a=>simp at b a;subst b a;exact r
 |1,b,a=>simp at b a;subst b a;exact p
 |2,b,a=>simp at b a;subst b a;exact aGu .u8 c q
 |3,b,a=>simp at b a;subst b a;exact aGu .u64 d m
 |4,b,a=>simp at b a;subst b a;exact aLz f t
 |(i+5),b,a=>simp at b
set_option maxRecDepth 100000 in
theorem lifted(M:Os)(c:M.Started)(H:Type)(enc:TypeId×Value->H):
  ReturnsInHanded {} Tryz.checked M 3 .any (Rows.pencAllSpec.pre6 enc Tryz.prog Tryz.f3 Rows.pencAllRow.domain false) (Rows.pencAllSpec.post enc Tryz.prog Tryz.f3 false true false false):=by
 refine returnsInHanded_of_change (C:=Tryz.checked) own c (by kernel_rfl) Tryz.func3
  (ChangeSpec.witness6 (enc:=enc) (C:=Tryz.checked) false ⟨#[], #[.slice none 0 0,.slice none 0 0,.int .u8 0,.int .u64 0,.string ByteArray.empty],[]⟩ 8 (by kernel_rfl) (by kernel_rfl) (by kernel_rfl) (by kernel_rfl)) ?_
 intro W l b ds gs m d L F _;have a:∀(j:Nat) t v,Tryz.f3.params[j]? =some t->b[j]? =some v->Value.okWide Tryz.prog W .any l t v:=d;have i:=L;obtain⟨p,q,k,hV,rfl,av,ag⟩:=L;have B:DataW.TrodAll enc Tryz.prog W 0 (λ_=>true) true Tryz.f3.params.toList b.toList ds p:=k;rw[Tryz.params3] at B a;obtain⟨r,X,d0,ao,p0,q0,u,rfl,rfl,D,r0⟩:=trodAll_cons B;obtain⟨w,an,d1,ad,p1,q1,rfl,rfl,rfl,A,Y⟩:=trodAll_cons r0;obtain⟨N,P,d2,aj,p2,q2,rfl,rfl,rfl,R,r2⟩:=trodAll_cons Y;obtain⟨G,O,d3,ai,p3,q3,rfl,rfl,rfl,h3,Z⟩:=trodAll_cons r2;obtain⟨z,aw,d4,ak,p4,q4,rfl,rfl,rfl,h4,S⟩:=trodAll_cons Z;obtain⟨rfl,rfl,rfl⟩:=trodAll_nil S;obtain rfl:b= #[r,w,N,G,z]:=by cases b;simp_all
 obtain⟨rfl,rfl⟩:=trodVars_none hV;obtain⟨x0,w0⟩:=awW (a 0 22 r rfl rfl) D;obtain⟨Q,w1⟩:=awW (a 1 22 w rfl rfl) A;obtain⟨a2,rfl,rfl,rfl,J⟩:=open_int Tryz.underlying5 (a 2 5 N rfl rfl) R;obtain⟨a3,rfl,rfl,rfl,I⟩:=open_int Tryz.underlying23 (a 3 23 G rfl rfl) h3;obtain⟨a4,rfl,rfl,rfl,E⟩:=open_string Tryz.underlying9 (a 4 9 z rfl rfl) h4;clear k d;refine(walk W r x0 w Q a2 a3 a4 w0 w1 J I E).mono λe W' ⟨he,f⟩=>?_
 subst he;exact⟨_,rfl,_,_,_,[],_,[],i,trodAll_mk1 (shut_bool Tryz.underlying4 _),(trodAll_cons_mk (Below.trod laidOut (by kernel_rfl) (of_decide_eq_true (by kernel_rfl)) D f (λx y=>i.lt x (by simp[y]))) (trodAll_cons_mk (Below.trod laidOut (by kernel_rfl) (of_decide_eq_true (by kernel_rfl)) A f (λx y=>i.lt x (by simp[y]))) (trodAll_cons_mk (shut_int Tryz.underlying5 J) (trodAll_cons_mk (shut_int Tryz.underlying23 I) (trodAll_cons_mk (shut_string Tryz.underlying9 E) trodAll_mk0))))),rfl,f.frame _,λh=>by cases h⟩
theorem over:Rows.pencAllRow.holds Tryz.pinned (OpenSpec.ofChange Rows.pencAllSpec):=
 OpenClaim.holds_of_wide 3 Tryz.f3 rfl rfl rfl rfl rfl rfl rfl ⟨rfl,rfl,rfl,rfl,rfl⟩ rfl rfl rfl rfl rfl (by kernel_rfl) Tryz.func3 (by kernel_rfl)
  (of_decide_eq_true (by kernel_rfl)) (by unfold Func.isWrapper;first|(rw[if_pos (by decide+kernel)];kernel_rfl)|(rw[if_neg (by decide+kernel)];exact⟨rfl,rfl⟩))
  (λb a H enc _=>lifted b a H enc)
theorem proved:Rows.PencAllSaid:=over
end Go.Proofs.YtndccphabnjkhaaGreat.pencAll
end
