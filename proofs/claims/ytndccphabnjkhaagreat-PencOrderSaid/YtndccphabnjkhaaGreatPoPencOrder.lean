/-
  The statement 'PencOrder' of its law: whatever the arguments, the call returns true and they read as they did. No condition.
-/
import Derived.Test.YtndccphabnjkhaaGreatRows
import Derived.WalkKit
import Derived.ProofKit
import Derived.OpenShut
import Derived.ShutString
import Derived.ChangeOld
import Derived.Below
import Derived.Carry
import Derived.Test.YtndccphabnjkhaaGreatZ09
set_option linter.all false
section
namespace Go.Proofs.YtndccphabnjkhaaGreat.pencOrder
open Go.ChangeShapes Go.WideShapes Go.ChangeAt Go.RowKit Go.AM
open Go.ChangeMaps (open_string shut_string)
theorem own:ownKnob Tryz.prog.godebug=none:=by kernel_rfl
theorem laidOut:laidOutB Tryz.prog=true:=by kernel_rfl
theorem walk(w:World)(h:Value)(c:List UInt8)(f:Value)(d:List UInt8)(k:VRel (nF w).I id 0 w (.sl .u8 (.may false) c) h)(j:VRel (nF w).I id 0 w (.sl .u8 (.may false) d) f):
  Calls Tryz.prog 5 #[h,f] w λe w'=>e=.returned (.bool true)∧Below w.heap.size w w':=by
 refine aGG (aw3 c d) (by simp) (by simp[V.bare]) ?_;intro i x cv b a;match i,b,a with
 |0,b,a=>simp at b a;subst b a;exact k
 |1,b,a=>simp at b a;subst b a;exact j
 |(i+2),b,a=>simp at b
set_option maxRecDepth 100000 in
theorem lifted(D:Os)(b:D.Started)(H:Type)(enc:TypeId×Value->H):
  ReturnsInHanded {} Tryz.checked D 5 .any (Rows.pencOrderSpec.pre6 enc Tryz.prog Tryz.f5 Rows.pencOrderRow.domain false) (Rows.pencOrderSpec.post enc Tryz.prog Tryz.f5 false true false false):=by
 refine returnsInHanded_of_change (C:=Tryz.checked) own b (by kernel_rfl) Tryz.func5
  (ChangeSpec.witness6 (enc:=enc) (C:=Tryz.checked) false ⟨#[], #[.slice none 0 0,.slice none 0 0],[]⟩ 8 (by kernel_rfl) (by kernel_rfl) (by kernel_rfl) (by kernel_rfl)) ?_
 intro W k a L gs m d z F _;have c:∀(j:Nat) t v,Tryz.f5.params[j]? =some t->a[j]? =some v->Value.okWide Tryz.prog W .any k t v:=d;have i:=z;obtain⟨p,q,l,M,rfl,Y,G⟩:=z;have A:DataW.TrodAll enc Tryz.prog W 0 (λ_=>true) true Tryz.f5.params.toList a.toList L p:=l;rw[Tryz.params5] at A c;obtain⟨y,I,d0,O,p0,q0,u,rfl,rfl,E,r0⟩:=trodAll_cons A;obtain⟨r,X,d1,Z,p1,q1,rfl,rfl,rfl,B,P⟩:=trodAll_cons r0;obtain⟨rfl,rfl,rfl⟩:=trodAll_nil P;obtain rfl:a= #[y,r]:=by cases a;simp_all
 obtain⟨rfl,rfl⟩:=trodVars_none M;obtain⟨Q,N⟩:=auY (c 0 22 y rfl rfl) E;obtain⟨S,J⟩:=auY (c 1 22 r rfl rfl) B;clear l d;refine(walk W y Q r S N J).mono λe W' ⟨R,f⟩=>?_
 subst R;exact⟨_,rfl,_,_,_,[],_,[],i,trodAll_mk1 (shut_bool Tryz.underlying4 _),(trodAll_cons_mk (Below.trod laidOut (by kernel_rfl) (of_decide_eq_true (by kernel_rfl)) E f (λx w=>i.lt x (by simp[w]))) (trodAll_cons_mk (Below.trod laidOut (by kernel_rfl) (of_decide_eq_true (by kernel_rfl)) B f (λx w=>i.lt x (by simp[w]))) trodAll_mk0)),rfl,f.frame _,λh=>by cases h⟩
theorem over:Rows.pencOrderRow.holds Tryz.pinned (OpenSpec.ofChange Rows.pencOrderSpec):=
 OpenClaim.holds_of_wide 5 Tryz.f5 rfl rfl rfl rfl rfl rfl rfl ⟨rfl,rfl,rfl,rfl,rfl⟩ rfl rfl rfl rfl rfl (by kernel_rfl) Tryz.func5 (by kernel_rfl)
  (of_decide_eq_true (by kernel_rfl)) (by unfold Func.isWrapper;first|(rw[if_pos (by decide+kernel)];kernel_rfl)|(rw[if_neg (by decide+kernel)];exact⟨rfl,rfl⟩))
  (λb a H enc _=>lifted b a H enc)
theorem proved:Rows.PencOrderSaid:=over
end Go.Proofs.YtndccphabnjkhaaGreat.pencOrder
end
