/-
  The statement 'AcompNumbers' of its law: whatever the arguments, the call returns true and they read as they did. No condition.
-/
import Derived.Test.YtdpajabhmmmjoaaRows
import Derived.WalkKit
import Derived.ProofKit
import Derived.OpenShut
import Derived.ShutString
import Derived.ChangeOld
import Derived.Below
import Derived.Carry
import Derived.Test.YtdpajabhmmmjoaaZ05
set_option linter.all false
section
namespace Go.Proofs.Ytdpajabhmmmjoaa.acompNumbers
open Go.ChangeShapes Go.WideShapes Go.ChangeAt Go.RowKit Go.AM
open Go.ChangeMaps (open_string shut_string)
theorem own:ownKnob Try.prog.godebug=none:=by kernel_rfl
theorem laidOut:laidOutB Try.prog=true:=by kernel_rfl
theorem walk(w:World)(v0:Value)(f:List UInt8)(c:Value)(d:List UInt8)(g:VRel (iT w).I id 0 w (.sl .u8 (.may false) f) v0)(h:VRel (iT w).I id 0 w (.sl .u8 (.may false) d) c):
  Calls Try.prog 9 #[v0,c] w λe w'=>e=.returned (.bool true)∧Below w.heap.size w w':=by
 refine afj (wG f d) (by simp) (by simp[V.bare]) ?_;intro i x cv b a;match i,b,a with
 |0,b,a=>simp at b a;subst b a;exact g
 |1,b,a=>simp at b a;subst b a;exact h
 |(i+2),b,a=>simp at b
set_option maxRecDepth 100000 in
theorem lifted(w:Os)(b:w.Started)(H:Type)(enc:TypeId×Value->H):
  ReturnsInHanded {} Try.checked w 9 .any (Rows.acompNumbersSpec.pre6 enc Try.prog Try.f9 Rows.acompNumbersRow.domain false) (Rows.acompNumbersSpec.post enc Try.prog Try.f9 false true false false):=by
 refine returnsInHanded_of_change (C:=Try.checked) own b (by kernel_rfl) Try.func9
  (ChangeSpec.witness6 (enc:=enc) (C:=Try.checked) false ⟨#[], #[.slice none 0 0,.slice none 0 0],[]⟩ 8 (by kernel_rfl) (by kernel_rfl) (by kernel_rfl) (by kernel_rfl)) ?_
 intro W k a G gs m c z B _;have d:∀(j:Nat) t v,Try.f9.params[j]? =some t->a[j]? =some v->Value.okWide Try.prog W .any k t v:=c;have g:=z;obtain⟨p,q,i,Y,rfl,R,P⟩:=z;have A:DataW.TrodAll enc Try.prog W 0 (λ_=>true) true Try.f9.params.toList a.toList G p:=i;rw[Try.params9] at A d;obtain⟨v0,I,d0,J,p0,q0,u,rfl,rfl,y,L⟩:=trodAll_cons A;obtain⟨o,X,d1,N,p1,q1,rfl,rfl,rfl,E,M⟩:=trodAll_cons L;obtain⟨rfl,rfl,rfl⟩:=trodAll_nil M;obtain rfl:a= #[v0,o]:=by cases a;simp_all
 obtain⟨rfl,rfl⟩:=trodVars_none Y;obtain⟨Q,S⟩:=yY (d 0 22 v0 rfl rfl) y;obtain⟨F,O⟩:=yY (d 1 22 o rfl rfl) E;clear i c;refine(walk W v0 Q o F S O).mono λe W' ⟨Z,f⟩=>?_
 subst Z;exact⟨_,rfl,_,_,_,[],_,[],g,trodAll_mk1 (shut_bool Try.underlying4 _),(trodAll_cons_mk (Below.trod laidOut (by kernel_rfl) (of_decide_eq_true (by kernel_rfl)) y f (λx r=>g.lt x (by simp[r]))) (trodAll_cons_mk (Below.trod laidOut (by kernel_rfl) (of_decide_eq_true (by kernel_rfl)) E f (λx r=>g.lt x (by simp[r]))) trodAll_mk0)),rfl,f.frame _,λh=>by cases h⟩
theorem over:Rows.acompNumbersRow.holds Try.pinned (OpenSpec.ofChange Rows.acompNumbersSpec):=
 OpenClaim.holds_of_wide 9 Try.f9 rfl rfl rfl rfl rfl rfl rfl ⟨rfl,rfl,rfl,rfl,rfl⟩ rfl rfl rfl rfl rfl (by kernel_rfl) Try.func9 (by kernel_rfl)
  (of_decide_eq_true (by kernel_rfl)) (by unfold Func.isWrapper;first|(rw[if_pos (by decide+kernel)];kernel_rfl)|(rw[if_neg (by decide+kernel)];exact⟨rfl,rfl⟩))
  (λb a H enc _=>lifted b a H enc)
theorem proved:Rows.AcompNumbersSaid:=over
end Go.Proofs.Ytdpajabhmmmjoaa.acompNumbers
end
