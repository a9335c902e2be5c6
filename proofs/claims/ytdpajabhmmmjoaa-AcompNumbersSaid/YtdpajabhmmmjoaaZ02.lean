import Derived.Below
import Derived.KernelRfl
import Derived.Test.YtdpajabhmmmjoaaChecked
import Derived.Test.YtdpajabhmmmjoaaZ00
import Derived.Test.YtdpajabhmmmjoaaZ01
open Array renaming getElem?_eq_getElem→Ag,getElem?_eq_some_iff→AN,getD→BA
open Bool renaming and_eq_true→Aa,not_eq_true'→AK,or_eq_true→AQ,eq_iff_iff→A2,false_eq_true→BO
open Classical renaming propDecidable→Dd
open Eq renaming trans→B7
open Function renaming comp→Ea
open Go.IntKind renaming wrap→Az,signed→Bh,bits→Bu
open Int renaming toNat→AC,tmod→B6,lt_or_le→C7
open List renaming getElem?_eq_getElem→Ac,getElem?_eq_some_iff→Ad,getElem?_append_right→Aj,all_eq_true→Ak,getD_eq_getElem?_getD→Al,getElem?_append_left→Am,length→An,mem_of_getElem?→Ap,mem_singleton→Aq,getD→As,getElem?_set→At,getElem?_map→Au,mem_map→Av,length_cons→Ay,mem_append→AB,mem_cons_self→AD,range→AE,mem_cons_of_mem→AH,map_cons→AI,mem_flatMap→AJ,length_set→AL,map_congr_left→AP,getElem?_eq_none→AR,mem_cons→AT,length_map→AU,mem_iff_getElem→AZ,getElem?_cons_succ→A5,mem_range→A6,length_append→Ba,getElem_mem→Bf,replicate→Bg,getElem?_cons_zero→Bl,mem_append_left→Bp,range'→Bq,length_singleton→BB,getElem?_set_ne→BG,flatMap_cons→BJ,getD_cons_zero→BS,drop_eq_getElem_cons→BU,all_cons→B3,mem_append_right→B8,any_eq_true→Co,map_append→Cy,getElem?_set_self→CM,contains_iff_mem→CR,drop_eq_nil_of_le→Dl,take→Dy,drop→Dz,zip_cons_cons→D0,take_add_one→Ef
open Nat renaming beq→Af,le_refl→Ao,zero_add→Aw,eq_of_beq_eq_true→AA,lt_of_lt_of_le→AF,lt_or_ge→AG,blt→AV,le_trans→AX,blt_eq→Bb,add_zero→Cv,sub_self→CP
open Option renaming map_eq_some_iff→Ah,map_some→Bt,getD_some→Bw
open Option.some renaming injEq→Ab,inj→Ai
open Prod.mk renaming injEq→Ae
open UInt8 renaming ofNat→BX,toNat→DY
set_option linter.all false
set_option maxRecDepth 100000
noncomputable section
namespace Go.AM
def V.flatE:V->Bool
 | .ea cs=>cs.all V.flat1
 |v=>v.flat1
def V.flat2:V->Bool
 | .agg cs=>cs.all V.flat1
 | .ea cs=>cs.all V.flat1
 | .fn _ cs=>cs.all V.flatE
 |v=>v.flat1
def V.flat:V->Bool
 | .tup cs=>cs.all V.flat2
 |v=>v.flat2
section
variable{I:Nat->Nat->Prop}{ρ ρ':Nat->Nat}{N N':Nat}{w:World}{P:Program}
theorem VRel.flatE{v:V}{cv:Value}(h:VRel I ρ N w v cv)(g:v.flatE=true):VRel I ρ' N' w v cv:=by
 cases h with
 |ea cs b a f r p m e=>simp only[V.flatE,Ak] at g;exact .ea cs b a f r p m (λj c i=>(e j c i).flat1 (g c (Ap i)))
 |bool b=>exact .bool b
 |int k n h=>exact .int k n h
 |str l s d h=>exact .str l s d h
 |sln k o=>exact .sln k o
 |sle k o t u=>exact .sle k o t u
 |sl k o xs b a len cap d i x q f p m e=>exact(VRel.sl k o xs b a len cap d i x q f p m e).flat1 rfl
 |nilp=>exact .nilp
 |nilif=>exact .nilif
 |fn f cs vs d e=>
  cases cs with
  |nil=>exact .fn f [] vs d (by simp)
  |cons c cs=>simp[V.flatE,V.flat1] at g
 |_=>simp[V.flatE,V.flat1] at g
theorem VRel.flat2{v:V}{cv:Value}(h:VRel I ρ N w v cv)(m:v.flat2=true):VRel I ρ' N' w v cv:=by
 cases h with
 |ea cs b a f q r p d=>exact(VRel.ea cs b a f q r p d).flatE m
 |agg cs vs g q x d=>simp only[V.flat2,Ak] at m;exact .agg cs vs g q x (λi c cv e j=>(d i c cv e j).flat1 (m c (Ap e)))
 |bool b=>exact .bool b
 |int k n h=>exact .int k n h
 |str l s g h=>exact .str l s g h
 |sln k o=>exact .sln k o
 |sle k o u y=>exact .sle k o u y
 |sl k o xs b a len cap g e z t f r p d=>exact(VRel.sl k o xs b a len cap g e z t f r p d).flat1 rfl
 |nilp=>exact .nilp
 |nilif=>exact .nilif
 |fn f cs vs g d=>simp only[V.flat2,Ak] at m;exact .fn f cs vs g (λi c cv e j=>(d i c cv e j).flatE (m c (Ap e)))
 |_=>simp[V.flat2,V.flat1] at m
theorem VRel.flat{v:V}{cv:Value}(h:VRel I ρ N w v cv)(g:v.flat=true):VRel I ρ' N' w v cv:=by
 cases h with
 |tup cs vs d a=>simp only[V.flat,Ak] at g;exact .tup cs vs d (λi c cv j t=>(a i c cv j t).flat2 (g c (Ap j)))
 |agg cs vs d p x a=>exact(VRel.agg cs vs d p x a).flat2 g
 |bool b=>exact .bool b
 |int k n h=>exact .int k n h
 |str l s d h=>exact .str l s d h
 |sln k o=>exact .sln k o
 |sle k o u y=>exact .sle k o u y
 |sl k o xs b e len cap d j z r f q m a=>exact(VRel.sl k o xs b e len cap d j z r f q m a).flat1 rfl
 |nilp=>exact .nilp
 |nilif=>exact .nilif
 |fn f cs vs d a=>exact(VRel.fn f cs vs d a).flat2 g
 |ea cs b e f p q m a=>exact(VRel.ea cs b e f p q m a).flat2 g
 |_=>simp[V.flat,V.flat2,V.flat1] at g
def PureOK(P:Program)(f:FuncId)(vs:List V)(v:V):Prop:=∃hp',FnOK P f vs [] v hp'
theorem PureOK.frame{f:FuncId}{vs:List V}{v:V}(h:PureOK P f vs v)(hf:vs.all V.flat=true)(S:v.flat=true)(hp:List al):FnOK P f vs hp v hp:=by
 obtain⟨hp',h⟩:=h;intro w g cargs W p Q E J;let t:Gh:={I:=g.I,ρ:=g.ρ,O:=λ_=>none,β:=g.β}
 have h0:HR t [] w:=⟨by simp,by simp,by simp,by simp,p.exI,by simp[t]⟩
 refine(h w t cargs (W.sub rfl (λh=>h) (λh=>by simp[t,h])) h0 Q E (λi x cv hx y=>(J i x cv hx y).flat (Ak.1 hf x (Ap hx)))).mono ?_;rintro e w' ⟨cv,g₁,rfl,q1,u,q3,Z⟩;have G:∀b,b<w.heap.size->w'.heap[b]? =w.heap[b]?:=λb m=>u.block b m (by simp) rfl
 have q:∀b j,b<w.heap.size->g₁.I b j->g.I b j:=λb j m A=>u.iSame b j m (by simp) rfl A
 have F:∀b,b<w.heap.size->g₁.O b=none:=λb m=>u.oSame b m (by simp) rfl
 let a:Gh:={I:=g₁.I,ρ:=g.ρ,O:=λb=>if b<w.heap.size then g.O b else (if g₁.O b=some .res then some .res else none),β:=g.β}
 have up:Up g.I g.ρ hp.length w a.I a.ρ hp.length w':=⟨u.up.mono,u.up.cell,λ_ _=>rfl,Ao _⟩
 have H:∀(id:Nat) cs,hp[id]? =some (some cs)->g.ρ id<w.heap.size:=by intro id cs d;exact(p.obj id cs d).lt
 have C:∀z v cv,OwnOK g w z v cv->OwnOK a w' z v cv:=by intro z v cv ho;refine ch ho rfl (λb j A=>⟨up.mono b j A,up.cell b j A⟩) ?_;intro b m;have r:=p.oLt b z m;exact⟨by simp[a,r,m],G b r,λj hj=>q b j r hj⟩
 refine⟨cv,a,rfl,⟨?_,p.apart,?_,?_,q1.exI,?_⟩,⟨rfl,u.os,u.tape,u.output,u.size,λb m _ _=>G b m,up,λb j m _ _ A=>q b j m A,?_,λ_ cs h=>.inl ⟨cs,h⟩⟩,?_,?_⟩
 ·intro id cs d;refine(p.obj id cs d).keep (G _ (H id cs d)) λL e Y h1 B=>?_
  exact⟨B.len,B.plain,B.typedUp rfl up.rho up.num rfl,B.cold,B.one,λj c cv X y=>(B.rel j c cv X y).up up,λj c cv X y=>C _ _ _ (B.own j c cv X y),B.bn⟩
 ·intro id cs d j A;exact p.notI id cs d j (q _ j (H id cs d) A)
 ·intro id cs d;have:=H id cs d;simp[a,this,p.notO id cs d]
 ·intro b o m;simp only[a] at m;split at m;·rename_i r;exact AF r u.size
  ·split at m;·rename_i M;exact q1.oLt b _ M
   ·simp at m
 ·intro b m _ hO;simp[a,m,hO]
 ·exact q3.flat S
 ·unfold OwnOK at Z ⊢;split
  ·rename_i k xs ad len cap;obtain⟨R,o2,o3⟩:=Z;refine⟨?_,(by obtain⟨L,e,Y,a1,a2,a3⟩:=o2;exact⟨L,e,Y,a1,a2,λhk=>(a3 hk).trans u.beta⟩),o3⟩;have:¬ad.block<w.heap.size:=by
    intro r;rw[F _ r] at R;simp at R
   simp[a,this,R]
  ·simp[V.flat,V.flat2,V.flat1] at S
  ·simp[V.flat,V.flat2,V.flat1] at S
  ·trivial
theorem PureOK.frameU{f:FuncId}{vs:List V}{k:EK}{xs:List (Ty k)}(h:PureOK P f vs (.ul k xs))(hf:vs.all V.flat=true)(hp:List al):FnOK P f vs hp (.ul k xs) hp:=by
 obtain⟨hp',h⟩:=h;intro w g cargs S p Q E J;let t:Gh:={I:=g.I,ρ:=g.ρ,O:=λ_=>none,β:=g.β}
 have h0:HR t [] w:=⟨by simp,by simp,by simp,by simp,p.exI,by simp[t]⟩
 refine(h w t cargs (S.sub rfl (λh=>h) (λh=>by simp[t,h])) h0 Q E (λi x cv Y y=>(J i x cv Y y).flat (Ak.1 hf x (Ap Y)))).mono ?_;rintro e w' ⟨cv,g₁,rfl,Z,u,q3,R⟩;have G:∀b,b<w.heap.size->w'.heap[b]? =w.heap[b]?:=λb d=>u.block b d (by simp) rfl
 have q:∀b j,b<w.heap.size->g₁.I b j->g.I b j:=λb j d A=>u.iSame b j d (by simp) rfl A
 have F:∀b,b<w.heap.size->g₁.O b=none:=λb d=>u.oSame b d (by simp) rfl
 let a:Gh:={I:=g₁.I,ρ:=g.ρ,O:=λb=>if b<w.heap.size then g.O b else (if g₁.O b=some .res then some .res else none),β:=g.β}
 have up:Up g.I g.ρ hp.length w a.I a.ρ hp.length w':=⟨u.up.mono,u.up.cell,λ_ _=>rfl,Ao _⟩
 have H:∀(id:Nat) cs,hp[id]? =some (some cs)->g.ρ id<w.heap.size:=by intro id cs m;exact(p.obj id cs m).lt
 have C:∀z v cv,OwnOK g w z v cv->OwnOK a w' z v cv:=by intro z v cv ho;refine ch ho rfl (λb j A=>⟨up.mono b j A,up.cell b j A⟩) ?_;intro b d;have r:=p.oLt b z d;exact⟨by simp[a,r,d],G b r,λj hj=>q b j r hj⟩
 refine⟨cv,a,rfl,⟨?_,p.apart,?_,?_,Z.exI,?_⟩,⟨rfl,u.os,u.tape,u.output,u.size,λb d _ _=>G b d,up,λb j d _ _ A=>q b j d A,?_,λ_ cs h=>.inl ⟨cs,h⟩⟩,?_,?_⟩
 ·intro id cs m;refine(p.obj id cs m).keep (G _ (H id cs m)) λL e X h1 B=>?_
  exact⟨B.len,B.plain,B.typedUp rfl up.rho up.num rfl,B.cold,B.one,λj c cv W y=>(B.rel j c cv W y).up up,λj c cv W y=>C _ _ _ (B.own j c cv W y),B.bn⟩
 ·intro id cs m j A;exact p.notI id cs m j (q _ j (H id cs m) A)
 ·intro id cs m;have:=H id cs m;simp[a,this,p.notO id cs m]
 ·intro b o d;simp only[a] at d;split at d;·rename_i r;exact AF r u.size
  ·split at d;·rename_i M;exact Z.oLt b _ M
   ·simp at d
 ·intro b d _ hO;simp[a,d,hO]
 ·cases q3 with
  |ul _ _ ad cap hm=>exact .ul _ _ ad cap hm
 ·have no:∀b,g₁.O b=some .res->a.O b=some .res:=by
   intro b d;have:¬b<w.heap.size:=by intro r;rw[F _ r] at d;simp at d
   simp[a,this,d]
  rcases R with R|⟨b,cap,L,e,X,m0,m1,m2,m3,m4,m5,m6,m7,m8,m9⟩
  ·exact .inl R
  ·exact .inr ⟨b,cap,L,e,X,m0,m1,m2,m3,no _ m4,m5,m6,λhk=>(m7 hk).trans u.beta,m8,m9⟩
def V.flatU:V->Bool
 | .ul _ _=>true
 |v=>v.flat
theorem PureOK.frameR{f:FuncId}{vs:List V}{v:V}(h:PureOK P f vs v)(a:vs.all V.flat=true)(c:v.flatU=true)(hp:List al):FnOK P f vs hp v hp:=by
 by_cases b:∃k xs,v=.ul k xs;·obtain⟨k,xs,rfl⟩:=b;exact h.frameU a hp
 ·refine h.frame a ?_ hp;cases v<;>first|exact c|exact absurd ⟨_,_,rfl⟩ b
def V.fits:V->Prop
 | .int k n=>k.min<=n∧n<=k.max
 | .str l=>l.length<=maxI
 | .sl _ _ xs=>xs.length<=maxI
 | .agg cs=>∀c∈cs,match c with
   | .int k n=>k.min<=n∧n<=k.max
   | .str l=>l.length<=maxI
   | .sl _ _ xs=>xs.length<=maxI
   |_=>True
 |_=>True
theorem VRel.fits{v:V}{cv:Value}(h:VRel I ρ N w v cv):v.fits:=by
 cases h with
 |int k n h=>exact h
 |str l s a h=>subst a;simpa [V.fits,da] using h
 |sln=>simp[V.fits]
 |sle=>simp[V.fits]
 |sl k o xs b d len cap a g t q f p m e=>simp only[V.fits];omega
 |agg cs vs a u x e=>
  intro c g;obtain⟨i,r,rfl⟩:=AZ.1 g;have j:=e i _ _ (Ac r) (Ag (by omega));generalize cs[i]=c at j;generalize vs[i]'(by omega)=cv at j;cases j with
  |int k n h=>exact h
  |str l s a h=>subst a;simpa [da] using h
  |sln=>simp
  |sle=>simp
  |sl k o xs b d len cap a g t q f p m e=>simp only;omega
  |_=>trivial
 |_=>trivial
theorem PureOK.fits{f:FuncId}{vs:List V}{v:V}(h:(∀x∈vs,x.fits)->PureOK P f vs v):PureOK P f vs v:=by
 by_cases d:∀x∈vs,x.fits;·exact h d
 ·refine⟨[],?_⟩;intro w g cargs e k c b a;refine absurd ?_ d;intro x j;obtain⟨i,m,rfl⟩:=AZ.1 j;exact(a i _ _ (Ac m) (Ag (by omega))).fits
end
def V.flatO:V->Bool
 | .bn _ _=>true
 | .ul _ _=>true
 |v=>v.flat1
section
variable{I:Nat->Nat->Prop}{ρ ρ':Nat->Nat}{N N':Nat}{w:World}{P:Program}
theorem VRel.flatO{v:V}{cv:Value}(h:VRel I ρ N w v cv)(m:v.flatO=true):VRel I ρ' N' w v cv:=by
 cases h with
 |bn E n p=>exact .bn E n p
 |ul k xs e cap i=>exact .ul k xs e cap i
 |bool b=>exact .bool b
 |int k n h=>exact .int k n h
 |str l s a h=>exact .str l s a h
 |sln k o=>exact .sln k o
 |sle k o e u=>exact .sle k o e u
 |sl k o xs b d len cap a r i g f t q j=>exact(VRel.sl k o xs b d len cap a r i g f t q j).flat1 rfl
 |nilp=>exact .nilp
 |nilif=>exact .nilif
 |fn f cs vs a j=>
  cases cs with
  |nil=>exact .fn f [] vs a (by simp)
  |cons c cs=>simp[V.flatO,V.flat1] at m
 |_=>simp[V.flatO,V.flat1] at m
theorem ve{cs:List V}(h:cs.all V.flatO=true):dU cs=false:=by
 unfold dU;split;·simp[V.flatO,V.flat1] at h
 ·simp[V.flatO,V.flat1] at h
 ·simp[V.flatO,V.flat1] at h
 ·rfl
theorem OwnOK.reloc{g m:Gh}{w:World}{d c:Occ}{v:V}{cv:Value}(h:OwnOK g w d v cv)(f:m.β=g.β)(j:m.I=g.I)
  (u:∀b,g.O b=some d->m.O b=some c):OwnOK m w c v cv:=by
 unfold OwnOK at h ⊢;split;·rename_i k xs a len cap;obtain⟨o,⟨i,x,q,z,H,B⟩,t⟩:=h;exact⟨u _ o,⟨i,x,q,z,H,λp=>(B p).trans f.symm⟩,by rw[j];exact t⟩
 ·obtain⟨o,J,t⟩:=h;exact⟨u _ o,J,by rw[j];exact t⟩
 ·rcases h with h|⟨b,cap,r,e,q,A,G,Q,L,R,E,F,C,y,M⟩
  ·exact .inl h
  ·exact .inr ⟨b,cap,r,e,q,A,G,Q,L,u _ R,E,F,λp=>(C p).trans f.symm,by rw[j];exact y,by rw[j];exact M⟩
 ·trivial
def V.ren(σ:Nat->Nat):V->V
 | .ptr i o=>.ptr (σ i) o
 |v=>v
def V.flatP(n:Nat):V->Bool
 | .ptr i 0=>decide (i<n)
 |v=>v.flat
theorem V.ren_flat{σ:Nat->Nat}{v:V}(h:v.flat=true):v.ren σ=v:=by cases v<;>simp[V.flat,V.flat2,V.flat1] at h<;>rfl
theorem V.ren_bare{σ:Nat->Nat}{v:V}:(v.ren σ).bare=v.bare:=by cases v<;>rfl
def it(P:Program)(f:FuncId)(avs:List V)(css:List (List V))(v:V)(css':List (List V)):Prop:=
 css'.length=css.length∧∃a,FnOK P f avs (css.map some) v (css'.map some++a)
theorem it.frame{f:FuncId}{avs:List V}{css css':List (List V)}{v:V}(h:it P f avs css v css')(ha:avs.all (V.flatP css.length)=true)(hv:v.flat=true)
  (hc:css.all (λcs=>cs.all V.flatO)=true) (ds:css'.all (λcs=>cs.all V.flatO)=true) {hp hp':List al} {σ:Nat->Nat}
  (cl:∀k k',k<css.length->k'<css.length->σ k=σ k'->k=k')
  (h1:∀(k:Nat) cs,css[k]? =some cs->hp[σ k]? =some (some cs)) (h2:hp'.length=hp.length)
  (h3:∀(k:Nat) cs,css'[k]? =some cs->hp'[σ k]? =some (some cs))
  (h4:∀id,(∀k,k<css.length->σ k≠id)->hp'[id]? =hp[id]?):FnOK P f (avs.map (V.ren σ)) hp v hp':=by
 obtain⟨dv,ci,h⟩:=h;intro w g cargs d1 u c3 b1 c4;have cx:∀(k:Nat) cs,css[k]? =some cs->cs.all V.flatO=true:=λk cs a=>Ak.1 hc cs (Ap a)
 have bx:∀(k:Nat) cs,css'[k]? =some cs->cs.all V.flatO=true:=λk cs a=>Ak.1 ds cs (Ap a)
 have G:∀(k:Nat) cs,css[k]? =some cs->k<css.length:=λk cs a=>(Ad.1 a).1
 have z:∀(k:Nat) cs,(css.map some)[k]? =some (some cs)->css[k]? =some cs:=by
  intro k cs a;rw[Au] at a;cases Q:css[k]? with
  |none=>rw[Q] at a;simp at a
  |some x=>rw[Q] at a;simpa using a
 have sub:∀k,k<css.length->∃cs,css[k]? =some cs∧hp[σ k]? =some (some cs):=λk a=>⟨css[k],Ac a,h1 k _ (Ac a)⟩
 let X:Nat->Option Nat:=λi=>(AE css.length).find? λk=>σ k==i
 have L:∀i k,X i=some k->k<css.length∧σ k=i:=by intro i k a;have m1:=List.mem_of_find?_eq_some a;have m2:=List.find?_some a;exact⟨A6.1 m1,by simpa using m2⟩
 have bb:∀k,k<css.length->X (σ k)=some k:=by
  intro k a;cases Q:X (σ k) with
  |none=>have:=List.find?_eq_none.1 Q k (A6.2 a);simp at this
  |some k'=>obtain⟨m1,m2⟩:=L _ _ Q;rw[cl k' k m1 a m2]
 let m:Gh:={I:=g.I,ρ:=λk=>g.ρ (σ k),O:=λb=>match g.O b with|some (.cell i j)=>(X i).map λk=>.cell k j|_=>none,β:=g.β}
 have gO:∀b o,m.O b=some o->∃k j,k<css.length∧o=.cell k j∧g.O b=some (.cell (σ k) j):=by
  intro b o r;simp only[m] at r;split at r
  ·rename_i i j hg;cases Q:X i with
   |none=>rw[Q] at r;simp at r
   |some k=>rw[Q] at r;obtain⟨m1,m2⟩:=L _ _ Q;exact⟨k,j,m1,by simpa using r.symm,by rw[m2];exact hg⟩
  ·simp at r
 have gN:∀b,(∀k j,k<css.length->g.O b≠some (.cell (σ k) j))->m.O b=none:=by
  intro b r;cases Q:m.O b with
  |none=>rfl
  |some o=>obtain⟨k,j,a,_,p⟩:=gO b o Q;exact absurd p (r k j a)
 have gC:∀b k j,k<css.length->g.O b=some (.cell (σ k) j)->m.O b=some (.cell k j):=by intro b k j a r;simp[m,r,bb k a]
 have c8:∀k,k<css.length->m.O (g.ρ (σ k))=none:=by intro k a;obtain⟨cs,_,av⟩:=sub k a;exact gN _ (by intro k' j _ p;rw[u.notO _ cs av] at p;cases p)
 have h0:HR m (css.map some) w:=by
  refine⟨?_,?_,?_,?_,u.exI,?_⟩
  ·intro k c a;have a:=z k c a;refine(u.obj _ c (h1 k c a)).keep rfl λes e fz a1 F=>?_
   have hr:=ve (cx k c a);refine⟨F.len,F.plain,by rw[pl hr];simp,F.cold,F.one,?_,?_,F.bn⟩;·intro j R cv p C;exact(F.rel j R cv p C).flatO (Ak.1 (cx k c a) R (Ap (by rw[kf hr] at p;exact p)))
   ·intro j R cv p C;exact(F.own j R cv p C).reloc rfl rfl λb r=>gC b k j (G k c a) r
  ·intro k k' c R a y A;have a:=z k c a;have y:=z k' R y;exact u.apart _ _ _ _ (h1 k c a) (h1 k' R y) λe=>A (cl k k' (G k c a) (G k' R y) e)
  ·intro k c a;exact u.notI _ c (h1 k c (z k c a))
  ·intro k c a;exact c8 k (G k c (z k c a))
  ·intro b o r;obtain⟨k,j,_,_,p⟩:=gO b o r;exact u.oLt b _ p
 have b3:∀(i:Nat) x cv,avs[i]? =some x->cargs[i]? =some cv->VRel m.I m.ρ (css.map some).length w x cv:=by
  intro i x cv hx C;have hr:=c4 i (x.ren σ) cv (by rw[Au,hx];rfl) C;have a0:=Ak.1 ha x (Ap hx);unfold V.flatP at a0;split at a0
  ·rename_i k;have a:k<css.length:=by simpa using a0
   simp only[V.ren] at hr;cases hr with
   |ptr _ _ _=>exact .ptr k 0 (by simpa using a)
  ·rw[V.ren_flat a0] at hr;exact hr.flat a0
 refine(h w m cargs (d1.sub rfl (λh=>h) (λh=>by simp[m,h])) h0 (by rw[<-c3,AU]) (by intro x hx;have:=b1 (x.ren σ) (List.mem_map_of_mem hx);rw[V.ren_bare] at this;exact this) b3).mono ?_;rintro ex w' ⟨cv,g₁,rfl,q1,S,q3,q4⟩;have r0:∀k,k<css.length->g₁.ρ k=g.ρ (σ k):=λk a=>S.up.rho k (by simpa using a)
 have Z:∀b,(∀k,k<css.length->g.ρ (σ k)≠b)->∀(k:Nat) cs,(css.map some)[k]? =some (some cs)->m.ρ k≠b:=λb r k cs a=>r k (G k cs (z k cs a))
 have b0:∀b,b<w.heap.size->(∀k,k<css.length->g.ρ (σ k)≠b)->m.O b=none->w'.heap[b]? =w.heap[b]?:=λb r A W=>S.block b r (Z b A) W
 let B:Gh:={I:=g₁.I,ρ:=g.ρ,O:=λb=>match g₁.O b with
  |some .res=>some .res
  |some (.cell k j)=>cond (AV k css.length) (some (.cell (σ k) j)) none
  |some (.slot _)=>none
  |none=>if b<w.heap.size∧m.O b=none then g.O b else none,β:=g.β}
 have up:Up g.I g.ρ hp.length w B.I B.ρ hp'.length w':=⟨S.up.mono,S.up.cell,λ_ _=>rfl,by rw[h2];exact Ao _⟩
 have b5:∀(i:Nat) c,hp[i]? =some (some c)->g.ρ i<w.heap.size:=by intro i c t;obtain⟨ob,h1⟩:=(u.obj i c t).block;exact(AN.1 h1).1
 have b4:∀(k:Nat) cs,css'[k]? =some cs->(css'.map some++ci)[k]? =some (some cs):=by intro k cs a;rw[Am (by simpa using (Ad.1 a).1),Au,a];rfl
 have key:∀(i:Nat) c,hp'[i]? =some (some c)->(∃k d,k<css.length∧i=σ k∧css'[k]? =some c∧hp[i]? =some (some d))∨((∀k,k<css.length->σ k≠i)∧hp[i]? =some (some c)):=by
  intro i c t;by_cases a:∃k,k<css.length∧σ k=i
  ·obtain⟨k,a,rfl⟩:=a;obtain⟨d,_,q⟩:=sub k a;have y:k<css'.length:=by omega
   have:=h3 k _ (Ac y);rw[this] at t;exact .inl ⟨k,d,a,rfl,by rw[Ac y];simpa using t,q⟩
  ·have hn:∀k,k<css.length->σ k≠i:=λk y e=>a ⟨k,y,e⟩
   exact .inr ⟨hn,(h4 i hn).symm.trans t⟩
 have J:∀(i:Nat) c,hp'[i]? =some (some c)->∃d,hp[i]? =some (some d):=by
  intro i c t;rcases key i c t with⟨_,d,_,_,_,h⟩|⟨_,h⟩
  ·exact⟨d,h⟩
  ·exact⟨c,h⟩
 have H:∀(i:Nat) c,(∀k,k<css.length->σ k≠i)->hp[i]? =some (some c)->∀k,k<css.length->g.ρ (σ k)≠g.ρ i:=by intro i c hn t k a;obtain⟨d,_,q⟩:=sub k a;exact u.apart _ _ _ _ q t (hn k a)
 have M:∀b,b<w.heap.size->(∀k,k<css.length->g.ρ (σ k)≠b)->m.O b=none->B.O b=g.O b:=by intro b r A W;have:=S.oSame b r (Z b A) W;simp only[B,this];rw[if_pos ⟨r,W⟩]
 have a4:∀b o,g.O b=some o->∀k,k<css.length->g.ρ (σ k)≠b:=by intro b o r k a e;obtain⟨d,_,q⟩:=sub k a;rw[<-e,u.notO _ d q] at r;cases r
 refine⟨cv,B,rfl,⟨?_,?_,?_,?_,q1.exI,?_⟩,⟨rfl,S.os,S.tape,S.output,S.size,?_,up,?_,?_,?_⟩,?_,?_⟩
 ·intro i c t;rcases key i c t with⟨k,d,a,rfl,y,av⟩|⟨A,t⟩
  ·refine(q1.obj k c (b4 k c y)).keep (by rw[r0 k a]) λc1 e' fz a1 F=>?_
   rw[r0 k a] at a1;have hr:=ve (bx k c y);refine⟨F.len,F.plain,by rw[pl hr];simp,F.cold,F.one,?_,?_,?_⟩;·intro j R cv p C;exact(F.rel j R cv p C).flatO (Ak.1 (bx k c y) R (Ap (by rw[kf hr] at p;exact p)))
   ·intro j R cv p C;refine(F.own j R cv p C).reloc S.beta.symm rfl λb r=>?_
    have d2:AV k css.length=true:=by rw[Bb];exact a
    simp[B,r,d2]
   ·intro j E n p;have:=F.bn j E n p;rw[r0 k a] at this;exact this
  ·have ad:m.O (g.ρ i)=none:=gN _ (by intro k j _ p;rw[u.notO i c t] at p;cases p);refine(u.obj i c t).keep (b0 _ (b5 i c t) (H i c A t) ad) λc1 e' fz a1 F=>?_
   refine⟨F.len,F.plain,F.typedUp rfl (λ_ _=>rfl) up.num rfl,F.cold,F.one,λj c cv p C=>(F.rel j c cv p C).up up,?_,F.bn⟩;intro j R cv p C;refine ch (F.own j R cv p C) rfl (λb j t=>⟨up.mono b j t,up.cell b j t⟩) ?_;intro b r;have b6:=u.oLt b _ r;have W:m.O b=none:=gN _ (by intro k j' a c5;rw[r] at c5;cases c5;exact A k a rfl);have Y:=a4 b _ r;exact⟨(M b b6 Y W).trans r,b0 b b6 Y W,λj p=>S.iSame b j b6 (Z b Y) W p⟩
 ·intro i i' c R t d0 A;obtain⟨d,m1⟩:=J i c t;obtain⟨ec,m2⟩:=J i' R d0;exact u.apart _ _ _ _ m1 m2 A
 ·intro i c t j p;rcases key i c t with⟨k,d,a,rfl,y,av⟩|⟨A,t⟩
  ·have:=q1.notI k c (b4 k c y) j;rw[r0 k a] at this;exact this p
  ·have ad:m.O (g.ρ i)=none:=gN _ (by intro k j _ p;rw[u.notO i c t] at p;cases p);exact u.notI i c t j (S.iSame _ j (b5 i c t) (Z _ (H i c A t)) ad p)
 ·intro i c t;rcases key i c t with⟨k,d,a,rfl,y,av⟩|⟨A,t⟩
  ·have:=q1.notO k c (b4 k c y);rw[r0 k a] at this;simp only[B,this];split;·exact u.notO _ d av
   ·rfl
  ·have ad:m.O (g.ρ i)=none:=gN _ (by intro k j _ p;rw[u.notO i c t] at p;cases p);exact(M _ (b5 i c t) (H i c A t) ad).trans (u.notO i c t)
 ·intro b o r;simp only[B] at r;split at r;·rename_i Q;exact q1.oLt b _ Q
  ·rename_i Q;exact q1.oLt b _ Q
  ·simp at r
  ·split at r;·rename_i Q;exact AF Q.1 S.size
   ·simp at r
 ·intro b r ho W;exact b0 b r (λk a e=>by obtain⟨d,_,q⟩:=sub k a;exact ho _ d q e) (gN _ (by intro k j _ p;rw[W] at p;cases p))
 ·intro b j r ho W t;exact S.iSame b j r (Z b λk a e=>by obtain⟨d,_,q⟩:=sub k a;exact ho _ d q e) (gN _ (by intro k j _ p;rw[W] at p;cases p)) t
 ·intro b r ho W;exact(M b r (λk a e=>by obtain⟨d,_,q⟩:=sub k a;exact ho _ d q e) (gN _ (by intro k j _ p;rw[W] at p;cases p))).trans W
 ·intro i c t;exact .inl (J i c t)
 ·exact q3.flat hv
 ·exact q4.reloc S.beta.symm rfl λb r=>by simp[B,r]
def agZ(P:Program)(f:FuncId)(vs cs:List V)(v:V)(b:List V):Prop:=∃a,FnOK P f (.ptr 0 0::vs) [some cs] v (some b::a)
theorem V.flatP_flat{n:Nat}{v:V}(h:v.flat=true):v.flatP n=true:=by
 unfold V.flatP;split;·simp[V.flat,V.flat2,V.flat1] at h
 ·exact h
theorem aal{σ:Nat->Nat}:∀{vs:List V},vs.all V.flat=true->vs.map (V.ren σ)=vs
 | [],_=>rfl
 |v::vs,h=>by simp only[B3,Aa] at h;rw[AI,V.ren_flat h.1,aal h.2]
theorem agZ.frame{f:FuncId}{vs cs a:List V}{v:V}(h:agZ P f vs cs v a)(o:vs.all V.flat=true)(q:v.flat=true)(r:cs.all V.flatO=true)(j:a.all V.flatO=true)
  {hp:List al} {id:Nat} (g:hp[id]? =some (some cs)):FnOK P f (.ptr id 0::vs) hp v (hp.set id (some a)):=by
 obtain⟨e,h⟩:=h;have d:id<hp.length:=(Ad.1 g).1
 have:=it.frame (P:=P) (f:=f) (avs:=.ptr 0 0::vs) (css:=[cs]) (css':=[a]) (v:=v) ⟨rfl,e,h⟩ (hp:=hp) (hp':=hp.set id (some a)) (σ:=λ_=>id)
  (by simp only[B3,Aa];exact⟨rfl,Ak.2 λx p=>V.flatP_flat (Ak.1 o x p)⟩) q (by simpa using r) (by simpa using j)
  (by intro k k' c m _;simp at c m;omega) (by intro k b c;cases k<;>simp at c;rw[<-c];exact g) (by simp)
  (by intro k b c;cases k<;>simp at c;rw[<-c];simp[d])
  (by intro i t;rw[BG (t 0 (by simp))])
 rw[AI,aal o] at this;exact this
theorem cz.mono{Γ:ao}{b a:List Nat}(h:cz Γ b)(g:b.all (λx=>a.contains x)=true)(j:a.all (λx=>AV x 2000000||b.contains x)=true):cz Γ a:=by
 refine⟨?_,λf vs hp c v hp' d=>h.loc f vs hp c v hp' ?_⟩
 rotate_left
 ·have:=Ak.1 j (f+2000000) (by simpa using d);simp only[AQ,Bb] at this;rcases this with e|e;·omega
  ·exact e
 intro f vs hp d;refine h.pure f vs hp ?_;cases i:b.contains f with
 |false=>rfl
 |true=>have:=Ak.1 g f (by simpa using i);rw[this] at d;simp at d
def mt:Nat->List V->List V
 |_,[]=>[]
 |k,.ptr _ 0::vs=>.ptr k 0::mt (k+1) vs
 |k,v::vs=>v::mt k vs
def jL(hp:List al):List Nat->Option (List (List V))
 | []=>some []
 |i::is=>match hp.getD i none with
  |some cs=>match jL hp is with
   |some css=>some (cs::css)
   |none=>none
  |none=>none
def kK:List al->List Nat->List (List V)->List al
 |hp,i::is,c::cs=>kK (hp.set i (some c)) is cs
 |hp,_,_=>hp
def sO:List Nat->Bool
 | []=>true
 |i::is=> !(is.any (Af i))&&sO is
abbrev xS:=Nat->List V->List (List V)->Option (Bool×V×List (List V))
def mT(G:xS)(Γ:ao):ao:=λf vs hp=>
 match jL hp (dO vs) with
 |some css=>match G f (mt 0 vs) css with
  |some (c,v,css')=>cond (sO (dO vs)&&Af css'.length css.length&&(mt 0 vs).all (V.flatP css.length)&&v.flat&&css.all (λcs=>cs.all V.flatO)&&css'.all (λcs=>cs.all V.flatO))
    (some (c,v,kK hp (dO vs) css')) none
  |none=>Γ f vs hp
 |none=>Γ f vs hp
theorem vf:∀{l:List Nat},sO l=true->l.Nodup
 | [],_=>List.nodup_nil
 |i::is,h=>by simp only[sO,Aa,AK,List.any_eq_false] at h;refine List.nodup_cons.2 ⟨λa=>?_,vf h.2⟩;exact h.1 i a (by simp)
theorem wJ{hp:List al}:∀{is:List Nat}{css:List (List V)},jL hp is=some css->css.length=is.length∧∀(k:Nat) cs,css[k]? =some cs->hp[is.getD k 0]? =some (some cs)
 | [],css,h=>by simp only[jL,Ab] at h;subst h;simp
 |i::is,css,h=>by
  simp only[jL] at h;split at h
  ·rename_i cs a;split at h
   ·rename_i d f;simp only[Ab] at h;subst h;obtain⟨g,j⟩:=wJ f;refine⟨by simp[g],λk c b=>?_⟩;cases k with
    |zero=>
     simp only[Bl,Ab] at b;subst b;rw[Al] at a;simp only[BS];cases e:hp[i]? with
     |none=>rw[e] at a;simp at a
     |some x=>rw[e] at a;simpa using a
    |succ k=>simp only[A5] at b;simpa using j k c b
   ·simp at h
  ·simp at h
theorem uw:∀{is:List Nat}{hp:List al}{css:List (List V)},(kK hp is css).length=hp.length
 | [],hp,css=>by cases css<;>rfl
 |i::is,hp,[]=>rfl
 |i::is,hp,c::cs=>by simp[kK,uw]
theorem tH:∀{is:List Nat}{hp:List al}{css:List (List V)}{id:Nat},id ∉ is->(kK hp is css)[id]? =hp[id]?
 | [],hp,css,id,_=>by cases css<;>rfl
 |i::is,hp,[],id,_=>rfl
 |i::is,hp,c::cs,id,h=>by simp only[AT,not_or] at h;rw[kK,tH h.2,BG (λe=>h.1 e.symm)]
theorem aam:∀{is:List Nat}{hp:List al}{css:List (List V)},is.Nodup->(∀i∈is,i<hp.length)->∀(k:Nat) cs,k<is.length->css[k]? =some cs->(kK hp is css)[is.getD k 0]? =some (some cs)
 | [],_,_,_,_,k,_,b,_=>by simp at b
 |i::is,hp,[],_,_,k,_,_,h=>by simp at h
 |i::is,hp,c::cs,f,e,k,m,b,h=>by
  obtain⟨a,d⟩:=List.nodup_cons.1 f;cases k with
  |zero=>simp only[Bl,Ab] at h;subst h;simp only[BS,kK];rw[tH a];simp[e i AD]
  |succ k=>simp only[A5] at h;simp only[List.getD_cons_succ,kK];exact aam d (λj g=>by simpa using e j (AH _ g)) k m (by simpa using b) h
theorem vg{σ:Nat->Nat}{n:Nat}:∀{vs:List V}{k:Nat},(∀i,i<(dO vs).length->σ (k+i)=(dO vs).getD i 0)->(mt k vs).all (V.flatP n)=true->(mt k vs).map (V.ren σ)=vs
 | [],_,_,_=>rfl
 |v::vs,k,a,b=>by
  by_cases c:∃i,v=.ptr i 0;·obtain⟨i,rfl⟩:=c;simp only[mt,AI,V.ren];simp only[dO] at a;simp only[mt,B3,Aa] at b;have e:=a 0 (by simp);simp only[Cv,BS] at e;rw[e,vg (λj g=>by have:=a (j+1) (by simp;omega);rw[List.getD_cons_succ] at this;rw[<-this];congr 1;omega) b.2]
  ·have e1:mt k (v::vs)=v::mt k vs:=by
    cases v<;>try rfl
    rename_i i o;cases o with
    |zero=>exact absurd ⟨i,rfl⟩ c
    |succ o=>rfl
   have f:dO (v::vs)=dO vs:=by
    cases v<;>try rfl
    rename_i i o;cases o with
    |zero=>exact absurd ⟨i,rfl⟩ c
    |succ o=>rfl
   rw[f] at a;rw[e1] at b ⊢;simp only[B3,Aa] at b;have d:v.flat=true:=by
    have:=b.1;unfold V.flatP at this;split at this;·rename_i i;exact absurd ⟨i,rfl⟩ c
    ·exact this
   rw[AI,V.ren_flat d,vg a b.2]
theorem afg{G:xS}{Γ:ao}(y:∀f avs css v css',G f avs css=some (true,v,css')->it P f avs css v css')(o:bt P Γ):bt P (mT G Γ):=by
 intro f vs hp v hp' h;unfold mT at h;split at h
 ·rename_i css g;split at h
  ·rename_i c x css' t;cases a:(sO (dO vs)&&Af css'.length css.length&&(mt 0 vs).all (V.flatP css.length)&&x.flat&&css.all (λcs=>cs.all V.flatO)&&css'.all (λcs=>cs.all V.flatO)) with
   |false=>rw[a] at h;simp at h
   |true=>
    rw[a] at h;simp only[cond_true,Ab,Ae] at h;obtain⟨rfl,rfl,rfl⟩:=h;simp only[Aa] at a;obtain⟨⟨⟨⟨⟨L,u⟩,r⟩,A⟩,J⟩,H⟩:=a;obtain⟨M,c2⟩:=wJ g;have d:=vf L;have z:css'.length=css.length:=by simpa using u
    have:=it.frame (y f _ css _ css' t) r A J H (hp:=hp) (hp':=kK hp (dO vs) css') (σ:=λk=>(dO vs).getD k 0)
     (by intro k k' b m e;rw[M] at b m;simp only[Al,Ac b,Ac m,Bw] at e;exact(List.getElem_inj d).1 e)
     c2 uw
     (by
      intro k cs b;have E:k<css'.length:=(Ad.1 b).1;refine aam d ?_ k cs (by omega) b;intro i B;obtain⟨j,p,rfl⟩:=AZ.1 B;have q:j<css.length:=by omega
      have:=c2 j _ (Ac q);rw[Al,Ac p,Bw] at this;exact(Ad.1 this).1)
     (by
      intro id F;refine tH λC=>?_
      obtain⟨j,p,rfl⟩:=AZ.1 C;exact F j (by omega) (by rw[Al,Ac p,Bw]))
    rw[vg (n:=css.length) (λi _=>by rw[Aw]) r] at this;exact this
  ·exact o _ _ _ _ _ h
 ·exact o _ _ _ _ _ h
theorem vh{hp a:List al}:∀{is:List Nat},(∀i∈is,a[i]? =hp[i]?)->jL a is=jL hp is
 | [],_=>rfl
 |i::is,h=>by simp only[jL];rw[rJ (h i (AD ..)),vh λj b=>h j (AH _ b)]
theorem tI:∀(is:List Nat)(hp:List al)(css:List (List V)),kK hp is css=uY hp (is.zip (css.map some))
 | [],hp,css=>by cases css<;>rfl
 |i::is,hp,[]=>rfl
 |i::is,hp,c::css=>by simp only[kK,AI,D0];rw[tI is];rfl
theorem ac7{G:xS}{Γ:ao}{m:List Nat}(E:∀f avs css,m.contains f=false->G f avs css=none)(r:cz Γ m):cz (mT G Γ) m:=by
 refine⟨?_,?_⟩
 ·intro f vs hp t;have e:∀hp,mT G Γ f vs hp=Γ f vs hp:=by
   intro hp;unfold mT;split;·rw[E f _ _ t]
   ·rfl
  rw[e,e];exact r.pure f vs hp t
 ·intro f vs hp c v hp' t h;have j:∀d:List al,(∀i∈vV (lH vs),d[i]? =hp[i]?)->jL d (dO vs)=jL hp (dO vs):=λd k=>vh λi F=>k i (rK (tB F))
  unfold mT at h;cases g:jL hp (dO vs) with
  |none=>rw[g] at h;obtain⟨q,B,A,z⟩:=r.loc f _ _ _ _ _ t h;refine⟨q,B,A,λd y k=>?_⟩;simp only[mT,j d k,g];exact z d y k
  |some css=>
   rw[g] at h;simp only at h;cases u:G f (mt 0 vs) css with
   |none=>rw[u] at h;obtain⟨q,B,A,z⟩:=r.loc f _ _ _ _ _ t h;refine⟨q,B,A,λd y k=>?_⟩;simp only[mT,j d k,g,u];exact z d y k
   |some x=>
    obtain⟨H,C,css'⟩:=x;rw[u] at h;simp only at h;cases o:(sO (dO vs)&&Af css'.length css.length&&(mt 0 vs).all (V.flatP css.length)&&C.flat&&css.all (λcs=>cs.all V.flatO)&&css'.all (λcs=>cs.all V.flatO)) with
    |false=>rw[o] at h;simp at h
    |true=>
     rw[o] at h;simp only[cond_true,Ab,Ae] at h;obtain⟨rfl,rfl,rfl⟩:=h;refine⟨(dO vs).zip (css'.map some),?_,tI _ _ _,λd y k=>?_⟩;·intro p hp;obtain⟨a,b⟩:=p;exact rK (List.of_mem_zip hp).1
     ·simp only[mT,j d k,g,u,o,cond_true];rw[tI]
end
def V.lend1(hp:List al):V->V
 | .sw _ id n=>match hp.getD id none with
   |some [.rw k xs]=>.sl k (.may false) xs
   |_=>.undef
 |v=>v
def V.lend(hp:List al):V->V
 | .agg cs=>.agg (cs.map (V.lend1 hp))
 |v=>v.lend1 hp
def V.lendT(hp:List al):V->Bool
 | .sw _ id n=>match hp.getD id none with
   |some [.rw _ xs]=>Af n xs.length
   |_=>false
 |_=>true
def V.isSw:V->Bool
 | .sw _ _ _=>true
 |_=>false
def oh(hp:List al):List V->Bool->Bool
 | [],b=>b
 |v::r,b=>cond v.isSw (v.lendT hp&&oh hp r b) (oh hp r b)
def pF(hp:List al):List V->Bool
 | []=>true
 |v::r=>oh hp v.cellsA (pF hp r)
def V.scal1:V->Bool
 | .bool _| .int _ _| .str _| .nilif=>true
 |_=>false
def V.scal:V->Bool
 | .tup cs=>cs.all V.scal1
 |v=>v.scal1
def oi(a:List Nat)(G:Nat->List V->Option (Bool×V))(Γ:ao):ao:=λf vs hp=>
 cond (a.elem f) (match Γ f vs hp with
  |some r=>some r
  |none=>match G f (vs.map (V.lend hp)) with
   |some (c,v)=>cond (v.scal&&(vs.map (V.lend hp)).all V.flat) (some (c&&pF hp vs,v,hp)) none
   |none=>none) (Γ f vs hp)
section
variable{I I':Nat->Nat->Prop}{ρ ρ':Nat->Nat}{N N':Nat}{w w':World}{P:Program}
theorem VRel.scal1{v:V}{cv:Value}(h:VRel I ρ N w v cv)(a:v.scal1=true):VRel I' ρ' N' w' v cv:=by
 cases h<;>simp[V.scal1] at a;·exact .bool _
 ·exact .int _ _ (by assumption)
 ·exact .str _ _ (by assumption) (by assumption)
 ·exact .nilif
theorem VRel.scal{v:V}{cv:Value}(h:VRel I ρ N w v cv)(a:v.scal=true):VRel I' ρ' N' w' v cv:=by
 by_cases e:∃cs,v=.tup cs
 ·obtain⟨cs,rfl⟩:=e;cases h with
  |tup cs vs g f=>simp only[V.scal,Ak] at a;exact .tup cs vs g λi c cv d b=>(f i c cv d b).scal1 (a c (Ap d))
 ·refine h.scal1 ?_;cases v<;>first|exact a|exact absurd ⟨_,rfl⟩ e
theorem af4{v:V}(b:v.scal=true)(g:Gh)(a:Occ)(cv:Value):OwnOK g w a v cv:=by cases v<;>simp[V.scal,V.scal1] at b<;>simp[OwnOK]
theorem afh{hp:List al}{v:V}(h:(v.lend1 hp).flat1=true)(a:v.one=true):(v.lend1 hp).one=true:=by generalize v.lend1 hp=u at h;cases u<;>simp[V.flat1] at h<;>rfl
theorem xT{hp:List al}:∀{cs:List V}{b:Bool},oh hp cs b=true->b=true∧∀c∈cs,c.lendT hp=true
 | [],b,h=>⟨h,by simp⟩
 |v::r,b,h=>by
  simp only[oh] at h;have e:v.lendT hp=true∧oh hp r b=true:=by
   cases a:v.isSw with
   |true=>rw[a] at h;simpa using h
   |false=>rw[a] at h;refine⟨?_,by simpa using h⟩;cases v<;>first|rfl|simp[V.isSw] at a
  obtain⟨f,g⟩:=xT e.2;exact⟨f,λc d=>by
   rcases AT.1 d with rfl|d;·exact e.1
   ·exact g c d⟩
theorem xU{hp:List al}:∀{vs:List V},pF hp vs=true->∀v∈vs,∀c∈v.cellsA,c.lendT hp=true
 | [],_=>by simp
 |v::r,h=>by
  obtain⟨d,e⟩:=xT (b:=pF hp r) h;intro u a;rcases AT.1 a with rfl|a;·exact e
  ·exact xU d u a
theorem af5{f:FuncId}{vs:List V}{hp:List al}{v:V}(h:PureOK P f (vs.map (V.lend hp)) v)(hT:pF hp vs=true)(hs:v.scal=true)(hf:(vs.map (V.lend hp)).all V.flat=true):FnOK P f vs hp v hp:=by
 obtain⟨hp',h⟩:=h;intro w g cargs b4 p bs Q a0;let J:Nat->Nat->Prop:=λb j=>g.I b j∨∃(id:Nat)(k:EK)(xs:List (Ty k)),hp[id]? =some (some [.rw k xs])∧b=g.ρ id∧j<xs.length*k.sz
 let u:Gh:={I:=J,ρ:=g.ρ,O:=λ_=>none,β:=g.β}
 have h0:HR u [] w:=by
  refine⟨by simp,by simp,by simp,by simp,?_,by simp[u]⟩;intro b j q;rcases q with q|⟨id,k,xs,d,rfl,q⟩
  ·exact p.exI b j q
  ·obtain⟨C,e,fz,a1,a2⟩:=(p.obj id _ d).row rfl;have Z:=a2.len;simp only[cellsOf] at Z;rw[bR] at Z;rw[cell_of_heap a1,Ag (by omega)];rfl
 have S:∀N,Up g.I g.ρ N w J g.ρ N w:=λN=>⟨λb j q=>.inl q,λ_ _ _=>rfl,λ_ _=>rfl,Ao _⟩
 have H:∀(x:V)(cv:Value),VRel g.I g.ρ hp.length w x cv->x.lendT hp=true->(x.lend1 hp).flat1=true->VRel J g.ρ 0 w (x.lend1 hp) cv:=by
  intro x cv hr B a;by_cases m:∃k id n,x=.sw k id n
  ·obtain⟨k0,id,n,rfl⟩:=m;simp only[V.lend1] at a ⊢;simp only[V.lendT] at B;split at a
   ·rename_i k xs d;have G:hp[id]? =some (some [.rw k xs]):=by
     rw[Al] at d;cases z:hp[id]? with
     |none=>rw[z] at d;simp at d
     |some y=>rw[z] at d;simpa using d
    rw[d] at B
    ·obtain rfl:=AA B;cases hr with
     |sw _ _ _ h1 E h3=>
      obtain⟨C,e,fz,a1,a2⟩:=(p.obj id _ G).row rfl;have Z:=a2.len;simp only[cellsOf] at Z;rw[bR] at Z;have L:∀(i:Nat) x (j:Nat),xs[i]? =some x->j<(enc k x).length->i*k.sz+j<xs.length*k.sz:=by intro i x j m q;rw[a8] at q;exact jI (Ad.1 m).1 q
      refine .sl k (.may false) xs (g.ρ id) 0 xs.length _ rfl E h3 (by simp) (λi j=>C.getD (i*k.sz+j) undef) ?_ ?_ ?_;·intro i x j m q;exact .inr ⟨id,k,xs,G,rfl,by rw[Aw];exact L i x j m q⟩
      ·intro i x j m q;have:=L i x j m q;rw[Aw,cell_of_heap a1,Ag (by omega)];simp[BA,show i*k.sz+j<C.size by omega]
      ·intro i x j v m hv;have q:=(Ad.1 hv).1;have:=L i x j m q;have bb:=a2.rel (i*k.sz+j) v (C.getD (i*k.sz+j) undef) (by simp only[cellsOf];exact flat_enc xs i j x v m hv) (by
        rw[Ag (by omega)];simp[BA,show i*k.sz+j<C.size by omega])
       exact(oV (ρ':=g.ρ) (N':=0) hv bb).up (S 0)
   ·simp[V.flat1] at a
  ·have e:x.lend1 hp=x:=by
    cases x<;>first|rfl|exact absurd ⟨_,_,_,rfl⟩ m
   rw[e] at a ⊢;exact(hr.flat1 (N':=0) a).up (S 0)
 have b1:∀(x:V)(cv:Value),VRel g.I g.ρ hp.length w x cv->(∀c∈x.cellsA,c.lendT hp=true)->(x.lend hp).flat=true->VRel J g.ρ 0 w (x.lend hp) cv:=by
  intro x cv hr R a;by_cases m:∃cs,x=.agg cs
  ·obtain⟨cs,rfl⟩:=m;simp only[V.cellsA] at R;simp only[V.lend] at a ⊢;simp only[V.flat,V.flat2,List.all_map,Ak,Ea] at a;cases hr with
   |agg cs us Z h1 B hv=>
    refine .agg _ us (by simpa using Z) ?_ ?_ ?_;·intro c t;obtain⟨F,av,rfl⟩:=Av.1 t;exact afh (a F av) (h1 F av)
    ·intro i c cv t r;rw[Au] at t;cases z:cs[i]? with
     |none=>rw[z] at t;simp at t
     |some F=>
      rw[z] at t;simp only[Bt,Ab] at t;subst t;have:=B i F cv z r;unfold V.lend1;split
      ·split;·simp[OwnNil]
       ·simp[OwnNil]
      ·exact this
    ·intro i c cv t r;rw[Au] at t;cases z:cs[i]? with
     |none=>rw[z] at t;simp at t
     |some F=>rw[z] at t;simp only[Bt,Ab] at t;subst t;exact H F cv (hv i F cv z r) (R F (Ap z)) (a F (Ap z))
  ·have e:x.lend hp=x.lend1 hp:=by
    cases x<;>first|rfl|exact absurd ⟨_,rfl⟩ m
   rw[e] at a ⊢;by_cases hy:∃k id n,x=.sw k id n
   ·refine H x cv hr ?_ ?_;·obtain⟨k,id,n,rfl⟩:=hy;exact R _ (by simp[V.cellsA])
    obtain⟨k,id,n,rfl⟩:=hy;simp only[V.lend1] at a ⊢;split at a;·simp[V.flat1]
    ·simp[V.flat,V.flat2,V.flat1] at a
   ·have e:x.lend1 hp=x:=by
     cases x<;>first|rfl|exact absurd ⟨_,_,_,rfl⟩ hy
    rw[e] at a ⊢;exact(hr.flat (ρ':=g.ρ) (N':=0) a).up (S 0)
 have X:∀(i:Nat) x cv,(vs.map (V.lend hp))[i]? =some x->cargs[i]? =some cv->VRel u.I u.ρ ([]:List al).length w x cv:=by
  intro i x cv m r;have M:=Ak.1 hf x (Ap m);rw[Au] at m;cases z:vs[i]? with
  |none=>rw[z] at m;simp at m
  |some y=>rw[z] at m;simp only[Bt,Ab] at m;subst m;exact b1 y cv (a0 i y cv z r) (xU hT y (Ap z)) M
 refine(h w u cargs (b4.sub rfl (λh=>.inl h) (λ_=>rfl)) h0 (by simpa using bs) (by
  intro x m;have M:=Ak.1 hf x m;cases x<;>first|rfl|(simp[V.flat,V.flat2,V.flat1] at M;done)|skip
  rename_i k o xs;obtain⟨y,hy,e⟩:=Av.1 m;by_cases bY:∃k id n,y=.sw k id n
  ·obtain⟨k',id,n,rfl⟩:=bY;simp only[V.lend,V.lend1] at e;split at e;·simp at e;obtain⟨rfl,rfl, -⟩:=e;rfl
   ·simp at e
  ·have e':y.lend hp=y∨∃cs,y=.agg cs:=by
    cases y<;>first|exact .inl rfl|exact .inr ⟨_,rfl⟩|exact absurd ⟨_,_,_,rfl⟩ bY
   rcases e' with e'|⟨cs,rfl⟩
   ·rw[<-e,e'];exact Q y hy
   ·simp[V.lend] at e) X).mono ?_
 rintro ex w' ⟨cv,g₁,rfl,q1,W,q3,q4⟩;have Y:∀b,b<w.heap.size->w'.heap[b]? =w.heap[b]?:=λb B=>W.block b B (by simp) rfl
 have A:∀b j,g.I b j->w'.cell? ⟨b,j,none⟩=w.cell? ⟨b,j,none⟩:=λb j q=>W.up.cell b j (.inl q)
 have up:Up g.I g.ρ hp.length w g.I g.ρ hp.length w':=⟨λ_ _ h=>h,A,λ_ _=>rfl,Ao _⟩
 have b3:∀(id:Nat) cs,hp[id]? =some (some cs)->g.ρ id<w.heap.size:=by intro id cs d;obtain⟨ob,h1⟩:=(p.obj id cs d).block;exact(AN.1 h1).1
 refine⟨cv,g,rfl,⟨?_,p.apart,p.notI,p.notO,?_,λb o B=>AF (p.oLt b o B) W.size⟩,⟨rfl,W.os,W.tape,W.output,W.size,λb B _ _=>Y b B,up,λ_ _ _ _ _ h=>h,λ_ _ _ h=>h,λ_ cs h=>.inl ⟨cs,h⟩⟩,q3.scal hs,af4 hs _ _ _⟩
 ·intro id cs d;refine(p.obj id cs d).keep (Y _ (b3 id cs d)) λC e fz h1 E=>?_
  refine⟨E.len,E.plain,E.typed,E.cold,E.one,λj c cv t r=>(E.rel j c cv t r).up up,λj c cv t r=>?_,E.bn⟩;exact ch (E.own j c cv t r) rfl (λb j hi=>⟨hi,A b j hi⟩) λb B=>⟨B,Y b (p.oLt b _ B),λj q=>q⟩
 ·intro b j q;rw[A b j q];exact p.exI b j q
theorem af6{d:List Nat}{G:Nat->List V->Option (Bool×V)}{Γ:ao}(k:∀f vs v,G f vs=some (true,v)->PureOK P f vs v)(b:bt P Γ):bt P (oi d G Γ):=by
 intro f vs hp v hp' h;unfold oi at h;cases i:d.elem f with
 |false=>rw[i] at h;exact b _ _ _ _ _ h
 |true=>
  rw[i] at h;simp only[cond_true] at h;split at h;·rename_i r g;rw[Ai h] at g;exact b _ _ _ _ _ g
  ·split at h
   ·rename_i c j o;cases a:(j.scal&&(vs.map (V.lend hp)).all V.flat) with
    |false=>rw[a] at h;simp at h
    |true=>rw[a] at h;simp only[cond_true,Ab,Ae] at h;obtain⟨e,rfl,rfl⟩:=h;simp only[Aa] at a e;obtain⟨rfl,m⟩:=e;exact af5 (k f _ _ o) m a.1 a.2
   ·simp at h
theorem tJ{hp a:List al}{v:V}(h:∀i∈v.id1,a[i]? =hp[i]?):v.lend1 a=v.lend1 hp∧v.lendT a=v.lendT hp:=by
 cases v with
 |sw k id n=>have e:=rJ (h id (by simp[V.id1]));simp only[V.lend1,V.lendT,e,and_self]
 |_=>exact⟨rfl,rfl⟩
theorem afi{hp a:List al}{v:V}(h:∀i∈v.cellsA.flatMap V.id1,a[i]? =hp[i]?):v.lend a=v.lend hp:=by
 cases v with
 |agg cs=>
  simp only[V.lend,V.agg.injEq];refine AP λc d=>(tJ λi b=>h i ?_).1
  simp only[V.cellsA,AJ];exact⟨c,d,b⟩
 |_=>exact(tJ λi b=>h i (by simpa [V.cellsA] using b)).1
theorem wK{hp a:List al}:∀{cs:List V}{b c:Bool},(∀i∈cs.flatMap V.id1,a[i]? =hp[i]?)->c=b->oh a cs c=oh hp cs b
 | [],b,c,_,e=>e
 |v::r,b,c,h,e=>by simp only[oh];rw[(tJ (v:=v) λi d=>h i (by simp[d])).2,wK (cs:=r) (λi d=>h i (by simp only[BJ,AB];exact .inr d)) e]
theorem wL{hp a:List al}:∀{vs:List V},(∀i∈lH vs,a[i]? =hp[i]?)->pF a vs=pF hp vs
 | [],_=>rfl
 |v::r,h=>by simp only[pF];exact wK (λi b=>h i (by simp only[lH,BJ,AB];exact .inl b)) (wL λi b=>h i (by simp only[lH,BJ,AB] at b ⊢;exact .inr b))
theorem aef{k:List Nat}{G:Nat->List V->Option (Bool×V)}{Γ:ao}{m b:List Nat}(A:cz Γ m)(B:(k++m).all (λx=>b.contains x)=true)
  (H:b.all (λx=>AV x 2000000||m.contains x)=true):cz (oi k G Γ) b:=by
 simp only[List.all_append,Aa] at B;refine⟨?_,?_⟩
 ·intro f vs hp o;have u:k.elem f=false:=by
   cases R:k.elem f with
   |false=>rfl
   |true=>have:=Ak.1 B.1 f (by simpa using R);rw[this] at o;simp at o
  have e:∀hp,oi k G Γ f vs hp=Γ f vs hp:=by intro hp;unfold oi;rw[u];rfl
  rw[e,e];exact(A.mono B.2 H).pure f vs hp o
 ·intro f vs hp c v hp' o h;have g:=(A.mono B.2 H).loc f vs;cases u:k.elem f with
  |false=>
   have e:∀hp,oi k G Γ f vs hp=Γ f vs hp:=by intro hp;unfold oi;rw[u];rfl
   rw[e] at h;obtain⟨q,E,C,z⟩:=g _ _ _ _ o h;exact⟨q,E,C,λa d j=>by rw[e];exact z a d j⟩
  |true=>
   unfold oi at h;rw[u] at h;simp only[cond_true] at h;cases y:Γ f vs hp with
   |some r=>rw[y] at h;simp only[Ab] at h;subst h;obtain⟨q,E,C,z⟩:=g _ _ _ _ o y;refine⟨q,E,C,λa d j=>?_⟩;unfold oi;rw[u,z a d j];rfl
   |none=>
    rw[y] at h;simp only at h;split at h
    ·rename_i X J M;cases p:(J.scal&&(vs.map (V.lend hp)).all V.flat) with
     |false=>rw[p] at h;simp at h
     |true=>
      rw[p] at h;simp only[cond_true,Ab,Ae] at h;obtain⟨rfl,rfl,rfl⟩:=h;refine⟨[],by simp,rfl,λa d j=>?_⟩;have O:Γ f vs a=none:=by
       cases S:Γ f vs a with
       |none=>rfl
       |some r=>obtain⟨c2,W,F⟩:=r;obtain⟨q,E,C,z⟩:=g _ _ _ _ o S;have:=z hp d.symm (λi t=>(j i t).symm);rw[this] at y;cases y
      have Q:vs.map (V.lend a)=vs.map (V.lend hp):=AP λv L=>afi λi t=>j i (rK (by simp only[lH,AJ] at t ⊢;exact⟨v,L,t⟩))
      unfold oi;rw[u,O];simp only[cond_true,Q,M,p,wL λi t=>j i (rK t)];rfl
    ·simp at h
end
section
variable{I I':Nat->Nat->Prop}{ρ ρ':Nat->Nat}{N N':Nat}{w w':World}{P:Program}
def V.dim1:V->V
 | .sl k _ xs=>.sl k (.may false) xs
 |v=>v
def V.dim:V->V
 | .agg cs=>.agg (cs.map V.dim1)
 |v=>v.dim1
theorem VRel.dim1{v:V}{cv:Value}(h:VRel I ρ N w v cv):VRel I ρ N w v.dim1 cv:=by cases v<;>simp only[V.dim1]<;>first|exact h.own (by simp) (by simp)|exact h
theorem VRel.dim{v:V}{cv:Value}(h:VRel I ρ N w v cv):VRel I ρ N w v.dim cv:=by
 by_cases g:∃cs,v=.agg cs
 ·obtain⟨cs,rfl⟩:=g;cases h with
  |agg cs vs m j k g=>
   refine .agg _ vs (by simpa using m) ?_ ?_ ?_;·intro c b;obtain⟨d,a,rfl⟩:=Av.1 b;have:=j d a;cases d<;>exact this
   ·intro i c cv b f;rw[Au,Ah] at b;obtain⟨d,a,rfl⟩:=b;have:=k i d cv a f;cases d<;>first|exact this|simp[V.dim1,OwnNil]
   ·intro i c cv b f;rw[Au,Ah] at b;obtain⟨d,a,rfl⟩:=b;exact(g i d cv a f).dim1
 ·have e:v.dim=v.dim1:=by cases v<;>first|rfl|exact absurd ⟨_,rfl⟩ g
  rw[e];exact h.dim1
theorem af7{v:V}(h:v.bare=true):v.dim.bare=true:=by cases v<;>first|exact h|rfl
theorem FnOK.dim{f:FuncId}{vs us:List V}{hp hp':List al}{v:V}(h:FnOK P f us hp v hp')(e:vs.map V.dim=us):FnOK P f vs hp v hp':=by subst e;intro w g cargs j k b a c;refine h w g cargs j k (by simpa using b) (by intro x d;obtain⟨y,o,rfl⟩:=Av.1 d;exact af7 (a y o)) ?_;intro i x cv d m;rw[Au,Ah] at d;obtain⟨y,o,rfl⟩:=d;exact(c i y cv o m).dim
theorem PureOK.dim{f:FuncId}{vs us:List V}{v:V}(h:PureOK P f us v)(e:vs.map V.dim=us):PureOK P f vs v:=by obtain⟨hp',h⟩:=h;exact⟨hp',h.dim e⟩
def pr(P:Program)(f:FuncId)(vs cs:List V):Prop:=FnOK P f vs [] (.ptr 0 0) [some cs]
theorem pr.frame{f:FuncId}{vs cs:List V}(h:pr P f vs cs)(hf:vs.all V.flat=true)(hc:cs.all V.flatO=true)(hp:List al):FnOK P f vs hp (.ptr hp.length 0) (hp++[some cs]):=by
 intro w g cargs bY z bb R a0;let t:Gh:={I:=g.I,ρ:=g.ρ,O:=λ_=>none,β:=g.β}
 have h0:HR t [] w:=⟨by simp,by simp,by simp,by simp,z.exI,by simp[t]⟩
 refine(h w t cargs (bY.sub rfl (λh=>h) (λh=>by simp[t,h])) h0 bb R (λi x cv hx r=>(a0 i x cv hx r).flat (Ak.1 hf x (Ap hx)))).mono ?_;rintro e w' ⟨cv,g₁,rfl,q1,F,q3,q4⟩;have Y:∀b,b<w.heap.size->w'.heap[b]? =w.heap[b]?:=λb q=>F.block b q (by simp) rfl
 have A:∀b j,b<w.heap.size->g₁.I b j->g.I b j:=λb j q X=>F.iSame b j q (by simp) rfl X
 have S:∀b,b<w.heap.size->g₁.O b=none:=λb q=>F.oSame b q (by simp) rfl
 have a4:w.heap.size<=g₁.ρ 0:=by
  rcases F.live 0 cs rfl with⟨_,h⟩|⟨_,h|h|⟨_,_,h,_⟩⟩
  ·simp at h
  ·exact h
  ·simp[t] at h
  ·simp at h
 let d:Gh:={I:=g₁.I,ρ:=λi=>if i=hp.length then g₁.ρ 0 else g.ρ i,β:=g.β,O:=λb=>if b<w.heap.size then g.O b else (match g₁.O b with
  |some (.cell i j)=>if i=0 then some (.cell hp.length j) else none
  |some .res=>some .res
  |_=>none)}
 have k:∀i,i<hp.length->d.ρ i=g.ρ i:=by intro i X;simp only[d];rw[if_neg (by omega)]
 have p:d.ρ hp.length=g₁.ρ 0:=by simp[d]
 have up:Up g.I g.ρ hp.length w d.I d.ρ (hp++[some cs]).length w':=⟨F.up.mono,F.up.cell,k,by simp⟩
 have H:∀(id:Nat) cs,hp[id]? =some (some cs)->g.ρ id<w.heap.size:=by intro id cs a;obtain⟨ob,L⟩:=(z.obj id cs a).block;exact(AN.1 L).1
 have m:∀(id:Nat) cs,hp[id]? =some (some cs)->id<hp.length:=λid cs a=>(Ad.1 a).1
 have key:∀(id:Nat) c,(hp++[some cs])[id]? =some (some c)->(id=hp.length∧c=cs)∨hp[id]? =some (some c):=by
  intro id c a;rcases AG id hp.length with Z|Z;·rw[Am Z] at a;exact .inr a
  ·rw[Aj Z] at a;have:id-hp.length=0:=by
    have:=(Ad.1 a).1;simp at this;omega
   rw[this] at a;exact .inl ⟨by omega,by simpa using a.symm⟩
 have Q:∀id j v cv,id<hp.length->OwnOK g w (.cell id j) v cv->OwnOK d w' (.cell id j) v cv:=by intro id j v cv a ho;refine ch ho rfl (λb j X=>⟨F.up.mono b j X,F.up.cell b j X⟩) ?_;intro b q;have C:=z.oLt b _ q;exact⟨by simp[d,C,q],Y b C,λj u=>A b j C u⟩
 refine⟨cv,d,rfl,⟨?_,?_,?_,?_,q1.exI,?_⟩,⟨rfl,F.os,F.tape,F.output,F.size,λb q _ _=>Y b q,up,λb j q _ _ X=>A b j q X,?_,?_⟩,?_,?_⟩
 ·intro id c a;rcases key id c a with⟨rfl,rfl⟩|a
  ·refine(q1.obj 0 c rfl).keep (by rw[p]) λbs e fz a1 W=>?_
   have hr:=ve hc;refine⟨W.len,W.plain,by rw[pl hr];simp,W.cold,W.one,?_,?_,?_⟩;·intro j J cv u r;exact(W.rel j J cv u r).flatO (Ak.1 hc J (Ap (by rw[kf hr] at u;exact u)))
   ·intro j J cv u r;refine(W.own j J cv u r).reloc F.beta.symm rfl λb q=>?_
    have bx:¬b<w.heap.size:=by intro C;rw[S b C] at q;cases q
    simp[d,q,bx]
   ·intro j E n u;rw[p];exact W.bn j E n u
  ·have Z:=m id c a;refine(z.obj id c a).keep (by rw[k id Z];exact Y _ (H id c a)) λbs e fz L y=>?_
   exact⟨y.len,y.plain,y.typedUp rfl k (by simp) rfl,y.cold,y.one,λj c cv hc r=>(y.rel j c cv hc r).up up,λj c cv hc r=>Q _ _ _ _ Z (y.own j c cv hc r),λj E n u=>by rw[k id Z];exact y.bn j E n u⟩
 ·intro id B c J a M a3;rcases key id c a with⟨rfl,rfl⟩|L
  ·rcases key B J M with⟨rfl,rfl⟩|y;·exact absurd rfl a3
   ·rw[p,k B (m B J y)];have:=H B J y;omega
  ·rcases key B J M with⟨rfl,rfl⟩|y;·rw[p,k id (m id c L)];have:=H id c L;omega
   ·rw[k id (m id c L),k B (m B J y)];exact z.apart _ _ _ _ L y a3
 ·intro id c a j u;rcases key id c a with⟨rfl,rfl⟩|a;·rw[p] at u;exact q1.notI 0 c rfl j u
  ·rw[k id (m id c a)] at u;exact z.notI id c a j (A _ j (H id c a) u)
 ·intro id c a;rcases key id c a with⟨rfl,rfl⟩|a
  ·rw[p];have L:=q1.notO 0 c rfl;have y:¬g₁.ρ 0<w.heap.size:=by omega
   simp[d,L,y]
  ·rw[k id (m id c a)];have:=H id c a;simp[d,this,z.notO id c a]
 ·intro b o q;simp only[d] at q;split at q;·rename_i C;exact AF C F.size
  ·split at q;·rename_i G;exact q1.oLt b _ G
   ·rename_i G;exact q1.oLt b _ G
   ·simp at q
 ·intro b q _ hO;simp[d,q,hO]
 ·intro id c a;rcases key id c a with⟨rfl,rfl⟩|a;·exact .inr ⟨Ao _,.inl (by rw[p];exact a4)⟩
  ·exact .inl ⟨c,a⟩
 ·cases q3 with
  |ptr _ _ _=>rw[<-p];exact .ptr _ _ (by simp)
 ·simp[OwnOK]
theorem pr.dim{f:FuncId}{vs us cs:List V}(h:pr P f us cs)(e:vs.map V.dim=us):pr P f vs cs:=FnOK.dim h e
theorem it.dim{f:FuncId}{vs us:List V}{css css':List (List V)}{v:V}(h:it P f us css v css')(e:vs.map V.dim=us):it P f vs css v css':=by obtain⟨b,a,c⟩:=h;exact⟨b,a,c.dim e⟩
def V.dimR:V->V
 | .tup vs=>.tup (vs.map V.dim)
 |v=>v.dim
theorem VRel.dimR{v:V}{cv:Value}(h:VRel I ρ N w v cv):VRel I ρ N w v.dimR cv:=by
 by_cases a:∃cs,v=.tup cs
 ·obtain⟨cs,rfl⟩:=a;cases h with
  |tup cs vs j a=>refine .tup _ vs (by simpa using j) ?_;intro i c cv f d;rw[Au,Ah] at f;obtain⟨g,b,rfl⟩:=f;exact(a i g cv b d).dim
 ·have e:v.dimR=v.dim:=by cases v<;>first|rfl|exact absurd ⟨_,rfl⟩ a
  rw[e];exact h.dim
theorem OwnOK.dimR{g:Gh}{a:Occ}{v:V}{cv:Value}(h:OwnOK g w a v cv):OwnOK g w a v.dimR cv:=by cases v<;>first|exact h|simp[V.dimR,V.dim,V.dim1,OwnOK]
theorem FnOK.dimR{f:FuncId}{vs:List V}{hp hp':List al}{v:V}(h:FnOK P f vs hp v hp'):FnOK P f vs hp v.dimR hp':=by intro w g cargs d i b a c;refine(h w g cargs d i b a c).mono ?_;rintro e w' ⟨cv,p,rfl,k,o,m,j⟩;exact⟨cv,p,rfl,k,o,m.dimR,j.dimR⟩
theorem PureOK.dimR{f:FuncId}{vs:List V}{v u:V}(h:PureOK P f vs v)(e:v.dimR=u):PureOK P f vs u:=by subst e;obtain⟨hp',h⟩:=h;exact⟨hp',h.dimR⟩
theorem it.dimR{f:FuncId}{vs:List V}{css css':List (List V)}{v u:V}(h:it P f vs css v css')(e:v.dimR=u):it P f vs css u css':=by subst e;obtain⟨b,a,c⟩:=h;exact⟨b,a,c.dimR⟩
abbrev aa8:=Nat->List V->Option (Bool×List V)
def rQ(G:aa8)(Γ:ao):ao:=λf vs hp=>
 match G f vs with
 |some (c,cs)=>cond (vs.all V.flat&&cs.all V.flatO) (some (c,.ptr hp.length 0,hp++[some cs])) none
 |none=>Γ f vs hp
theorem af8{G:aa8}{Γ:ao}(d:∀f vs cs,G f vs=some (true,cs)->pr P f vs cs)(b:bt P Γ):bt P (rQ G Γ):=by
 intro f vs hp v hp' h;unfold rQ at h;split at h
 ·rename_i c cs e;cases a:(vs.all V.flat&&cs.all V.flatO) with
  |false=>rw[a] at h;simp at h
  |true=>rw[a] at h;simp only[cond_true,Ab,Ae] at h;obtain⟨rfl,rfl,rfl⟩:=h;simp only[Aa] at a;exact(d f vs cs e).frame a.1 a.2 hp
 ·exact b _ _ _ _ _ h
theorem aeg{G:aa8}{Γ:ao}{a:List Nat}(k:∀f vs,a.contains f=false->G f vs=none)(i:∀f vs,a.contains (f+2000000)=true->G f vs=none)(b:cz Γ a):cz (rQ G Γ) a:=by
 refine⟨?_,?_⟩
 ·intro f vs hp d;have e:∀hp,rQ G Γ f vs hp=Γ f vs hp:=by
   intro hp;unfold rQ;rw[k f vs d]
  rw[e,e];exact b.pure f vs hp d
 ·intro f vs hp c v hp' d h;have e:∀hp,rQ G Γ f vs hp=Γ f vs hp:=by
   intro hp;unfold rQ;rw[i f vs d]
  rw[e] at h;obtain⟨q,m,r,o⟩:=b.loc _ _ _ _ _ _ d h;exact⟨q,m,r,λg p j=>by rw[e];exact o g p j⟩
def pick{R:Type}[Inhabited R](C:R->Prop):R:= @Classical.epsilon R ⟨default⟩ C
def can{R:Type}[Inhabited R](C:R->Prop):Bool:= @decide (C (pick C)) (Dd _)
theorem abX{R:Type}[Inhabited R]{C:R->Prop}(h:∃r,C r):can C=true:= @decide_eq_true _ (Dd _) (Classical.epsilon_spec h)
theorem oj{R:Type}[Inhabited R]{C:R->Prop}(h:can C=true):C (pick C):= @of_decide_eq_true _ (Dd _) h
def pk{R a:Type}[Inhabited R](C:R->Prop)(f:R->a):Option (Bool×a):=some (can C,f (pick C))
def aZ{R a:Type}[Inhabited a](C:a->Prop)(K:a->Option R):Option R:=chk (can C) (K (pick C))
end
theorem af9(n:Int):IntKind.i64.wrap n=(n+9223372036854775808)%18446744073709551616-9223372036854775808:=by simp[Az,Bu,Bh];omega
theorem aX(n:Int)(h:-9223372036854775808<=n∧n<=9223372036854775807):IntKind.i64.wrap n=n:=by rw[af9];omega
def iT(w:World):Gh:={I:=λb j=>(w.cell? ⟨b,j,none⟩).isSome=true,ρ:=id,O:=λ_=>none,β:=0}
theorem afj{P:Program}{f:FuncId}{vs:List V}(h:PureOK P f vs (.bool true)){cargs:Array Value}{w:World}(k:vs.length=cargs.size)(g:∀x∈vs,x.bare=true)
  (m:∀(i:Nat) x cv,vs[i]? =some x->cargs[i]? =some cv->VRel (iT w).I id 0 w x cv)
  (d:y5≠[]->∃t,w.heap[sj]? =some (.cells y5.toArray t (0,0)):=by simp[y5]):
  Calls P f cargs w λe w'=>e=.returned (.bool true)∧RowKit.Below w.heap.size w w':=by
 obtain⟨hp',h⟩:=h;have p:sq P {iT w with β:=mj P} w:=⟨rfl,λa=>by obtain⟨t,d⟩:=d a;have k:0<y5.length:=List.length_pos_iff.2 a;refine⟨?_,rfl,(AN.1 d).1,t,d⟩;simp only[iT];rw[cell_of_heap d];simp[k]⟩
 refine(h w {iT w with β:=mj P} cargs p ⟨by simp,by simp,by simp,by simp,λb j q=>q,by simp[iT]⟩ k g m).mono ?_;rintro e w' ⟨cv,r,rfl,_,c,o,_⟩;cases o;exact⟨rfl,c.os,c.tape,c.output,c.size,λb g=>c.block b g (by simp) rfl⟩
theorem df{p:Prop}[Decidable p](h:¬p):decide p=false:=decide_eq_false h
theorem abY{α:Type}(n:Int)(l:List α):(ixl n l=true)=(0<=n∧n<(l.length:Int)):=by simp[ixl]
theorem ixt{α:Type}{n:Int}{l:List α}(h:0<=n∧n<(l.length:Int)):ixl n l=true:=by rw[abY];exact h
theorem bnl:type_of% @abY∧type_of% @decide_eq_true_eq∧type_of% @decide_eq_false_iff_not∧type_of% @Bool.and_eq_true∧type_of% @Bool.and_eq_false_iff∧type_of% @Bool.or_eq_true∧type_of% @Bool.or_eq_false_iff∧type_of% @Bool.not_eq_true'∧type_of% @Bool.not_eq_false'∧type_of% @beq_iff_eq.{0}∧type_of% @beq_eq_false_iff_ne.{0}∧type_of% @Int.not_lt∧type_of% @Int.not_le∧type_of% @Nat.not_lt∧type_of% @Nat.not_le∧type_of% @ne_eq.{1}∧type_of% @Nat.beq_eq∧type_of% @true_and∧type_of% @and_true∧type_of% @Bool.not_not:=⟨@abY, @decide_eq_true_eq, @decide_eq_false_iff_not, @Bool.and_eq_true, @Bool.and_eq_false_iff, @Bool.or_eq_true, @Bool.or_eq_false_iff, @Bool.not_eq_true', @Bool.not_eq_false', @beq_iff_eq.{0}, @beq_eq_false_iff_ne.{0}, @Int.not_lt, @Int.not_le, @Nat.not_lt, @Nat.not_le, @ne_eq.{1}, @Nat.beq_eq, @true_and, @and_true, @Bool.not_not⟩
theorem lnl:type_of% @List.length_append.{0}∧type_of% @List.length_cons.{0}∧type_of% @List.length_nil.{0}∧type_of% @List.length_drop.{0}∧type_of% @List.length_take.{0}∧type_of% @List.length_set.{0}∧type_of% @List.length_replicate.{0}:=⟨@List.length_append.{0}, @List.length_cons.{0}, @List.length_nil.{0}, @List.length_drop.{0}, @List.length_take.{0}, @List.length_set.{0}, @List.length_replicate.{0}⟩
def Tot{R:Type}(x:Option R)(Q:R->Prop):Prop:=∃r,x=some r∧Q r
section
variable{R:Type}{Q:R->Prop}
theorem ca{α:Type}{B:(α->Option R)->α->Option R}(Inv:α->Prop)(b:α->Nat)
  (step:∀(a:α->Option R) x,Inv x->(∀y,Inv y->b y<b x->Tot (a y) Q)->Tot (B a x) Q):∀n x,Inv x->b x<n->Tot (cg n B x) Q
 |0,_,_,h=>by omega
 |n+1,x,c,f=>step (cg n B) x c λy d e=>ca Inv b step n y d (by omega)
theorem ap{r:R}(h:Q r):Tot (some r) Q:=⟨r,rfl,h⟩
theorem aU{c:Bool}{x:Option R}(a:c=true)(h:Tot x Q):Tot (chk c x) Q:=by subst a;exact h
theorem vck{c:Bool}{x:Option R}(h:Tot x Q)(a:c=true:=by first|(simp only[bnl,lnl];done)|(simp only[bnl,lnl];omega)):Tot (chk c x) Q:=aU a h
theorem ak{b:Bool}{x y:Option R}(a:b=true->Tot x Q)(c:b=false->Tot y Q):Tot (cond b x y) Q:=by
 cases b with
 |true=>exact a rfl
 |false=>exact c rfl
theorem zh{R:Type}[Inhabited R]{C:R->Prop}(h:∃r,C r):C (pick C):=oj (abX h)
theorem aH{a:Type}[Inhabited a]{C:a->Prop}{K:a->Option R}(h:∃r,C r)(b:∀r,C r->Tot (K r) Q):Tot (aZ C K) Q:=
 aU (abX h) (b _ (zh h))
end
def dP{R:Type}(C:Nat->St->Option R)(Γ:ao)(n:Nat):IR->(Ex->St->Option R)->St->Option R
 | .skip,K,s=>K .normal s
 | .bad,_,_=>none
 | .reg e _,K,s=>bP Γ e (K .normal) s
 | .seq a b,K,s=>dP C Γ n a (d4 (dP C Γ n b) K) s
 | .cond c a b,K,s=>match c.ev s with
   | .bool t=>cond t (dP C Γ n a K (c.fix s true)) (dP C Γ n b K (c.fix s false))
   |_=>none
 | .block id a,K,s=>dP C Γ n a (bu id K) s
 | .loop d m a,K,s=>C (d.getLastD 0) (s.keep d m)
 | .cut d m a,K,s=>C (d.getLastD 0) (s.keep d m)
 | .gh g a,K,s=>match g.step s with
   |some (c,s')=>chk c (dP C Γ n a K s')
   |none=>none
 | .ope o a,K,s=>cond (afU s o) (match (io.fz o).step s with
   |some (c,s')=>chk c (dP C Γ n a K s')
   |none=>none) (match (io.opn o).step s with
   |some (c,s')=>chk c (dP C Γ n a K s')
   |none=>none)
 | .ghp g a,K,s=>dP C Γ n a (aa7 g K) s
 | .exit id,K,s=>K (.exit id) s
 | .ret,K,s=>K .ret s
def fm{R:Type}(Γ:ao)(n:Nat):IR->(Ex->St->Option R)->List (Nat×(St->Option R))
 | .seq a b,K=>fm Γ n a (d4 (run Γ n b) K)++fm Γ n b K
 | .cond _ a b,K=>fm Γ n a K++fm Γ n b K
 | .block id a,K=>fm Γ n a (bu id K)
 | .loop c m a,K=>[(c.getLastD 0,λs=>bC n (λd s=>run Γ n a (de d c m K) s) s)]
 | .cut c m a,K=>[(c.getLastD 0,λs=>run Γ n a K s)]
 | .gh g a,K=>fm Γ n a K
 | .ope o a,K=>fm Γ n a K
 | .ghp g a,K=>fm Γ n a (aa7 g K)
 |_,_=>[]
theorem zi{R:Type}{C:Nat->St->Option R}{Γ:ao}{n:Nat}:∀(ir:IR)(K:Ex->St->Option R),(∀p∈fm Γ n ir K,C p.1=p.2)->∀s,dP C Γ n ir K s=run Γ n ir K s:=by
 intro ir;induction ir with
 |seq a b d j=>
  intro K h s;have e:d4 (dP C Γ n b) K=d4 (run Γ n b) K:=by
   funext e s;cases e with
   |normal=>exact j K (λp hp=>h p (B8 _ hp)) s
   |_=>rfl
  show dP C Γ n a (d4 (dP C Γ n b) K) s=run Γ n a (d4 (run Γ n b) K) s;rw[e];exact d _ (λp hp=>h p (Bp _ hp)) s
 |cond c a b d j=>intro K h s;simp only[dP,run,d K (λp hp=>h p (Bp _ hp)),j K (λp hp=>h p (B8 _ hp))];cases c.ev s<;>rfl
 |block id a d=>intro K h s;exact d _ h s
 |loop i m a d=>intro K h s;have:=h (i.getLastD 0,_) (Aq.2 rfl);simp only[dP,run];rw[this]
 |cut i m a d=>intro K h s;have:=h (i.getLastD 0,_) (Aq.2 rfl);simp only[dP,run];rw[this]
 |gh g a d=>intro K h s;simp only[dP,run,d K h];cases g.step s<;>rfl
 |ope o a d=>intro K h s;simp only[dP,run,d K h];cases (io.fz o).step s<;>cases (io.opn o).step s<;>rfl
 |ghp g a d=>intro K h s;exact d _ h s
 |_=>intro K h s;rfl
def nh{R:Type}:List (Nat×(St->Option R))->Nat->St->Option R
 | [],_=>λ_=>none
 |(j,f)::l,i=>cond (Af j i) f (nh l i)
def tK:List Nat->Bool
 | []=>true
 |i::l=> !(l.any (Af i))&&tK l
theorem d5{R:Type}:∀{l:List (Nat×(St->Option R))},tK (l.map Prod.fst)=true->∀p∈l,nh l p.1=p.2
 | [],_,p,hp=>by simp at hp
 |(j,f)::l,h,p,hp=>by
  simp only[AI,tK,Aa,AK,List.any_eq_false] at h;rcases AT.1 hp with rfl|hp;·simp[nh]
  ·have a:Af j p.1=false:=by
    cases b:Af j p.1 with
    |false=>rfl
    |true=>have:=h.1 p.1 (Av.2 ⟨p,hp,rfl⟩);exact absurd b this
   simp only[nh,a,cond_false];exact d5 h.2 p hp
theorem tL{R:Type}{C:Nat->St->Option R}{Γ:ao}{n:Nat}{b:IR}{K a:Ex->St->Option R}(h:∀p∈fm Γ n b K,C p.1=p.2)(e:a=K):d4 (dP C Γ n b) a=d4 (run Γ n b) K:=by
 subst e;funext e s;cases e with
 |normal=>exact zi b a h s
 |_=>rfl
theorem mu{R:Type}{i:Nat}{K a:Ex->St->Option R}(e:a=K):bu i a=bu i K:=by rw[e]
theorem pG{R:Type}{a:St->Option R}{b:List Nat}{m:Nat}{K c:Ex->St->Option R}(e:c=K):de a b m c=de a b m K:=by rw[e]
theorem la{R:Type}{C:Nat->St->Option R}{l a:List (Nat×(St->Option R))}(h:∀p∈l++a,C p.1=p.2):∀p∈l,C p.1=p.2:=λp hp=>h p (Bp _ hp)
theorem tM{R:Type}{C:Nat->St->Option R}{l a:List (Nat×(St->Option R))}(h:∀p∈l++a,C p.1=p.2):∀p∈a,C p.1=p.2:=λp hp=>h p (B8 _ hp)
theorem nA{R:Type}{C:Nat->St->Option R}{Γ:ao}{n:Nat}{ir:IR}{K a:Ex->St->Option R}(h:∀p∈fm Γ n ir K,C p.1=p.2)(e:a=K)(s:St):run Γ n ir K s=dP C Γ n ir a s:=by subst e;exact(zi ir a h s).symm
abbrev Ro:=Option (V×List al)
abbrev Bs:=List UInt8
abbrev Bss:=List (List UInt8)
def U(n:Nat)(l:List V):List V:=Bg n .undef++l
def Pp(o:IOp):GOp:=⟨none,o,none⟩
def Mv(d x:Nat):GOp:=⟨none,.mov d (.t x),none⟩
def Fa(d o x:Nat):GOp:=⟨none,.fad d o (.t x),none⟩
def Ld(d n:Nat)(a:Bool)(x:Nat):GOp:=⟨none,.lde d n a (.t x),none⟩
def Pa(d c x:Nat):GOp:=⟨none,.pick d (.t c) (.t x) (.c (.bool false)),none⟩
def Po(d c x:Nat):GOp:=⟨none,.pick d (.t c) (.c (.bool true)) (.t x),none⟩
def Bi(d:Nat)(o:BinOp)(x y:Nat):GOp:=⟨none,.bin d o (.t x) (.t y),none⟩
def Bc(d:Nat)(o:BinOp)(x:Nat)(n:Int):GOp:=⟨none,.bin d o (.t x) (.c (.int .i64 n)),none⟩
def Ex_(d i x:Nat):GOp:=⟨none,.ext d i (.t x),none⟩
def Nk(d x:Nat):GOp:=⟨none,.nck (some d) (.t x),none⟩
instance (n:Nat):OfNat ac n:=⟨.t n⟩
instance (n:Nat):OfNat (Option Nat) n:=⟨some n⟩
def Rg(l:List GOp):IR:=.reg l []
def Rs(l:List GOp)(a:IR):IR:=.seq (.reg l []) a
def Sq(a b:IR):IR:=.seq a b
def Cn(c:Nat)(a b:IR):IR:=.cond (.t c) a b
def Gt(g:Nat)(o:IOp):GOp:=⟨some (g,true),o,none⟩
def Gf(g:Nat)(o:IOp):GOp:=⟨some (g,false),o,none⟩
def Fo(r w:List Nat)(o:IOp):GOp:=⟨none,o,some (r,w)⟩
def Mi(d:Nat)(n:Int):GOp:=⟨none,.mov d (.c (.int .i64 n)),none⟩
def Ms(d:Nat)(s:List UInt8):GOp:=⟨none,.mov d (.c (.str s)),none⟩
def Mb(d:Nat)(b:Bool):GOp:=⟨none,.mov d (.c (.bool b)),none⟩
def Lq(d x:Nat):GOp:=⟨none,.lde d 1 false (.t x),none⟩
def Lo(d x:Nat):GOp:=⟨none,.ld d 1 false false (.t x),none⟩
def Ca(d f:Nat)(l:List ac):GOp:=⟨none,.call (some d) f l,none⟩
def Ix(d:Nat)(k:EK)(x i:Nat):GOp:=⟨none,.ixa d k (.t x) (.t i),none⟩
def Ll(d x:Nat):GOp:=⟨none,.lenl d (.t x),none⟩
def Un(d x:Nat):GOp:=⟨none,.un d .not (.t x),none⟩
def Bx(d x:Nat):GOp:=⟨none,.boxe d (.t x),none⟩
def Fz(r n v:Nat):GOp:=⟨none,.frz none r n (.t v),none⟩
def kI(n:Int):ac:=.c (.int .i64 n)
def kB(b:Bool):ac:=.c (.bool b)
abbrev TS:=St->Ro
abbrev TE:=Ex->TS
abbrev TR:=IR->TE->TS
abbrev vI(n:Int):V:=.int .i64 n
abbrev vS:V:=.str []
abbrev vB(b:Bool):V:=.bool b
abbrev vF(k:EK)(xs:List (Ty k)):V:=.sl k (.may false) xs
abbrev vO(k:EK)(xs:List (Ty k)):V:=.sl k .own xs
def nl(k:EK):V:=.sl k .own []
def fu(k:EK)(b:Bool):V:=.sl k (.may b) []
def rg(a b:Nat):List Nat:=Bq a (b+1-a)
theorem iu{Γ:ao}{N n:Nat}{rs:List RV}{ir:IR}{vs:List V}{hp:List al}(l:List (Nat×(St->Ro)))(b:tK (l.map Prod.fst)=true)(e:l=fm Γ N ir (fin rs)++[])
  (S:(Nat->St->Ro)->Ro) (a:∀C,dP C Γ N ir (fin rs) (AM.start n vs hp)=S C):gr Γ N n rs ir vs hp=S (nh l):=by
 refine B7 ?_ (a _);exact(zi ir (fin rs) (λp hp=>d5 b p (by rw[e];exact Bp _ hp)) _).symm
section
variable{P:Program}
theorem vY{f:FuncId}{vs:List V}{a v:V}{R:Type}[Inhabited R]{C:R->Prop}(h:some (can C,a)=some (true,v))(k:C (pick C)->PureOK P f vs a)(d:vs.all V.flat=true)(b:a.flatU=true):
  PureOK P f vs v∧vs.all V.flat=true∧v.flatU=true:=by
 simp only[Ab,Ae] at h;obtain⟨c,rfl⟩:=h;exact⟨k (oj c),d,b⟩
theorem vZ{f:FuncId}{vs:List V}{a v:V}{css cs b:List (List V)}{R:Type}[Inhabited R]{C:R->Prop}(h:some (can C,a,cs)=some (true,v,b))(k:C (pick C)->it P f vs css a cs):it P f vs css v b:=by simp only[Ab,Ae] at h;obtain⟨c,rfl,rfl⟩:=h;exact k (oj c)
theorem wa{f:FuncId}{vs cs a:List V}{R:Type}[Inhabited R]{C:R->Prop}(h:some (can C,cs)=some (true,a))(k:C (pick C)->pr P f vs cs):pr P f vs a:=by simp only[Ab,Ae] at h;obtain⟨b,rfl⟩:=h;exact k (oj b)
end
structure dW(P:Program) where
 id:Nat
 t:List V->Option (Bool×V)
 ok:∀vs v,t vs=some (true,v)->PureOK P id vs v∧vs.all V.flat=true∧v.flatU=true:=by (intro _ _ h;split at h;(first|exact vY h (λh=>h.1.dim rfl) rfl rfl|exact vY h (λh=>h.dim rfl) rfl rfl|exact vY h (λh=>h.1) rfl rfl|exact vY h (λh=>h) rfl rfl);cases h)
structure vi(P:Program) where
 id:Nat
 t:List V->List (List V)->Option (Bool×V×List (List V))
 ok:∀us css v css',t us css=some (true,v,css')->it P id us css v css':=by (intro _ _ _ _ h;split at h;(first|exact vZ h (λh=>h.1.dim rfl)|exact vZ h (λh=>h.dim rfl)|exact vZ h (λh=>h.1)|exact vZ h (λh=>h));cases h)
structure vj(P:Program) where
 id:Nat
 t:List V->Option (Bool×List V)
 ok:∀us cs,t us=some (true,cs)->pr P id us cs:=by (intro _ _ h;split at h;(first|exact wa h (λh=>h.1.dim rfl)|exact wa h (λh=>h.dim rfl)|exact wa h (λh=>h.1)|exact wa h (λh=>h));cases h)
section
variable{P:Program}
def sA:List (dW P)->Nat->List V->Option (Bool×V)
 | [],_,_=>none
 |r::l,f,vs=>cond (Af r.id f) (r.t vs) (sA l f vs)
def xc:List (vi P)->xS
 | [],_,_,_=>none
 |r::l,f,us,css=>cond (Af r.id f) (r.t us css) (xc l f us css)
def xd:List (vj P)->aa8
 | [],_,_=>none
 |r::l,f,us=>cond (Af r.id f) (r.t us) (xd l f us)
theorem zj:∀(l:List (dW P)) f vs v,sA l f vs=some (true,v)->PureOK P f vs v∧vs.all V.flat=true∧v.flatU=true
 | [],_,_,_,h=>by simp[sA] at h
 |r::l,f,vs,v,h=>by
  unfold sA at h;cases a:Af r.id f with
  |true=>rw[a] at h;have e:r.id=f:=AA a;subst e;exact r.ok vs v h
  |false=>rw[a] at h;exact zj l f vs v h
theorem adw:∀(l:List (vi P)) f us css v css',xc l f us css=some (true,v,css')->it P f us css v css'
 | [],_,_,_,_,_,h=>by simp[xc] at h
 |r::l,f,us,css,v,css',h=>by
  unfold xc at h;cases a:Af r.id f with
  |true=>rw[a] at h;have e:r.id=f:=AA a;subst e;exact r.ok _ _ _ _ h
  |false=>rw[a] at h;exact adw l f us css v css' h
theorem adx:∀(l:List (vj P)) f us cs,xd l f us=some (true,cs)->pr P f us cs
 | [],_,_,_,h=>by simp[xd] at h
 |r::l,f,us,cs,h=>by
  unfold xd at h;cases a:Af r.id f with
  |true=>rw[a] at h;have e:r.id=f:=AA a;subst e;exact r.ok _ _ h
  |false=>rw[a] at h;exact adx l f us cs h
theorem aan:∀(l:List (vi P)) f us css,(∀r∈l,r.id≠f)->xc l f us css=none
 | [],_,_,_,_=>rfl
 |r::l,f,us,css,h=>by
  unfold xc;have a:Af r.id f=false:=by
   cases a:Af r.id f with
   |true=>exact absurd (AA a) (h r (by simp))
   |false=>rfl
  rw[a];exact aan l f us css λr b=>h r (by simp[b])
theorem vk:∀(l:List (vj P)) f us,(∀r∈l,r.id≠f)->xd l f us=none
 | [],_,_,_=>rfl
 |r::l,f,us,h=>by
  unfold xd;have a:Af r.id f=false:=by
   cases a:Af r.id f with
   |true=>exact absurd (AA a) (h r (by simp))
   |false=>rfl
  rw[a];exact vk l f us λr b=>h r (by simp[b])
theorem tN(l:List (dW P)):bt P (mq (sA l)):=by intro f vs hp v hp' d;obtain⟨h,e⟩:=rL d;subst e;obtain⟨b,a,c⟩:=zj l f vs v h;exact b.frameR a c _
def tab(N:List (vj P))(O:List (vi P))(a:List Nat)(G:List (dW P)):ao:=rQ (xd N) (mT (xc O) (oi a (sA G) (mq (sA G))))
theorem ahY(N:List (vj P))(O:List (vi P))(a:List Nat)(G:List (dW P)):bt P (tab N O a G):=
 af8 (adx N) (afg (adw O) (af6 (λf vs v h=>(zj G f vs v h).1) (tN G)))
def aga(N:List (vj P))(O:List (vi P))(a imp:List Nat):Bool:=
 N.all (λr=>imp.contains r.id&& !imp.contains (r.id+2000000))&&O.all (λr=>imp.contains r.id)&&(a++imp.filter (λx=> !Nat.blt x 2000000)).all (λx=>imp.contains x)
theorem agb{N:List (vj P)}{O:List (vi P)}{d:List Nat}{G:List (dW P)}{imp:List Nat}(h:aga N O d imp=true):cz (tab N O d G) imp:=by
 simp only[aga,Aa,Ak,AK] at h;obtain⟨⟨c,j⟩,g⟩:=h;refine aeg (λf us a=>vk N f us ?_) (λf us a=>vk N f us ?_) (ac7 (λf us css a=>aan O f us css ?_) (aef (ko _ _) (Ak.2 g) ?_));·rintro r b rfl;rw[(c r b).1] at a;cases a
 ·rintro r b rfl;rw[(c r b).2] at a;cases a
 ·rintro r b rfl;rw[j r b] at a;cases a
 ·refine Ak.2 λx e=>?_
  cases i:AV x 2000000 with
  |true=>rfl
  |false=>simp only[Bool.false_or];rw[CR];exact List.mem_filter.2 ⟨e,by simp[i]⟩
end
structure FnC(P:Program)(Γ:ao)(imp:List Nat)(k:Nat)(f:FuncId)(fn:Func)(ir:IR)(rs:List RV):Prop where
 spec:bt P Γ
 imps:cz Γ imp
 func:P.funcs[f]? =some fn
 body:fn.body=some (fn.body.getD .skip)
 chk:(au P imp k ir (fn.body.getD .skip)&&fC P rs fn.results.toList)=true
 small:fn.results.toList.length<=5
section
variable{P:Program}{Γ:ao}{imp:List Nat}{k n:Nat}{f:FuncId}{fn:Func}{ir:IR}{rs:List RV}{vs:List V}{x:Ro}
theorem FnC.fnOK(h:FnC P Γ imp k f fn ir rs){hp hp':List al}{v:V}(b:hp.length=k)(c:gr Γ n fn.ntmps rs ir vs hp=some (v,hp')):FnOK P f vs hp v hp':=by subst b;have a:=h.chk;simp only[Aa] at a;exact adv h.spec h.imps h.func h.body a.1 a.2 h.small c
theorem FnC.pure(h:FnC P Γ imp 0 f fn ir rs)(a:gr Γ n fn.ntmps rs ir vs []=x){v:V}{hp':List al}(b:x=some (v,hp')):PureOK P f vs v:=⟨hp',h.fnOK rfl (a.trans b)⟩
section
variable{N:Nat}{R:Type}{ret:R->V}{p:R->Prop}{Q:V×List al->Prop}
theorem FnC.finP(h:FnC P Γ imp 0 f fn ir rs)(b:gr Γ N fn.ntmps rs ir vs []=x)(a:Tot x Q)(k:∀z,Q z->∃r,z.1.dimR=ret r∧p r):∃r,PureOK P f vs (ret r)∧p r:=by obtain⟨z,d,c⟩:=a;obtain⟨r,e,hp⟩:=k z c;exact⟨r,(h.pure b d).dimR e,hp⟩
variable{css:List (List V)}{css':R->List (List V)}
end
abbrev LB{α R:Type}(F:(St->Option R)->St->Option R)(b:α->St)(B:(α->Option R)->α->Option R):Prop:=∀a x,F a (b x)=B (λy=>a (b y)) x
theorem fnC{N:List (vj P)}{O:List (vi P)}{d:List Nat}{G:List (dW P)}(c:P.funcs[f]? =some fn)(h:aga N O d imp=true:=by kernel_rfl)(b:fn.body=some (fn.body.getD .skip):=by kernel_rfl)
  (chk:(au P imp k ir (fn.body.getD .skip)&&fC P rs fn.results.toList)=true:=by kernel_rfl) (a:fn.results.toList.length<=5:=by decide):FnC P (tab N O d G) imp k f fn ir rs:=⟨ahY N O d G,agb h,c,b,chk,a⟩
end
end Go.AM
namespace Go.Proofs.Ytdpajabhmmmjoaa
open Go.AM
def isT(ts:List ab)(t:Int):Bool:=decide (0<=t)&&decide (t<(ts.length:Int))
inductive lb(b:Nat):eO->Prop where
 |mk (k n:Int) (s:List UInt8) (l:List eO) (names:List (List UInt8)) (h1:s.length<=100) (h2:l.length<=b) (h3:names.length<=l.length)
   (h4:∀x∈names,x.length<=100) (h5:k=6->names.length=l.length) (h6:∀c∈l,lb b c):lb b (.mk k n s l names)
abbrev qO:eO->Prop:=lb 8
structure lP(m:Nat)(t:ab):Prop where
 items:0<=t.items∧t.items<m
 fields:∀f∈t.fields,0<=f.typ∧f.typ<m∧qO f.df
 nf:t.fields.length<=8
 branches:∀b∈t.branches,0<=b∧b<(m:Int)
 nb:t.branches.length<=100
 ns:t.syms.length<=100
 size:0<=t.size∧t.size<=5000
 done:t.kind=14->t.branches≠[]
 kind:1<=t.kind∧t.kind<=14
 enum:t.kind=10->t.syms≠[]
 only:t.kind≠9->t.fields=[]
 na:t.aliases.length<=100
 fal:∀f∈t.fields,f.aliases.length<=100
 edef:t.hasdef=true->t.df∈t.syms
def kr(ts:List ab):Prop:=(0<ts.length∧ts.length<=60)∧∀t∈ts,lP ts.length t
structure gA(ts:List ab)(e:Int)(ts':List ab)(e':Int):Prop where
 len:ts.length<=ts'.length
 cap:ts'.length<=60
 err:e'=0->e=0
 old:e'=0->∀i,i<ts.length->ts'[i]? =ts[i]?
 new:e'=0->∀(i:Nat) t,ts.length<=i->ts'[i]? =some t->lP ts'.length t
end Go.Proofs.Ytdpajabhmmmjoaa
namespace Go.AM
def reJ(x:eO):eO:=.mk x.kind x.n x.s x.l x.names
def reF(x:aq):aq:=⟨x.name,x.aliases,x.typ,x.hasdef,reJ x.df⟩
instance:Inhabited nY:=⟨.mk 0 [] [] [] 0⟩
instance:Inhabited eO:=⟨.mk 0 0 [] [] []⟩
instance:Inhabited aq:=⟨⟨[],[],0,false,.mk 0 0 [] [] []⟩⟩
instance:Inhabited ab:=⟨⟨0,[],[],0,[],false,[],0,[],[]⟩⟩
theorem ahZ:∀x,reJ x=x
 | .mk _ _ _ _ _=>rfl
theorem afk(x:aq):reF x=x:=by simp only[reF,ahZ]
end Go.AM
namespace Go.Proofs.Ytdpajabhmmmjoaa
open Go.AM
def rk(r:List Int)(t:Int):Int:=r.getD t.toNat 0
structure pH(k:ab)(r:List Int)(m:Int):Prop where
 pos:1<=m
 uni:k.kind=14->∃b∈k.branches,0<=rk r b∧rk r b<m
 rcd:k.kind≠14->∀f∈k.fields,0<=rk r f.typ∧rk r f.typ<m
 pre:2<=m->∃j:Nat,j<r.length∧r.getD j 0+1=m
structure kT(ts:List ab)(r:List Int)(m:Int):Prop where
 len:r.length=ts.length
 low:∀i,i<r.length->-1<=r.getD i 0
 top:∀i,i<r.length->r.getD i 0<=m
 ok:∀i,i<r.length->1<=r.getD i 0->pH (ts.getD i (am .atype)) r (r.getD i 0)
 nul:∀i,i<r.length->r.getD i 0=0->(ts.getD i (am .atype)).kind≠9∧(ts.getD i (am .atype)).kind≠14
def brT(k:ab)(j:Nat):Int:=k.branches.getD j 0
structure xf(k:ab)(r:List Int)(b:Int):Prop where
 nn:0<=b
 lt:b<k.branches.length
 least:∀j,j<k.branches.length->0<=rk r (brT k j)->0<=rk r (brT k b.toNat)∧rk r (brT k b.toNat)<=rk r (brT k j)
 first:∀j,j<b.toNat->0<=rk r (brT k j)->rk r (brT k b.toNat)<rk r (brT k j)
def abZ(w:List Int):List aq->Int
 | []=>0
 |f::l=>rk w f.typ+abZ w l
structure xg(k:ab)(r w:List Int)(m:Int):Prop where
 pos:1<=m
 top:m<=1000000
 rcd:k.kind=9->1+abZ w k.fields<=m∨m=1000000
 uni:k.kind=14->∀b,xf k r b->1+rk w (brT k b.toNat)<=m∨m=1000000
def xV(k:ab)(r:List Int):Prop:=(k.kind=14->∀b∈k.branches,rk r b<0)∧(k.kind≠14->∃f∈k.fields,rk r f.typ<0)
def aeh(ts:List ab)(r:List Int):Prop:=∀i,i<ts.length->r.getD i 0<0->xV (ts.getD i (am .atype)) r
abbrev aaJ:=List Int
def nB(k:ab)(r:List Int)(b:Int):Prop:=
 (b=-1∧∀j,j<k.branches.length->rk r (brT k j)<0)∨(xf k r b∧0<=rk r (brT k b.toNat))
structure rR(k:ab)(r:List Int)(m:Int):Prop where
 low:0<=m
 pos:(k.kind=9∨k.kind=14)->1<=m
 uni:k.kind=14->∃b∈k.branches,0<=rk r b∧rk r b<m
 rcd:k.kind=9->∀f∈k.fields,0<=rk r f.typ∧rk r f.typ<m
 pre:2<=m->∃j:Nat,j<r.length∧r.getD j 0+1=m
def qP(k:ab)(r:List Int):Prop:=(k.kind=9∧∃f∈k.fields,rk r f.typ<0)∨(k.kind=14∧∀b∈k.branches,rk r b<0)
theorem qP.kind{k:ab}{r:List Int}(h:qP k r):k.kind=9∨k.kind=14:=h.imp (·.1) (·.1)
def oY(k:ab)(r:List Int)(m:Int):Prop:=(m=-1∧qP k r)∨rR k r m
structure sP(ts:List ab)(r:List Int)(m:Int):Prop where
 len:r.length=ts.length
 low:∀i,i<r.length->-1<=r.getD i 0
 top:∀i,i<r.length->r.getD i 0<=m
 ok:∀i,i<r.length->0<=r.getD i 0->rR (ts.getD i (am .atype)) r (r.getD i 0)
def lc(ts:List ab)(r:List Int):Prop:=sP ts r ts.length∧∀i,i<ts.length->r.getD i 0<0->qP (ts.getD i (am .atype)) r
def ag0(k:ab)(r l:List Int):Prop:=
 if k.kind=14 then ∃b,nB k r b∧0<=b∧l=k.fields.map (·.typ)++[brT k b.toNat] else l=k.fields.map (·.typ)
def zk(w:List Int):List Int->Int
 | []=>0
 |t::l=>rk w t+zk w l
def ah0(x:Int):Int:=if 1000000<x then 1000000 else x
structure ab0(ts:List ab)(r w:List Int):Prop where
 len:w.length=ts.length
 low:∀i,i<ts.length->0<=w.getD i 0∧w.getD i 0<=1000000
 ok:∀i,i<ts.length->w.getD i 0≠0->0<=r.getD i 0∧∃l,ag0 (ts.getD i (am .atype)) r l∧(∀t∈l,rk w t≠0)∧w.getD i 0=ah0 (1+zk w l)
end Go.Proofs.Ytdpajabhmmmjoaa
namespace Go.AM
section
variable{P:Program}
def mv:Option (List V×List V)->V->V
 |none,h=>h
 |some (p,q),h=>.tup (p++h::q)
def xW:Option (List V×List V)->Bool
 |none=>true
 |some (p,q)=>p.all V.flat&&q.all V.flat
def qi(P:Program)(f:FuncId)(vs:List V)(o:Option (List V×List V))(k:EK)(xs:List (Ty k)):Prop:=
 FnOK P f vs [] (mv o (.sw k 0 xs.length)) [some [.rw k xs],none]
theorem qi.dim{f:FuncId}{vs us:List V}{o:Option (List V×List V)}{k:EK}{xs:List (Ty k)}(h:qi P f us o k xs)(e:vs.map V.dim=us):qi P f vs o k xs:=FnOK.dim h e
theorem afl{I I':Nat->Nat->Prop}{ρ ρ':Nat->Nat}{N N':Nat}{w:World}{o:Option (List V×List V)}{h m:V}{cv:Value}(g:xW o=true)(f:VRel I ρ N w (mv o h) cv)
  (j:∀cv,VRel I ρ N w h cv->VRel I' ρ' N' w m cv) (k:∀v cv,v.flat=true->VRel I ρ N w v cv->VRel I' ρ' N' w v cv):VRel I' ρ' N' w (mv o m) cv:=by
 cases o with
 |none=>exact j cv f
 |some t=>
  obtain⟨p,q⟩:=t;simp only[xW,Aa] at g;simp only[mv] at f ⊢;cases f with
  |tup _ vs r e=>
  refine .tup _ vs (by simpa using r) ?_;intro i c cv a b;rcases Nat.lt_trichotomy i p.length with d|d|d;·rw[Am d] at a;exact k c cv (Ak.1 g.1 c (Ap a)) (e i c cv (by rw[Am d];exact a) b)
  ·subst d;rw[Aj (Ao _),CP] at a;simp only[Bl,Ab] at a;subst a;exact j cv (e _ h cv (by rw[Aj (Ao _),CP];rfl) b)
  ·rw[Aj (by omega),show i-p.length=(i-p.length-1)+1 by omega,A5] at a;exact k c cv (Ak.1 g.2 c (Ap a)) (e i c cv (by rw[Aj (by omega),show i-p.length=(i-p.length-1)+1 by omega,A5];exact a) b)
theorem afm{g:Gh}{w:World}{a:Occ}{o:Option (List V×List V)}{k:EK}{id n:Nat}{cv:Value}:OwnOK g w a (mv o (.sw k id n)) cv:=by
 cases o with
 |none=>simp[mv,OwnOK]
 |some b=>simp[mv,OwnOK]
theorem qi.frame{f:FuncId}{vs:List V}{o:Option (List V×List V)}{k:EK}{xs:List (Ty k)}(h:qi P f vs o k xs)(hf:vs.all V.flat=true)(ho:xW o=true)(hp:List al):
  FnOK P f vs hp (mv o (.sw k hp.length xs.length)) (hp++[some [.rw k xs],none]):=by
 intro w g cargs b4 B bY Y a3;let t:Gh:={I:=g.I,ρ:=g.ρ,O:=λ_=>none,β:=g.β}
 have h0:HR t [] w:=⟨by simp,by simp,by simp,by simp,B.exI,by simp[t]⟩
 refine(h w t cargs (b4.sub rfl (λh=>h) (λh=>by simp[t,h])) h0 bY Y (λi x cv hx u=>(a3 i x cv hx u).flat (Ak.1 hf x (Ap hx)))).mono ?_;rintro e w' ⟨cv,g₁,rfl,q1,H,q3,q4⟩;have ad:∀b,b<w.heap.size->w'.heap[b]? =w.heap[b]?:=λb r=>H.block b r (by simp) rfl
 have C:∀b j,b<w.heap.size->g₁.I b j->g.I b j:=λb j r Q=>H.iSame b j r (by simp) rfl Q
 have b1:∀b,b<w.heap.size->g₁.O b=none:=λb r=>H.oSame b r (by simp) rfl
 have bs:w.heap.size<=g₁.ρ 0:=by
  rcases H.live 0 [.rw k xs] rfl with⟨_,h⟩|⟨_,h|h|⟨_,_,h,_⟩⟩
  ·simp at h
  ·exact h
  ·simp[t] at h
  ·simp at h
 let d:Gh:={I:=g₁.I,ρ:=λi=>if i=hp.length then g₁.ρ 0 else if i=hp.length+1 then g₁.ρ 1 else g.ρ i,β:=g.β,O:=λb=>if b<w.heap.size then g.O b else (match g₁.O b with
  |some .res=>some .res
  |_=>none)}
 have m:∀i,i<hp.length->d.ρ i=g.ρ i:=by intro i Q;simp only[d];rw[if_neg (by omega),if_neg (by omega)]
 have q:d.ρ hp.length=g₁.ρ 0:=by simp[d]
 have G:d.ρ (hp.length+1)=g₁.ρ 1:=by simp[d]
 have up:Up g.I g.ρ hp.length w d.I d.ρ (hp++[some [V.rw k xs],none]).length w':=⟨H.up.mono,H.up.cell,m,by simp⟩
 have L:∀(id:Nat) cs,hp[id]? =some (some cs)->g.ρ id<w.heap.size:=by intro id cs a;obtain⟨ob,R⟩:=(B.obj id cs a).block;exact(AN.1 R).1
 have p:∀(id:Nat) cs,hp[id]? =some (some cs)->id<hp.length:=λid cs a=>(Ad.1 a).1
 have key:∀(id:Nat) c,(hp++[some [V.rw k xs],none])[id]? =some (some c)->(id=hp.length∧c=[V.rw k xs])∨hp[id]? =some (some c):=by
  intro id c a;rcases AG id hp.length with hl|hl;·rw[Am hl] at a;exact .inr a
  ·rw[Aj hl] at a;match hq:id-hp.length,a with
   |0,a=>simp at a;exact .inl ⟨by omega,a.symm⟩
   |1,a=>simp at a
   |n+2,a=>simp at a
 have X:∀id j v cv,id<hp.length->OwnOK g w (.cell id j) v cv->OwnOK d w' (.cell id j) v cv:=by intro id j v cv a ho;refine ch ho rfl (λb j Q=>⟨H.up.mono b j Q,H.up.cell b j Q⟩) ?_;intro b r;have J:=B.oLt b _ r;exact⟨by simp[d,J,r],ad b J,λj W=>C b j J W⟩
 refine⟨cv,d,rfl,⟨?_,?_,?_,?_,q1.exI,?_⟩,⟨rfl,H.os,H.tape,H.output,H.size,λb r _ _=>ad b r,up,λb j r _ _ Q=>C b j r Q,?_,?_⟩,?_,afm⟩
 ·intro id c a;rcases key id c a with⟨rfl,rfl⟩|a
  ·refine(q1.obj 0 _ rfl).keep (by rw[q]) λb2 e fz a1 a2=>?_
   refine⟨a2.len,a2.plain,?_,a2.cold,a2.one,?_,?_,?_⟩;·intro k2 ys hz;obtain⟨t1,t2,t3,t4⟩:=a2.typed k2 ys hz;refine⟨t1,?_,by simp,λhk=>(t4 hk).trans H.beta⟩;rw[G];exact t2
   ·intro j c cv z u;have M:=z;simp only[cellsOf] at M;obtain⟨y,hy,M⟩:=eb _ j _ M;exact oV M (a2.rel j c cv z u)
   ·intro j c cv z u;have Z:=Ap z;simp only[cellsOf,AJ] at Z;obtain⟨y,_,Z⟩:=Z;exact jm (nu k y c Z) _ _ _ _
   ·intro j E n z;simp only[cellsOf] at z;obtain⟨y,_,z⟩:=eb _ j _ z;exact absurd z (qJ k y _ E n)
  ·have hl:=p id c a;refine(B.obj id c a).keep (by rw[m id hl];exact ad _ (L id c a)) λb2 e fz R A=>?_
   exact⟨A.len,A.plain,A.typedUp rfl m (by simp) rfl,A.cold,A.one,λj c cv z u=>(A.rel j c cv z u).up up,λj c cv z u=>X _ _ _ _ hl (A.own j c cv z u),λj E n W=>by rw[m id hl];exact A.bn j E n W⟩
 ·intro id F c c' a S a4;rcases key id c a with⟨rfl,rfl⟩|R
  ·rcases key F c' S with⟨rfl,rfl⟩|A;·exact absurd rfl a4
   ·rw[q,m F (p F c' A)];have:=L F c' A;omega
  ·rcases key F c' S with⟨rfl,rfl⟩|A;·rw[q,m id (p id c R)];have:=L id c R;omega
   ·rw[m id (p id c R),m F (p F c' A)];exact B.apart _ _ _ _ R A a4
 ·intro id c a j W;rcases key id c a with⟨rfl,rfl⟩|a;·rw[q] at W;exact q1.notI 0 _ rfl j W
  ·rw[m id (p id c a)] at W;exact B.notI id c a j (C _ j (L id c a) W)
 ·intro id c a;rcases key id c a with⟨rfl,rfl⟩|a
  ·rw[q];have R:=q1.notO 0 _ rfl;have A:¬g₁.ρ 0<w.heap.size:=by omega
   simp[d,R,A]
  ·rw[m id (p id c a)];have:=L id c a;simp[d,this,B.notO id c a]
 ·intro b o r;simp only[d] at r;split at r;·rename_i J;exact AF J H.size
  ·split at r;·rename_i bb;exact q1.oLt b _ bb
   ·simp at r
 ·intro b r _ hO;simp[d,r,hO]
 ·intro id c a;rcases key id c a with⟨rfl,rfl⟩|a;·exact .inr ⟨Ao _,.inl (by rw[q];exact bs)⟩
  ·exact .inl ⟨c,a⟩
 ·refine afl ho q3 ?_ ?_
  ·intro cv hr;cases hr with
   |sw _ _ _ hN z Z=>
   rw[Aw] at z Z;have:=VRel.sw (I:=d.I) (ρ:=d.ρ) (N:=(hp++[some [V.rw k xs],none]).length) (w:=w') k hp.length xs.length (by simp) (by rw[G];exact z) (by rw[G];exact Z);rw[G,q] at this;exact this
  ·intro v cv hv hr;exact(hr.up (I':=d.I) (ρ':=g₁.ρ) (N':=2) ⟨λ_ _ Q=>Q,λ_ _ _=>rfl,λ_ _=>rfl,Ao _⟩).flat hv
abbrev aa9:=Nat->List V->Option (Bool×Option (List V×List V)×((k:EK)×List (Ty k)))
def rS(G:aa9)(Γ:ao):ao:=λf vs hp=>
 match G f vs with
 |some (c,o,⟨k,xs⟩)=>cond (vs.all V.flat&&xW o) (some (c,mv o (.sw k hp.length xs.length),hp++[some [.rw k xs],none])) none
 |none=>Γ f vs hp
theorem agc{G:aa9}{Γ:ao}(d:∀f vs o k xs,G f vs=some (true,o,⟨k,xs⟩)->qi P f vs o k xs)(b:bt P Γ):bt P (rS G Γ):=by
 intro f vs hp v hp' h;unfold rS at h;split at h
 ·rename_i c o k xs e;cases a:(vs.all V.flat&&xW o) with
  |false=>rw[a] at h;simp at h
  |true=>rw[a] at h;simp only[cond_true,Ab,Ae] at h;obtain⟨rfl,rfl,rfl⟩:=h;simp only[Aa] at a;exact(d f vs o k xs e).frame a.1 a.2 hp
 ·exact b _ _ _ _ _ h
theorem aei{G:aa9}{Γ:ao}{a:List Nat}(k:∀f vs,a.contains f=false->G f vs=none)(i:∀f vs,a.contains (f+2000000)=true->G f vs=none)(b:cz Γ a):cz (rS G Γ) a:=by
 refine⟨?_,?_⟩
 ·intro f vs hp d;have e:∀hp,rS G Γ f vs hp=Γ f vs hp:=by
   intro hp;unfold rS;rw[k f vs d]
  rw[e,e];exact b.pure f vs hp d
 ·intro f vs hp c v hp' d h;have e:∀hp,rS G Γ f vs hp=Γ f vs hp:=by
   intro hp;unfold rS;rw[i f vs d]
  rw[e] at h;obtain⟨q,m,r,o⟩:=b.loc _ _ _ _ _ _ d h;exact⟨q,m,r,λg p j=>by rw[e];exact o g p j⟩
def ab1(P:Program)(f:FuncId)(p q:List V)(k:EK)(xs:List (Ty k))(v:V)(ys:List (Ty k)):Prop:=
 ∃a,FnOK P f (p++.sw k 0 xs.length::q) [some [.rw k xs],none] v (some [.rw k ys]::none::a)
theorem fv.rowTo{g o:Gh}{N N':Nat}{w:World}{id d:Nat}{k:EK}{xs:List (Ty k)}{f:Array Value}{e:TypeId}{q:Nat×Nat}(h:fv g N w id [.rw k xs] f e q)
  (u:o.I=g.I) (p:o.β=g.β) (z:o.ρ (d+1)=g.ρ (id+1)) (x:d+1<N'):fv o N' w d [.rw k xs] f e q:=by
 refine⟨h.len,h.plain,?_,h.cold,h.one,?_,?_,?_⟩;·intro k2 ys t;obtain⟨v,t2,t3,t4⟩:=h.typed k2 ys t;exact⟨v,by rw[z];exact t2,x,λr=>(t4 r).trans p.symm⟩
 ·intro j c cv b i;have a:=b;simp only[cellsOf] at a;obtain⟨y,A,a⟩:=eb _ j _ a;rw[u];exact oV a (h.rel j c cv b i)
 ·intro j c cv b i;have m:=Ap b;simp only[cellsOf,AJ] at m;obtain⟨y,_,m⟩:=m;exact jm (nu k y c m) _ _ _ _
 ·intro j E n b;simp only[cellsOf] at b;obtain⟨y,_,b⟩:=eb _ j _ b;exact absurd b (qJ k y _ E n)
theorem ab1.frame{f:FuncId}{p q:List V}{k:EK}{xs ys:List (Ty k)}{v:V}(h:ab1 P f p q k xs v ys)(b4:p.all V.flat=true)(cl:q.all V.flat=true)(hv:v.flat=true)
  {hp:List al} {id:Nat} (C:hp[id]? =some (some [.rw k xs])):FnOK P f (p++.sw k id xs.length::q) hp v (hp.set id (some [.rw k ys])):=by
 obtain⟨c4,h⟩:=h;have bx:id<hp.length:=(Ad.1 C).1;intro w g cargs cx z bs L M;obtain⟨c8,e,fz,a1,a2⟩:=(z.obj id _ C).row rfl;obtain⟨t1,t2,t3,t4⟩:=a2.typed k xs rfl;let t:Gh:={I:=g.I,ρ:=λi=>if i=0 then g.ρ id else g.ρ (id+1),O:=λ_=>none,β:=g.β}
 have z0:∀(i:Nat) cs,([some [V.rw k xs],none]:List al)[i]? =some (some cs)->i=0∧cs=[.rw k xs]:=by
  intro i cs a;match i,a with
  |0,a=>simp at a;exact⟨rfl,a.symm⟩
  |1,a=>simp at a
  |n+2,a=>simp at a
 have h0:HR t [some [.rw k xs],none] w:=by
  refine⟨?_,?_,?_,?_,z.exI,by simp[t]⟩;·intro i cs a;obtain⟨rfl,rfl⟩:=z0 i cs a;exact fS.ofRow a1 (a2.rowTo rfl rfl rfl (by simp)) rfl
  ·intro i i' cs ci a ad d;obtain⟨rfl,_⟩:=z0 i cs a;obtain⟨rfl,_⟩:=z0 i' ci ad;exact absurd rfl d
  ·intro i cs a;obtain⟨rfl,_⟩:=z0 i cs a;exact z.notI id _ C
  ·intro i cs a;rfl
 have Z:∀(i:Nat) x cv,(p++.sw k 0 xs.length::q)[i]? =some x->cargs[i]? =some cv->VRel t.I t.ρ ([some [V.rw k xs],none]:List al).length w x cv:=by
  intro i x cv B G;rcases Nat.lt_trichotomy i p.length with a|a|a;·rw[Am a] at B;exact(M i x cv (by rw[Am a];exact B) G).flat (Ak.1 b4 x (Ap B))
  ·subst a;rw[Aj (Ao _),CP] at B;simp only[Bl,Ab] at B;subst B;have r:=M p.length (.sw k id xs.length) cv (by rw[Aj (Ao _),CP];rfl) G;cases r with
   |sw _ _ _ hN hc hm=>exact VRel.sw (I:=t.I) (ρ:=t.ρ) (N:=([some [V.rw k xs],none]:List al).length) (w:=w) k 0 xs.length (by simp) hc hm
  ·rw[Aj (by omega),show i-p.length=(i-p.length-1)+1 by omega,A5] at B;exact(M i x cv (by rw[Aj (by omega),show i-p.length=(i-p.length-1)+1 by omega,A5];exact B) G).flat (Ak.1 cl x (Ap B))
 refine(h w t cargs (cx.sub rfl (λh=>h) (λh=>by simp[t,h])) h0 (by simpa using bs) (by
  intro x B;rcases AB.1 B with B|B;·exact L x (Bp _ B)
  ·rcases AT.1 B with rfl|B;·rfl
   ·exact L x (B8 _ (AH _ B))) Z).mono ?_
 rintro ex w' ⟨cv,g₁,rfl,q1,J,q3,q4⟩;have r0:g₁.ρ 0=g.ρ id:=J.up.rho 0 (by simp);have r1:g₁.ρ (0+1)=g.ρ (id+1):=J.up.rho 1 (by simp);have a0:∀b,g.ρ id≠b->∀(i:Nat) cs,([some [V.rw k xs],none]:List al)[i]? =some (some cs)->t.ρ i≠b:=by intro b m i cs a;obtain⟨rfl,_⟩:=z0 i cs a;exact m
 have av:∀b,b<w.heap.size->g.ρ id≠b->w'.heap[b]? =w.heap[b]?:=λb m d=>J.block b m (a0 b d) rfl
 have F:∀b j,b<w.heap.size->g.ρ id≠b->g₁.I b j->g.I b j:=λb j m d a=>J.iSame b j m (a0 b d) rfl a
 have X:∀b,b<w.heap.size->g.ρ id≠b->g₁.O b=none:=λb m d=>J.oSame b m (a0 b d) rfl
 have n0:=q1.notO 0 [.rw k ys] rfl;rw[r0] at n0
 let y:Gh:={I:=g₁.I,ρ:=g.ρ,O:=λb=>match g₁.O b with
  |some .res=>some .res
  |some _=>none
  |none=>if b<w.heap.size then g.O b else none,β:=g.β}
 have up:Up g.I g.ρ hp.length w y.I y.ρ (hp.set id (some [V.rw k ys])).length w':=⟨J.up.mono,J.up.cell,λ_ _=>rfl,by simp⟩
 have a4:∀(i:Nat) c,hp[i]? =some (some c)->g.ρ i<w.heap.size:=by intro i c a;obtain⟨ob,h1⟩:=(z.obj i c a).block;exact(AN.1 h1).1
 have key:∀(i:Nat) c,(hp.set id (some [V.rw k ys]))[i]? =some (some c)->(i=id∧c=[.rw k ys])∨(i≠id∧hp[i]? =some (some c)):=by
  intro i c a;rw[At] at a;split at a;·rename_i Y;simp[bx] at a;exact .inl ⟨Y.symm,a.symm⟩
  ·rename_i Y;exact .inr ⟨λh=>Y h.symm,a⟩
 have u:∀(i:Nat) c,(hp.set id (some [V.rw k ys]))[i]? =some (some c)->∃E,hp[i]? =some (some E):=by
  intro i c a;rcases key i c a with⟨rfl,_⟩|⟨_,h⟩
  ·exact⟨_,C⟩
  ·exact⟨c,h⟩
 have H:∀(i:Nat) c,i≠id->hp[i]? =some (some c)->g.ρ id≠g.ρ i:=λi c d a=>z.apart _ _ _ _ C a d.symm
 have R:∀b o,g.O b=some o->g.ρ id≠b:=by intro b o m Y;rw[<-Y,z.notO _ _ C] at m;cases m
 have A:∀b,b<w.heap.size->y.O b=g.O b:=by
  intro b m;by_cases d:g.ρ id=b;·subst d;simp only[y,n0];rw[if_pos m]
  ·simp only[y,X b m d];rw[if_pos m]
 refine⟨cv,y,rfl,⟨?_,?_,?_,?_,q1.exI,?_⟩,⟨rfl,J.os,J.tape,J.output,J.size,?_,up,?_,?_,?_⟩,?_,?_⟩
 ·intro i c a;rcases key i c a with⟨rfl,rfl⟩|⟨d,a⟩
  ·obtain⟨bb,Y,cy,b1,Q⟩:=(q1.obj 0 _ rfl).row rfl;rw[r0] at b1;exact fS.ofRow b1 (Q.rowTo rfl J.beta.symm r1.symm (by simpa using t3)) rfl
  ·refine(z.obj i c a).keep (av _ (a4 i c a) (H i c d a)) λbb Y cy b1 Q=>?_
   refine⟨Q.len,Q.plain,Q.typedUp rfl (λ_ _=>rfl) up.num rfl,Q.cold,Q.one,λj c cv W G=>(Q.rel j c cv W G).up up,?_,Q.bn⟩;intro j c' cv W G;refine ch (Q.own j c' cv W G) rfl (λb j a=>⟨up.mono b j a,up.cell b j a⟩) ?_;intro b m;have a3:=z.oLt b _ m;have S:=R b _ m;exact⟨(A b a3).trans m,av b a3 S,λj W=>F b j a3 S W⟩
 ·intro i i' c c' a ad d;obtain⟨E,m1⟩:=u i c a;obtain⟨c6,m2⟩:=u i' c' ad;exact z.apart _ _ _ _ m1 m2 d
 ·intro i c a j W;rcases key i c a with⟨rfl,rfl⟩|⟨d,a⟩
  ·have:=q1.notI 0 _ rfl j;rw[r0] at this;exact this W
  ·exact z.notI i c a j (F _ j (a4 i c a) (H i c d a) W)
 ·intro i c a;obtain⟨E,m1⟩:=u i c a;exact(A _ (a4 i E m1)).trans (z.notO i E m1)
 ·intro b o m;simp only[y] at m;split at m;·rename_i hq;exact q1.oLt b _ hq
  ·simp at m
  ·split at m;·rename_i hq;exact AF hq J.size
   ·simp at m
 ·intro b m ho hO;exact av b m (ho id _ C)
 ·intro b j m ho hO a;exact F b j m (ho id _ C) a
 ·intro b m ho hO;exact(A b m).trans hO
 ·intro i c a;exact .inl (u i c a)
 ·exact q3.flat hv
 ·exact q4.reloc J.beta.symm rfl λb m=>by simp[y,m]
def qj(G Γ:ao):ao:=λf vs hp=>match G f vs hp with|some r=>some r|none=>Γ f vs hp
theorem tO{G Γ:ao}(b:∀f vs hp v hp',G f vs hp=some (true,v,hp')->FnOK P f vs hp v hp')(a:bt P Γ):bt P (qj G Γ):=by
 intro f vs hp v hp' h;unfold qj at h;split at h;·rename_i r c;cases h;exact b _ _ _ _ _ c
 ·exact a _ _ _ _ _ h
theorem qk{G Γ:ao}{b:List Nat}(j:∀f vs hp,b.contains f=false->G f vs hp=none)(g:∀f vs hp,b.contains (f+2000000)=true->G f vs hp=none)(d:cz Γ b):cz (qj G Γ) b:=by
 have e:∀f,(∀vs hp,G f vs hp=none)->∀vs hp,qj G Γ f vs hp=Γ f vs hp:=by intro f a vs hp;unfold qj;rw[a]
 refine⟨?_,?_⟩;·intro f vs hp a;rw[e f (λvs hp=>j f vs hp a),e f (λvs hp=>j f vs hp a)];exact d.pure f vs hp a
 ·intro f vs hp c v hp' a h;rw[e f (λvs hp=>g f vs hp a)] at h;obtain⟨q,m,r,o⟩:=d.loc _ _ _ _ _ _ a h;exact⟨q,m,r,λi p k=>by rw[e f (λvs hp=>g f vs hp a)];exact o i p k⟩
end
section
variable{P:Program}{Γ:ao}{imp:List Nat}{n:Nat}{f:FuncId}{fn:Func}{ir:IR}{rs:List RV}{x:Ro}
theorem ab1.dim{p q c b:List V}{k:EK}{xs ys:List (Ty k)}{v:V}(h:ab1 P f p q k xs v ys)(e1:c.map V.dim=p)(d:b.map V.dim=q):ab1 P f c b k xs v ys:=by obtain⟨a,h⟩:=h;refine⟨a,h.dim ?_⟩;rw[Cy,AI,e1,d];rfl
end
end Go.AM
namespace Go.Proofs.Ytdpajabhmmmjoaa
open Go.AM
def lQ:Nat->List V->Option (Bool×V):=λ_ _=>none
def eQ:ao:=(mq lQ)
theorem oZ:cz eQ []:=(ko _ _)
theorem pI:bt Try.prog eQ:=by intro f vs hp v hp' h;obtain⟨h, -⟩:=rL h;simp[lQ] at h
def lf:IR:=Rs [Pp (.mov 2 (.c (.ul (.num .i64) ([]:List Int))))] (Sq (Rs [Mv 3 0,Pp (.snil 4 (.t 3))] (Cn 4 (Rs [Pp (.mov 2 (.c (.ul (.num .i64) ([]:List Int))))] .ret) .skip)) (Rs [Pp (.blu 5 (.num .i64)),Mv 6 0,Pp (.apu 7 (.num .i64) (.tk 5) 6),Pp (.mov 2 (.tk 7))] (.gh (.opn (.slot 2)) .ret)))
def bm:List RV:=[.t 2]
theorem pX:(au Try.prog [] 0 lf (Try.f75.body.getD .skip)&&fC Try.prog bm Try.f75.results.toList)=true:=by kernel_rfl
theorem pJ:Try.f75.body=some (Try.f75.body.getD .skip):=by kernel_rfl
def lg(N:Nat)(a:List Int):Ro:=chk (decide (0<An a)) (chk (decide ((An ([]:List Int)+An a)*8<=140737488355328)) (chk (decide (0<An ([]++a))) (some (.sw (.num .i64) 0 (An ([]++a)),[some [.rw (.num .i64) ([]++a)],none]))))
def gX(N:Nat)(a:List Int):Ro:=lg N a
theorem pY(N:Nat)(a:List Int):gr eQ N 8 bm lf [.sl (.num .i64) (.may false) a] []=gX N a:=by kernel_rfl
theorem ql(b:bt Try.prog eQ)(N:Nat)(a:List Int){o:Option (List V×List V)}{k:EK}{xs:List (Ty k)}(h:gX N a=some (mv o (.sw k 0 xs.length),[some [.rw k xs],none])):qi Try.prog 75 [.sl (.num .i64) (.may false) a] o k xs:=by have c:=pX;simp only[Aa] at c;exact adv b oZ Try.func75 pJ c.1 c.2 (by decide) ((pY N a).trans h)
theorem afn(xs:List Int)(h:decide (0<An xs)=true)(c:xs.length<=1000):qi Try.prog 75 [.sl (.num .i64) (.may false) xs] none (.num .i64) xs:=by refine ql pI 0 xs ?_;have b:=of_decide_eq_true h;have e1:decide (0<(([]:List Int)++xs).length)=true:=h;have a:decide (((([]:List Int).length+xs.length)*8)<=140737488355328)=true:=decide_eq_true (by simp;omega);unfold gX lg;rw[h,e1,a];rfl
noncomputable def lR(a:List ab)(r:aaJ):Prop:=PureOK Try.prog 42 [.agg [vF .atype a]] (.sl (.num .i64) (.may false) r)∧lc a r
noncomputable def ab2:dW Try.prog:=.mk 42 λ
 | [.agg [.sl .atype (.may _) a]]=>pk (lR a) λr=>.sl (.num .i64) (.may false) r
 |_=>none
noncomputable def pt(a:ab)(b:List Int)(r:Int):Prop:=PureOK Try.prog 76 [.agg (enc .atype a),.sl (.num .i64) (.may false) b] (vI r)∧oY a b r
noncomputable def ac8:dW Try.prog:=.mk 76 λ
 | [.agg [.int .i64 a,.str b,.sl .str (.may _) c,.int .i64 d,.sl .str (.may _) e,.bool f,.str g,.int .i64 h,.sl .afield (.may _) i,.sl (.num .i64) (.may _) j],.sl (.num .i64) (.may _) k]=>pk (pt (⟨a,b,c,d,e,f,g,h,i,j⟩) k) λr=>vI r
 |_=>none
noncomputable def ni(a:ab)(b:List Int)(r:Int):Prop:=PureOK Try.prog 78 [.agg (enc .atype a),.sl (.num .i64) (.may false) b] (vI r)∧nB a b r
noncomputable def aaK:dW Try.prog:=.mk 78 λ
 | [.agg [.int .i64 a,.str b,.sl .str (.may _) c,.int .i64 d,.sl .str (.may _) e,.bool f,.str g,.int .i64 h,.sl .afield (.may _) i,.sl (.num .i64) (.may _) j],.sl (.num .i64) (.may _) k]=>pk (ni (⟨a,b,c,d,e,f,g,h,i,j⟩) k) λr=>vI r
 |_=>none
theorem aej(xs:List Int)(h:(decide (0<An xs)&&decide (An xs<=1000))=true):qi Try.prog 75 [.sl (.num .i64) (.may false) xs] none (.num .i64) xs:=by simp only[Aa] at h;exact afn xs h.1 (of_decide_eq_true h.2)
def rkB(ts:List ab):List Int:=pick (lR ts)
def uz(ts:List ab)(l:List Bool):Prop:=l=(rkB ts).map λq=>decide (0<=q)
def lh(s:List UInt8)(c:Int):Nat->Int
 |0=>-1
 |n+1=>if ((s.getD n 0).toNat:Int)=c then n else lh s c n
def i9(s:List UInt8):List UInt8:=s.drop (lh s 46 s.length+1).toNat
def cM{α:Type}(p:α->Bool):List α->Nat->Int
 | [],_=>-1
 |x::l,i=>if p x then (i:Int) else cM p l (i+1)
def ol(a b:ab):Bool:=decide (i9 b.name=i9 a.name)||b.aliases.any λs=>decide (i9 s=i9 a.name)
def jM(a b:ab):Bool:=
 if a.kind=9∨a.kind=10 then a.kind==b.kind&&ol a b else
 if a.kind=11 then a.kind==b.kind&&(ol a b&&a.size==b.size) else
 if a.kind=3∨a.kind=4∨a.kind=5 then decide (a.kind<=b.kind)&&decide (b.kind<=6) else
 if a.kind=8 then b.kind==8||b.kind==7 else !(a.kind==14)&&a.kind==b.kind
def eR(w r:List ab)(t q:Int):Bool:=isT w t&&(isT r q&&jM (w.getD t.toNat (am .atype)) (r.getD q.toNat (am .atype)))
def vl(l:List aq)(n:List UInt8):Int:=cM (λf:aq=>decide (f.name=n)) l 0
def iH(l:List aq):List (List UInt8)->Int
 | []=>-1
 |s::r=>if 0<=vl l s then vl l s else iH l r
def sQ(w r:List ab)(t q:Int):Int:=cM (λb=>eR w r t b) (r.getD q.toNat (am .atype)).branches 0
abbrev rT:Type:=List ((Int×Int)×Bool)
def noS(m:rT)(p:Int×Int):Bool:=mM (k:=.pb) m p
def jN(N:Int×Int->Bool)(a:ab)(f:aq):Bool:=
 !((decide (iH a.fields (f.name::f.aliases)<0)&& !f.hasdef)||(decide (0<=iH a.fields (f.name::f.aliases))&&N ((a.fields.getD (iH a.fields (f.name::f.aliases)).toNat (am .afield)).typ,f.typ)))
def gf(N:Int×Int->Bool)(w r:List ab)(t q:Int)(a b:ab):Bool:=
 if a.kind=14 then a.branches.all λc=> !N (c,q) else
 if b.kind=14 then decide (0<=sQ w r t q)&& !N (t,b.branches.getD (sQ w r t q).toNat 0) else
 if eR w r t q=false then false else
 if a.kind=12∨a.kind=13 then !N (a.items,b.items) else
 if a.kind=10 then b.hasdef||a.syms.all λs=>decide (s∈b.syms) else
 if a.kind=9 then b.fields.all (jN N a) else true
def fD(has:List Bool)(N:Int×Int->Bool)(w r:List ab)(t q:Int):Bool:=
 !(has.getD t.toNat false)||gf N w r t q (w.getD t.toNat (am .atype)) (r.getD q.toNat (am .atype))
def inL(L:List (Int×Int))(p:Int×Int):Bool:=decide (p∈L)
def cN(has:List Bool)(w r:List ab)(L:List (Int×Int))(p:Int×Int):List (Int×Int):=if inL L p||fD has (inL L) w r p.1 p.2 then L else L++[p]
def vm(i m:Nat):List (Int×Int):=(AE m).map λ(k:Nat)=>((i:Int),(k:Int))
def eD(n m:Nat):List (Int×Int):=(AE n).flatMap λi=>vm i m
def ja(has:List Bool)(w r:List ab)(L:List (Int×Int)):List (Int×Int):=(eD w.length r.length).foldl (cN has w r) L
def dJ(has:List Bool)(w r:List ab):Nat->List (Int×Int)->List (Int×Int)
 |0,L=>L
 |n+1,L=>if (ja has w r L).length=L.length then L else dJ has w r n (ja has w r L)
def jO(has:List Bool)(w r:List ab)(t q:Int):Bool:=isT w t&&(isT r q&& !inL (dJ has w r (w.length*r.length+1) []) (t,q))
def eL(s:List UInt8)(c r:Int):Prop:=r=lh s c s.length
def kL(s:List UInt8)(c r:Int):Prop:=r=lh s c s.length
def rU(s r:List UInt8):Prop:=r=i9 s
def uA(ts:List ab)(t:Int)(r:Bool):Prop:=r=isT ts t
def om(s w:List UInt8)(r:Bool):Prop:=r=decide (i9 s=w)
def dz(l:List (List UInt8))(w:List UInt8)(r:Int):Prop:=r=cM (λs=>decide (i9 s=w)) l 0
def dc(l:List (List UInt8))(w:List UInt8)(r:Bool):Prop:=r=l.any λs=>decide (i9 s=w)
def qb(a b:ab)(r:Bool):Prop:=r=ol a b
def nC(w r:List ab)(t q:Int)(x:Bool):Prop:=x=eR w r t q
def pK(f:aq)(n:List UInt8)(r:Bool):Prop:=r=decide (f.name=n)
def cF(l:List aq)(n:List UInt8)(r:Int):Prop:=r=vl l n
def oq(a:ab)(f:aq)(r:Int):Prop:=r=iH a.fields (f.name::f.aliases)
def ot(b:Int)(w r:List ab)(t:Int)(x:Bool):Prop:=x=eR w r t b
def d6(l:List Int)(w r:List ab)(t x:Int):Prop:=x=cM (λb=>eR w r t b) l 0
def qc(w r:List ab)(t q x:Int):Prop:=x=sQ w r t q
def iJ(l:List (List UInt8))(s:List UInt8)(r:Int):Prop:=r=cM (λx=>decide (x=s)) l 0
def gK(l:List (List UInt8))(s:List UInt8)(r:Bool):Prop:=r=decide (s∈l)
def jY(s:List UInt8)(k0:Int)(k1:List UInt8)(k2:List (List UInt8))(k3:Int)(k4:List (List UInt8))(k5:Bool)(k6:List UInt8)(a:Int)(b:List aq)(c:List Int)(r:Bool):Prop:=r= !decide (s∈k4)
def cA(l:List (List UInt8))(k0:Int)(k1:List UInt8)(k2:List (List UInt8))(k3:Int)(k4:List (List UInt8))(k5:Bool)(k6:List UInt8)(a:Int)(b:List aq)(c:List Int)(r:Int):Prop:=r=cM (λs=> !decide (s∈k4)) l 0
def cj(l:List (List UInt8))(k0:Int)(k1:List UInt8)(k2:List (List UInt8))(k3:Int)(k4:List (List UInt8))(k5:Bool)(k6:List UInt8)(a:Int)(b:List aq)(c:List Int)(r:Bool):Prop:=r=l.any λs=> !decide (s∈k4)
def jZ(m:rT)(w r:List ab)(has:List Bool)(t q:Int)(x:Bool):Prop:=x=noS m (t,q)
def dk(m:rT)(w r:List ab)(has:List Bool)(l:List Int)(q x:Int):Prop:=x=cM (λt=>noS m (t,q)) l 0
def cV(m:rT)(w r:List ab)(has:List Bool)(l:List Int)(q:Int)(x:Bool):Prop:=x=l.any λt=>noS m (t,q)
def gY(m:rT)(w r:List ab)(has:List Bool)(a b:ab)(x:Bool):Prop:=x=b.fields.all (jN (noS m) a)
def eS(m:rT)(w r:List ab)(has:List Bool)(t q:Int)(x:Bool):Prop:=x=fD has (noS m) w r t q
def lS(ts:List ab):List Bool:=(rkB ts).map λq=>decide (0<=q)
def nD(w r:List ab)(t q:Int)(x:Bool):Prop:=x=jO (lS w) w r t q
def qQ(r:Bool):Prop:=r=true
def tP(x:Int):Int:=if x=105 then 3 else if x=108 then 4 else if x=102 then 5 else if x=100 then 6 else if x=115 then 8 else if x=98 then 7 else if x=110 then 1 else if x=111 then 2 else 0
def aV(s:List UInt8):List Int:=s.map λc=>tP c.toNat
abbrev jB(k:Int):ab:=⟨k,[],[],0,[],false,[],0,[],[]⟩
abbrev jn(i:Nat):aq:=⟨[BX (97+i)],[],(i:Int)+1,false,.mk 0 0 [] [] []⟩
def ofS(a:List Int):List ab:=⟨9,[82],[],0,[],false,[],0,(AE a.length).map jn,[]⟩::a.map jB
def aaL(s:List UInt8)(r:List ab):Prop:=r=ofS (aV s)
def iN(a b:List UInt8)(r:Bool):Prop:=r=true
abbrev nQ:FuncId:=66
abbrev lT:FuncId:=94
abbrev lU:FuncId:=96
abbrev mU:FuncId:=98
abbrev fE:FuncId:=151
abbrev sR:FuncId:=95
abbrev qd:FuncId:=128
abbrev uB:FuncId:=32
abbrev vn:FuncId:=130
abbrev rV:FuncId:=153
abbrev uC:FuncId:=30
abbrev sS:FuncId:=64
abbrev qe:FuncId:=91
abbrev xX:FuncId:=63
abbrev vo:FuncId:=89
abbrev uD:FuncId:=28
abbrev dl:FuncId:=93
abbrev cB:FuncId:=90
abbrev dA:FuncId:=90
abbrev iK:FuncId:=97
abbrev dK:FuncId:=127
abbrev eF:FuncId:=127
abbrev dd:FuncId:=152
abbrev cW:FuncId:=126
abbrev dQ:FuncId:=126
abbrev jP:FuncId:=129
abbrev mL:FuncId:=125
abbrev aaM:=Bool
noncomputable def kM(r:aaM):Prop:=PureOK Try.prog uD [] (.bool r)∧qQ  r
noncomputable def aaN:dW Try.prog:=.mk 28 λus=>match us with
 | []=>let r:=pick kM;some (can kM,.bool r)
 |_=>none
abbrev aaO:=Bool
noncomputable def fh(b a:List ab)(d c:Int)(r:aaO):Prop:=PureOK Try.prog uC [.agg [.sl .atype (.may false) b],.agg [.sl .atype (.may false) a],.int .i64 d,.int .i64 c] (.bool r)∧nC b a d c r
noncomputable def pZ:dW Try.prog:=.mk 30 λus=>match us with
 | [.agg [.sl .atype (.may _) b],.agg [.sl .atype (.may _) a],.int .i64 d,.int .i64 c]=>let r:=pick (fh b a d c);some (can (fh b a d c),.bool r)
 |_=>none
abbrev aaP:=Bool
noncomputable def dT(b a:List ab)(d c:Int)(r:aaP):Prop:=PureOK Try.prog uB [.agg [.sl .atype (.may false) b],.agg [.sl .atype (.may false) a],.int .i64 d,.int .i64 c] (.bool r)∧nD b a d c r
noncomputable def uE:dW Try.prog:=.mk 32 λus=>match us with
 | [.agg [.sl .atype (.may _) b],.agg [.sl .atype (.may _) a],.int .i64 d,.int .i64 c]=>let r:=pick (dT b a d c);some (can (dT b a d c),.bool r)
 |_=>none
abbrev aek:=Bool
noncomputable def jb(a:List ab)(b:Int)(r:aek):Prop:=PureOK Try.prog xX [.agg [.sl .atype (.may false) a],.int .i64 b] (.bool r)∧uA a b r
noncomputable def xY:dW Try.prog:=.mk 63 λus=>match us with
 | [.agg [.sl .atype (.may _) a],.int .i64 b]=>let r:=pick (jb a b);some (can (jb a b),.bool r)
 |_=>none
abbrev zl:=Bool
noncomputable def fJ(b a:ab)(r:zl):Prop:=PureOK Try.prog sS [.agg (enc .atype b),.agg (enc .atype a)] (.bool r)∧qb b a r
noncomputable def zm:dW Try.prog:=.mk 64 λus=>match us with
 | [.agg [.int .i64 c,.str a,.sl .str (.may _) m,.int .i64 o,.sl .str (.may _) e,.bool u,.str p,.int .i64 h,.sl .afield (.may _) f,.sl (.num .i64) (.may _) d],.agg [.int .i64 v,.str i,.sl .str (.may _) k,.int .i64 x,.sl .str (.may _) b,.bool g,.str w,.int .i64 t,.sl .afield (.may _) j,.sl (.num .i64) (.may _) q]]=>let r:=pick (fJ (⟨c,a,m,o,e,u,p,h,f,d⟩) (⟨v,i,k,x,b,g,w,t,j,q⟩));some (can (fJ (⟨c,a,m,o,e,u,p,h,f,d⟩) (⟨v,i,k,x,b,g,w,t,j,q⟩)),.bool r)
 |_=>none
abbrev sT:=Bool
noncomputable def eG(ah:List ((Int×Int)×Bool))(ai aj:List ab)(a:List Bool)(c b:Int)(r:sT):Prop:=FnOK Try.prog nQ [.ptr 1 0,.int .i64 c,.int .i64 b] [some [.mp .pb ah],some [.sl .atype (.may false) ai,.sl .atype (.may false) aj,.sl .bool (.may false) a,.mr 0]] (.bool r) [some [.mp .pb ah],some [.sl .atype (.may false) ai,.sl .atype (.may false) aj,.sl .bool (.may false) a,.mr 0]]∧eS ah ai aj a c b r
abbrev ab3:=Bs
noncomputable def iv(a:Bs)(r:ab3):Prop:=PureOK Try.prog vo [.str a] (.str r)∧rU a r
noncomputable def vp:dW Try.prog:=.mk 89 λus=>match us with
 | [.str a]=>let r:=pick (iv a);some (can (iv a),.str r)
 |_=>none
abbrev fo:=Bool
noncomputable def ay(k:Bss)(i:Int)(f:Bs)(e:Bss)(g:Int)(b:Bss)(d:Bool)(h:Bs)(j:Int)(a:List aq)(c:List Int)(r:fo):Prop:=PureOK Try.prog cB [.sl .str (.may false) k,.fn 96 [.ea [.int .i64 i,.str f,.sl .str (.may false) e,.int .i64 g,.sl .str (.may false) b,.bool d,.str h,.int .i64 j,.sl .afield (.may false) a,.sl (.num .i64) (.may false) c]]] (.bool r)∧cj k i f e g b d h j a c r
noncomputable def fp:dW Try.prog:=.mk 90 λus=>match us with
 | [.sl .str (.may _) k,.fn 96 [.ea [.int .i64 i,.str e,.sl .str (.may false) f,.int .i64 g,.sl .str (.may false) b,.bool d,.str h,.int .i64 j,.sl .afield (.may false) a,.sl (.num .i64) (.may false) c]]]=>let r:=pick (ay k i e f g b d h j a c);some (can (ay k i e f g b d h j a c),.bool r)
 |_=>none
abbrev gL:=Bool
noncomputable def aG(b:Bss)(a:Bs)(r:gL):Prop:=PureOK Try.prog dA [.sl .str (.may false) b,.fn 91 [.ea [.str a]]] (.bool r)∧dc b a r
noncomputable def gM:dW Try.prog:=.mk 90 λus=>match us with
 | [.sl .str (.may _) b,.fn 91 [.ea [.str a]]]=>let r:=pick (aG b a);some (can (aG b a),.bool r)
 |_=>none
abbrev wv:=Bool
noncomputable def gP(b a:Bs)(r:wv):Prop:=PureOK Try.prog qe [.str b,.ea [.str a]] (.bool r)∧om b a r
noncomputable def ww:dW Try.prog:=.mk 91 λus=>match us with
 | [.str b,.ea [.str a]]=>let r:=pick (gP b a);some (can (gP b a),.bool r)
 |_=>none
abbrev gB:=Bool
noncomputable def aE(ah:List ((Int×Int)×Bool))(ai aj:List ab)(b:List Bool)(c:List Int)(a:Int)(r:gB):Prop:=FnOK Try.prog dl [.sl (.num .i64) (.may false) c,.fn 94 [.ea [.ptr 1 0],.ea [.int .i64 a]]] [some [.mp .pb ah],some [.sl .atype (.may false) ai,.sl .atype (.may false) aj,.sl .bool (.may false) b,.mr 0]] (.bool r) [some [.mp .pb ah],some [.sl .atype (.may false) ai,.sl .atype (.may false) aj,.sl .bool (.may false) b,.mr 0]]∧cV ah ai aj b c a r
abbrev qR:=Bool
noncomputable def dR(ah:List ((Int×Int)×Bool))(ai aj:List ab)(b:List Bool)(c a:Int)(r:qR):Prop:=FnOK Try.prog lT [.int .i64 c,.ea [.ptr 1 0],.ea [.int .i64 a]] [some [.mp .pb ah],some [.sl .atype (.may false) ai,.sl .atype (.may false) aj,.sl .bool (.may false) b,.mr 0]] (.bool r) [some [.mp .pb ah],some [.sl .atype (.may false) ai,.sl .atype (.may false) aj,.sl .bool (.may false) b,.mr 0]]∧jZ ah ai aj b c a r
abbrev zn:=Int
noncomputable def jQ(b a:List ab)(d c:Int)(r:zn):Prop:=PureOK Try.prog sR [.agg [.sl .atype (.may false) b],.agg [.sl .atype (.may false) a],.int .i64 d,.int .i64 c] (.int .i64 r)∧qc b a d c r
noncomputable def zo:dW Try.prog:=.mk 95 λus=>match us with
 | [.agg [.sl .atype (.may _) b],.agg [.sl .atype (.may _) a],.int .i64 d,.int .i64 c]=>let r:=pick (jQ b a d c);some (can (jQ b a d c),.int .i64 r)
 |_=>none
abbrev qS:=Bool
noncomputable def dS(k:Bs)(f:Int)(j:Bs)(d:Bss)(i:Int)(g:Bss)(h:Bool)(e:Bs)(c:Int)(a:List aq)(b:List Int)(r:qS):Prop:=PureOK Try.prog lU [.str k,.ea [.int .i64 f,.str j,.sl .str (.may false) d,.int .i64 i,.sl .str (.may false) g,.bool h,.str e,.int .i64 c,.sl .afield (.may false) a,.sl (.num .i64) (.may false) b]] (.bool r)∧jY k f j d i g h e c a b r
noncomputable def qT:dW Try.prog:=.mk 96 λus=>match us with
 | [.str k,.ea [.int .i64 f,.str j,.sl .str (.may false) d,.int .i64 i,.sl .str (.may false) g,.bool h,.str e,.int .i64 c,.sl .afield (.may false) a,.sl (.num .i64) (.may false) b]]=>let r:=pick (dS k f j d i g h e c a b);some (can (dS k f j d i g h e c a b),.bool r)
 |_=>none
abbrev nU:=Bool
noncomputable def cf(b:Bss)(a:Bs)(r:nU):Prop:=PureOK Try.prog iK [.sl .str (.may false) b,.str a] (.bool r)∧gK b a r
noncomputable def nV:dW Try.prog:=.mk 97 λus=>match us with
 | [.sl .str (.may _) b,.str a]=>let r:=pick (cf b a);some (can (cf b a),.bool r)
 |_=>none
abbrev sB:=Bool
noncomputable def ed(ah:List ((Int×Int)×Bool))(ai aj:List ab)(a:List Bool)(c b:ab)(r:sB):Prop:=FnOK Try.prog mU [.ptr 1 0,.agg (enc .atype c),.agg (enc .atype b)] [some [.mp .pb ah],some [.sl .atype (.may false) ai,.sl .atype (.may false) aj,.sl .bool (.may false) a,.mr 0]] (.bool r) [some [.mp .pb ah],some [.sl .atype (.may false) ai,.sl .atype (.may false) aj,.sl .bool (.may false) a,.mr 0]]∧gY ah ai aj a c b r
abbrev ry:=Int
noncomputable def dX(b:Bs)(a:Int)(r:ry):Prop:=PureOK Try.prog mL [.str b,.int .u8 a] (.int .i64 r)∧kL b a r
noncomputable def rz:dW Try.prog:=.mk 125 λus=>match us with
 | [.str b,.int .u8 a]=>let r:=pick (dX b a);some (can (dX b a),.int .i64 r)
 |_=>none
abbrev fV:=Int
noncomputable def aA(k:Bss)(i:Int)(f:Bs)(e:Bss)(g:Int)(b:Bss)(d:Bool)(h:Bs)(j:Int)(a:List aq)(c:List Int)(r:fV):Prop:=PureOK Try.prog cW [.sl .str (.may false) k,.fn 96 [.ea [.int .i64 i,.str f,.sl .str (.may false) e,.int .i64 g,.sl .str (.may false) b,.bool d,.str h,.int .i64 j,.sl .afield (.may false) a,.sl (.num .i64) (.may false) c]]] (.int .i64 r)∧cA k i f e g b d h j a c r
noncomputable def fW:dW Try.prog:=.mk 126 λus=>match us with
 | [.sl .str (.may _) k,.fn 96 [.ea [.int .i64 i,.str e,.sl .str (.may false) f,.int .i64 g,.sl .str (.may false) b,.bool d,.str h,.int .i64 j,.sl .afield (.may false) a,.sl (.num .i64) (.may false) c]]]=>let r:=pick (aA k i e f g b d h j a c);some (can (aA k i e f g b d h j a c),.int .i64 r)
 |_=>none
abbrev iw:=Int
noncomputable def aN(b:Bss)(a:Bs)(r:iw):Prop:=PureOK Try.prog dQ [.sl .str (.may false) b,.fn 91 [.ea [.str a]]] (.int .i64 r)∧dz b a r
noncomputable def iy:dW Try.prog:=.mk 126 λus=>match us with
 | [.sl .str (.may _) b,.fn 91 [.ea [.str a]]]=>let r:=pick (aN b a);some (can (aN b a),.int .i64 r)
 |_=>none
abbrev ia:=Int
noncomputable def aK(ah:List ((Int×Int)×Bool))(ai aj:List ab)(b:List Bool)(c:List Int)(a:Int)(r:ia):Prop:=FnOK Try.prog dK [.sl (.num .i64) (.may false) c,.fn 94 [.ea [.ptr 1 0],.ea [.int .i64 a]]] [some [.mp .pb ah],some [.sl .atype (.may false) ai,.sl .atype (.may false) aj,.sl .bool (.may false) b,.mr 0]] (.int .i64 r) [some [.mp .pb ah],some [.sl .atype (.may false) ai,.sl .atype (.may false) aj,.sl .bool (.may false) b,.mr 0]]∧dk ah ai aj b c a r
abbrev jR:=Int
noncomputable def bj(d:List Int)(b c:List ab)(a:Int)(r:jR):Prop:=PureOK Try.prog eF [.sl (.num .i64) (.may false) d,.fn 128 [.ea [.sl .atype (.may false) b],.ea [.sl .atype (.may false) c],.ea [.int .i64 a]]] (.int .i64 r)∧d6 d b c a r
noncomputable def jS:dW Try.prog:=.mk 127 λus=>match us with
 | [.sl (.num .i64) (.may _) d,.fn 128 [.ea [.sl .atype (.may false) b],.ea [.sl .atype (.may false) c],.ea [.int .i64 a]]]=>let r:=pick (bj d b c a);some (can (bj d b c a),.int .i64 r)
 |_=>none
abbrev wz:=Bool
noncomputable def gQ(d:Int)(b a:List ab)(c:Int)(r:wz):Prop:=PureOK Try.prog qd [.int .i64 d,.ea [.sl .atype (.may false) b],.ea [.sl .atype (.may false) a],.ea [.int .i64 c]] (.bool r)∧ot d b a c r
noncomputable def wA:dW Try.prog:=.mk 128 λus=>match us with
 | [.int .i64 d,.ea [.sl .atype (.may false) b],.ea [.sl .atype (.may false) a],.ea [.int .i64 c]]=>let r:=pick (gQ d b a c);some (can (gQ d b a c),.bool r)
 |_=>none
abbrev o5:=Int
noncomputable def cO(b:Bss)(a:Bs)(r:o5):Prop:=PureOK Try.prog jP [.sl .str (.may false) b,.str a] (.int .i64 r)∧iJ b a r
noncomputable def o6:dW Try.prog:=.mk 129 λus=>match us with
 | [.sl .str (.may _) b,.str a]=>let r:=pick (cO b a);some (can (cO b a),.int .i64 r)
 |_=>none
abbrev ab4:=Int
noncomputable def lV(b:ab)(a:aq)(r:ab4):Prop:=PureOK Try.prog vn [.agg (enc .atype b),.agg (enc .afield a)] (.int .i64 r)∧oq b a r
noncomputable def ab5:dW Try.prog:=.mk 130 λus=>match us with
 | [.agg [.int .i64 c,.str a,.sl .str (.may _) m,.int .i64 o,.sl .str (.may _) e,.bool t,.str p,.int .i64 h,.sl .afield (.may _) f,.sl (.num .i64) (.may _) d],.agg [.str u,.sl .str (.may _) i,.int .i64 k,.bool w,.int .i64 b,.int .i64 g,.str v,.sl .jnode (.may _) q,.sl .str (.may _) j]]=>let r:=pick (lV (⟨c,a,m,o,e,t,p,h,f,d⟩) (⟨u,i,k,w,⟨b,g,v,q,j⟩⟩));some (can (lV (⟨c,a,m,o,e,t,p,h,f,d⟩) (⟨u,i,k,w,⟨b,g,v,q,j⟩⟩)),.int .i64 r)
 |_=>none
abbrev kX:=Int
noncomputable def bA(b:Bs)(a:Int)(r:kX):Prop:=PureOK Try.prog fE [.str b,.int .u8 a] (.int .i64 r)∧eL b a r
noncomputable def kY:dW Try.prog:=.mk 151 λus=>match us with
 | [.str b,.int .u8 a]=>let r:=pick (bA b a);some (can (bA b a),.int .i64 r)
 |_=>none
abbrev gg:=Int
noncomputable def aC(b:List aq)(a:Bs)(r:gg):Prop:=PureOK Try.prog dd [.sl .afield (.may false) b,.fn 153 [.ea [.str a]]] (.int .i64 r)∧cF b a r
noncomputable def gi:dW Try.prog:=.mk 152 λus=>match us with
 | [.sl .afield (.may _) b,.fn 153 [.ea [.str a]]]=>let r:=pick (aC b a);some (can (aC b a),.int .i64 r)
 |_=>none
abbrev xZ:=Bool
noncomputable def jc(b:aq)(a:Bs)(r:xZ):Prop:=PureOK Try.prog rV [.agg (enc .afield b),.ea [.str a]] (.bool r)∧pK b a r
noncomputable def ya:dW Try.prog:=.mk 153 λus=>match us with
 | [.agg [.str i,.sl .str (.may _) b,.int .i64 d,.bool j,.int .i64 e,.int .i64 g,.str c,.sl .jnode (.may _) h,.sl .str (.may _) f],.ea [.str a]]=>let r:=pick (jc (⟨i,b,d,j,⟨e,g,c,h,f⟩⟩) a);some (can (jc (⟨i,b,d,j,⟨e,g,c,h,f⟩⟩) a),.bool r)
 |_=>none
abbrev jd:FuncId:=35
abbrev ku:FuncId:=9
abbrev ael:=List ab
noncomputable def gZ(a:Bs)(r:ael):Prop:=PureOK Try.prog jd [.str a] (.agg [.sl .atype (.may false) r])∧aaL a r
noncomputable def aem:dW Try.prog:=.mk 35 λus=>match us with
 | [.str a]=>let r:=pick (gZ a);some (can (gZ a),.agg [.sl .atype (.may false) r])
 |_=>none
abbrev tQ:=Bool
noncomputable def ou(b a:Bs)(r:tQ):Prop:=PureOK Try.prog ku [.sl .u8 (.may false) b,.sl .u8 (.may false) a] (.bool r)∧iN b a r
noncomputable def aaQ:ao:=tab (P:=Try.prog) [] [] [] [pZ,uE]
def zp:IR:=Rs [Mb 0 false] (Rs [Pp (.bld 3 [vI 0,vS,fu .str true,vI 0,fu .str true,.bool false,vS,vI 0,fu .afield true,fu (.num .i64) true] [(0,1,kI 3)]),Pp (.bsl 4 .atype [3] true),Pp (.bld 5 [nl .atype] [(0,1,4)]),Pp (.alr 1 1),Fz 1 1 5] (Rs [Pp (.bld 6 [vI 0,vS,fu .str true,vI 0,fu .str true,.bool false,vS,vI 0,fu .afield true,fu (.num .i64) true] [(0,1,kI 4)]),Pp (.bsl 7 .atype [6] true),Pp (.bld 8 [nl .atype] [(0,1,7)]),Pp (.alr 2 1),Fz 2 1 8] (Rs [Ld 9 1 true 1,Ld 10 1 true 2,Ca 11 30 [9,10,kI 0,kI 0],Mv 12 11,Gt 12 (.lde 13 1 true 2),Gt 12 (.lde 14 1 true 1),Gt 12 (.call 15 30 [13,14,kI 0,kI 0]),Gt 12 (.un 16 .not 15),Pa 17 12 16,Mv 18 17,Gt 18 (.lde 19 1 true 1),Gt 18 (.lde 20 1 true 2),Gt 18 (.call 21 32 [19,20,kI 0,kI 0]),Pa 22 18 21,Mv 23 22,Gt 23 (.lde 24 1 true 2),Gt 23 (.lde 25 1 true 1),Gt 23 (.call 26 32 [24,25,kI 0,kI 0]),Gt 23 (.un 27 .not 26),Pa 28 23 27,Mv 0 28] .ret)))
def zq:List RV:=[.t 0]
theorem zr:FnC Try.prog aaQ [] 0 uD Try.f28 zp zq:=fnC Try.func28
def sU(N:Nat):Ro:=
 aZ (fh ([⟨3,([]:Bs),([]:Bss),0,([]:Bss),false,([]:Bs),0,([]:List aq),([]:List Int)⟩]:List ab) ([⟨4,([]:Bs),([]:Bss),0,([]:Bss),false,([]:Bs),0,([]:List aq),([]:List Int)⟩]:List ab) 0 0) (λ(b:Bool)=>
  cond b (
   aZ (fh ([⟨4,([]:Bs),([]:Bss),0,([]:Bss),false,([]:Bs),0,([]:List aq),([]:List Int)⟩]:List ab) ([⟨3,([]:Bs),([]:Bss),0,([]:Bss),false,([]:Bs),0,([]:List aq),([]:List Int)⟩]:List ab) 0 0) (λ(a:Bool)=>
    cond (!a) (
     aZ (dT ([⟨3,([]:Bs),([]:Bss),0,([]:Bss),false,([]:Bs),0,([]:List aq),([]:List Int)⟩]:List ab) ([⟨4,([]:Bs),([]:Bss),0,([]:Bss),false,([]:Bs),0,([]:List aq),([]:List Int)⟩]:List ab) 0 0) (λ(c:Bool)=>
      cond c (
       aZ (dT ([⟨4,([]:Bs),([]:Bss),0,([]:Bss),false,([]:Bs),0,([]:List aq),([]:List Int)⟩]:List ab) ([⟨3,([]:Bs),([]:Bss),0,([]:Bss),false,([]:Bs),0,([]:List aq),([]:List Int)⟩]:List ab) 0 0) (λ(d:Bool)=>
        some (.bool (!d),[]))) (
       some (.bool false,[])))) (
     some (.bool false,[])))) (
   some (.bool false,[])))
def sV(N:Nat):Ro:=sU N
theorem yb(N:Nat)(h:Tot (sV N) (λz=>∃(b:Bool)(a:List al),z.1.dimR=.bool b∧z.2=a∧qQ  (b))):∃r,kM  r:=zr.finP (N:=N) (by kernel_rfl) h λ_ ⟨b,_,e,_,q⟩=>⟨(b),e,q⟩
noncomputable def an:ao:=tab (P:=Try.prog) [] [] [] [aaN,uE,aem]
def fw:IR:=Sq (Rs [Mv 27 8,Mv 28 0,Ll 29 28,Bi 30 .lss 27 29] (Cn 30 .skip (.exit 0))) (Sq (.block 1 (.reg [Mv 33 6,Mv 34 5,Mv 35 0,Mv 36 8,Ix 37 .u8 35 36,Lq 38 37,Pp (.bin 39 .rem 38 (.c (.int .u8 8))),Mv 40 0,Mv 41 8,Ix 42 .u8 40 41,Lq 43 42,Pp (.bin 44 .rem 43 (.c (.int .u8 8))),Pp (.bin 45 .add 44 (.c (.int .u8 1))),Pp (.subs 46 34 (some 39) (some 45)),Bi 47 .add 33 46,Mv 6 47] [[],[],[],[],[2,3],[2,3,4],rg 2 5,[],[],[7,8],[7,8,9],rg 7 10,rg 7 11,rg 1 12,rg 0 13,rg 0 14])) (Rg [Mv 31 8,Bc 32 .add 31 1,Mv 8 32]))
def eT:IR:=Sq (Rs [Mv 48 9,Mv 49 1,Ll 50 49,Bi 51 .lss 48 50] (Cn 51 .skip (.exit 2))) (Sq (.block 3 (.reg [Mv 54 7,Mv 55 5,Mv 56 1,Mv 57 9,Ix 58 .u8 56 57,Lq 59 58,Pp (.bin 60 .rem 59 (.c (.int .u8 8))),Mv 61 1,Mv 62 9,Ix 63 .u8 61 62,Lq 64 63,Pp (.bin 65 .rem 64 (.c (.int .u8 8))),Pp (.bin 66 .add 65 (.c (.int .u8 1))),Pp (.subs 67 55 (some 60) (some 66)),Bi 68 .add 54 67,Mv 7 68] [[],[],[],[],[2,3],[2,3,4],rg 2 5,[],[],[7,8],[7,8,9],rg 7 10,rg 7 11,rg 1 12,rg 0 13,rg 0 14])) (Rg [Mv 52 9,Bc 53 .add 52 1,Mv 9 53]))
def lW:IR:=Sq (Rs [Mv 88 14,Mv 89 10,Mv 90 6,Mv 91 12,Pp (.idx 92 90 91),Pp (.mget 93 .bs false (.t 89) (.t 92)),Pp (.lens 94 93),Bi 95 .lss 88 94] (Cn 95 .skip (.exit 6))) (Sq (.block 7 (.reg [Mv 98 13,Mv 99 98,Gf 99 (.mov 100 10),Gf 99 (.mov 101 6),Gf 99 (.mov 102 12),Gf 99 (.idx 103 101 102),Gf 99 (.mget 104 .bs false (.t 100) (.t 103)),Gf 99 (.mov 105 14),Gf 99 (.idx 106 104 105),Gf 99 (.mov 107 7),Gf 99 (.mov 108 12),Gf 99 (.idx 109 107 108),Gf 99 (.bin 110 .eql 106 109),Po 111 99 110,Mv 13 111] [[],[0],[0,1],[0,1],[0,1],[0,1,3,4],rg 0 5,[0,1],rg 0 7,[0,1],[0,1],[0,1,9,10],rg 0 11,rg 0 12,rg 0 13])) (Rg [Mv 96 14,Bc 97 .add 96 1,Mv 14 97]))
def lX:IR:=Rg [Mv 112 11,Mv 113 112,Gt 113 (.mov 114 13),Pa 115 113 114,Mv 11 115]
def lY:IR:=Rg [Mv 86 12,Bc 87 .add 86 1,Mv 12 87]
def eU:IR:=Sq (Rs [Mv 76 12,Mv 77 6,Pp (.lens 78 77),Bi 79 .lss 76 78,Mv 80 79,Gt 80 (.mov 81 12),Gt 80 (.mov 82 7),Gt 80 (.lens 83 82),Gt 80 (.bin 84 .lss 81 83),Pa 85 80 84] (Cn 85 .skip (.exit 4))) (Sq (.block 5 (Rs [Mb 13 false] (Sq (Rs [Mi 14 0] (.block 6 (.loop [6,7,10,11,12,13,14,1000002] 1 lW))) lX))) lY)
def iz:IR:=Rs [Mv 116 6,Ca 117 35 [116],Mv 118 7,Ca 119 35 [118],Pp (.alr 15 1),Pp (.alr 16 1),Fz 15 1 117,Fz 16 1 119] (Rs [Ld 120 1 true 15,Ld 121 1 true 16,Ca 122 32 [120,121,kI 0,kI 0],Mv 123 11,Pp (.beq 124 false 122 123),Mv 4 124] .ret)
def iA:IR:=Rs [Pp (.mkm 69 .bs),Pp (.mput none .bs (.t 69) (.c (.int .u8 105)) (.c (.str ([105,108,102,100]:Bs)))),Pp (.mput none .bs (.t 69) (.c (.int .u8 108)) (.c (.str ([108,102,100]:Bs)))),Pp (.mput none .bs (.t 69) (.c (.int .u8 102)) (.c (.str ([102,100]:Bs)))),Pp (.mput none .bs (.t 69) (.c (.int .u8 100)) (.c (.str ([100]:Bs)))),Pp (.mput none .bs (.t 69) (.c (.int .u8 115)) (.c (.str ([115,98]:Bs)))),Pp (.mput none .bs (.t 69) (.c (.int .u8 98)) (.c (.str ([98]:Bs)))),Pp (.mput none .bs (.t 69) (.c (.int .u8 110)) (.c (.str ([110]:Bs)))),Pp (.mput none .bs (.t 69) (.c (.int .u8 111)) (.c (.str ([111]:Bs)))),Mv 70 69,Mv 10 70] (Rs [Mv 71 7,Pp (.lens 72 71),Mv 73 6,Pp (.lens 74 73),Bi 75 .leq 72 74,Mv 11 75] (Sq (Rs [Mi 12 0] (.block 4 (.loop [6,7,10,11,12,1000003] 1 eU))) iz))
def iB:IR:=Sq (Rs [Mi 9 0] (.block 2 (.loop [1,5,6,7,9,1000001] 0 eT))) iA
def sW:IR:=Rs [Mb 4 false] (Sq (Rs [Ca 17 28 [],Un 18 17] (Cn 18 (Rs [Mb 4 false] .ret) .skip)) (Sq (Rs [Mv 19 0,Ll 20 19,Bc 21 .gtr 20 6,Mv 22 21,Gf 22 (.mov 23 1),Gf 22 (.lenl 24 23),Gf 22 (.bin 25 .gtr 24 (kI 6)),Po 26 22 25] (Cn 26 (Rs [Mb 4 true] .ret) .skip)) (Rs [Ms 5 [105,108,102,100,115,98,110,111]] (Rs [Ms 6 [],Ms 7 []] (Sq (Rs [Mi 8 0] (.block 0 (.loop [0,1,5,6,7,8,1000000] 0 fw))) iB)))))
def cP:List RV:=[.t 4]
theorem sX:FnC Try.prog an [] 0 ku Try.f9 sW cP:=fnC Try.func9
def jo(R:IR->(Ex->St->Ro)->St->Ro)(a:St->Ro):Ex->St->Ro:=(de a [0,1,5,6,7,8,1000000] 0 (bu 0 (d4 (R iB) (fin cP))))
abbrev ct:Type:=(Bs×Bs×Bs×Bs×Bs×Int)
def bz(x:ct):St:={env:=(.sl .u8 (.may false) x.1::.sl .u8 (.may false) x.2.1::(U 3 (.str x.2.2.1::.str x.2.2.2.1::.str x.2.2.2.2.1::.int .i64 x.2.2.2.2.2::(U 116 [])))),hp:=[]}
def jp(R:IR->(Ex->St->Ro)->St->Ro)(a:St->Ro):Ex->St->Ro:=(de a [1,5,6,7,9,1000001] 0 (bu 2 (d4 (R iA) (fin cP))))
abbrev cu:Type:=(Bs×Bs×Bs×Bs×Int)
def bi(x:cu):St:={env:=(.undef::.sl .u8 (.may false) x.1::(U 3 (.str x.2.1::.str x.2.2.1::.str x.2.2.2.1::.undef::.int .i64 x.2.2.2.2::(U 115 [])))),hp:=[]}
def fX(R:IR->(Ex->St->Ro)->St->Ro)(a:St->Ro):Ex->St->Ro:=(de a [6,7,10,11,12,1000003] 1 (bu 4 (d4 (R iz) (fin cP))))
abbrev b9:Type:=(Bs×Bs×Bool×Int×List (Int×Bs))
def aD(x:b9):St:={env:=(U 6 (.str x.1::.str x.2.1::.undef::.undef::.mr 0::.bool x.2.2.1::.int .i64 x.2.2.2.1::(U 112 []))),hp:=[some [.mp .bs x.2.2.2.2]]}
def sC(R:IR->(Ex->St->Ro)->St->Ro)(b a:St->Ro):Ex->St->Ro:=(de a [6,7,10,11,12,13,14,1000002] 1 (bu 6 (d4 (R lX) (bu 5 (d4 (R lY) (fX R b))))))
abbrev fY:Type:=(Bs×Bs×Bool×Int×Bool×Int×List (Int×Bs))
def dY(x:fY):St:={env:=(U 6 (.str x.1::.str x.2.1::.undef::.undef::.mr 0::.bool x.2.2.1::.int .i64 x.2.2.2.1::.bool x.2.2.2.2.1::.int .i64 x.2.2.2.2.2.1::(U 110 []))),hp:=[some [.mp .bs x.2.2.2.2.2.2]]}
def fZ(N:Nat)(b:St->Ro):(St->Ro)->St->Ro:=λa s=>run an N lW (sC (run an N) b a) s
def ee(N:Nat)(b:b9->Ro)(c:fY->Ro)(x:fY):Ro:=
 let e:Bs:=x.1;let g:Bs:=x.2.1;let f:Bool:=x.2.2.1;let a:Int:=x.2.2.2.1;let i:Bool:=x.2.2.2.2.1;let d:Int:=x.2.2.2.2.2.1;let ah:List (Int×Bs):=x.2.2.2.2.2.2
 chk (ixl a e) (
  let v:=(↑(DY (As e (AC a) 0)):Int)
  let p:=(mM (k:=.bs) ah v)
  let j:=(↑(An p):Int)
  cond (decide (d<j)) (
   cond i (
    let w:=(Az .i64 (d+1))
    c (e,g,f,a,true,w,ah)) (
    chk (ixl a e) (
     let t:=(↑(DY (As e (AC a) 0)):Int)
     let h:=(mM (k:=.bs) ah t)
     chk (ixl d h) (
      let q:=(↑(DY (As h (AC d) 0)):Int)
      chk (ixl a g) (
       let u:=(↑(DY (As g (AC a) 0)):Int)
       let r:=(Az .i64 (d+1))
       c (e,g,f,a,(q==u),r,ah)))))) (
   cond f (
    let m:=(Az .i64 (a+1))
    b (e,g,i,m,ah)) (
    let o:=(Az .i64 (a+1))
    b (e,g,false,o,ah))))
theorem rA(N:Nat)(a:St->Ro):LB (fZ N a) dY (ee N (λy=>a (aD y))):=λ_ _=>by kernel_rfl
def ef(N:Nat):(St->Ro)->St->Ro:=λa s=>run an N eU (fX (run an N) a) s
def fx(N:Nat)(c:b9->Ro)(m:fY->Ro)(x:b9):Ro:=
 let e:Bs:=x.1;let d:Bs:=x.2.1;let a:Bool:=x.2.2.1;let b:Int:=x.2.2.2.1;let ah:List (Int×Bs):=x.2.2.2.2;let f:=(↑(An e):Int)
 cond (decide (b<f)) (
  let g:=(↑(An d):Int)
  cond (decide (b<g)) (
   m (e,d,a,b,false,0,ah)) (
   aZ (gZ e) (λ(p:List ab)=>
    aZ (gZ d) (λ(j:List ab)=>
     aZ (dT p j 0 0) (λ(k:Bool)=>
      some (.bool (k==a),[some [.mp .bs ah]])))))) (
  aZ (gZ e) (λ(h:List ab)=>
   aZ (gZ d) (λ(o:List ab)=>
    aZ (dT h o 0 0) (λ(i:Bool)=>
     some (.bool (i==a),[some [.mp .bs ah]])))))
def eh(N:Nat)(a:b9->Ro)(x:b9):Ro:=fx N a (λz=>cg N (ee N a) z) x
def jq(N:Nat)(a:St->Ro):List (Nat×(St->Ro)):=(fm an N eU (fX (run an N) a)++(fm an N iz (fin cP)++[]))
theorem rB(N:Nat):∀(a:St->Ro)(x:b9),ef N a (aD x)=eh N (λy=>a (aD y)) x:=by
 intro a x;have b:∀C:Nat->St->Ro,dP C an N eU (fX (dP C an N) a) (aD x)=fx N (λy=>a (aD y)) (λz=>C 1000002 (dY z)) x:=by intro C;kernel_rfl
 have h:ef N a (aD x)=fx N (λy=>a (aD y)) (λz=>bC N (fZ N a) (dY z)) x:=(nA (C:=nh (jq N a)) (la (d5 (l:=(jq N a)) (by kernel_rfl))) (pG (mu (tL (la (tM (d5 (l:=(jq N a)) (by kernel_rfl)))) rfl))) _).trans ((b _).trans (by kernel_rfl));have c:(λz=>bC N (fZ N a) (dY z))=(λz=>cg N (ee N (λy=>a (aD y))) z):=funext λz=>cJ (dY) (fZ N a) (ee N (λy=>a (aD y))) (rA N a) N z
 rw[h,c];rfl
def ek(N:Nat):(St->Ro)->St->Ro:=λa s=>run an N eT (jp (run an N) a) s
def fy(N:Nat)(a:cu->Ro)(A:b9->Ro)(x:cu):Ro:=
 let e:Bs:=x.1;let j:Bs:=x.2.1;let v:Bs:=x.2.2.1;let g:Bs:=x.2.2.2.1;let d:Int:=x.2.2.2.2;let B:=(↑(An e):Int)
 cond (decide (d<B)) (
  chk (ixl d e) (
   let c:=(As e (AC d) (am .u8)).toNat
   chk (ixl d e) (
    let r:=(As e (AC d) (am .u8)).toNat;let b:=(Az .u8 ((B6 r 8)+1))
    chk ((decide (0<=b)&&decide (b<=(↑(An j):Int))&&(decide (0<=(B6 c 8))&&decide ((B6 c 8)<=b)))) (
     let f:=(Dz (AC (B6 c 8)) (Dy (AC b) j))
     chk (decide (An g+An f<=9223372036854775807)) (
      let w:=(Az .i64 (d+1))
      a (e,j,v,(g++f),w)))))) (
  let u:=(eJ (k:=.bs) ([]:List (Int×Bs)) 105 ([105,108,102,100]:Bs))
  let h:=(eJ (k:=.bs) u 108 ([108,102,100]:Bs))
  let q:=(eJ (k:=.bs) h 102 ([102,100]:Bs))
  let t:=(eJ (k:=.bs) q 100 ([100]:Bs))
  let m:=(eJ (k:=.bs) t 115 ([115,98]:Bs))
  let y:=(eJ (k:=.bs) m 98 ([98]:Bs))
  let z:=(eJ (k:=.bs) y 110 ([110]:Bs))
  let i:=(eJ (k:=.bs) z 111 ([111]:Bs))
  let o:=(↑(An g):Int)
  let p:=(↑(An v):Int)
  A (v,g,decide (o<=p),0,i))
def eo(N:Nat)(a:cu->Ro)(x:cu):Ro:=fy N a (λz=>cg N (eh N) z) x
def jr(N:Nat)(a:St->Ro):List (Nat×(St->Ro)):=(fm an N eT (jp (run an N) a)++(fm an N iA (fin cP)++[]))
theorem rC(N:Nat):∀(a:St->Ro)(x:cu),ek N a (bi x)=eo N (λy=>a (bi y)) x:=by
 intro a x;have c:∀C:Nat->St->Ro,dP C an N eT (jp (dP C an N) a) (bi x)=fy N (λy=>a (bi y)) (λz=>C 1000003 (aD z)) x:=by intro C;kernel_rfl
 have h:ek N a (bi x)=fy N (λy=>a (bi y)) (λz=>bC N (ef N) (aD z)) x:=(nA (C:=nh (jr N a)) (la (d5 (l:=(jr N a)) (by kernel_rfl))) (pG (mu (tL (la (tM (d5 (l:=(jr N a)) (by kernel_rfl)))) rfl))) _).trans ((c _).trans (by kernel_rfl));have b:(λz=>bC N (ef N) (aD z))=(λz=>cg N (eh N) z):=funext λz=>cJ (aD) (ef N) (eh N) (rB N) N z
 rw[h,b];rfl
def f4(N:Nat):(St->Ro)->St->Ro:=λa s=>run an N fw (jo (run an N) a) s
def fA(N:Nat)(a:ct->Ro)(k:cu->Ro)(x:ct):Ro:=
 let v0:Bs:=x.1;let g:Bs:=x.2.1;let c:Bs:=x.2.2.1;let f:Bs:=x.2.2.2.1;let h:Bs:=x.2.2.2.2.1;let b:Int:=x.2.2.2.2.2;let o:=(↑(An v0):Int)
 cond (decide (b<o)) (
  chk (ixl b v0) (
   let e:=(As v0 (AC b) (am .u8)).toNat
   chk (ixl b v0) (
    let m:=(As v0 (AC b) (am .u8)).toNat;let d:=(Az .u8 ((B6 m 8)+1))
    chk ((decide (0<=d)&&decide (d<=(↑(An c):Int))&&(decide (0<=(B6 e 8))&&decide ((B6 e 8)<=d)))) (
     let i:=(Dz (AC (B6 e 8)) (Dy (AC d) c))
     chk (decide (An f+An i<=9223372036854775807)) (
      let j:=(Az .i64 (b+1))
      a (v0,g,c,(f++i),h,j)))))) (
  k (g,c,f,h,0))
def f5(N:Nat)(a:ct->Ro)(x:ct):Ro:=fA N a (λz=>cg N (eo N) z) x
def js(N:Nat)(a:St->Ro):List (Nat×(St->Ro)):=(fm an N fw (jo (run an N) a)++(fm an N iB (fin cP)++[]))
theorem rD(N:Nat):∀(a:St->Ro)(x:ct),f4 N a (bz x)=f5 N (λy=>a (bz y)) x:=by
 intro a x;have b:∀C:Nat->St->Ro,dP C an N fw (jo (dP C an N) a) (bz x)=fA N (λy=>a (bz y)) (λz=>C 1000001 (bi z)) x:=by intro C;kernel_rfl
 have h:f4 N a (bz x)=fA N (λy=>a (bz y)) (λz=>bC N (ek N) (bi z)) x:=(nA (C:=nh (js N a)) (la (d5 (l:=(js N a)) (by kernel_rfl))) (pG (mu (tL (la (tM (d5 (l:=(js N a)) (by kernel_rfl)))) rfl))) _).trans ((b _).trans (by kernel_rfl));have e1:(λz=>bC N (ek N) (bi z))=(λz=>cg N (eo N) z):=funext λz=>cJ (bi) (ek N) (eo N) (rC N) N z
 rw[h,e1];rfl
def eH(N:Nat)(p0 a:Bs)(c:ct->Ro):Ro:=
 aZ (kM) (λ(d:Bool)=>
  cond (!d) (
   some (.bool false,[])) (
   let b:=(↑(An p0):Int)
   cond (decide (6<b)) (
    some (.bool true,[])) (
    let e:=(↑(An a):Int)
    cond (decide (6<e)) (
     some (.bool true,[])) (
     c (p0,a,([105,108,102,100,115,98,110,111]:Bs),([]:Bs),([]:Bs),0)))))
def nR(N:Nat)(p0 a:Bs):Ro:=eH N p0 a (λz=>cg N (f5 N) z)
theorem sD(N:Nat)(p0 a:Bs)(h:Tot (nR N p0 a) (λz=>∃(d:Bool)(c:List al),z.1.dimR=.bool d∧z.2=c∧iN p0 a (d))):∃r,ou p0 a r:=sX.finP (N:=N) ((iu _ (by kernel_rfl) rfl (λC=>eH N p0 a (λz=>C 1000000 (bz z))) (λC=>by kernel_rfl)).trans (B7 (b:=eH N p0 a (λz=>bC N (f4 N) (bz z))) (by kernel_rfl) (congrArg (eH N p0 a) (funext λz=>cJ (bz) (f4 N) (f5 N) (rD N) N z)))) h λ_ ⟨d,_,e,_,q⟩=>⟨(d),e,q⟩
noncomputable def dD:ao:=tab (P:=Try.prog) [] [] [] []
def eM:IR:=Sq (Rs [Mv 9 5,Bc 10 .geq 9 0] (Cn 10 .skip (.exit 0))) (Sq (.block 1 (Rs [Mv 13 0,Mv 14 5,Pp (.idx 15 13 14),Mv 16 1,Bi 17 .eql 15 16] (Cn 17 (Rs [Mv 18 5,Mv 4 18] .ret) .skip))) (Rg [Mv 11 5,Bc 12 .sub 11 1,Mv 5 12]))
def eN:IR:=Rs [Mi 4 (-1)] .ret
def kN:IR:=Rs [Mi 4 0] (Sq (Rs [Mv 6 0,Pp (.lens 7 6),Bc 8 .sub 7 1,Mv 5 8] (.block 0 (.loop [0,1,5,1000000] 0 eM))) eN)
def fj:List RV:=[.t 4]
theorem kO:FnC Try.prog dD [] 0 fE Try.f151 kN fj:=fnC Try.func151
def kw(R:IR->(Ex->St->Ro)->St->Ro)(a:St->Ro):Ex->St->Ro:=(de a [0,1,5,1000000] 0 (bu 0 (d4 (R eN) (fin fj))))
abbrev bW:Type:=(Bs×Int×Int)
def bU(x:bW):St:={env:=(.str x.1::.int .u8 x.2.1::(U 3 (.int .i64 x.2.2::(U 13 [])))),hp:=[]}
def dg(N:Nat):(St->Ro)->St->Ro:=λa s=>run dD N eM (kw (run dD N) a) s
def bX(N:Nat)(a:bW->Ro)(x:bW):Ro:=
 let v0:Bs:=x.1;let c:Int:=x.2.1;let b:Int:=x.2.2
 cond (decide (0<=b)) (
  chk (ixl b v0) (
   let e:=(↑(DY (As v0 (AC b) 0)):Int)
   cond (e==c) (
    some (.int .i64 b,[])) (
    let d:=(Az .i64 (b-1))
    a (v0,c,d)))) (
  some (.int .i64 (-1),[]))
theorem jX(N:Nat):LB (dg N) bU (bX N):=λ_ _=>by kernel_rfl
def bw(N:Nat)(p0:Bs)(a:Int)(c:bW->Ro):Ro:=
 let b:=(↑(An p0):Int)
 let d:=(Az .i64 (b-1))
 c (p0,a,d)
def fk(N:Nat)(p0:Bs)(a:Int):Ro:=bw N p0 a (λz=>cg N (bX N) z)
theorem kz(N:Nat)(p0:Bs)(a:Int)(h:Tot (fk N p0 a) (λz=>∃(d:Int)(c:List al),z.1.dimR=.int .i64 d∧z.2=c∧eL p0 a (d))):∃r,bA p0 a r:=kO.finP (N:=N) ((iu _ (by kernel_rfl) rfl (λC=>bw N p0 a (λz=>C 1000000 (bU z))) (λC=>by kernel_rfl)).trans (B7 (b:=bw N p0 a (λz=>bC N (dg N) (bU z))) (by kernel_rfl) (congrArg (bw N p0 a) (funext λz=>cJ (bU) (dg N) (bX N) (jX N) N z)))) h λ_ ⟨d,_,e,_,q⟩=>⟨(d),e,q⟩
noncomputable def rE:ao:=tab (P:=Try.prog) [] [] [] [kY]
def qU:IR:=Rs [Mi 4 0] (Rs [Mv 5 0,Mv 6 1,Ca 7 151 [5,6],Mv 4 7] .ret)
def qV:List RV:=[.t 4]
theorem qW:FnC Try.prog rE [] 0 mL Try.f125 qU qV:=fnC Try.func125
def lZ(N:Nat)(p0:Bs)(a:Int):Ro:=
 aZ (bA p0 a) (λ(b:Int)=>
  some (.int .i64 b,[]))
def l7(N:Nat)(p0:Bs)(a:Int):Ro:=lZ N p0 a
theorem qm(N:Nat)(p0:Bs)(c:Int)(h:Tot (l7 N p0 c) (λz=>∃(b:Int)(a:List al),z.1.dimR=.int .i64 b∧z.2=a∧kL p0 c (b))):∃r,dX p0 c r:=qW.finP (N:=N) (by kernel_rfl) h λ_ ⟨b,_,e,_,q⟩=>⟨(b),e,q⟩
noncomputable def ab6:ao:=tab (P:=Try.prog) [] [] [] [rz]
def aaR:IR:=Rs [Ms 2 []] (Rs [Mv 3 0,Mv 4 0,Ca 5 125 [4,.c (.int .u8 46)],Bc 6 .add 5 1,Pp (.subs 7 3 (some 6) none),Mv 2 7] .ret)
def aaS:List RV:=[.t 2]
theorem aaT:FnC Try.prog ab6 [] 0 vo Try.f89 aaR aaS:=fnC Try.func89
def uF(N:Nat)(p0:Bs):Ro:=
 aZ (dX p0 46) (λ(b:Int)=>
  let a:=(Az .i64 (b+1))
  chk ((decide (0<=a)&&decide (a<=(↑(An p0):Int)))) (
   let c:=(Dz (AC a) (Dy (An p0) p0))
   some (.str c,[])))
def uG(N:Nat)(p0:Bs):Ro:=uF N p0
theorem zt(N:Nat)(p0:Bs)(h:Tot (uG N p0) (λz=>∃(b:Bs)(a:List al),z.1.dimR=.str b∧z.2=a∧rU p0 (b))):∃r,iv p0 r:=aaT.finP (N:=N) (by kernel_rfl) h λ_ ⟨b,_,e,_,q⟩=>⟨(b),e,q⟩
noncomputable def aen:ao:=tab (P:=Try.prog) [] [] [] []
def ac9:IR:=Rs [Bx 2 0,Mb 4 false] (Rs [Mv 5 1,Bc 6 .geq 5 0,Mv 7 6,Gt 7 (.mov 8 1),Gt 7 (.fad 9 0 2),Gt 7 (.lde 10 1 false 9),Gt 7 (.lenl 11 10),Gt 7 (.bin 12 .lss 8 11),Pa 13 7 12,Mv 4 13] .ret)
def ada:List RV:=[.t 4]
theorem adb:FnC Try.prog aen [] 0 xX Try.f63 ac9 ada:=fnC Try.func63
def wM(N:Nat)(a:List ab)(b:Int):Ro:=
 cond (decide (0<=b)) (
  let c:=(↑(An a):Int)
  some (.bool (decide (b<c)),[])) (
  some (.bool false,[]))
def wN(N:Nat)(a:List ab)(b:Int):Ro:=wM N a b
theorem ab7(N:Nat)(a:List ab)(d:Int)(h:Tot (wN N a d) (λz=>∃(c:Bool)(b:List al),z.1.dimR=.bool c∧z.2=b∧uA a d (c))):∃r,jb a d r:=adb.finP (N:=N) (by kernel_rfl) h λ_ ⟨c,_,e,_,q⟩=>⟨(c),e,q⟩
noncomputable def wB:ao:=tab (P:=Try.prog) [] [] [] [vp]
def vq:IR:=Rs [Mb 3 false] (Sq (.reg [Mv 4 0,Ca 5 89 [4],Lq 6 1,Bi 7 .eql 5 6,Mv 3 7] [[],[0],[],[0,1,2],rg 0 3]) .ret)
def vr:List RV:=[.t 3]
theorem vt:FnC Try.prog wB [] 0 qe Try.f91 vq vr:=fnC Try.func91
def pL(N:Nat)(p0 a:Bs):Ro:=
 aZ (iv p0) (λ(b:Bs)=>
  some (.bool (decide (b=a)),[]))
def pM(N:Nat)(p0 a:Bs):Ro:=pL N p0 a
theorem uO(N:Nat)(p0 a:Bs)(h:Tot (pM N p0 a) (λz=>∃(c:Bool)(b:List al),z.1.dimR=.bool c∧z.2=b∧om p0 a (c))):∃r,gP p0 a r:=vt.finP (N:=N) (by kernel_rfl) h λ_ ⟨c,_,e,_,q⟩=>⟨(c),e,q⟩
noncomputable def cb:ao:=tab (P:=Try.prog) [] [] [] [ww]
def dB:IR:=Rs [Bi 9 .lss 8 7] (Sq (Cn 9 .skip (.exit 0)) (Sq (.block 1 (Rs [Mv 10 8,Mv 5 10] (Rs [Mv 11 1,Mv 12 0,Mv 13 5,Ix 14 .str 12 13,Lq 15 14,Pp (.dcall (some 16) 91 (.t 11) [.t 15])] (Cn 16 (Rs [Mv 17 5,Mv 4 17] .ret) .skip)))) (Rg [Bc 18 .add 8 1,Mv 8 18])))
def dC:IR:=Rs [Mi 4 (-1)] .ret
def ic:IR:=Rs [Mi 4 0] (Sq (Rs [Mv 6 0,Ll 7 6,Mi 8 0] (.block 0 (.loop [0,1,7,8,1000000] 0 dB))) dC)
def dL:List RV:=[.t 4]
theorem ig:FnC Try.prog cb [] 0 dQ Try.f126 ic dL:=fnC Try.func126
def g5(R:IR->(Ex->St->Ro)->St->Ro)(a:St->Ro):Ex->St->Ro:=(de a [0,1,7,8,1000000] 0 (bu 0 (d4 (R dC) (fin dL))))
abbrev bo:Type:=(Bss×Bs×Int×Int)
def bf(x:bo):St:={env:=(.sl .str (.may false) x.1::.fn 91 [.ea [.str x.2.1]]::(U 5 (.int .i64 x.2.2.1::.int .i64 x.2.2.2::(U 10 [])))),hp:=[]}
def bZ(N:Nat):(St->Ro)->St->Ro:=λa s=>run cb N dB (g5 (run cb N) a) s
def bp(N:Nat)(b:bo->Ro)(x:bo):Ro:=
 let v0:Bss:=x.1;let a:Bs:=x.2.1;let d:Int:=x.2.2.1;let c:Int:=x.2.2.2
 cond (decide (c<d)) (
  chk (ixl c v0) (
   let g:=As v0 (AC c) (am .str)
   aZ (gP g a) (λ(f:Bool)=>
    cond f (
     some (.int .i64 c,[])) (
     let e:=(Az .i64 (c+1))
     b (v0,a,d,e))))) (
  some (.int .i64 (-1),[]))
theorem gR(N:Nat):LB (bZ N) bf (bp N):=λ_ _=>by kernel_rfl
def aL(N:Nat)(p0:Bss)(a:Bs)(c:bo->Ro):Ro:=
 let b:=(↑(An p0):Int)
 c (p0,a,b,0)
def dM(N:Nat)(p0:Bss)(a:Bs):Ro:=aL N p0 a (λz=>cg N (bp N) z)
theorem g6(N:Nat)(p0:Bss)(a:Bs)(h:Tot (dM N p0 a) (λz=>∃(d:Int)(c:List al),z.1.dimR=.int .i64 d∧z.2=c∧dz p0 a (d))):∃r,aN p0 a r:=ig.finP (N:=N) ((iu _ (by kernel_rfl) rfl (λC=>aL N p0 a (λz=>C 1000000 (bf z))) (λC=>by kernel_rfl)).trans (B7 (b:=aL N p0 a (λz=>bC N (bZ N) (bf z))) (by kernel_rfl) (congrArg (aL N p0 a) (funext λz=>cJ (bf) (bZ N) (bp N) (gR N) N z)))) h λ_ ⟨d,_,e,_,q⟩=>⟨(d),e,q⟩
noncomputable def gS:ao:=tab (P:=Try.prog) [] [] [] [iy]
def gD:IR:=Rs [Mb 4 false] (Rs [Mv 5 0,Mv 6 1,Ca 7 126 [5,6],Bc 8 .geq 7 0,Mv 4 8] .ret)
def gE:List RV:=[.t 4]
theorem gF:FnC Try.prog gS [] 0 dA Try.f90 gD gE:=fnC Try.func90
def dm(N:Nat)(p0:Bss)(a:Bs):Ro:=
 aZ (aN p0 a) (λ(b:Int)=>
  some (.bool (decide (0<=b)),[]))
def dn(N:Nat)(p0:Bss)(a:Bs):Ro:=dm N p0 a
theorem gn(N:Nat)(p0:Bss)(a:Bs)(h:Tot (dn N p0 a) (λz=>∃(c:Bool)(b:List al),z.1.dimR=.bool c∧z.2=b∧dc p0 a (c))):∃r,aG p0 a r:=gF.finP (N:=N) (by kernel_rfl) h λ_ ⟨c,_,e,_,q⟩=>⟨(c),e,q⟩
noncomputable def zu:ao:=tab (P:=Try.prog) [] [] [] [vp,gM]
def yc:IR:=Rs [Bx 2 0,Bx 3 1,Mb 4 false] (Rs [Fa 6 1 2,Lq 7 6,Ca 8 89 [7],Pp (.alr 5 1),Fz 5 1 8] (Sq (.reg [Fa 9 1 3,Lq 10 9,Ca 11 89 [10],Lq 12 5,Bi 13 .eql 11 12,Mv 14 13,Gf 14 (.fad 15 2 3),Gf 14 (.lde 16 1 false 15),Gf 14 (.mkf 17 91 [.t 5]),Gf 14 (.call 18 90 [16,17]),Po 19 14 18,Mv 4 19] [[],[0],[0,1],[],rg 0 3,rg 0 4,rg 0 5,rg 0 6,rg 0 5,rg 0 8,rg 0 9,rg 0 10]) .ret))
def yd:List RV:=[.t 4]
theorem yf:FnC Try.prog zu [] 0 sS Try.f64 yc yd:=fnC Try.func64
def rW(N:Nat)(p0 a:ab):Ro:=
 aZ (iv p0.name) (λ(b:Bs)=>
  aZ (iv a.name) (λ(d:Bs)=>
   cond (decide (d=b)) (
    some (.bool true,[])) (
    aZ (aG a.aliases b) (λ(c:Bool)=>
     some (.bool c,[])))))
def rX(N:Nat)(p0 a:ab):Ro:=rW N p0 a
theorem xh(N:Nat)(p0 c:ab)(h:Tot (rX N p0 c) (λz=>∃(b:Bool)(a:List al),z.1.dimR=.bool b∧z.2=a∧qb p0 c (b))):∃r,fJ p0 c r:=yf.finP (N:=N) (by kernel_rfl) h λ_ ⟨b,_,e,_,q⟩=>⟨(b),e,q⟩
noncomputable def aaU:ao:=tab (P:=Try.prog) [] [] [] [xY,zm]
def zv:IR:=Rs [Bx 4 0,Bx 5 1,Mb 8 false] (Sq (Rs [Ld 11 1 true 4,Mv 12 2,Ca 13 63 [11,12],Un 14 13,Mv 15 14,Gf 15 (.lde 16 1 true 5),Gf 15 (.mov 17 3),Gf 15 (.call 18 63 [16,17]),Gf 15 (.un 19 .not 18),Po 20 15 19] (Cn 20 (Rs [Mb 8 false] .ret) .skip)) (Sq (.reg [Fa 21 0 4,Lq 22 21,Mv 23 2,Ix 24 .atype 22 23,Ld 25 10 true 24,Fa 26 0 5,Lq 27 26,Mv 28 3,Ix 29 .atype 27 28,Ld 30 10 true 29,Pp (.alr 9 10),Pp (.alr 10 10),Fz 9 10 25,Fz 10 10 30] [[],[0],[],[0,1,2],rg 0 3,[],[5],[],[5,6,7],rg 5 8,[],[],rg 0 4++[10,11],rg 0 12]) (Sq (Rs [Fa 31 0 9,Lq 32 31] (.block 0 (Rs [Bc 34 .eql 32 14,Mv 33 34] (Cn 33 (Rs [Mb 8 false] .ret) (Sq (Rs [Bc 36 .eql 32 9,Mv 35 36] (Cn 35 .skip (Rg [Bc 37 .eql 32 10,Mv 35 37]))) (Cn 35 (Rs [Fa 38 0 9,Lq 39 38,Fa 40 0 10,Lq 41 40,Bi 42 .eql 39 41,Mv 43 42,Gt 43 (.lde 44 10 true 9),Gt 43 (.lde 45 10 true 10),Gt 43 (.call 46 64 [44,45]),Pa 47 43 46,Mv 8 47] .ret) (Rs [Bc 49 .eql 32 11,Mv 48 49] (Cn 48 (Rs [Fa 50 0 9,Lq 51 50,Fa 52 0 10,Lq 53 52,Bi 54 .eql 51 53,Mv 55 54,Gt 55 (.lde 56 10 true 9),Gt 55 (.lde 57 10 true 10),Gt 55 (.call 58 64 [56,57]),Pa 59 55 58,Mv 60 59,Gt 60 (.fad 61 7 9),Gt 60 (.lde 62 1 false 61),Gt 60 (.fad 63 7 10),Gt 60 (.lde 64 1 false 63),Gt 60 (.bin 65 .eql 62 64),Pa 66 60 65,Mv 8 66] .ret) (Sq (Rs [Bc 68 .eql 32 3,Mv 67 68] (Cn 67 .skip (Rs [Bc 69 .eql 32 4,Mv 67 69] (Cn 67 .skip (Rg [Bc 70 .eql 32 5,Mv 67 70]))))) (Cn 67 (Rs [Fa 71 0 10,Lq 72 71,Fa 73 0 9,Lq 74 73,Bi 75 .geq 72 74,Mv 76 75,Gt 76 (.fad 77 0 10),Gt 76 (.lde 78 1 false 77),Gt 76 (.bin 79 .leq 78 (kI 6)),Pa 80 76 79,Mv 8 80] .ret) (Rs [Bc 82 .eql 32 8,Mv 81 82] (Cn 81 (Rs [Fa 83 0 10,Lq 84 83,Bc 85 .eql 84 8,Mv 86 85,Gf 86 (.fad 87 0 10),Gf 86 (.lde 88 1 false 87),Gf 86 (.bin 89 .eql 88 (kI 7)),Po 90 86 89,Mv 8 90] .ret) .skip)))))))))))) (Rs [Fa 91 0 9,Lq 92 91,Fa 93 0 10,Lq 94 93,Bi 95 .eql 92 94,Mv 8 95] .ret))))
def zw:List RV:=[.t 8]
theorem zx:FnC Try.prog aaU [] 0 uC Try.f30 zv zw:=fnC Try.func30
def sY(N:Nat)(c d:List ab)(p2 e:Int):Ro:=
 aZ (jb c p2) (λ(m:Bool)=>
  cond (!m) (
   some (.bool false,[])) (
   aZ (jb d e) (λ(o:Bool)=>
    cond (!o) (
     some (.bool false,[])) (
     chk (ixl p2 c) (
      let a:=(As c (AC p2) (am .atype))
      chk (ixl e d) (
       let b:=(As d (AC e) (am .atype))
       cond (a.kind==14) (
        some (.bool false,[])) (
        cond (a.kind==9) (
         cond (a.kind==b.kind) (
          aZ (fJ a b) (λ(h:Bool)=>
           some (.bool h,[]))) (
          some (.bool false,[]))) (
         cond (a.kind==10) (
          cond (a.kind==b.kind) (
           aZ (fJ a b) (λ(i:Bool)=>
            some (.bool i,[]))) (
           some (.bool false,[]))) (
          cond (a.kind==11) (
           cond (a.kind==b.kind) (
            aZ (fJ a b) (λ(f:Bool)=>
             cond f (
              some (.bool (a.size==b.size),[])) (
              some (.bool false,[])))) (
            some (.bool false,[]))) (
           cond (a.kind==3) (
            let j:=decide (a.kind<=b.kind)
            cond j (
             some (.bool (decide (b.kind<=6)),[])) (
             some (.bool false,[]))) (
            cond (a.kind==4) (
             let g:=decide (a.kind<=b.kind)
             cond g (
              some (.bool (decide (b.kind<=6)),[])) (
              some (.bool false,[]))) (
             cond (a.kind==5) (
              let k:=decide (a.kind<=b.kind)
              cond k (
               some (.bool (decide (b.kind<=6)),[])) (
               some (.bool false,[]))) (
              cond (a.kind==8) (
               cond (b.kind==8) (
                some (.bool true,[])) (
                some (.bool (b.kind==7),[]))) (
               some (.bool (a.kind==b.kind),[])))))))))))))))
def sZ(N:Nat)(a b:List ab)(p2 c:Int):Ro:=sY N a b p2 c
theorem yg(N:Nat)(a b:List ab)(p2 f:Int)(h:Tot (sZ N a b p2 f) (λz=>∃(d:Bool)(c:List al),z.1.dimR=.bool d∧z.2=c∧nC a b p2 f (d))):∃r,fh a b p2 f r:=zx.finP (N:=N) (by kernel_rfl) h λ_ ⟨d,_,e,_,q⟩=>⟨(d),e,q⟩
noncomputable def yh:ao:=tab (P:=Try.prog) [] [] [] []
def xi:IR:=Rs [Bx 2 0,Mb 3 false] (Rs [Fa 4 0 2,Lq 5 4,Lq 6 1,Bi 7 .eql 5 6,Mv 3 7] .ret)
def xj:List RV:=[.t 3]
theorem xk:FnC Try.prog yh [] 0 rV Try.f153 xi xj:=fnC Try.func153
def qX(N:Nat)(p0:aq)(a:Bs):Ro:=
 some (.bool (decide (p0.name=a)),[])
def qY(N:Nat)(p0:aq)(a:Bs):Ro:=qX N p0 a
theorem wC(N:Nat)(p0:aq)(a:Bs)(h:Tot (qY N p0 a) (λz=>∃(c:Bool)(b:List al),z.1.dimR=.bool c∧z.2=b∧pK p0 a (c))):∃r,jc p0 a r:=xk.finP (N:=N) (by kernel_rfl) h λ_ ⟨c,_,e,_,q⟩=>⟨(c),e,q⟩
noncomputable def bN:ao:=tab (P:=Try.prog) [] [] [] [ya]
def cG:IR:=Rs [Bi 9 .lss 8 7] (Sq (Cn 9 .skip (.exit 0)) (Sq (.block 1 (Rs [Mv 10 8,Mv 5 10] (Rs [Mv 11 1,Mv 12 0,Mv 13 5,Ix 14 .afield 12 13,Ld 15 9 true 14,Pp (.dcall (some 16) 153 (.t 11) [.t 15])] (Cn 16 (Rs [Mv 17 5,Mv 4 17] .ret) .skip)))) (Rg [Bc 18 .add 8 1,Mv 8 18])))
def cH:IR:=Rs [Mi 4 (-1)] .ret
def f6:IR:=Rs [Mi 4 0] (Sq (Rs [Mv 6 0,Ll 7 6,Mi 8 0] (.block 0 (.loop [0,1,7,8,1000000] 0 cG))) cH)
def cX:List RV:=[.t 4]
theorem f8:FnC Try.prog bN [] 0 dd Try.f152 f6 cX:=fnC Try.func152
def fK(R:IR->(Ex->St->Ro)->St->Ro)(a:St->Ro):Ex->St->Ro:=(de a [0,1,7,8,1000000] 0 (bu 0 (d4 (R cH) (fin cX))))
abbrev aS:Type:=(List aq×Bs×Int×Int)
def aP(x:aS):St:={env:=(.sl .afield (.may false) x.1::.fn 153 [.ea [.str x.2.1]]::(U 5 (.int .i64 x.2.2.1::.int .i64 x.2.2.2::(U 10 [])))),hp:=[]}
def bI(N:Nat):(St->Ro)->St->Ro:=λa s=>run bN N cG (fK (run bN N) a) s
def aT(N:Nat)(b:aS->Ro)(x:aS):Ro:=
 let v0:List aq:=x.1;let a:Bs:=x.2.1;let d:Int:=x.2.2.1;let c:Int:=x.2.2.2
 cond (decide (c<d)) (
  chk (ixl c v0) (
   let g:=(As v0 (AC c) (am .afield))
   aZ (jc (reF g) a) (λ(f:Bool)=>
    cond f (
     some (.int .i64 c,[])) (
     let e:=(Az .i64 (c+1))
     b (v0,a,d,e))))) (
  some (.int .i64 (-1),[]))
theorem fF(N:Nat):LB (bI N) aP (aT N):=λ_ _=>by kernel_rfl
def aB(N:Nat)(p0:List aq)(a:Bs)(c:aS->Ro):Ro:=
 let b:=(↑(An p0):Int)
 c (p0,a,b,0)
def cY(N:Nat)(p0:List aq)(a:Bs):Ro:=aB N p0 a (λz=>cg N (aT N) z)
theorem fL(N:Nat)(p0:List aq)(a:Bs)(h:Tot (cY N p0 a) (λz=>∃(d:Int)(c:List al),z.1.dimR=.int .i64 d∧z.2=c∧cF p0 a (d))):∃r,aC p0 a r:=f8.finP (N:=N) ((iu _ (by kernel_rfl) rfl (λC=>aB N p0 a (λz=>C 1000000 (aP z))) (λC=>by kernel_rfl)).trans (B7 (b:=aB N p0 a (λz=>bC N (bI N) (aP z))) (by kernel_rfl) (congrArg (aB N p0 a) (funext λz=>cJ (aP) (bI N) (aT N) (fF N) N z)))) h λ_ ⟨d,_,e,_,q⟩=>⟨(d),e,q⟩
noncomputable def qZ:ao:=tab (P:=Try.prog) [] [] [] [gi]
def rY:IR:=Rs [Bi 16 .lss 15 14] (Sq (Cn 16 .skip (.exit 0)) (Sq (.block 1 (Rs [Ix 17 .str 13 15,Lq 18 17,Pp (.alr 6 1),Fz 6 1 18] (Rs [Fa 19 8 2,Lq 20 19,Pp (.mkf 21 153 [.t 6]),Ca 22 152 [20,21],Mv 7 22] (Rs [Mv 23 7,Bc 24 .geq 23 0] (Cn 24 (Rs [Mv 25 7,Mv 4 25] .ret) .skip))))) (Rg [Bc 26 .add 15 1,Mv 15 26])))
def q8:IR:=Rs [Mi 4 (-1)] .ret
def aaV:IR:=Rs [Bx 2 0,Bx 3 1,Mi 4 0] (Sq (Rs [Fa 8 0 3,Lq 9 8,Pp (.bsl 10 .str [9] false),Fa 11 1 3,Lq 12 11,Pp (.app 13 .str (.tk 10) 12),Ll 14 13,Mi 15 0] (.block 0 (.loop [2,13,14,15,1000000] 0 rY))) q8)
def uH:List RV:=[.t 4]
theorem aaW:FnC Try.prog qZ [] 0 vn Try.f130 aaV uH:=fnC Try.func130
def zy(R:IR->(Ex->St->Ro)->St->Ro)(a:St->Ro):Ex->St->Ro:=(de a [2,13,14,15,1000000] 0 (bu 0 (d4 (R q8) (fin uH))))
abbrev mw:Type:=(ab×Bss×Int×Int)
def li(x:mw):St:={env:=(.undef::.undef::.ea (enc .atype x.1)::(U 10 (.sl .str .own x.2.1::.int .i64 x.2.2.1::.int .i64 x.2.2.2::(U 11 [])))),hp:=[]}
def o7(N:Nat):(St->Ro)->St->Ro:=λa s=>run qZ N rY (zy (run qZ N) a) s
def my(N:Nat)(a:mw->Ro)(x:mw):Ro:=
 let e:ab:=x.1;let c:Bss:=x.2.1;let d:Int:=x.2.2.1;let b:Int:=x.2.2.2
 cond (decide (b<d)) (
  chk (ixl b c) (
   let h:=As c (AC b) (am .str)
   aZ (aC e.fields h) (λ(f:Int)=>
    cond (decide (0<=f)) (
     some (.int .i64 f,[])) (
     let g:=(Az .i64 (b+1))
     a (e,c,d,g))))) (
  some (.int .i64 (-1),[]))
theorem yi(N:Nat):LB (o7 N) li (my N):=λ_ _=>by kernel_rfl
def kP(N:Nat)(p0:ab)(a:aq)(c:mw->Ro):Ro:=
 chk (decide ((An ([a.name]:Bss)+An a.aliases)*16<=140737488355328)) (
  let b:=(([a.name]:Bss)++a.aliases)
  let d:=(↑(An b):Int)
  c (p0,b,d,0))
def uI(N:Nat)(p0:ab)(a:aq):Ro:=kP N p0 a (λz=>cg N (my N) z)
theorem zz(N:Nat)(p0:ab)(a:aq)(h:Tot (uI N p0 a) (λz=>∃(d:Int)(c:List al),z.1.dimR=.int .i64 d∧z.2=c∧oq p0 a (d))):∃r,lV p0 a r:=aaW.finP (N:=N) ((iu _ (by kernel_rfl) rfl (λC=>kP N p0 a (λz=>C 1000000 (li z))) (λC=>by kernel_rfl)).trans (B7 (b:=kP N p0 a (λz=>bC N (o7 N) (li z))) (by kernel_rfl) (congrArg (kP N p0 a) (funext λz=>cJ (li) (o7 N) (my N) (yi N) N z)))) h λ_ ⟨d,_,e,_,q⟩=>⟨(d),e,q⟩
noncomputable def wD:ao:=tab (P:=Try.prog) [] [] [] [pZ]
def vu:IR:=Rs [Mb 5 false] (Rs [Ld 6 1 true 1,Ld 7 1 true 2,Lq 8 3,Mv 9 0,Ca 10 30 [6,7,8,9],Mv 5 10] .ret)
def vw:List RV:=[.t 5]
theorem vx:FnC Try.prog wD [] 0 qd Try.f128 vu vw:=fnC Try.func128
def pN(N:Nat)(p0:Int)(b c:List ab)(a:Int):Ro:=
 aZ (fh b c a p0) (λ(d:Bool)=>
  some (.bool d,[]))
def pO(N:Nat)(p0:Int)(c a:List ab)(b:Int):Ro:=pN N p0 c a b
theorem uP(N:Nat)(p0:Int)(b c:List ab)(a:Int)(h:Tot (pO N p0 b c a) (λz=>∃(f:Bool)(d:List al),z.1.dimR=.bool f∧z.2=d∧ot p0 b c a (f))):∃r,gQ p0 b c a r:=vx.finP (N:=N) (by kernel_rfl) h λ_ ⟨f,_,e,_,q⟩=>⟨(f),e,q⟩
noncomputable def cQ:ao:=tab (P:=Try.prog) [] [] [] [wA]
def d7:IR:=Rs [Bi 9 .lss 8 7] (Sq (Cn 9 .skip (.exit 0)) (Sq (.block 1 (Rs [Mv 10 8,Mv 5 10] (Rs [Mv 11 1,Mv 12 0,Mv 13 5,Ix 14 (.num .i64) 12 13,Lq 15 14,Pp (.dcall (some 16) 128 (.t 11) [.t 15])] (Cn 16 (Rs [Mv 17 5,Mv 4 17] .ret) .skip)))) (Rg [Bc 18 .add 8 1,Mv 8 18])))
def d8:IR:=Rs [Mi 4 (-1)] .ret
def jy:IR:=Rs [Mi 4 0] (Sq (Rs [Mv 6 0,Ll 7 6,Mi 8 0] (.block 0 (.loop [0,1,7,8,1000000] 0 d7))) d8)
def eA:List RV:=[.t 4]
theorem jz:FnC Try.prog cQ [] 0 eF Try.f127 jy eA:=fnC Try.func127
def jt(R:IR->(Ex->St->Ro)->St->Ro)(a:St->Ro):Ex->St->Ro:=(de a [0,1,7,8,1000000] 0 (bu 0 (d4 (R d8) (fin eA))))
abbrev bK:Type:=(List Int×List ab×List ab×Int×Int×Int)
def bD(x:bK):St:={env:=(.sl (.num .i64) (.may false) x.1::.fn 128 [.ea [.sl .atype (.may false) x.2.1],.ea [.sl .atype (.may false) x.2.2.1],.ea [.int .i64 x.2.2.2.1]]::(U 5 (.int .i64 x.2.2.2.2.1::.int .i64 x.2.2.2.2.2::(U 10 [])))),hp:=[]}
def cw(N:Nat):(St->Ro)->St->Ro:=λa s=>run cQ N d7 (jt (run cQ N) a) s
def bL(N:Nat)(d:bK->Ro)(x:bK):Ro:=
 let v0:List Int:=x.1;let a:List ab:=x.2.1;let b:List ab:=x.2.2.1;let c:Int:=x.2.2.2.1;let f:Int:=x.2.2.2.2.1;let e:Int:=x.2.2.2.2.2
 cond (decide (e<f)) (
  chk (ixl e v0) (
   let i:=As v0 (AC e) (am (.num .i64))
   aZ (gQ i a b c) (λ(h:Bool)=>
    cond h (
     some (.int .i64 e,[])) (
     let g:=(Az .i64 (e+1))
     d (v0,a,b,c,f,g))))) (
  some (.int .i64 (-1),[]))
theorem je(N:Nat):LB (cw N) bD (bL N):=λ_ _=>by kernel_rfl
def bd(N:Nat)(p0:List Int)(b a:List ab)(c:Int)(e:bK->Ro):Ro:=
 let d:=(↑(An p0):Int)
 e (p0,b,a,c,d,0)
def eB(N:Nat)(p0:List Int)(b a:List ab)(c:Int):Ro:=bd N p0 b a c (λz=>cg N (bL N) z)
theorem ju(N:Nat)(p0:List Int)(c a:List ab)(d:Int)(h:Tot (eB N p0 c a d) (λz=>∃(g:Int)(f:List al),z.1.dimR=.int .i64 g∧z.2=f∧d6 p0 c a d (g))):∃r,bj p0 c a d r:=jz.finP (N:=N) ((iu _ (by kernel_rfl) rfl (λC=>bd N p0 c a d (λz=>C 1000000 (bD z))) (λC=>by kernel_rfl)).trans (B7 (b:=bd N p0 c a d (λz=>bC N (cw N) (bD z))) (by kernel_rfl) (congrArg (bd N p0 c a d) (funext λz=>cJ (bD) (cw N) (bL N) (je N) N z)))) h λ_ ⟨g,_,e,_,q⟩=>⟨(g),e,q⟩
noncomputable def zA:ao:=tab (P:=Try.prog) [] [] [] [jS]
def yj:IR:=Rs [Bx 4 0,Bx 5 1,Bx 6 2,Mi 8 0] (Rs [Fa 9 0 5,Lq 10 9,Mv 11 3,Ix 12 .atype 10 11,Fa 13 9 12,Lo 14 13,Pp (.mkf 15 128 [.t 4,.t 5,.t 6]),Ca 16 127 [14,15],Mv 8 16] .ret)
def yk:List RV:=[.t 8]
theorem yl:FnC Try.prog zA [] 0 sR Try.f95 yj yk:=fnC Try.func95
def rZ(N:Nat)(b a:List ab)(p2 c:Int):Ro:=
 chk (ixl c a) (
  let d:=(As a (AC c) (am .atype))
  aZ (bj d.branches b a p2) (λ(e:Int)=>
   some (.int .i64 e,[])))
def r8(N:Nat)(a b:List ab)(p2 c:Int):Ro:=rZ N a b p2 c
theorem xl(N:Nat)(a b:List ab)(p2 f:Int)(h:Tot (r8 N a b p2 f) (λz=>∃(d:Int)(c:List al),z.1.dimR=.int .i64 d∧z.2=c∧qc a b p2 f (d))):∃r,jQ a b p2 f r:=yl.finP (N:=N) (by kernel_rfl) h λ_ ⟨d,_,e,_,q⟩=>⟨(d),e,q⟩
noncomputable def q9:ao:=tab (P:=Try.prog) [] [] [] [nV]
def qn:IR:=Rs [Mb 3 false] (Rs [Fa 4 4 1,Lq 5 4,Mv 6 0,Ca 7 97 [5,6],Un 8 7,Mv 3 8] .ret)
def qo:List RV:=[.t 3]
theorem qp:FnC Try.prog q9 [] 0 lU Try.f96 qn qo:=fnC Try.func96
def lj(N:Nat)(p0:Bs)(c:Int)(h:Bs)(f:Bss)(j:Int)(a:Bss)(b:Bool)(i:Bs)(d:Int)(e:List aq)(g:List Int):Ro:=
 aZ (cf a p0) (λ(k:Bool)=>
  some (.bool (!k),[]))
def ll(N:Nat)(p0:Bs)(b:Int)(h:Bs)(f:Bss)(j:Int)(d:Bss)(a:Bool)(i:Bs)(c:Int)(e:List aq)(g:List Int):Ro:=lj N p0 b h f j d a i c e g
theorem p5(N:Nat)(p0:Bs)(b:Int)(j:Bs)(g:Bss)(m:Int)(d:Bss)(a:Bool)(k:Bs)(f:Int)(c:List aq)(i:List Int)(h:Tot (ll N p0 b j g m d a k f c i) (λz=>∃(p:Bool)(o:List al),z.1.dimR=.bool p∧z.2=o∧jY p0 b j g m d a k f c i (p))):∃r,dS p0 b j g m d a k f c i r:=qp.finP (N:=N) (by kernel_rfl) h λ_ ⟨p,_,e,_,q⟩=>⟨(p),e,q⟩
noncomputable def bM:ao:=tab (P:=Try.prog) [] [] [] [qT]
def cC:IR:=Rs [Bi 9 .lss 8 7] (Sq (Cn 9 .skip (.exit 0)) (Sq (.block 1 (Rs [Mv 10 8,Mv 5 10] (Rs [Mv 11 1,Mv 12 0,Mv 13 5,Ix 14 .str 12 13,Lq 15 14,Pp (.dcall (some 16) 96 (.t 11) [.t 15])] (Cn 16 (Rs [Mv 17 5,Mv 4 17] .ret) .skip)))) (Rg [Bc 18 .add 8 1,Mv 8 18])))
def cD:IR:=Rs [Mi 4 (-1)] .ret
def fM:IR:=Rs [Mi 4 0] (Sq (Rs [Mv 6 0,Ll 7 6,Mi 8 0] (.block 0 (.loop [0,1,7,8,1000000] 0 cC))) cD)
def cR:List RV:=[.t 4]
theorem fN:FnC Try.prog bM [] 0 cW Try.f126 fM cR:=fnC Try.func126
def fG(R:IR->(Ex->St->Ro)->St->Ro)(a:St->Ro):Ex->St->Ro:=(de a [0,1,7,8,1000000] 0 (bu 0 (d4 (R cD) (fin cR))))
abbrev aQ:Type:=(Bss×Int×Bs×Bss×Int×Bss×Bool×Bs×Int×List aq×List Int×Int×Int)
def aM(x:aQ):St:={env:=(.sl .str (.may false) x.1::.fn 96 [.ea [.int .i64 x.2.1,.str x.2.2.1,.sl .str (.may false) x.2.2.2.1,.int .i64 x.2.2.2.2.1,.sl .str (.may false) x.2.2.2.2.2.1,.bool x.2.2.2.2.2.2.1,.str x.2.2.2.2.2.2.2.1,.int .i64 x.2.2.2.2.2.2.2.2.1,.sl .afield (.may false) x.2.2.2.2.2.2.2.2.2.1,.sl (.num .i64) (.may false) x.2.2.2.2.2.2.2.2.2.2.1]]::(U 5 (.int .i64 x.2.2.2.2.2.2.2.2.2.2.2.1::.int .i64 x.2.2.2.2.2.2.2.2.2.2.2.2::(U 10 [])))),hp:=[]}
def bB(N:Nat):(St->Ro)->St->Ro:=λa s=>run bM N cC (fG (run bM N) a) s
def aR(N:Nat)(k:aQ->Ro)(x:aQ):Ro:=
 let v0:Bss:=x.1;let a:Int:=x.2.1;let c:Bs:=x.2.2.1;let e:Bss:=x.2.2.2.1;let i:Int:=x.2.2.2.2.1;let d:Bss:=x.2.2.2.2.2.1;let f:Bool:=x.2.2.2.2.2.2.1;let j:Bs:=x.2.2.2.2.2.2.2.1;let g:Int:=x.2.2.2.2.2.2.2.2.1;let b:List aq:=x.2.2.2.2.2.2.2.2.2.1;let h:List Int:=x.2.2.2.2.2.2.2.2.2.2.1;let o:Int:=x.2.2.2.2.2.2.2.2.2.2.2.1;let m:Int:=x.2.2.2.2.2.2.2.2.2.2.2.2
 cond (decide (m<o)) (
  chk (ixl m v0) (
   let r:=As v0 (AC m) (am .str)
   aZ (dS r a c e i d f j g b h) (λ(q:Bool)=>
    cond q (
     some (.int .i64 m,[])) (
     let p:=(Az .i64 (m+1))
     k (v0,a,c,e,i,d,f,j,g,b,h,o,p))))) (
  some (.int .i64 (-1),[]))
theorem fq(N:Nat):LB (bB N) aM (aR N):=λ_ _=>by kernel_rfl
def az(N:Nat)(p0:Bss)(d:Int)(a:Bs)(c:Bss)(f:Int)(g:Bss)(j:Bool)(b:Bs)(i:Int)(e:List aq)(h:List Int)(m:aQ->Ro):Ro:=
 let k:=(↑(An p0):Int)
 m (p0,d,a,c,f,g,j,b,i,e,h,k,0)
def cS(N:Nat)(p0:Bss)(d:Int)(a:Bs)(c:Bss)(f:Int)(g:Bss)(j:Bool)(b:Bs)(i:Int)(e:List aq)(h:List Int):Ro:=az N p0 d a c f g j b i e h (λz=>cg N (aR N) z)
theorem fH(N:Nat)(p0:Bss)(f:Int)(c:Bs)(d:Bss)(i:Int)(g:Bss)(o:Bool)(a:Bs)(m:Int)(j:List aq)(k:List Int)(h:Tot (cS N p0 f c d i g o a m j k) (λz=>∃(t:Int)(p:List al),z.1.dimR=.int .i64 t∧z.2=p∧cA p0 f c d i g o a m j k (t))):∃r,aA p0 f c d i g o a m j k r:=fN.finP (N:=N) ((iu _ (by kernel_rfl) rfl (λC=>az N p0 f c d i g o a m j k (λz=>C 1000000 (aM z))) (λC=>by kernel_rfl)).trans (B7 (b:=az N p0 f c d i g o a m j k (λz=>bC N (bB N) (aM z))) (by kernel_rfl) (congrArg (az N p0 f c d i g o a m j k) (funext λz=>cJ (aM) (bB N) (aR N) (fq N) N z)))) h λ_ ⟨t,_,e,_,q⟩=>⟨(t),e,q⟩
noncomputable def ft:ao:=tab (P:=Try.prog) [] [] [] [fW]
def fc:IR:=Rs [Mb 4 false] (Rs [Mv 5 0,Mv 6 1,Ca 7 126 [5,6],Bc 8 .geq 7 0,Mv 4 8] .ret)
def fe:List RV:=[.t 4]
theorem ff:FnC Try.prog ft [] 0 cB Try.f90 fc fe:=fnC Try.func90
def cq(N:Nat)(p0:Bss)(d:Int)(a:Bs)(c:Bss)(f:Int)(g:Bss)(j:Bool)(b:Bs)(i:Int)(e:List aq)(h:List Int):Ro:=
 aZ (aA p0 d a c f g j b i e h) (λ(k:Int)=>
  some (.bool (decide (0<=k)),[]))
def cr(N:Nat)(p0:Bss)(d:Int)(a:Bs)(c:Bss)(f:Int)(g:Bss)(j:Bool)(b:Bs)(i:Int)(e:List aq)(h:List Int):Ro:=cq N p0 d a c f g j b i e h
theorem eV(N:Nat)(p0:Bss)(d:Int)(b:Bs)(c:Bss)(g:Int)(f:Bss)(m:Bool)(a:Bs)(k:Int)(i:List aq)(j:List Int)(h:Tot (cr N p0 d b c g f m a k i j) (λz=>∃(p:Bool)(o:List al),z.1.dimR=.bool p∧z.2=o∧cj p0 d b c g f m a k i j (p))):∃r,ay p0 d b c g f m a k i j r:=ff.finP (N:=N) (by kernel_rfl) h λ_ ⟨p,_,e,_,q⟩=>⟨(p),e,q⟩
noncomputable def fO:ao:=tab (P:=Try.prog) [] [] [] []
def iL:IR:=Rs [Bi 9 .lss 8 7] (Sq (Cn 9 .skip (.exit 0)) (Sq (.block 1 (Rs [Mv 10 8,Mv 5 10] (Rs [Mv 11 1,Mv 12 0,Mv 13 5,Ix 14 .str 12 13,Lq 15 14,Bi 16 .eql 11 15] (Cn 16 (Rs [Mv 17 5,Mv 4 17] .ret) .skip)))) (Rg [Bc 18 .add 8 1,Mv 8 18])))
def iM:IR:=Rs [Mi 4 (-1)] .ret
def oQ:IR:=Rs [Mi 4 0] (Sq (Rs [Mv 6 0,Ll 7 6,Mi 8 0] (.block 0 (.loop [0,1,7,8,1000000] 0 iL))) iM)
def jw:List RV:=[.t 4]
theorem oR:FnC Try.prog fO [] 0 jP Try.f129 oQ jw:=fnC Try.func129
def ov(R:IR->(Ex->St->Ro)->St->Ro)(a:St->Ro):Ex->St->Ro:=(de a [0,1,7,8,1000000] 0 (bu 0 (d4 (R iM) (fin jw))))
abbrev dE:Type:=(Bss×Bs×Int×Int)
def du(x:dE):St:={env:=(.sl .str (.may false) x.1::.str x.2.1::(U 5 (.int .i64 x.2.2.1::.int .i64 x.2.2.2::(U 10 [])))),hp:=[]}
def eW(N:Nat):(St->Ro)->St->Ro:=λa s=>run fO N iL (ov (run fO N) a) s
def dF(N:Nat)(a:dE->Ro)(x:dE):Ro:=
 let v0:Bss:=x.1;let c:Bs:=x.2.1;let d:Int:=x.2.2.1;let b:Int:=x.2.2.2
 cond (decide (b<d)) (
  chk (ixl b v0) (
   let f:=As v0 (AC b) (am .str)
   cond (decide (c=f)) (
    some (.int .i64 b,[])) (
    let e:=(Az .i64 (b+1))
    a (v0,c,d,e)))) (
  some (.int .i64 (-1),[]))
theorem nW(N:Nat):LB (eW N) du (dF N):=λ_ _=>by kernel_rfl
def cE(N:Nat)(p0:Bss)(b:Bs)(c:dE->Ro):Ro:=
 let a:=(↑(An p0):Int)
 c (p0,b,a,0)
def jx(N:Nat)(p0:Bss)(a:Bs):Ro:=cE N p0 a (λz=>cg N (dF N) z)
theorem oz(N:Nat)(p0:Bss)(a:Bs)(h:Tot (jx N p0 a) (λz=>∃(d:Int)(c:List al),z.1.dimR=.int .i64 d∧z.2=c∧iJ p0 a (d))):∃r,cO p0 a r:=oR.finP (N:=N) ((iu _ (by kernel_rfl) rfl (λC=>cE N p0 a (λz=>C 1000000 (du z))) (λC=>by kernel_rfl)).trans (B7 (b:=cE N p0 a (λz=>bC N (eW N) (du z))) (by kernel_rfl) (congrArg (cE N p0 a) (funext λz=>cJ (du) (eW N) (dF N) (nW N) N z)))) h λ_ ⟨d,_,e,_,q⟩=>⟨(d),e,q⟩
noncomputable def nX:ao:=tab (P:=Try.prog) [] [] [] [o6]
def nE:IR:=Rs [Mb 4 false] (Rs [Mv 5 0,Mv 6 1,Ca 7 129 [5,6],Bc 8 .geq 7 0,Mv 4 8] .ret)
def nF:List RV:=[.t 4]
theorem nG:FnC Try.prog nX [] 0 iK Try.f97 nE nF:=fnC Try.func97
def iC(N:Nat)(p0:Bss)(a:Bs):Ro:=
 aZ (cO p0 a) (λ(b:Int)=>
  some (.bool (decide (0<=b)),[]))
def iD(N:Nat)(p0:Bss)(a:Bs):Ro:=iC N p0 a
theorem mV(N:Nat)(p0:Bss)(c:Bs)(h:Tot (iD N p0 c) (λz=>∃(b:Bool)(a:List al),z.1.dimR=.bool b∧z.2=a∧gK p0 c (b))):∃r,cf p0 c r:=nG.finP (N:=N) (by kernel_rfl) h λ_ ⟨b,_,e,_,q⟩=>⟨(b),e,q⟩
noncomputable abbrev tb_:= @tab Try.prog
def jC:List RV:=[.t 4]
theorem lP.mono{m c:Nat}{t:ab}(h:lP m t)(e:m<=c):lP c t:=
 ⟨⟨h.items.1,by have:=h.items.2;omega⟩,λf a=>⟨(h.fields f a).1,by have:=(h.fields f a).2.1;omega,(h.fields f a).2.2⟩,h.nf,
   λb d=>⟨(h.branches b d).1,by have:=(h.branches b d).2;omega⟩,h.nb,h.ns,h.size,h.done,h.kind,h.enum,h.only,h.na,h.fal,h.edef⟩
theorem gA.refl{ts:List ab}{e:Int}(h:ts.length<=60):gA ts e ts e:=
 ⟨Ao _,h,λh=>h,λ_ _ _=>rfl,λ_ i t b a=>by have:=(Ad.1 a).1;omega⟩
theorem gA.bad{ts:List ab}{e b:Int}(h:ts.length<=60)(a:b≠0):gA ts e ts b:=
 ⟨Ao _,h,λh=>absurd h a,λh=>absurd h a,λh=>absurd h a⟩
theorem gA.fail{ts b:List ab}{e a:Int}(h:gA ts e b a)(c:Int)(d:c≠0):gA ts e b (if a=0 then c else a):=by
 have:(if a=0 then c else a)≠0:=by split<;>assumption
 exact⟨h.len,h.cap,λh=>absurd h this,λh=>absurd h this,λh=>absurd h this⟩
theorem gA.trans{ts ts1 ts2:List ab}{e e1 e2:Int}(h:gA ts e ts1 e1)(h':gA ts1 e1 ts2 e2):gA ts e ts2 e2 where
 len:=AX h.len h'.len
 cap:=h'.cap
 err:=λhe=>h.err (h'.err he)
 old:=λhe i hi=>by have:=h.len;rw[h'.old he i (by omega),h.old (h'.err he) i hi]
 new:=λhe i t hi ht=>by
  rcases AG i ts1.length with hl|hl;·rw[h'.old he i hl] at ht;exact(h.new (h'.err he) i t hi ht).mono h'.len
  ·exact h'.new he i t hl ht
theorem gA.weak{ts a:List ab}{e e1 b:Int}(h:gA ts e1 a b)(c:e1=0->e=0):gA ts e a b:=
 ⟨h.len,h.cap,λd=>c (h.err d),h.old,h.new⟩
theorem gA.push{ts:List ab}{e:Int}(h:ts.length<60)(t:ab)(ht:lP (ts.length+1) t):gA ts e (ts++[t]) e where
 len:=by simp
 cap:=by simp;omega
 err:=λh=>h
 old:=λ_ i hi=>by rw[Am hi]
 new:=λ_ i t' hi ht'=>by
  rw[Aj hi] at ht';have hl:=(Ad.1 ht').1;simp only[BB] at hl;have:i-ts.length=0:=by omega
  rw[this] at ht';simp only[Bl,Ab] at ht';subst ht';simpa using ht
theorem gA.close{ts ts2:List ab}{e e2:Int}{t0 t:ab}(h:gA (ts++[t0]) e ts2 e2)(ht:lP ts2.length t):gA ts e (ts2.set ts.length t) e2 where
 len:=by have:=h.len;simp at this ⊢;omega
 cap:=by simpa using h.cap
 err:=h.err
 old:=λhe i hi=>by rw[BG (by omega),h.old he i (by simp;omega),Am hi]
 new:=λhe i t' hi ht'=>by
  have hlen:=h.len;simp only[Ba,BB] at hlen;simp only[AL] at ht' ⊢;rcases Nat.lt_or_eq_of_le hi with hl|hl;·rw[BG (by omega)] at ht';exact h.new he i t' (by simp;omega) ht'
  ·subst hl;rw[CM (by omega)] at ht';cases ht';exact ht
theorem gA.at_open{ts a:List ab}{e b:Int}{t0:ab}(h:gA (ts++[t0]) e a b)(c:b=0):a[ts.length]? =some t0:=by rw[h.old c ts.length (by simp),Aj (Ao _)];simp
theorem lb.zero{b:Nat}:lb b (.mk 0 0 [] [] []):=.mk _ _ _ _ _ (by simp) (by simp) (by simp) (by simp) (by simp) (by simp)
theorem lb.getD{b:Nat}{l:List eO}(h:∀c∈l,lb b c)(i:Nat):lb b (l.getD i (am .jnode)):=by
 rw[Al];cases a:l[i]? with
 |none=>exact lb.zero
 |some c=>exact h c (Ap a)
theorem lb.up{b a:Nat}(i:b<=a):∀{c:eO},lb b c->lb a c:=by
 intro c h;induction h with
 |mk k n s l names d j f m e _ g=>exact .mk k n s l names d (AX j i) f m e g
theorem qO.zero:qO (.mk 0 0 [] [] []):=lb.zero
theorem qO.getD{l:List eO}(h:∀c∈l,qO c)(i:Nat):qO (l.getD i (am .jnode)):=lb.getD h i
end Go.Proofs.Ytdpajabhmmmjoaa
namespace Go.AM
end Go.AM
namespace Go.Proofs.Ytdpajabhmmmjoaa
open Go.AM
theorem ym{P:Program}{f:FuncId}{vs:List V}{R:Type}{ret:R->V}{a:R}(h:(∀x∈vs,x.fits)->∃r,PureOK P f vs (ret r)∧r=a):∃r,PureOK P f vs (ret r)∧r=a:=
 ⟨a,PureOK.fits λc=>by obtain⟨r,b,rfl⟩:=h c;exact b,rfl⟩
theorem o8{α:Type}(l:List α)(i:Nat)(x d:α)(h:i<l.length):(l.set i x).getD i d=x:=by simp[Al,At,h]
theorem iU{α:Type}(l:List α)(i j:Nat)(x d:α)(h:i≠j):(l.set i x).getD j d=l.getD j d:=by simp[Al,At,h]
theorem l8{α:Type}(l:List α)(i:Nat)(d:α)(h:i<l.length):l.getD i d∈l:=by rw[Al,Ac h];exact Bf h
theorem pH.mono{k:ab}{r r':List Int}{m:Int}(h:pH k r m)(hl:r'.length=r.length)(hr:∀i,0<=r.getD i 0->r'.getD i 0=r.getD i 0):pH k r' m where
 pos:=h.pos
 uni h14:=by obtain⟨b,hb,h0,h1⟩:=h.uni h14;exact⟨b,hb,by unfold rk at *;rw[hr _ h0];exact h0,by unfold rk at *;rw[hr _ h0];exact h1⟩
 rcd h14 f hf:=by obtain⟨h0,h1⟩:=h.rcd h14 f hf;exact⟨by unfold rk at *;rw[hr _ h0];exact h0,by unfold rk at *;rw[hr _ h0];exact h1⟩
 pre h2:=by obtain⟨j,hj,e⟩:=h.pre h2;exact⟨j,by omega,by rw[hr _ (by omega)];exact e⟩
theorem kT.step{ts:List ab}{r next:List Int}{m:Int}(h:kT ts r m)(u:0<=m)(q:next.length=ts.length)(p:∀j,j<ts.length->0<=r.getD j 0->next.getD j 0=r.getD j 0)
  (f:∀j,j<ts.length->r.getD j 0<0->next.getD j 0=-1∨pH (ts.getD j (am .atype)) r (next.getD j 0)):kT ts next (m+1):=by
 have k:=h.len;have a:∀i,0<=r.getD i 0->next.getD i 0=r.getD i 0:=λi d=>by
  by_cases g:i<ts.length;·exact p i g d
  ·simp[Al,AR (show next.length<=i by omega),AR (show r.length<=i by omega)]
 refine⟨q,λi d=>?_,λi d=>?_,λi d c=>?_,λi d c=>?_⟩
 ·by_cases b:0<=r.getD i 0;·rw[a i b];omega
  ·rcases f i (by omega) (by omega) with e|e;·omega
   ·have:=e.pos;omega
 ·by_cases b:0<=r.getD i 0;·rw[a i b];have:=h.top i (by omega);omega
  ·rcases f i (by omega) (by omega) with e|e;·omega
   ·by_cases hp:2<=next.getD i 0
    ·obtain⟨j,o,t⟩:=e.pre hp;have:=h.top j o;omega
    ·omega
 ·by_cases b:0<=r.getD i 0;·rw[a i b] at c ⊢;exact(h.ok i (by omega) c).mono (by omega) a
  ·rcases f i (by omega) (by omega) with e|e;·omega
   ·exact e.mono (by omega) a
 ·by_cases b:0<=r.getD i 0;·rw[a i b] at c;exact h.nul i (by omega) c
  ·rcases f i (by omega) (by omega) with e|e;·omega
   ·have:=e.pos;omega
def oA(n:Int):List Int->Nat
 | []=>0
 |x::l=>(if 1<=x∧x<=n then 1 else 0)+oA n l
theorem ady(n:Int):∀l,oA n l<=l.length
 | []=>by simp[oA]
 |x::l=>by have:=ady n l;simp only[oA,Ay];split<;>omega
theorem aao(n:Int):∀l,oA n l<=oA (n+1) l
 | []=>by simp[oA]
 |x::l=>by have:=aao n l;simp only[oA];split<;>split<;>omega
theorem vy(n:Int)(a:0<=n):∀(l:List Int)(j:Nat),j<l.length->l.getD j 0=n+1->oA n l+1<=oA (n+1) l
 | [],j,h,_=>by simp at h
 |x::l,0,h,e=>by have:=aao n l;simp only[BS] at e;simp only[oA];rw[if_neg (by omega),if_pos (by omega)];omega
 |x::l,j+1,h,e=>by have:=vy n a l j (by simpa using h) (by simpa using e);simp only[oA];split<;>split<;>omega
theorem kT.chain{ts:List ab}{r:List Int}{m:Int}(h:kT ts r m):∀(n j:Nat),j<r.length->r.getD j 0=(n:Int)+1->n+1<=oA ((n:Int)+1) r
 |0,j,a,e=>by have:=vy 0 (by omega) r j a (by simpa using e);simpa using (by omega:1<=oA (0+1) r)
 |n+1,j,a,e=>by
  obtain⟨d,b,f⟩:=(h.ok j a (by omega)).pre (by omega);have g:=kT.chain h n d b (by omega);have:=vy ((n:Int)+1) (by omega) r j a (by omega);have c:(((n+1:Nat):Int)+1)=(n:Int)+1+1:=by omega
  rw[c];omega
theorem kT.fin{ts:List ab}{r:List Int}{m:Int}(h:kT ts r m):kT ts r ts.length:=by
 refine⟨h.len,h.low,λi a=>?_,h.ok,h.nul⟩;by_cases b:1<=r.getD i 0;·have:=h.chain ((r.getD i 0).toNat-1) i a (by omega);have c:=ady ((((r.getD i 0).toNat-1:Nat):Int)+1) r;have:=h.len;omega
 ·omega
theorem afo{ts:List ab}{r:List Int}{m:Int}{k:ab}{q:Int}(h:pH k r q)(a:k.kind=14){b:Int}(f:xf k r b):0<=rk r (brT k b.toNat)∧rk r (brT k b.toNat)<q:=by
 obtain⟨x,d,g,i⟩:=h.uni a;obtain⟨j,c,rfl⟩:=AZ.1 d;have e:brT k j=k.branches[j]:=by simp[brT,Al,Ac c]
 have:=f.least j c (by rw[e];exact g);rw[e] at this;omega
theorem ab8(w:List Int)(i:Nat)(x:Int):∀l:List aq,(∀f∈l,f.typ.toNat≠i)->abZ (w.set i x) l=abZ w l
 | [],_=>rfl
 |f::l,h=>by
  have:=ab8 w i x l λf a=>h f (by simp[a])
  simp only[abZ,this,rk];rw[iU _ _ _ _ _ (λe=>h f (by simp) e.symm)]
theorem xg.set{ts:List ab}{r w:List Int}{m:Int}(d:kT ts r m){i j:Nat}{x:Int}(c:j<r.length)(z:0<=r.getD j 0)(v:r.getD j 0<=r.getD i 0)(g:i≠j)
  (h:xg (ts.getD j (am .atype)) r w (w.getD j 0)):xg (ts.getD j (am .atype)) r (w.set i x) ((w.set i x).getD j 0):=by
 rw[iU _ _ _ _ _ g];refine⟨h.pos,h.top,λu=>?_,λa b q=>?_⟩
 ·have o:1<=r.getD j 0:=by
   by_cases k:r.getD j 0=0;·exact absurd u (d.nul j c k).1
   ·omega
  rw[ab8 w i x _ λf y e=>?_];·exact h.rcd u
  ·have:=(d.ok j c o).rcd (by omega) f y;unfold rk at this;rw[e] at this;omega
 ·have o:1<=r.getD j 0:=by
   by_cases k:r.getD j 0=0;·exact absurd a (d.nul j c k).2
   ·omega
  have p:=afo (ts:=ts) (m:=m) (d.ok j c o) a q;have t:=h.uni a b q;unfold rk at p t ⊢;rw[iU _ _ _ _ _ (λe=>by rw[<-e] at p;omega)];exact t
theorem aap{α:Type}(l:List α)(i:Nat)(d:α)(h:i<l.length):l.take (i+1)=l.take i++[l.getD i d]:=by rw[Ef,Ac h,Al,Ac h];rfl
def mN:List Int->Nat
 | []=>0
 |x::l=>(if x<0 then 1 else 0)+mN l
theorem ab9:∀l,mN l<=l.length
 | []=>by simp[mN]
 |x::l=>by have:=ab9 l;simp only[mN,Ay];split<;>omega
theorem zB:∀(a b:List Int),a.length=b.length->(∀j,j<a.length->a.getD j 0<0->b.getD j 0<0)->mN a<=mN b
 | [],[],_,_=>Ao _
 |x::a,y::b,e,h=>by have g:=zB a b (by simpa using e) (λj c d=>by have:=h (j+1) (by simpa using c) (by simpa using d);simpa using this);have f:=h 0 (by simp);simp only[BS] at f;simp only[mN];split<;>split<;>omega
theorem zC:∀(a b:List Int),a.length=b.length->(∀j,j<a.length->a.getD j 0<0->b.getD j 0<0)->∀j,j<a.length->0<=a.getD j 0->b.getD j 0<0->mN a<mN b
 | [],[],_,_,j,c,_,_=>by simp at c
 |x::a,y::b,g,h,0,c,f,d=>by have k:=zB a b (by simpa using g) (λj c e=>by have:=h (j+1) (by simpa using c) (by simpa using e);simpa using this);simp only[BS] at f d;simp only[mN];rw[if_neg (by omega),if_pos d];omega
 |x::a,y::b,g,h,j+1,c,f,d=>by have k:=zC a b (by simpa using g) (λj c e=>by have:=h (j+1) (by simpa using c) (by simpa using e);simpa using this) j (by simpa using c) (by simpa using f) (by simpa using d);have i:=h 0 (by simp);simp only[BS] at i;simp only[mN];split<;>split<;>omega
theorem xV.not{k:ab}{r:List Int}{m:Int}(h:xV k r)(c:pH k r m):False:=by
 by_cases a:k.kind=14;·obtain⟨b,g,d, -⟩:=c.uni a;have:=h.1 a b g;omega
 ·obtain⟨f,e,d⟩:=h.2 a;have:=c.rcd a f e;omega
theorem aeh.step{ts:List ab}{r next:List Int}{n:Int}(m:∀i,i<ts.length->(∀b∈(ts.getD i (am .atype)).branches,0<=b∧b<(ts.length:Int))∧∀f∈(ts.getD i (am .atype)).fields,0<=f.typ∧f.typ<(ts.length:Int))(x:r.length=ts.length)(y:next.length=ts.length)(o:∀j,j<ts.length->0<=r.getD j 0->next.getD j 0=r.getD j 0)
  (t:∀j,j<ts.length->r.getD j 0<0->(next.getD j 0=-1∧xV (ts.getD j (am .atype)) r)∨pH (ts.getD j (am .atype)) r (next.getD j 0)) (h:aeh ts r∨n+mN r<=ts.length):aeh ts next∨n+1+mN next<=ts.length:=by
 by_cases g:∃j,j<ts.length∧r.getD j 0<0∧0<=next.getD j 0
 ·obtain⟨j,a,d,k⟩:=g;right;have v:=zC next r (by omega) (λi z w=>by
   rcases C7 (r.getD i 0) 0 with e|e;·exact e
   ·have:=o i (by omega) e;omega) j (by omega) k d
  rcases h with h|h
  ·exfalso;rcases t j a d with⟨e, -⟩|e;·omega
   ·exact(h j a d).not e
  ·omega
 ·left;have g:∀j,j<ts.length->r.getD j 0<0->next.getD j 0<0:=λj a d=>by
   rcases C7 (next.getD j 0) 0 with e|e;·exact e
   ·exact absurd ⟨j,a,d,e⟩ g
  intro j a d;have k:r.getD j 0<0:=by
   rcases C7 (r.getD j 0) 0 with e|e;·exact e
   ·have:=o j a e;omega
  rcases t j a k with⟨-,e⟩|e
  ·refine⟨λc b q=>?_,λc=>?_⟩;·have:=(m j a).1 b q;exact g b.toNat (by omega) (e.1 c b q)
   ·obtain⟨f,p,u⟩:=e.2 c;have:=(m j a).2 f p;exact⟨f,p,g f.typ.toNat (by omega) u⟩
  ·have:=e.pos;omega
theorem wO{α:Type}(p:α->Bool)(d:α)(l:List α)(i:Nat)(h:i<l.length):cM p (l.drop i) i=if p (l.getD i d) then (i:Int) else cM p (l.drop (i+1)) (i+1):=by rw[BU h,cM];simp[As,h]
theorem oB{α:Type}(p:α->Bool):∀(l:List α)(i:Nat),decide (0<=cM p l i)=l.any p
 | [],_=>rfl
 |x::l,i=>by
  rw[cM,List.any_cons];cases h:p x with
  |true=>simp
  |false=>simpa using oB p l (i+1)
theorem tR{α:Type}(p:α->Bool):∀(l:List α)(i:Nat),cM p l i=-1∨((i:Int)<=cM p l i∧cM p l i<i+l.length)
 | [],_=>.inl rfl
 |x::l,i=>by
  rw[cM];cases h:p x with
  |true=>right;simp;omega
  |false=>
   rcases tR p l (i+1) with e|e;·left;simpa using e
   ·right;simp only[BO,if_false,Ay];omega
structure Fst{α:Type}(p:α->Bool)(l:List α)(i:Int):Prop where
 nn:0<=i
 le:i<=l.length
 eq:cM p l 0=cM p (l.drop i.toNat) i.toNat
theorem Fst.zero{α:Type}(p:α->Bool)(l:List α):Fst p l 0:=⟨by omega,by omega,rfl⟩
theorem Fst.hit{α:Type}{p:α->Bool}{l:List α}{i:Int}(h:Fst p l i)(d:α)(a:i<l.length)(hp:p (l.getD i.toNat d)=true):cM p l 0=i:=by have b:=h.nn;rw[h.eq,wO p d l _ (by omega),hp];simp;omega
theorem Fst.next{α:Type}{p:α->Bool}{l:List α}{i:Int}(h:Fst p l i)(d:α)(a:i<l.length)(hp:p (l.getD i.toNat d)=false):Fst p l (i+1):=by have b:=h.nn;refine⟨by omega,by omega,?_⟩;rw[h.eq,wO p d l _ (by omega),hp,show (i+1).toNat=i.toNat+1 by omega];simp
theorem Fst.none{α:Type}{p:α->Bool}{l:List α}{i:Int}(h:Fst p l i)(a:¬i<l.length):cM p l 0=-1:=by have b:=h.nn;rw[h.eq,Dl (by omega),cM]
theorem aaq(s:List UInt8)(c:Int):∀n, -1<=lh s c n∧lh s c n<n
 |0=>by simp[lh]
 |n+1=>by have:=aaq s c n;rw[lh];split<;>omega
theorem afp(s:List UInt8)(c:Int):∃r,bA s c r:=by
 refine ym (ret:=λr=>.int .i64 r) λo=>?_
 have k:s.length<=9223372036854775807:=o (.str s) (by simp);refine kz (s.length+1) s c ?_;unfold fk bw;dsimp only;rw[aX ((s.length:Int)-1) (by omega)];refine ca (λx=>x.1=s∧x.2.1=c∧ -1<=x.2.2∧x.2.2<(s.length:Int)∧lh s c s.length=lh s c (x.2.2+1).toNat) (λx=>(x.2.2+1).toNat) ?_ _ _ ⟨rfl,rfl,by simp only;omega,by simp only;omega,by simp only;congr 1;omega⟩ (by simp only;omega);rintro b ⟨s',g,i⟩ ⟨rfl,rfl,j,m,a⟩ f;dsimp only at j m a f k;unfold bX;dsimp only;refine ak (λh=>?_) (λh=>?_)
 ·have h:=of_decide_eq_true h;have e:(i+1).toNat=i.toNat+1:=by omega
  rw[e,lh] at a;refine aU (ixt (by omega)) (ak (λd=>ap ⟨_,_,rfl,rfl,?_⟩) (λd=>f _ ⟨rfl,rfl,?_,?_,?_⟩ ?_));·rw[if_pos (by simpa using d)] at a;show i=lh s' g s'.length;rw[a];omega
  all_goals (try dsimp only);rw[aX (i-1) (by omega)]
  ·omega
  ·omega
  ·rw[if_neg (by simpa using d)] at a;rw[a];congr 1;omega
  ·omega
 ·have h:=of_decide_eq_false h;refine ap ⟨_,_,rfl,rfl,?_⟩;show -1=lh s' g s'.length;rw[a,show (i+1).toNat=0 by omega];rfl
theorem agd(s:List UInt8)(c:Int):∃r,dX s c r:=by apply qm 1;unfold l7 lZ;refine aH (afp s c) ?_;rintro(r:Int) ⟨-,a⟩;exact ap ⟨_,_,rfl,rfl,a⟩
theorem tS(s:List UInt8):∃r,iv s r:=by
 refine ym (ret:=λr=>.str r) λc=>?_
 have d:s.length<=9223372036854775807:=c (.str s) (by simp);refine zt 1 s ?_;unfold uG uF;dsimp only;refine aH (agd s 46) ?_;rintro(r:Int) ⟨-,a⟩;have a:r=lh s 46 s.length:=a;have b:=aaq s 46 s.length;rw[<-a] at b;rw[aX (r+1) (by omega)];refine aU (by simp;omega) (ap ⟨_,_,rfl,rfl,?_⟩);show _=i9 s;rw[List.take_length,a];rfl
theorem yn(ts:List ab)(t:Int):∃r,jb ts t r:=by
 apply ab7 1;unfold wN wM;dsimp only;refine ak (λh=>ap ⟨_,_,rfl,rfl,?_⟩) (λh=>ap ⟨_,_,rfl,rfl,?_⟩);·show _=isT ts t;rw[isT,h];rfl
 ·show _=isT ts t;rw[isT,h];rfl
theorem adc(s w:List UInt8):∃r,gP s w r:=by apply uO 1;unfold pM pL;refine aH (tS s) ?_;rintro(r:List UInt8) ⟨-,a⟩;have a:r=i9 s:=a;exact ap ⟨_,_,rfl,rfl,by rw[a];rfl⟩
theorem aca(l:List (List UInt8))(w:List UInt8)(j:l.length<=1000):∃r,aN l w r:=by apply g6 (l.length+1);unfold dM aL;dsimp only;refine ca (λx=>x.1=l∧x.2.1=w∧x.2.2.1=(l.length:Int)∧Fst (λs=>decide (i9 s=w)) l x.2.2.2) (λx=>(l.length-x.2.2.2:Int).toNat) ?_ _ _ ⟨rfl,rfl,rfl,.zero _ _⟩ (by simp only;omega);rintro c ⟨g,w',n,i⟩ ⟨rfl,rfl,e,a⟩ f;dsimp only at e a f j;subst e;have k:=a.nn;unfold bp;dsimp only;refine ak (λh=>?_) (λh=>ap ⟨_,_,rfl,rfl,(a.none (of_decide_eq_false h)).symm⟩);have h:=of_decide_eq_true h;rw[aX (i+1) (by omega)];refine aU (ixt (by omega)) (aH (adc _ _) ?_);rintro(r:Bool) ⟨-,b⟩;have b:r=decide (i9 (g.getD i.toNat (am .str))=w'):=b;exact ak (λd=>ap ⟨_,_,rfl,rfl,(a.hit _ h (b.symm.trans d)).symm⟩) (λd=>f _ ⟨rfl,rfl,rfl,a.next _ h (b.symm.trans d)⟩ (by simp only;omega))
theorem aaX(l:List (List UInt8))(w:List UInt8)(b:l.length<=1000):∃r,aG l w r:=by apply gn 1;unfold dn dm;refine aH (aca l w b) ?_;rintro(r:Int) ⟨-,a⟩;have a:r=cM _ l 0:=a;exact ap ⟨_,_,rfl,rfl,by rw[a];exact oB _ _ _⟩
theorem aeo(a b:ab)(g:b.aliases.length<=1000):∃r,fJ a b r:=by
 apply xh 1;unfold rX rW;refine aH (tS _) ?_;rintro(i:List UInt8) ⟨-,c⟩;refine aH (tS _) ?_;rintro(j:List UInt8) ⟨-,e⟩;have c:i=i9 a.name:=c;have e:j=i9 b.name:=e;subst c e;refine ak (λh=>ap ⟨_,_,rfl,rfl,?_⟩) (λh=>?_);·show true=ol a b;rw[ol,h];rfl
 ·refine aH (aaX _ _ g) ?_;rintro(f:Bool) ⟨-,d⟩;have d:f=b.aliases.any _:=d;refine ap ⟨_,_,rfl,rfl,?_⟩;show f=ol a b;rw[ol,h,d];rfl
theorem qq(w r:List ab)(t q:Int)(m:∀x∈r,x.aliases.length<=1000):∃x,fh w r t q x:=by
 apply yg 1;unfold sZ sY;dsimp only;refine aH (yn w t) ?_;rintro(g:Bool) ⟨-,c⟩;have c:g=isT w t:=c;refine ak (λh=>ap ⟨_,_,rfl,rfl,?_⟩) (λh=>?_)
 ·have h:g=false:=by simpa using h
  show false=eR w r t q;rw[eR,<-c,h];rfl
 have h:g=true:=by simpa using h
 rw[h] at c;refine aH (yn r q) ?_;rintro(i:Bool) ⟨-,d⟩;have d:i=isT r q:=d;refine ak (λh=>ap ⟨_,_,rfl,rfl,?_⟩) (λh=>?_)
 ·have h:i=false:=by simpa using h
  show false=eR w r t q;rw[eR,<-c,<-d,h];rfl
 have h:i=true:=by simpa using h
 rw[h] at d;have e:eR w r t q=jM (w.getD t.toNat (am .atype)) (r.getD q.toNat (am .atype)):=by rw[eR,<-c,<-d];rfl
 have p:0<=t∧t<w.length:=by simpa [isT] using c.symm
 have t2:0<=q∧q<r.length:=by simpa [isT] using d.symm
 have f:(r.getD q.toNat (am .atype)).aliases.length<=1000:=m _ (l8 _ _ _ (by omega));refine aU (ixt (by omega)) (aU (ixt (by omega)) ?_);generalize w.getD t.toNat (am .atype)=a at e ⊢;generalize r.getD q.toNat (am .atype)=b at e f ⊢;have fin:∀x:Bool,x=jM a b->nC w r t q x:=λx h=>h.trans e.symm
 repeat' (first|(with_reducible refine ak ?_ ?_<;>(intro k;(try simp only[bnl] at k);(try revert k;intro _)))|with_reducible refine aU ?_ ?_|with_reducible refine ap ?_|(refine aH (aeo a b f) ?_;rintro(o:Bool) ⟨-,j⟩;have j:o=ol a b:=j)|fail)
 all_goals
  refine⟨_,_,rfl,rfl,fin _ ?_⟩;simp only[jM]
  simp_all<;>try (intros;omega)
theorem afq(f:aq)(n:List UInt8):∃r,jc f n r:=by apply wC 1;unfold qY qX;exact ap ⟨_,_,rfl,rfl,rfl⟩
theorem aep(l:List aq)(w:List UInt8)(k:l.length<=1000):∃r,aC l w r:=by apply fL (l.length+1);unfold cY aB;dsimp only;refine ca (λx=>x.1=l∧x.2.1=w∧x.2.2.1=(l.length:Int)∧Fst (λf:aq=>decide (f.name=w)) l x.2.2.2) (λx=>(l.length-x.2.2.2:Int).toNat) ?_ _ _ ⟨rfl,rfl,rfl,.zero _ _⟩ (by simp only;omega);rintro c ⟨j,w',n,i⟩ ⟨rfl,rfl,e,a⟩ g;dsimp only at e a g k;subst e;have m:=a.nn;unfold aT;dsimp only;refine ak (λh=>?_) (λh=>ap ⟨_,_,rfl,rfl,(a.none (of_decide_eq_false h)).symm⟩);have h:=of_decide_eq_true h;rw[aX (i+1) (by omega),afk];refine aU (ixt (by omega)) (aH (afq _ _) ?_);rintro(r:Bool) ⟨-,b⟩;have b:r=decide ((j.getD i.toNat (am .afield)).name=w'):=b;exact ak (λd=>ap ⟨_,_,rfl,rfl,(a.hit _ h (b.symm.trans d)).symm⟩) (λd=>g _ ⟨rfl,rfl,rfl,a.next _ h (b.symm.trans d)⟩ (by simp only;omega))
theorem aeq(l:List aq)(d:List UInt8)(a:List (List UInt8))(i:Nat)(h:i<a.length):iH l (a.drop i)=if 0<=vl l (a.getD i d) then vl l (a.getD i d) else iH l (a.drop (i+1)):=by rw[BU h,iH];simp[As,h]
theorem afr(a:ab)(f:aq)(m:a.fields.length<=1000)(w:f.aliases.length<=1000):∃r,lV a f r:=by
 apply zz (f.aliases.length+2);unfold uI kP;dsimp only;refine aU (by simp;omega) ?_;rw[show ([f.name]++f.aliases:List (List UInt8))=f.name::f.aliases from rfl];have u:(f.name::f.aliases).length<=1001:=by simp;omega
 have y:(f.name::f.aliases).length<f.aliases.length+2:=by simp
 have b:∀x:Int,x=iH a.fields (f.name::f.aliases)->oq a f x:=λ_ h=>h
 generalize f.name::f.aliases=d at*
 refine ca (λx=>x.1=a∧x.2.1=d∧x.2.2.1=(d.length:Int)∧0<=x.2.2.2∧x.2.2.2<=(d.length:Int)∧iH a.fields d=iH a.fields (d.drop x.2.2.2.toNat)) (λx=>(d.length-x.2.2.2:Int).toNat) ?_ _ _ ⟨rfl,rfl,rfl,by simp,by simp,rfl⟩ (by simp only;omega);rintro e ⟨v,j,n,i⟩ ⟨rfl,rfl,p,q,t,c⟩ o;dsimp only at p q t c o u b m;subst p;unfold my;dsimp only;refine ak (λh=>?_) (λh=>ap ⟨_,_,rfl,rfl,b _ ?_⟩)
 ·have h:=of_decide_eq_true h;rw[aeq _ (am .str) _ _ (by omega)] at c;rw[aX (i+1) (by omega)];refine aU (ixt (by omega)) (aH (aep _ _ m) ?_);rintro(r:Int) ⟨-,g⟩;have g:r=vl v.fields (j.getD i.toNat (am .str)):=g;rw[<-g] at c;refine ak (λk=>ap ⟨_,_,rfl,rfl,b _ ?_⟩) (λk=>o _ ⟨rfl,rfl,rfl,by simp only;omega,by simp only;omega,?_⟩ (by simp only;omega));·rw[c,if_pos (of_decide_eq_true k)]
  ·rw[c,if_neg (of_decide_eq_false k)];simp only
   congr 2;omega
 ·have h:=of_decide_eq_false h;rw[c,Dl (by omega)];rfl
def tT(r:List ab):Prop:=∀x∈r,x.aliases.length<=1000
theorem ade(b:Int)(w r:List ab)(t:Int)(a:tT r):∃x,gQ b w r t x:=by apply uP 1;unfold pO pN;refine aH (qq w r t b a) ?_;rintro(x:Bool) ⟨-,c⟩;exact ap ⟨_,_,rfl,rfl,c⟩
theorem acb(l:List Int)(w r:List ab)(t:Int)(g:tT r)(o:l.length<=1000):∃x,bj l w r t x:=by apply ju (l.length+1);unfold eB bd;dsimp only;refine ca (λx=>x.1=l∧x.2.1=w∧x.2.2.1=r∧x.2.2.2.1=t∧x.2.2.2.2.1=(l.length:Int)∧Fst (λb=>eR w r t b) l x.2.2.2.2.2) (λx=>(l.length-x.2.2.2.2.2:Int).toNat) ?_ _ _ ⟨rfl,rfl,rfl,rfl,rfl,.zero _ _⟩ (by simp only;omega);rintro d ⟨m,w',p,k,n,i⟩ ⟨rfl,rfl,rfl,rfl,f,a⟩ j;dsimp only at f a j o g;subst f;have q:=a.nn;unfold bL;dsimp only;refine ak (λh=>?_) (λh=>ap ⟨_,_,rfl,rfl,(a.none (of_decide_eq_false h)).symm⟩);have h:=of_decide_eq_true h;rw[aX (i+1) (by omega)];refine aU (ixt (by omega)) (aH (ade _ _ _ _ g) ?_);rintro(x:Bool) ⟨-,c⟩;have c:x=eR w' p k (m.getD i.toNat (am (.num .i64))):=c;exact ak (λe=>ap ⟨_,_,rfl,rfl,(a.hit _ h (c.symm.trans e)).symm⟩) (λe=>j _ ⟨rfl,rfl,rfl,rfl,rfl,a.next _ h (c.symm.trans e)⟩ (by simp only;omega))
theorem adf(w r:List ab)(t q:Int)(b:tT r)(d:0<=q∧q<r.length)(c:(r.getD q.toNat (am .atype)).branches.length<=1000):∃x,jQ w r t q x:=by apply xl 1;unfold r8 rZ;dsimp only;refine aU (ixt (by omega)) (aH (acb _ w r t b c) ?_);rintro(x:Int) ⟨-,a⟩;exact ap ⟨_,_,rfl,rfl,a⟩
theorem aer(l:List (List UInt8))(s:List UInt8)(j:l.length<=1000):∃r,cO l s r:=by
 apply oz (l.length+1);unfold jx cE;dsimp only;refine ca (λx=>x.1=l∧x.2.1=s∧x.2.2.1=(l.length:Int)∧Fst (λy=>decide (y=s)) l x.2.2.2) (λx=>(l.length-x.2.2.2:Int).toNat) ?_ _ _ ⟨rfl,rfl,rfl,.zero _ _⟩ (by simp only;omega);rintro c ⟨f,s',n,i⟩ ⟨rfl,rfl,e,b⟩ g;dsimp only at e b g j;subst e;have k:=b.nn;unfold dF;dsimp only;refine ak (λh=>?_) (λh=>ap ⟨_,_,rfl,rfl,(b.none (of_decide_eq_false h)).symm⟩);have h:=of_decide_eq_true h;rw[aX (i+1) (by omega)];have a:decide (s'=f.getD i.toNat (am .str))=decide (f.getD i.toNat (am .str)=s'):=by rw[A2,decide_eq_true_iff,decide_eq_true_iff];exact eq_comm
 rw[a];exact aU (ixt (by omega)) (ak (λd=>ap ⟨_,_,rfl,rfl,(b.hit _ h d).symm⟩) (λd=>g _ ⟨rfl,rfl,rfl,b.next _ h d⟩ (by simp only;omega)))
theorem ahn(l:List (List UInt8))(s:List UInt8):(l.any λy=>decide (y=s))=decide (s∈l):=by
 rw[A2,Co,decide_eq_true_iff];constructor;·rintro⟨x,a,e⟩;exact of_decide_eq_true e▸a
 ·intro h;exact⟨s,h,by simp⟩
theorem acc(l:List (List UInt8))(s:List UInt8)(b:l.length<=1000):∃r,cf l s r:=by apply mV 1;unfold iD iC;refine aH (aer l s b) ?_;rintro(r:Int) ⟨-,a⟩;have a:r=cM (λy=>decide (y=s)) l 0:=a;refine ap ⟨_,_,rfl,rfl,?_⟩;show decide (0<=r)=_;rw[a,oB,ahn]
theorem aes(s:List UInt8)(k0:Int)(k1:List UInt8)(k2:List (List UInt8))(k3:Int)(k4:List (List UInt8))(k5:Bool)(k6:List UInt8)(b:Int)(c:List aq)(d:List Int)(e:k4.length<=1000):∃r,dS s k0 k1 k2 k3 k4 k5 k6 b c d r:=by apply p5 1;unfold ll lj;refine aH (acc k4 s e) ?_;rintro(r:Bool) ⟨-,a⟩;have a:r=decide (s∈k4):=a;exact ap ⟨_,_,rfl,rfl,by rw[a];rfl⟩
theorem acd(l:List (List UInt8))(k0:Int)(k1:List UInt8)(k2:List (List UInt8))(k3:Int)(k4:List (List UInt8))(k5:Bool)(k6:List UInt8)(o:Int)(j:List aq)(v:List Int)(A:l.length<=1000)(y:k4.length<=1000):∃r,aA l k0 k1 k2 k3 k4 k5 k6 o j v r:=by apply fH (l.length+1);unfold cS az;dsimp only;refine ca (λx=>match x with|(e,c0,w,c2,q,c,p,u,k,t,m,n,i)=>e=l∧c=k4∧n=(l.length:Int)∧Fst (λs=> !decide (s∈k4)) l i) (λx=>(l.length-x.2.2.2.2.2.2.2.2.2.2.2.2:Int).toNat) ?_ _ _ ⟨rfl,rfl,rfl,.zero _ _⟩ (by simp only;omega);rintro d ⟨e,c0,w,c2,q,c,p,u,k,t,m,n,i⟩ ⟨rfl,rfl,rfl,a⟩ g;dsimp only at a g;have z:=a.nn;unfold aR;dsimp only;refine ak (λh=>?_) (λh=>ap ⟨_,_,rfl,rfl,(a.none (of_decide_eq_false h)).symm⟩);have h:=of_decide_eq_true h;rw[aX (i+1) (by omega)];refine aU (ixt (by omega)) (aH (aes _ _ _ _ _ _ _ _ _ _ _ y) ?_);rintro(x:Bool) ⟨-,b⟩;have b:x= !decide (e.getD i.toNat (am .str)∈c):=b;exact ak (λf=>ap ⟨_,_,rfl,rfl,(a.hit _ h (b.symm.trans f)).symm⟩) (λf=>g _ ⟨rfl,rfl,rfl,a.next _ h (b.symm.trans f)⟩ (by simp only;omega))
theorem aaY(l:List (List UInt8))(k0:Int)(k1:List UInt8)(k2:List (List UInt8))(k3:Int)(k4:List (List UInt8))(k5:Bool)(k6:List UInt8)(b:Int)(c:List aq)(d:List Int)(e:l.length<=1000)(f:k4.length<=1000):∃r,ay l k0 k1 k2 k3 k4 k5 k6 b c d r:=by apply eV 1;unfold cr cq;refine aH (acd l k0 k1 k2 k3 k4 k5 k6 b c d e f) ?_;rintro(r:Int) ⟨-,a⟩;have a:r=cM _ l 0:=a;exact ap ⟨_,_,rfl,rfl,by rw[a];exact oB _ _ _⟩
noncomputable def l9:ao:=tab (P:=Try.prog) [] [] [] []
def lm:IR:=Rs [Mb 4 false] (Sq (.reg [Lq 5 1,Nk 6 5,Fa 7 3 6,Fo [1] [] (.ld 8 1 false false 7),Mv 9 0,Lq 10 2,Pp (.bld 11 [vI 0,vI 0] [(0,1,9),(1,1,10)]),Pp (.mget 12 .pb false (.t 8) (.t 11)),Mv 4 12] [[],[0],[0,1],[0,1,2],[],[],[4,5],rg 0 6,rg 0 7]) .ret)
def lp:List RV:=[.t 4]
theorem qr:FnC Try.prog l9 [] 2 lT Try.f94 lm lp:=fnC Try.func94
def lq(N:Nat)(ah:List ((Int×Int)×Bool))(ai aj:List ab)(b:List Bool)(p0 a:Int):Ro:=
 let c:=(mM (k:=.pb) ah (p0,a))
 some (.bool c,[some [.mp .pb ah],some [.sl .atype (.may false) ai,.sl .atype (.may false) aj,.sl .bool (.may false) b,.mr 0]])
def g7(N:Nat)(ah:List ((Int×Int)×Bool))(ai aj:List ab)(b:List Bool)(p0 a:Int):Ro:=lq N ah ai aj b p0 a
theorem p6(N:Nat)(ah:List ((Int×Int)×Bool))(ai aj:List ab)(b:List Bool)(p0 a:Int):gr l9 N 13 lp lm [.int .i64 p0,.ea [.ptr 1 0],.ea [.int .i64 a]] [some [.mp .pb ah],some [.sl .atype (.may false) ai,.sl .atype (.may false) aj,.sl .bool (.may false) b,.mr 0]]=g7 N ah ai aj b p0 a:=by kernel_rfl
theorem p7(N:Nat)(ah:List ((Int×Int)×Bool))(ai aj:List ab)(b:List Bool)(p0 a:Int)(h:Tot (g7 N ah ai aj b p0 a) (λz=>∃(c:Bool),z.1=.bool c∧z.2=[some [.mp .pb ah],some [.sl .atype (.may false) ai,.sl .atype (.may false) aj,.sl .bool (.may false) b,.mr 0]]∧jZ ah ai aj b p0 a (c))):∃r,dR ah ai aj b p0 a r:=by obtain⟨⟨v,hp⟩,f,c,e1,d,e⟩:=h;simp only at e1 d;subst e1 d;exact⟨(c),qr.fnOK rfl ((p6 N ah ai aj b p0 a).trans f),e⟩
def dN:Nat->List V->Option (Bool×V):=λ_ _=>none
def bq:ao:=λf us hp=>match f,us,hp with
 |94,[.int .i64 c,.ea [.ptr 1 0],.ea [.int .i64 a]],[some [.mp .pb ah],some [.sl .atype (.may false) ai,.sl .atype (.may false) aj,.sl .bool (.may false) b,.mr 0]]=>some (can (dR ah ai aj b c a),.bool (pick (dR ah ai aj b c a)),[some [.mp .pb ah],some [.sl .atype (.may false) ai,.sl .atype (.may false) aj,.sl .bool (.may false) b,.mr 0]])
 |_,_,_=>none
def ar:ao:=(qj bq (mq dN))
theorem gp:cz ar [94]:=(qk (by
 intro f us hp a;unfold bq;split<;>first|rfl|(simp at a)) (by
 intro f us hp a;unfold bq;split<;>first|rfl|(simp at a)) (ko _ _))
theorem gG:bt Try.prog ar:=by
 refine tO ?_ ?_
 ·intro f us hp v hp' h;unfold bq at h;split at h;·simp only[Ab,Ae] at h;obtain⟨a,rfl,rfl⟩:=h;exact((oj a).1).dim rfl
  ·simp at h
 intro f vs hp v hp' h;obtain⟨h, -⟩:=rL h;simp[dN] at h
def dp:IR:=Rs [Bi 9 .lss 8 7] (Sq (Cn 9 .skip (.exit 0)) (Sq (.block 1 (Rs [Mv 10 8,Mv 5 10] (Rs [Mv 11 1,Mv 12 0,Mv 13 5,Ix 14 (.num .i64) 12 13,Lq 15 14,Pp (.dcall (some 16) 94 (.t 11) [.t 15])] (Cn 16 (Rs [Mv 17 5,Mv 4 17] .ret) .skip)))) (Rg [Bc 18 .add 8 1,Mv 8 18])))
def dq:IR:=Rs [Mi 4 (-1)] .ret
def b7:IR:=Rs [Mi 4 0] (Sq (Rs [Mv 6 0,Ll 7 6,Mi 8 0] (.block 0 (.loop [0,1,7,8,1000000] 2 dp))) dq)
def br:List RV:=[.t 4]
theorem g8:FnC Try.prog ar [94] 2 dK Try.f127 b7 br:=⟨gG,gp,Try.func127,by kernel_rfl,by kernel_rfl,by decide⟩
def gT(R:IR->(Ex->St->Ro)->St->Ro)(a:St->Ro):Ex->St->Ro:=(de a [0,1,7,8,1000000] 2 (bu 0 (d4 (R dq) (fin br))))
abbrev bg:Type:=(List Int×Int×Int×Int×List ((Int×Int)×Bool)×List ab×List ab×List Bool)
def a9(x:bg):St:={env:=(.sl (.num .i64) (.may false) x.1::.fn 94 [.ea [.ptr 1 0],.ea [.int .i64 x.2.1]]::(U 5 (.int .i64 x.2.2.1::.int .i64 x.2.2.2.1::(U 10 [])))),hp:=[some [.mp .pb x.2.2.2.2.1],some [.sl .atype (.may false) x.2.2.2.2.2.1,.sl .atype (.may false) x.2.2.2.2.2.2.1,.sl .bool (.may false) x.2.2.2.2.2.2.2,.mr 0]]}
def bV(N:Nat):(St->Ro)->St->Ro:=λa s=>run ar N dp (gT (run ar N) a) s
def bh(N:Nat)(c:bg->Ro)(x:bg):Ro:=
 let v0:List Int:=x.1;let a:Int:=x.2.1;let e:Int:=x.2.2.1;let d:Int:=x.2.2.2.1;let ah:List ((Int×Int)×Bool):=x.2.2.2.2.1;let ai:List ab:=x.2.2.2.2.2.1;let aj:List ab:=x.2.2.2.2.2.2.1;let b:List Bool:=x.2.2.2.2.2.2.2;let z0:=λg=>(some (.int .i64 g,[some [.mp .pb ah],some [.sl .atype (.may false) ai,.sl .atype (.may false) aj,.sl .bool (.may false) b,.mr 0]]):Ro)
 cond (decide (d<e)) (
  chk (ixl d v0) (
   let i:=As v0 (AC d) (am (.num .i64))
   aZ (dR ah ai aj b i a) (λ(h:Bool)=>
    cond h (
     z0 d) (
     let f:=(Az .i64 (d+1))
     c (v0,a,e,f,ah,ai,aj,b))))) (
  z0 (-1))
theorem gH(N:Nat):LB (bV N) a9 (bh N):=λ_ _=>by kernel_rfl
def aJ(N:Nat)(ah:List ((Int×Int)×Bool))(ai aj:List ab)(b:List Bool)(p0:List Int)(a:Int)(d:bg->Ro):Ro:=
 let c:=(↑(An p0):Int)
 d (p0,a,c,0,ah,ai,aj,b)
def b8(N:Nat)(ah:List ((Int×Int)×Bool))(ai aj:List ab)(b:List Bool)(p0:List Int)(a:Int):Ro:=aJ N ah ai aj b p0 a (λz=>cg N (bh N) z)
def ii(N:Nat):List (Nat×(St->Ro)):=fm ar N b7 (fin br)++[]
theorem gU(N:Nat)(ah:List ((Int×Int)×Bool))(ai aj:List ab)(c:List Bool)(p0:List Int)(a:Int):gr ar N 19 br b7 [.sl (.num .i64) (.may false) p0,.fn 94 [.ea [.ptr 1 0],.ea [.int .i64 a]]] [some [.mp .pb ah],some [.sl .atype (.may false) ai,.sl .atype (.may false) aj,.sl .bool (.may false) c,.mr 0]]=b8 N ah ai aj c p0 a:=
 ((iu (ii N) (by kernel_rfl) rfl (λC=>aJ N ah ai aj c p0 a (λz=>C 1000000 (a9 z))) (λC=>by kernel_rfl)).trans (B7 (b:=aJ N ah ai aj c p0 a (λz=>bC N (bV N) (a9 z))) (by kernel_rfl) (congrArg (aJ N ah ai aj c p0 a) (funext λz=>cJ (a9) (bV N) (bh N) (gH N) N z))))
theorem gV(N:Nat)(ah:List ((Int×Int)×Bool))(ai aj:List ab)(b:List Bool)(p0:List Int)(a:Int)(h:Tot (b8 N ah ai aj b p0 a) (λz=>∃(c:Int),z.1=.int .i64 c∧z.2=[some [.mp .pb ah],some [.sl .atype (.may false) ai,.sl .atype (.may false) aj,.sl .bool (.may false) b,.mr 0]]∧dk ah ai aj b p0 a (c))):∃r,aK ah ai aj b p0 a r:=by obtain⟨⟨v,hp⟩,f,c,e1,d,e⟩:=h;simp only at e1 d;subst e1 d;exact⟨(c),g8.fnOK rfl ((gU N ah ai aj b p0 a).trans f),e⟩
def dr:Nat->List V->Option (Bool×V):=λ_ _=>none
def a5:ao:=λf us hp=>match f,us,hp with
 |127,[.sl (.num .i64) (.may _) c,.fn 94 [.ea [.ptr 1 0],.ea [.int .i64 a]]],[some [.mp .pb ah],some [.sl .atype (.may false) ai,.sl .atype (.may false) aj,.sl .bool (.may false) b,.mr 0]]=>some (can (aK ah ai aj b c a),.int .i64 (pick (aK ah ai aj b c a)),[some [.mp .pb ah],some [.sl .atype (.may false) ai,.sl .atype (.may false) aj,.sl .bool (.may false) b,.mr 0]])
 |_,_,_=>none
def ba:ao:=(qj a5 (mq dr))
theorem fP:cz ba [127]:=(qk (by
 intro f us hp a;unfold a5;split<;>first|rfl|(simp at a)) (by
 intro f us hp a;unfold a5;split<;>first|rfl|(simp at a)) (ko _ _))
theorem ga:bt Try.prog ba:=by
 refine tO ?_ ?_
 ·intro f us hp v hp' h;unfold a5 at h;split at h;·simp only[Ab,Ae] at h;obtain⟨a,rfl,rfl⟩:=h;exact((oj a).1).dim rfl
  ·simp at h
 intro f vs hp v hp' h;obtain⟨h, -⟩:=rL h;simp[dr] at h
def dh:IR:=Rs [Mb 4 false] (Rs [Mv 5 0,Mv 6 1,Ca 7 127 [5,6],Bc 8 .geq 7 0,Mv 4 8] .ret)
def di:List RV:=[.t 4]
theorem gq:FnC Try.prog ba [127] 2 dl Try.f93 dh di:=⟨ga,fP,Try.func93,by kernel_rfl,by kernel_rfl,by decide⟩
def dj(N:Nat)(ah:List ((Int×Int)×Bool))(ai aj:List ab)(b:List Bool)(p0:List Int)(a:Int):Ro:=
 aZ (aK ah ai aj b p0 a) (λ(c:Int)=>
  some (.bool (decide (0<=c)),[some [.mp .pb ah],some [.sl .atype (.may false) ai,.sl .atype (.may false) aj,.sl .bool (.may false) b,.mr 0]]))
def bO(N:Nat)(ah:List ((Int×Int)×Bool))(ai aj:List ab)(b:List Bool)(p0:List Int)(a:Int):Ro:=dj N ah ai aj b p0 a
theorem gj(N:Nat)(ah:List ((Int×Int)×Bool))(ai aj:List ab)(b:List Bool)(p0:List Int)(a:Int):gr ba N 9 di dh [.sl (.num .i64) (.may false) p0,.fn 94 [.ea [.ptr 1 0],.ea [.int .i64 a]]] [some [.mp .pb ah],some [.sl .atype (.may false) ai,.sl .atype (.may false) aj,.sl .bool (.may false) b,.mr 0]]=bO N ah ai aj b p0 a:=by kernel_rfl
theorem gk(N:Nat)(ah:List ((Int×Int)×Bool))(ai aj:List ab)(b:List Bool)(p0:List Int)(a:Int)(h:Tot (bO N ah ai aj b p0 a) (λz=>∃(c:Bool),z.1=.bool c∧z.2=[some [.mp .pb ah],some [.sl .atype (.may false) ai,.sl .atype (.may false) aj,.sl .bool (.may false) b,.mr 0]]∧cV ah ai aj b p0 a (c))):∃r,aE ah ai aj b p0 a r:=by obtain⟨⟨v,hp⟩,f,c,e1,d,e⟩:=h;simp only at e1 d;subst e1 d;exact⟨(c),gq.fnOK rfl ((gj N ah ai aj b p0 a).trans f),e⟩
noncomputable def ep:ao:=tab (P:=Try.prog) [] [] [] [ab5]
def lr:IR:=Rs [Bi 14 .lss 13 12] (Sq (Cn 14 .skip (.exit 0)) (Sq (.block 1 (Rs [Ix 15 .afield 11 13,Ld 16 9 true 15,Pp (.alr 8 9),Fz 8 9 16] (Rs [Ld 17 10 true 4,Ld 18 9 true 8,Ca 19 130 [17,18],Mv 9 19] (Sq (.reg [Mv 20 9,Bc 21 .lss 20 0,Mv 22 21,Gt 22 (.fad 23 3 8),Gt 22 (.lde 24 1 false 23),Gt 22 (.un 25 .not 24),Pa 26 22 25,Mv 27 26,Gf 27 (.mov 28 9),Gf 27 (.bin 29 .geq 28 (kI 0)),Gf 27 (.mov 30 29),Gt 30 (.mov 31 0),Gt 30 (.nck 32 31),Gt 30 (.fad 33 3 32),⟨some (30,true),.ld 34 1 false false 33,some ([1],[])⟩,Gt 30 (.fad 35 8 4),Gt 30 (.lde 36 1 false 35),Gt 30 (.mov 37 9),Gt 30 (.ixa 38 .afield 36 37),Gt 30 (.fad 39 2 38),⟨some (30,true),.ld 40 1 false false 39,some ([],[])⟩,Gt 30 (.fad 41 2 8),Gt 30 (.lde 42 1 false 41),Gt 30 (.bld 43 [vI 0,vI 0] [(0,1,40),(1,1,42)]),Gt 30 (.mget 44 .pb false (.t 34) (.t 43)),Gf 27 (.pick 45 30 44 (kB false)),Po 46 27 45] [[],[0],[0,1],[0,1,2],rg 0 3,rg 0 4,rg 0 5,rg 0 6,rg 0 7,rg 0 8,rg 0 9,rg 0 10,rg 0 11,rg 0 12,rg 0 13,rg 0 10,rg 0 10++[15],rg 0 10,rg 0 10++[15,16,17],rg 0 10++rg 15 18,rg 0 10++rg 15 19,rg 0 10,rg 0 10++[21],rg 0 10++rg 15 22,rg 0 23,rg 0 24,rg 0 25]) (Cn 46 (Rs [Mb 6 false] .ret) .skip))))) (Rg [Bc 47 .add 13 1,Mv 13 47])))
def kQ:IR:=Rs [Mb 6 true] .ret
def iO:IR:=Rs [Bx 4 1,Bx 5 2,Mb 6 false] (Sq (Rs [Fa 10 8 5,Lq 11 10,Ll 12 11,Mi 13 0] (.block 0 (.loop [0,4,11,12,13,1000000] 2 lr))) kQ)
def fB:List RV:=[.t 6]
theorem rF:FnC Try.prog ep [] 2 mU Try.f98 iO fB:=fnC Try.func98
def ra(R:IR->(Ex->St->Ro)->St->Ro)(a:St->Ro):Ex->St->Ro:=(de a [0,4,11,12,13,1000000] 2 (bu 0 (d4 (R kQ) (fin fB))))
abbrev eX:Type:=(ab×List aq×Int×Int×List ((Int×Int)×Bool)×List ab×List ab×List Bool)
def eK(x:eX):St:={env:=(.ptr 1 0::(U 3 (.ea (enc .atype x.1)::(U 6 (.sl .afield (.may false) x.2.1::.int .i64 x.2.2.1::.int .i64 x.2.2.2.1::(U 34 [])))))),hp:=[some [.mp .pb x.2.2.2.2.1],some [.sl .atype (.may false) x.2.2.2.2.2.1,.sl .atype (.may false) x.2.2.2.2.2.2.1,.sl .bool (.may false) x.2.2.2.2.2.2.2,.mr 0]]}
def iE(N:Nat):(St->Ro)->St->Ro:=λa s=>run ep N lr (ra (run ep N) a) s
def eY(N:Nat)(b:eX->Ro)(x:eX):Ro:=
 let f:ab:=x.1;let e:List aq:=x.2.1;let g:Int:=x.2.2.1;let a:Int:=x.2.2.2.1;let ah:List ((Int×Int)×Bool):=x.2.2.2.2.1;let ai:List ab:=x.2.2.2.2.2.1;let aj:List ab:=x.2.2.2.2.2.2.1;let c:List Bool:=x.2.2.2.2.2.2.2;let z0:=λj=>(some (.bool j,[some [.mp .pb ah],some [.sl .atype (.may false) ai,.sl .atype (.may false) aj,.sl .bool (.may false) c,.mr 0]]):Ro)
 let i:=λj=>b (f,e,g,j,ah,ai,aj,c)
 cond (decide (a<g)) (
  chk (ixl a e) (
   let h:=(As e (AC a) (am .afield))
   aZ (lV f (reF h)) (λ(d:Int)=>
    cond (decide (d<0)) (
     cond (!h.hasdef) (
      z0 false) (
      cond (decide (0<=d)) (
       chk (ixl d f.fields) (
        let q:=(As f.fields (AC d) (am .afield))
        let t:=(mM (k:=.pb) ah (q.typ,h.typ))
        cond t (
         z0 false) (
         let p:=(Az .i64 (a+1))
         i p))) (
       let v:=(Az .i64 (a+1))
       i v))) (
     cond (decide (0<=d)) (
      chk (ixl d f.fields) (
       let r:=(As f.fields (AC d) (am .afield))
       let o:=(mM (k:=.pb) ah (r.typ,h.typ))
       cond o (
        z0 false) (
        let u:=(Az .i64 (a+1))
        i u))) (
      let m:=(Az .i64 (a+1))
      i m))))) (
  z0 true)
theorem qt(N:Nat):LB (iE N) eK (eY N):=λ_ _=>by kernel_rfl
def dZ(N:Nat)(ah:List ((Int×Int)×Bool))(ai aj:List ab)(a:List Bool)(b p2:ab)(d:eX->Ro):Ro:=
 let c:=(↑(An p2.fields):Int)
 d (b,p2.fields,c,0,ah,ai,aj,a)
def iP(N:Nat)(ah:List ((Int×Int)×Bool))(ai aj:List ab)(a:List Bool)(b p2:ab):Ro:=dZ N ah ai aj a b p2 (λz=>cg N (eY N) z)
def sE(N:Nat):List (Nat×(St->Ro)):=fm ep N iO (fin fB)++[]
theorem re(N:Nat)(ah:List ((Int×Int)×Bool))(ai aj:List ab)(a:List Bool)(c p2:ab):gr ep N 48 fB iO [.ptr 1 0,.agg (enc .atype c),.agg (enc .atype p2)] [some [.mp .pb ah],some [.sl .atype (.may false) ai,.sl .atype (.may false) aj,.sl .bool (.may false) a,.mr 0]]=iP N ah ai aj a c p2:=
 ((iu (sE N) (by kernel_rfl) rfl (λC=>dZ N ah ai aj a c p2 (λz=>C 1000000 (eK z))) (λC=>by kernel_rfl)).trans (B7 (b:=dZ N ah ai aj a c p2 (λz=>bC N (iE N) (eK z))) (by kernel_rfl) (congrArg (dZ N ah ai aj a c p2) (funext λz=>cJ (eK) (iE N) (eY N) (qt N) N z))))
theorem rf(N:Nat)(ah:List ((Int×Int)×Bool))(ai aj:List ab)(a:List Bool)(b p2:ab)(h:Tot (iP N ah ai aj a b p2) (λz=>∃(c:Bool),z.1=.bool c∧z.2=[some [.mp .pb ah],some [.sl .atype (.may false) ai,.sl .atype (.may false) aj,.sl .bool (.may false) a,.mr 0]]∧gY ah ai aj a b p2 (c))):∃r,ed ah ai aj a b p2 r:=by obtain⟨⟨v,hp⟩,f,c,e1,d,e⟩:=h;simp only at e1 d;subst e1 d;exact⟨(c),rF.fnOK rfl ((re N ah ai aj a b p2).trans f),e⟩
def gb:ao:=λf us hp=>match f,us,hp with
 |93,[.sl (.num .i64) (.may _) A,.fn 94 [.ea [.ptr 1 0],.ea [.int .i64 b]]],[some [.mp .pb ah],some [.sl .atype (.may false) ai,.sl .atype (.may false) aj,.sl .bool (.may false) a,.mr 0]]=>some (can (aE ah ai aj a A b),.bool (pick (aE ah ai aj a A b)),[some [.mp .pb ah],some [.sl .atype (.may false) ai,.sl .atype (.may false) aj,.sl .bool (.may false) a,.mr 0]])
 |98,[.ptr 1 0,.agg [.int .i64 x,.str m,.sl .str (.may _) p,.int .i64 z,.sl .str (.may _) c,.bool k,.str y,.int .i64 v,.sl .afield (.may _) o,.sl (.num .i64) (.may _) u],.agg [.int .i64 q,.str g,.sl .str (.may _) t,.int .i64 d,.sl .str (.may _) i,.bool e,.str j,.int .i64 r,.sl .afield (.may _) w,.sl (.num .i64) (.may _) h]],[some [.mp .pb ah],some [.sl .atype (.may false) ai,.sl .atype (.may false) aj,.sl .bool (.may false) a,.mr 0]]=>some (can (ed ah ai aj a (⟨x,m,p,z,c,k,y,v,o,u⟩) (⟨q,g,t,d,i,e,j,r,w,h⟩)),.bool (pick (ed ah ai aj a (⟨x,m,p,z,c,k,y,v,o,u⟩) (⟨q,g,t,d,i,e,j,r,w,h⟩))),[some [.mp .pb ah],some [.sl .atype (.may false) ai,.sl .atype (.may false) aj,.sl .bool (.may false) a,.mr 0]])
 |_,_,_=>none
noncomputable def gu:ao:=(qj gb (mq (sA (P:=Try.prog) [pZ,fp,zo])))
theorem qu:cz gu [93,98]:=(qk (by
 intro f us hp a;unfold gb;split<;>first|rfl|(simp at a)) (by
 intro f us hp a;unfold gb;split<;>first|rfl|(simp at a)) (ko _ _))
theorem rh:bt Try.prog gu:=by
 refine tO ?_ ?_
 ·intro f us hp v hp' h;unfold gb at h;split at h;·simp only[Ab,Ae] at h;obtain⟨a,rfl,rfl⟩:=h;exact((oj a).1).dim rfl
  ·simp only[Ab,Ae] at h;obtain⟨a,rfl,rfl⟩:=h;exact((oj a).1).dim rfl
  ·simp at h
 exact tN _
def mW:IR:=Rs [Bx 3 0,Bx 5 2,Mb 6 false] (Sq (.reg [Lq 10 3,Nk 11 10,Fa 12 0 11,Fa 13 0 12,Fo [1] [] (.ld 14 1 false false 13),Mv 15 1,Ix 16 .atype 14 15,Ld 17 10 true 16,Lq 18 3,Nk 19 18,Fa 20 1 19,Fa 21 0 20,Fo [1] [] (.ld 22 1 false false 21),Lq 23 5,Ix 24 .atype 22 23,Ld 25 10 true 24,Pp (.alr 7 10),Pp (.alr 8 10),Fz 7 10 17,Fz 8 10 25] [[],[0],[0,1],[0,1,2],rg 0 3,[],rg 0 5,rg 0 6,[],[8],[8,9],[8,9,10],rg 8 11,[],rg 8 13,rg 8 14,[],[],rg 0 7++[16,17],rg 0 18]) (Sq (.block 0 (Rs [Lq 27 3,Nk 28 27,Fa 29 2 28,Lo 30 29,Mv 31 1,Ix 32 .bool 30 31,Lq 33 32,Un 34 33,Mv 26 34] (Cn 26 (Rs [Mb 6 true] .ret) (Rs [Fa 36 0 7,Lq 37 36,Bc 38 .eql 37 14,Mv 35 38] (Cn 35 (Rs [Fa 39 9 7,Lq 40 39,Pp (.mkf 41 94 [.t 3,.t 5]),Ca 42 93 [40,41],Un 43 42,Mv 6 43] .ret) (Rs [Fa 45 0 8,Lq 46 45,Bc 47 .eql 46 14,Mv 44 47] (Cn 44 (Sq (.reg [Lq 48 3,Nk 49 48,Fa 50 0 49,Fo [1] [] (.ld 51 1 true false 50),Lq 52 3,Nk 53 52,Fa 54 1 53,Fo [1] [] (.ld 55 1 true false 54),Mv 56 1,Lq 57 5,Ca 58 95 [51,55,56,57],Mv 9 58] [[],[0],[0,1],[0,1,2],[],[4],[4,5],[4,5,6],[],[],rg 0 9,rg 0 10]) (Sq (.reg [Mv 59 9,Bc 60 .geq 59 0,Mv 61 60,Gt 61 (.lde 62 1 false 3),Gt 61 (.nck 63 62),Gt 61 (.fad 64 3 63),⟨some (61,true),.ld 65 1 false false 64,some ([1],[])⟩,Gt 61 (.mov 66 1),Gt 61 (.fad 67 9 8),Gt 61 (.lde 68 1 false 67),Gt 61 (.mov 69 9),Gt 61 (.ixa 70 (.num .i64) 68 69),Gt 61 (.lde 71 1 false 70),Gt 61 (.bld 72 [vI 0,vI 0] [(0,1,66),(1,1,71)]),Gt 61 (.mget 73 .pb false (.t 65) (.t 72)),Gt 61 (.un 74 .not 73),Pa 75 61 74,Mv 6 75] [[],[0],[0,1],[0,1,2],rg 0 3,rg 0 4,rg 0 5,[0,1,2],[0,1,2],[0,1,2,8],[0,1,2],[0,1,2,8,9,10],[0,1,2]++rg 8 11,[0,1,2]++rg 7 12,rg 0 13,rg 0 14,rg 0 15,rg 0 16]) .ret)) (Sq (.reg [Lq 77 3,Nk 78 77,Fa 79 0 78,Fo [1] [] (.ld 80 1 true false 79),Lq 81 3,Nk 82 81,Fa 83 1 82,Fo [1] [] (.ld 84 1 true false 83),Mv 85 1,Lq 86 5,Ca 87 30 [80,84,85,86],Un 88 87,Mv 76 88] [[],[0],[0,1],[0,1,2],[],[4],[4,5],[4,5,6],[],[],rg 0 9,rg 0 10,rg 0 11]) (Cn 76 (Rs [Mb 6 false] .ret) .skip))))))))) (Sq (Rs [Fa 89 0 7,Lq 90 89] (.block 1 (Sq (Rs [Bc 92 .eql 90 12,Mv 91 92] (Cn 91 .skip (Rg [Bc 93 .eql 90 13,Mv 91 93]))) (Cn 91 (Sq (.reg [Lq 94 3,Nk 95 94,Fa 96 3 95,Fo [1] [] (.ld 97 1 false false 96),Fa 98 3 7,Lq 99 98,Fa 100 3 8,Lq 101 100,Pp (.bld 102 [vI 0,vI 0] [(0,1,99),(1,1,101)]),Pp (.mget 103 .pb false (.t 97) (.t 102)),Un 104 103,Mv 6 104] [[],[0],[0,1],[0,1,2],[],[4],[],[6],rg 4 7,rg 0 8,rg 0 9,rg 0 10]) .ret) (Rs [Bc 106 .eql 90 10,Mv 105 106] (Cn 105 (Rs [Fa 107 5 8,Lq 108 107,Mv 109 108,Gf 109 (.fad 110 4 7),Gf 109 (.lde 111 1 false 110),Gf 109 (.mkf 112 96 [.t 8]),Gf 109 (.call 113 90 [111,112]),Gf 109 (.un 114 .not 113),Po 115 109 114,Mv 6 115] .ret) (Rs [Bc 117 .eql 90 9,Mv 116 117] (Cn 116 (Rs [Lq 118 3,Ld 119 10 true 7,Ld 120 10 true 8,Ca 121 98 [118,119,120],Mv 6 121] .ret) .skip)))))))) (Rs [Mb 6 true] .ret))))
def mX:List RV:=[.t 6]
theorem sF:FnC Try.prog gu [93,98] 2 nQ Try.f66 mW mX:=⟨rh,qu,Try.func66,by kernel_rfl,by kernel_rfl,by decide⟩
def mY(N:Nat)(ah:List ((Int×Int)×Bool))(ai aj:List ab)(b:List Bool)(d p2:Int):Ro:=
 let z0:=λi=>(some (.bool i,[some [.mp .pb ah],some [.sl .atype (.may false) ai,.sl .atype (.may false) aj,.sl .bool (.may false) b,.mr 0]]):Ro)
 chk (ixl d ai) (
  let c:=(As ai (AC d) (am .atype))
  chk (ixl p2 aj) (
   let a:=(As aj (AC p2) (am .atype))
   chk (ixl d b) (
    let g:=As b (AC d) (am .bool)
    cond (!g) (
     z0 true) (
     cond (c.kind==14) (
      aZ (aE ah ai aj b c.branches p2) (λ(m:Bool)=>
       z0 (!m))) (
      cond (a.kind==14) (
       aZ (jQ ai aj d p2) (λ(e:Int)=>
        cond (decide (0<=e)) (
         chk (ixl e a.branches) (
          let p:=As a.branches (AC e) (am (.num .i64));let f:=(mM (k:=.pb) ah (d,p))
          z0 (!f))) (
         z0 false))) (
       aZ (fh ai aj d p2) (λ(q:Bool)=>
        cond (!q) (
         z0 false) (
         cond (c.kind==12) (
          let r:=(mM (k:=.pb) ah (c.items,a.items))
          z0 (!r)) (
          cond (c.kind==13) (
           let j:=(mM (k:=.pb) ah (c.items,a.items))
           z0 (!j)) (
           cond (c.kind==10) (
            cond a.hasdef (
             z0 true) (
             aZ (ay c.syms a.kind a.name a.aliases a.items a.syms a.hasdef a.df a.size a.fields a.branches) (λ(h:Bool)=>
              z0 (!h)))) (
            cond (c.kind==9) (
             aZ (ed ah ai aj b c a) (λ(o:Bool)=>
              z0 o)) (
             z0 true))))))))))))
def jv(N:Nat)(ah:List ((Int×Int)×Bool))(ai aj:List ab)(a:List Bool)(b p2:Int):Ro:=mY N ah ai aj a b p2
theorem rG(N:Nat)(ah:List ((Int×Int)×Bool))(ai aj:List ab)(a:List Bool)(b p2:Int):gr gu N 122 mX mW [.ptr 1 0,.int .i64 b,.int .i64 p2] [some [.mp .pb ah],some [.sl .atype (.may false) ai,.sl .atype (.may false) aj,.sl .bool (.may false) a,.mr 0]]=jv N ah ai aj a b p2:=by kernel_rfl
theorem rH(N:Nat)(ah:List ((Int×Int)×Bool))(ai aj:List ab)(a:List Bool)(b p2:Int)(h:Tot (jv N ah ai aj a b p2) (λz=>∃(c:Bool),z.1=.bool c∧z.2=[some [.mp .pb ah],some [.sl .atype (.may false) ai,.sl .atype (.may false) aj,.sl .bool (.may false) a,.mr 0]]∧eS ah ai aj a b p2 (c))):∃r,eG ah ai aj a b p2 r:=by obtain⟨⟨v,hp⟩,f,c,e1,d,e⟩:=h;simp only at e1 d;subst e1 d;exact⟨(c),sF.fnOK rfl ((rG N ah ai aj a b p2).trans f),e⟩
theorem kr.at{ts:List ab}(a:kr ts){i:Nat}(h:i<ts.length):lP ts.length (ts.getD i (am .atype)):=a.2 _ (l8 _ _ _ h)
end Go.Proofs.Ytdpajabhmmmjoaa
end
