import Derived.Below
import Derived.KernelRfl
import Derived.Lib.ItoaNum
import Derived.Test.YtndccphabnjkhaaGreatChecked
import Derived.Test.YtndccphabnjkhaaGreatZ00
import Derived.Test.YtndccphabnjkhaaGreatZ01
open Array renaming getElem?_eq_getElem→Am,getElem?_eq_some_iff→A1,getD→Cg
open BitVec renaming ofInt→AV
open Bool renaming and_eq_true→Ac,or_eq_true→Bl,not_eq_true'→BW,or_eq_false_iff→Cj,false_or→CE
open Classical renaming propDecidable→Dm
open Eq renaming trans→AE
open Go.IntKind renaming wrap→Ab,signed→AU,bits→A8,max→Bz,min→BU
open Go.Op renaming bytesLess→AO
open Int renaming toNat→Ad,toNat_natCast→AC,tmod→Bd,tmod_eq_emod_of_nonneg→Bh,tdiv→BO,tdiv_eq_ediv_of_nonneg→B9,fdiv_eq_ediv_of_nonneg→Cb,le_of_lt→DA,pow_pos→DR
open List renaming length→Aa,length_cons→Af,getElem?_eq_some_iff→Ag,getElem?_eq_getElem→Ah,getD→Ai,length_append→Aj,drop→An,take→Ao,getD_eq_getElem?_getD→Ar,mem_of_getElem?→At,getElem?_append_right→Au,mem_singleton→Av,mem_append→Aw,getElem?_append_left→Ax,getElem?_set→Ay,all_eq_true→AA,append_assoc→AB,mem_map→AD,getElem?_map→AF,map_append→AK,map_cons→AL,mem_cons→AN,length_drop→AT,mem_flatMap→AW,drop_eq_getElem_cons→AX,mem_cons_self→AZ,mem_cons_of_mem→A3,take_append_drop→Ba,mem_iff_getElem→Be,foldl_cons→Bf,map_congr_left→Bk,getD_cons_zero→BH,getElem?_cons_succ→BI,getElem?_set_ne→BK,getElem?_cons_zero→BN,range→BR,mem_append_left→BS,flatMap_cons→BV,mem_map_of_mem→BX,length_map→BY,drop_eq_nil_of_le→B6,foldl_nil→Cc,mem_append_right→Cd,mem_of_find?_eq_some→Cf,getD_cons_succ→Cq,length_pos_iff→Cr,find?_eq_none→Cx,all_cons→CN,mem_range→C3,range'→Da,drop_drop→Dj,foldl_append→Dp,any_eq_false→Dr,contains_iff_mem→Dz,all_append→DI
open List.cons renaming inj→Bt
open Nat renaming le_refl→Ap,lt_or_ge→AH,lt_of_lt_of_le→AI,eq_of_beq_eq_true→AJ,beq→A4,mod_eq_of_lt→Bn,zero_add→Bv,add_zero→Ck,blt_eq→C5,blt→C9,sub_self→De,strongRecOn→DG
open Option renaming map_eq_some_iff→Aq,getD_some→Bo,map_some→BC
open Option.some renaming injEq→Ae,inj→AG
open Prod renaming fst→BP
open Prod.mk renaming injEq→Al
open UInt8 renaming ofNat→Az,toNat→AY,toNat_ofNat'→CP
set_option linter.all false
set_option maxRecDepth 100000
noncomputable section
namespace Go.AM
def V.flatO:V->Bool
 | .bn _ _=>true
 | .ul _ _=>true
 |v=>v.flat1
section
variable{I:Nat->Nat->Prop}{ρ ρ':Nat->Nat}{N N':Nat}{w:World}{P:Program}
theorem VRel.flatO{v:V}{cv:Value}(h:VRel I ρ N w v cv)(q:v.flatO=true):VRel I ρ' N' w v cv:=by
 cases h with
 |bn E n p=>exact .bn E n p
 |ul k xs i cap d=>exact .ul k xs i cap d
 |bool b=>exact .bool b
 |int k n h=>exact .int k n h
 |str l s a h=>exact .str l s a h
 |sln k o=>exact .sln k o
 |sle k o i u=>exact .sle k o i u
 |sl k o xs b e len cap a y d j f r x m=>exact(VRel.sl k o xs b e len cap a y d j f r x m).flat1 rfl
 |nilp=>exact .nilp
 |nilif=>exact .nilif
 |fn f cs vs a m=>
  cases cs with
  |nil=>exact .fn f [] vs a (by simp)
  |cons c cs=>simp[V.flatO,V.flat1] at q
 |_=>simp[V.flatO,V.flat1] at q
theorem amG{cs:List V}(h:cs.all V.flatO=true):d7 cs=false:=by
 unfold d7;split;·simp[V.flatO,V.flat1] at h
 ·simp[V.flatO,V.flat1] at h
 ·simp[V.flatO,V.flat1] at h
 ·rfl
theorem aO.reloc{g j:Gh}{w:World}{i c:Occ}{v:V}{cv:Value}(h:aO g w i v cv)(f:j.β=g.β)(l:j.I=g.I)
  (m:∀b,g.O b=some i->j.O b=some c):aO j w c v cv:=by
 unfold aO at h ⊢;split;·rename_i k xs a len cap;obtain⟨q,⟨d,A,x,Q,z,F⟩,u⟩:=h;exact⟨m _ q,⟨d,A,x,Q,z,λr=>(F r).trans f.symm⟩,by rw[l];exact u⟩
 ·obtain⟨q,H,u⟩:=h;exact⟨m _ q,H,by rw[l];exact u⟩
 ·rcases h with h|⟨b,cap,p,e,x,R,J,B,L,y,E,D,G,M,C⟩
  ·exact .inl h
  ·exact .inr ⟨b,cap,p,e,x,R,J,B,L,m _ y,E,D,λr=>(G r).trans f.symm,by rw[l];exact M,by rw[l];exact C⟩
 ·trivial
def V.ren(σ:Nat->Nat):V->V
 | .ptr i o=>.ptr (σ i) o
 |v=>v
def V.flatP(n:Nat):V->Bool
 | .ptr i 0=>decide (i<n)
 |v=>v.flat
theorem V.ren_flat{σ:Nat->Nat}{v:V}(h:v.flat=true):v.ren σ=v:=by cases v<;>simp[V.flat,V.flat2,V.flat1] at h<;>rfl
theorem V.ren_bare{σ:Nat->Nat}{v:V}:(v.ren σ).bare=v.bare:=by cases v<;>rfl
def bq(P:Program)(f:FuncId)(avs:List V)(css:List (List V))(v:V)(css':List (List V)):Prop:=
 css'.length=css.length∧∃rest,gc P f avs (css.map some) v (css'.map some++rest)
theorem bq.frame{f:FuncId}{avs:List V}{css css':List (List V)}{v:V}(h:bq P f avs css v css')(ha:avs.all (V.flatP css.length)=true)(hv:v.flat=true)
  (hc:css.all (λcs=>cs.all V.flatO)=true) (ba:css'.all (λcs=>cs.all V.flatO)=true) {hp hp':List aJ} {σ:Nat->Nat}
  (av:∀k k',k<css.length->k'<css.length->σ k=σ k'->k=k')
  (h1:∀(k:Nat) cs,css[k]? =some cs->hp[σ k]? =some (some cs)) (h2:hp'.length=hp.length)
  (h3:∀(k:Nat) cs,css'[k]? =some cs->hp'[σ k]? =some (some cs))
  (h4:∀id,(∀k,k<css.length->σ k≠id)->hp'[id]? =hp[id]?):gc P f (avs.map (V.ren σ)) hp v hp':=by
 obtain⟨a4,rest,h⟩:=h;intro w g X a7 u ax ai au;have ar:∀(k:Nat) cs,css[k]? =some cs->cs.all V.flatO=true:=λk cs a=>AA.1 hc cs (At a)
 have ah:∀(k:Nat) cs,css'[k]? =some cs->cs.all V.flatO=true:=λk cs a=>AA.1 ba cs (At a)
 have G:∀(k:Nat) cs,css[k]? =some cs->k<css.length:=λk cs a=>(Ag.1 a).1
 have z:∀(k:Nat) cs,(css.map some)[k]? =some (some cs)->css[k]? =some cs:=by
  intro k cs a;rw[AF] at a;cases M:css[k]? with
  |none=>rw[M] at a;simp at a
  |some x=>rw[M] at a;simpa using a
 have sub:∀k,k<css.length->∃cs,css[k]? =some cs∧hp[σ k]? =some (some cs):=λk a=>⟨css[k],Ah a,h1 k _ (Ah a)⟩
 let Z:Nat->Option Nat:=λi=>(BR css.length).find? λk=>σ k==i
 have J:∀i k,Z i=some k->k<css.length∧σ k=i:=by intro i k a;have m1:=Cf a;have m2:=List.find?_some a;exact⟨C3.1 m1,by simpa using m2⟩
 have ae:∀k,k<css.length->Z (σ k)=some k:=by
  intro k a;cases M:Z (σ k) with
  |none=>have:=Cx.1 M k (C3.2 a);simp at this
  |some k'=>obtain⟨m1,m2⟩:=J _ _ M;rw[av k' k m1 a m2]
 let l:Gh:={I:=g.I,ρ:=λk=>g.ρ (σ k),O:=λb=>match g.O b with|some (.cell i j)=>(Z i).map λk=>.cell k j|_=>none,β:=g.β}
 have gO:∀b o,l.O b=some o->∃k j,k<css.length∧o=.cell k j∧g.O b=some (.cell (σ k) j):=by
  intro b o q;simp only[l] at q;split at q
  ·rename_i i j hg;cases M:Z i with
   |none=>rw[M] at q;simp at q
   |some k=>rw[M] at q;obtain⟨m1,m2⟩:=J _ _ M;exact⟨k,j,m1,by simpa using q.symm,by rw[m2];exact hg⟩
  ·simp at q
 have gN:∀b,(∀k j,k<css.length->g.O b≠some (.cell (σ k) j))->l.O b=none:=by
  intro b q;cases M:l.O b with
  |none=>rfl
  |some o=>obtain⟨k,j,a,_,p⟩:=gO b o M;exact absurd p (q k j a)
 have gC:∀b k j,k<css.length->g.O b=some (.cell (σ k) j)->l.O b=some (.cell k j):=by intro b k j a q;simp[l,q,ae k a]
 have a6:∀k,k<css.length->l.O (g.ρ (σ k))=none:=by intro k a;obtain⟨cs,_,ac⟩:=sub k a;exact gN _ (by intro k' j _ p;rw[u.notO _ cs ac] at p;cases p)
 have h0:HR l (css.map some) w:=by
  refine⟨?_,?_,?_,?_,u.exI,?_⟩
  ·intro k c a;have a:=z k c a;refine(u.obj _ c (h1 k c a)).keep rfl λb1 e fz a1 D=>?_
   have hr:=amG (ar k c a);refine⟨D.len,D.plain,by rw[abU hr];simp,D.cold,D.one,?_,?_,D.bn⟩;·intro j Q cv p C;exact(D.rel j Q cv p C).flatO (AA.1 (ar k c a) Q (At (by rw[nL hr] at p;exact p)))
   ·intro j Q cv p C;exact(D.own j Q cv p C).reloc rfl rfl λb q=>gC b k j (G k c a) q
  ·intro k k' c Q a y A;have a:=z k c a;have y:=z k' Q y;exact u.apart _ _ _ _ (h1 k c a) (h1 k' Q y) λe=>A (av k k' (G k c a) (G k' Q y) e)
  ·intro k c a;exact u.notI _ c (h1 k c (z k c a))
  ·intro k c a;exact a6 k (G k c (z k c a))
  ·intro b o q;obtain⟨k,j,_,_,p⟩:=gO b o q;exact u.oLt b _ p
 have al:∀(i:Nat) x cv,avs[i]? =some x->X[i]? =some cv->VRel l.I l.ρ (css.map some).length w x cv:=by
  intro i x cv hx C;have hr:=au i (x.ren σ) cv (by rw[AF,hx];rfl) C;have W:=AA.1 ha x (At hx);unfold V.flatP at W;split at W
  ·rename_i k;have a:k<css.length:=by simpa using W
   simp only[V.ren] at hr;cases hr with
   |ptr _ _ _=>exact .ptr k 0 (by simpa using a)
  ·rw[V.ren_flat W] at hr;exact hr.flat W
 refine(h w l X (a7.sub rfl (λh=>h) (λh=>by simp[l,h])) h0 (by rw[<-ax,BY]) (by intro x hx;have:=ai (x.ren σ) (BX hx);rw[V.ren_bare] at this;exact this) al).mono ?_;rintro ex w' ⟨cv,g₁,rfl,q1,R,q3,q4⟩;have r0:∀k,k<css.length->g₁.ρ k=g.ρ (σ k):=λk a=>R.up.rho k (by simpa using a)
 have Y:∀b,(∀k,k<css.length->g.ρ (σ k)≠b)->∀(k:Nat) cs,(css.map some)[k]? =some (some cs)->l.ρ k≠b:=λb q k cs a=>q k (G k cs (z k cs a))
 have blk:∀b,b<w.heap.size->(∀k,k<css.length->g.ρ (σ k)≠b)->l.O b=none->w'.heap[b]? =w.heap[b]?:=λb q A S=>R.block b q (Y b A) S
 let B:Gh:={I:=g₁.I,ρ:=g.ρ,O:=λb=>match g₁.O b with
  |some .res=>some .res
  |some (.cell k j)=>cond (C9 k css.length) (some (.cell (σ k) j)) none
  |some (.slot _)=>none
  |none=>if b<w.heap.size∧l.O b=none then g.O b else none,β:=g.β}
 have up:Up g.I g.ρ hp.length w B.I B.ρ hp'.length w':=⟨R.up.mono,R.up.cell,λ_ _=>rfl,by rw[h2];exact Ap _⟩
 have an:∀(i:Nat) c,hp[i]? =some (some c)->g.ρ i<w.heap.size:=by intro i c r;obtain⟨ob,h1⟩:=(u.obj i c r).block;exact(A1.1 h1).1
 have ap:∀(k:Nat) cs,css'[k]? =some cs->(css'.map some++rest)[k]? =some (some cs):=by intro k cs a;rw[Ax (by simpa using (Ag.1 a).1),AF,a];rfl
 have key:∀(i:Nat) c,hp'[i]? =some (some c)->(∃k d,k<css.length∧i=σ k∧css'[k]? =some c∧hp[i]? =some (some d))∨((∀k,k<css.length->σ k≠i)∧hp[i]? =some (some c)):=by
  intro i c r;by_cases a:∃k,k<css.length∧σ k=i
  ·obtain⟨k,a,rfl⟩:=a;obtain⟨d,_,m⟩:=sub k a;have y:k<css'.length:=by omega
   have:=h3 k _ (Ah y);rw[this] at r;exact .inl ⟨k,d,a,rfl,by rw[Ah y];simpa using r,m⟩
  ·have hn:∀k,k<css.length->σ k≠i:=λk y e=>a ⟨k,y,e⟩
   exact .inr ⟨hn,(h4 i hn).symm.trans r⟩
 have F:∀(i:Nat) c,hp'[i]? =some (some c)->∃d,hp[i]? =some (some d):=by
  intro i c r;rcases key i c r with⟨_,d,_,_,_,h⟩|⟨_,h⟩
  ·exact⟨d,h⟩
  ·exact⟨c,h⟩
 have H:∀(i:Nat) c,(∀k,k<css.length->σ k≠i)->hp[i]? =some (some c)->∀k,k<css.length->g.ρ (σ k)≠g.ρ i:=by intro i c hn r k a;obtain⟨d,_,m⟩:=sub k a;exact u.apart _ _ _ _ m r (hn k a)
 have L:∀b,b<w.heap.size->(∀k,k<css.length->g.ρ (σ k)≠b)->l.O b=none->B.O b=g.O b:=by intro b q A S;have:=R.oSame b q (Y b A) S;simp only[B,this];rw[if_pos ⟨q,S⟩]
 have af:∀b o,g.O b=some o->∀k,k<css.length->g.ρ (σ k)≠b:=by intro b o q k a e;obtain⟨d,_,m⟩:=sub k a;rw[<-e,u.notO _ d m] at q;cases q
 refine⟨cv,B,rfl,⟨?_,?_,?_,?_,q1.exI,?_⟩,⟨rfl,R.os,R.tape,R.output,R.size,?_,up,?_,?_,?_⟩,?_,?_⟩
 ·intro i c r;rcases key i c r with⟨k,d,a,rfl,y,ac⟩|⟨A,r⟩
  ·refine(q1.obj k c (ap k c y)).keep (by rw[r0 k a]) λaz e' fz a1 D=>?_
   rw[r0 k a] at a1;have hr:=amG (ah k c y);refine⟨D.len,D.plain,by rw[abU hr];simp,D.cold,D.one,?_,?_,?_⟩;·intro j Q cv p C;exact(D.rel j Q cv p C).flatO (AA.1 (ah k c y) Q (At (by rw[nL hr] at p;exact p)))
   ·intro j Q cv p C;refine(D.own j Q cv p C).reloc R.beta.symm rfl λb q=>?_
    have a5:C9 k css.length=true:=by rw[C5];exact a
    simp[B,q,a5]
   ·intro j E n p;have:=D.bn j E n p;rw[r0 k a] at this;exact this
  ·have ab:l.O (g.ρ i)=none:=gN _ (by intro k j _ p;rw[u.notO i c r] at p;cases p);refine(u.obj i c r).keep (blk _ (an i c r) (H i c A r) ab) λaz e' fz a1 D=>?_
   refine⟨D.len,D.plain,D.typedUp rfl (λ_ _=>rfl) up.num rfl,D.cold,D.one,λj c cv p C=>(D.rel j c cv p C).up up,?_,D.bn⟩;intro j Q cv p C;refine dC (D.own j Q cv p C) rfl (λb j r=>⟨up.mono b j r,up.cell b j r⟩) ?_;intro b q;have aj:=u.oLt b _ q;have S:l.O b=none:=gN _ (by intro k j' a ay;rw[q] at ay;cases ay;exact A k a rfl);have aa:=af b _ q;exact⟨(L b aj aa S).trans q,blk b aj aa S,λj p=>R.iSame b j aj (Y b aa) S p⟩
 ·intro i i' c Q r a8 A;obtain⟨d,m1⟩:=F i c r;obtain⟨bd,m2⟩:=F i' Q a8;exact u.apart _ _ _ _ m1 m2 A
 ·intro i c r j p;rcases key i c r with⟨k,d,a,rfl,y,ac⟩|⟨A,r⟩
  ·have:=q1.notI k c (ap k c y) j;rw[r0 k a] at this;exact this p
  ·have ab:l.O (g.ρ i)=none:=gN _ (by intro k j _ p;rw[u.notO i c r] at p;cases p);exact u.notI i c r j (R.iSame _ j (an i c r) (Y _ (H i c A r)) ab p)
 ·intro i c r;rcases key i c r with⟨k,d,a,rfl,y,ac⟩|⟨A,r⟩
  ·have:=q1.notO k c (ap k c y);rw[r0 k a] at this;simp only[B,this];split;·exact u.notO _ d ac
   ·rfl
  ·have ab:l.O (g.ρ i)=none:=gN _ (by intro k j _ p;rw[u.notO i c r] at p;cases p);exact(L _ (an i c r) (H i c A r) ab).trans (u.notO i c r)
 ·intro b o q;simp only[B] at q;split at q;·rename_i M;exact q1.oLt b _ M
  ·rename_i M;exact q1.oLt b _ M
  ·simp at q
  ·split at q;·rename_i M;exact AI M.1 R.size
   ·simp at q
 ·intro b q ho S;exact blk b q (λk a e=>by obtain⟨d,_,m⟩:=sub k a;exact ho _ d m e) (gN _ (by intro k j _ p;rw[S] at p;cases p))
 ·intro b j q ho S r;exact R.iSame b j q (Y b λk a e=>by obtain⟨d,_,m⟩:=sub k a;exact ho _ d m e) (gN _ (by intro k j _ p;rw[S] at p;cases p)) r
 ·intro b q ho S;exact(L b q (λk a e=>by obtain⟨d,_,m⟩:=sub k a;exact ho _ d m e) (gN _ (by intro k j _ p;rw[S] at p;cases p))).trans S
 ·intro i c r;exact .inl (F i c r)
 ·exact q3.flat hv
 ·exact q4.reloc R.beta.symm rfl λb q=>by simp[B,q]
def aJF(P:Program)(f:FuncId)(vs cs:List V)(v:V)(a:List V):Prop:=∃rest,gc P f (.ptr 0 0::vs) [some cs] v (some a::rest)
theorem V.flatP_flat{n:Nat}{v:V}(h:v.flat=true):v.flatP n=true:=by
 unfold V.flatP;split;·simp[V.flat,V.flat2,V.flat1] at h
 ·exact h
theorem axd{σ:Nat->Nat}:∀{vs:List V},vs.all V.flat=true->vs.map (V.ren σ)=vs
 | [],_=>rfl
 |v::vs,h=>by simp only[CN,Ac] at h;rw[AL,V.ren_flat h.1,axd h.2]
theorem aJF.frame{f:FuncId}{vs cs a:List V}{v:V}(h:aJF P f vs cs v a)(m:vs.all V.flat=true)(q:v.flat=true)(u:cs.all V.flatO=true)(j:a.all V.flatO=true)
  {hp:List aJ} {id:Nat} (e:hp[id]? =some (some cs)):gc P f (.ptr id 0::vs) hp v (hp.set id (some a)):=by
 obtain⟨rest,h⟩:=h;have d:id<hp.length:=(Ag.1 e).1
 have:=bq.frame (P:=P) (f:=f) (avs:=.ptr 0 0::vs) (css:=[cs]) (css':=[a]) (v:=v) ⟨rfl,rest,h⟩ (hp:=hp) (hp':=hp.set id (some a)) (σ:=λ_=>id)
  (by simp only[CN,Ac];exact⟨rfl,AA.2 λx r=>V.flatP_flat (AA.1 m x r)⟩) q (by simpa using u) (by simpa using j)
  (by intro k k' c l _;simp at c l;omega) (by intro k b c;cases k<;>simp at c;rw[<-c];exact e) (by simp)
  (by intro k b c;cases k<;>simp at c;rw[<-c];simp[d])
  (by intro i p;rw[BK (p 0 (by simp))])
 rw[AL,axd m] at this;exact this
theorem cE.mono{Γ:aI}{b a:List Nat}(h:cE Γ b)(j:b.all (λx=>a.contains x)=true)(i:a.all (λx=>C9 x 2000000||b.contains x)=true):cE Γ a:=by
 refine⟨?_,λf vs hp c v hp' d=>h.loc f vs hp c v hp' ?_⟩
 rotate_left
 ·have:=AA.1 i (f+2000000) (by simpa using d);simp only[Bl,C5] at this;rcases this with e|e;·omega
  ·exact e
 intro f vs hp d;refine h.pure f vs hp ?_;cases k:b.contains f with
 |false=>rfl
 |true=>have:=AA.1 j f (by simpa using k);rw[this] at d;simp at d
def uE:Nat->List V->List V
 |_,[]=>[]
 |k,.ptr _ 0::vs=>.ptr k 0::uE (k+1) vs
 |k,v::vs=>v::uE k vs
def pE(hp:List aJ):List Nat->Option (List (List V))
 | []=>some []
 |i::is=>match hp.getD i none with
  |some cs=>match pE hp is with
   |some css=>some (cs::css)
   |none=>none
  |none=>none
def ru:List aJ->List Nat->List (List V)->List aJ
 |hp,i::is,c::cs=>ru (hp.set i (some c)) is cs
 |hp,_,_=>hp
def ahu:List Nat->Bool
 | []=>true
 |i::is=> !(is.any (A4 i))&&ahu is
abbrev as5:=Nat->List V->List (List V)->Option (Bool×V×List (List V))
def vM(G:as5)(Γ:aI):aI:=λf vs hp=>
 match pE hp (fv vs) with
 |some css=>match G f (uE 0 vs) css with
  |some (c,v,css')=>cond (ahu (fv vs)&&A4 css'.length css.length&&(uE 0 vs).all (V.flatP css.length)&&v.flat&&css.all (λcs=>cs.all V.flatO)&&css'.all (λcs=>cs.all V.flatO))
    (some (c,v,ru hp (fv vs) css')) none
  |none=>Γ f vs hp
 |none=>Γ f vs hp
theorem amH:∀{l:List Nat},ahu l=true->l.Nodup
 | [],_=>List.nodup_nil
 |i::is,h=>by simp only[ahu,Ac,BW,Dr] at h;refine List.nodup_cons.2 ⟨λa=>?_,amH h.2⟩;exact h.1 i a (by simp)
theorem aqD{hp:List aJ}:∀{is:List Nat}{css:List (List V)},pE hp is=some css->css.length=is.length∧∀(k:Nat) cs,css[k]? =some cs->hp[is.getD k 0]? =some (some cs)
 | [],css,h=>by simp only[pE,Ae] at h;subst h;simp
 |i::is,css,h=>by
  simp only[pE] at h;split at h
  ·rename_i cs a;split at h
   ·rename_i b j;simp only[Ae] at h;subst h;obtain⟨l,f⟩:=aqD j;refine⟨by simp[l],λk c d=>?_⟩;cases k with
    |zero=>
     simp only[BN,Ae] at d;subst d;rw[Ar] at a;simp only[BH];cases e:hp[i]? with
     |none=>rw[e] at a;simp at a
     |some x=>rw[e] at a;simpa using a
    |succ k=>simp only[BI] at d;simpa using f k c d
   ·simp at h
  ·simp at h
theorem aku:∀{is:List Nat}{hp:List aJ}{css:List (List V)},(ru hp is css).length=hp.length
 | [],hp,css=>by cases css<;>rfl
 |i::is,hp,[]=>rfl
 |i::is,hp,c::cs=>by simp[ru,aku]
theorem ai8:∀{is:List Nat}{hp:List aJ}{css:List (List V)}{id:Nat},id ∉ is->(ru hp is css)[id]? =hp[id]?
 | [],hp,css,id,_=>by cases css<;>rfl
 |i::is,hp,[],id,_=>rfl
 |i::is,hp,c::cs,id,h=>by simp only[AN,not_or] at h;rw[ru,ai8 h.2,BK (λe=>h.1 e.symm)]
theorem axe:∀{is:List Nat}{hp:List aJ}{css:List (List V)},is.Nodup->(∀i∈is,i<hp.length)->∀(k:Nat) cs,k<is.length->css[k]? =some cs->(ru hp is css)[is.getD k 0]? =some (some cs)
 | [],_,_,_,_,k,_,a,_=>by simp at a
 |i::is,hp,[],_,_,k,_,_,h=>by simp at h
 |i::is,hp,c::cs,f,e,k,m,a,h=>by
  obtain⟨d,b⟩:=List.nodup_cons.1 f;cases k with
  |zero=>simp only[BN,Ae] at h;subst h;simp only[BH,ru];rw[ai8 d];simp[e i AZ]
  |succ k=>simp only[BI] at h;simp only[Cq,ru];exact axe b (λj l=>by simpa using e j (A3 _ l)) k m (by simpa using a) h
theorem amI{σ:Nat->Nat}{n:Nat}:∀{vs:List V}{k:Nat},(∀i,i<(fv vs).length->σ (k+i)=(fv vs).getD i 0)->(uE k vs).all (V.flatP n)=true->(uE k vs).map (V.ren σ)=vs
 | [],_,_,_=>rfl
 |v::vs,k,a,b=>by
  by_cases c:∃i,v=.ptr i 0;·obtain⟨i,rfl⟩:=c;simp only[uE,AL,V.ren];simp only[fv] at a;simp only[uE,CN,Ac] at b;have e:=a 0 (by simp);simp only[Ck,BH] at e;rw[e,amI (λj l=>by have:=a (j+1) (by simp;omega);rw[Cq] at this;rw[<-this];congr 1;omega) b.2]
  ·have h:uE k (v::vs)=v::uE k vs:=by
    cases v<;>try rfl
    rename_i i o;cases o with
    |zero=>exact absurd ⟨i,rfl⟩ c
    |succ o=>rfl
   have f:fv (v::vs)=fv vs:=by
    cases v<;>try rfl
    rename_i i o;cases o with
    |zero=>exact absurd ⟨i,rfl⟩ c
    |succ o=>rfl
   rw[f] at a;rw[h] at b ⊢;simp only[CN,Ac] at b;have d:v.flat=true:=by
    have:=b.1;unfold V.flatP at this;split at this;·rename_i i;exact absurd ⟨i,rfl⟩ c
    ·exact this
   rw[AL,V.ren_flat d,amI a b.2]
theorem aGC{G:as5}{Γ:aI}(H:∀f avs css v css',G f avs css=some (true,v,css')->bq P f avs css v css')(l:bB P Γ):bB P (vM G Γ):=by
 intro f vs hp v hp' h;unfold vM at h;split at h
 ·rename_i css p;split at h
  ·rename_i c A css' E;cases a:(ahu (fv vs)&&A4 css'.length css.length&&(uE 0 vs).all (V.flatP css.length)&&A.flat&&css.all (λcs=>cs.all V.flatO)&&css'.all (λcs=>cs.all V.flatO)) with
   |false=>rw[a] at h;simp at h
   |true=>
    rw[a] at h;simp only[cond_true,Ae,Al] at h;obtain⟨rfl,rfl,rfl⟩:=h;simp only[Ac] at a;obtain⟨⟨⟨⟨⟨O,L⟩,u⟩,D⟩,z⟩,M⟩:=a;obtain⟨y,x⟩:=aqD p;have b:=amH O;have F:css'.length=css.length:=by simpa using L
    have:=bq.frame (H f _ css _ css' E) u D z M (hp:=hp) (hp':=ru hp (fv vs) css') (σ:=λk=>(fv vs).getD k 0)
     (by intro k k' d m e;rw[y] at d m;simp only[Ar,Ah d,Ah m,Bo] at e;exact(List.getElem_inj b).1 e)
     x aku
     (by
      intro k cs d;have Q:k<css'.length:=(Ag.1 d).1;refine axe b ?_ k cs (by omega) d;intro i J;obtain⟨j,r,rfl⟩:=Be.1 J;have q:j<css.length:=by omega
      have:=x j _ (Ah q);rw[Ar,Ah r,Bo] at this;exact(Ag.1 this).1)
     (by
      intro id C;refine ai8 λB=>?_
      obtain⟨j,r,rfl⟩:=Be.1 B;exact C j (by omega) (by rw[Ar,Ah r,Bo]))
    rw[amI (n:=css.length) (λi _=>by rw[Bv]) u] at this;exact this
  ·exact l _ _ _ _ _ h
 ·exact l _ _ _ _ _ h
theorem amJ{hp a:List aJ}:∀{is:List Nat},(∀i∈is,a[i]? =hp[i]?)->pE a is=pE hp is
 | [],_=>rfl
 |i::is,h=>by simp only[pE];rw[af2 (h i (AZ ..)),amJ λj b=>h j (A3 _ b)]
theorem ai9:∀(is:List Nat)(hp:List aJ)(css:List (List V)),ru hp is css=amB hp (is.zip (css.map some))
 | [],hp,css=>by cases css<;>rfl
 |i::is,hp,[]=>rfl
 |i::is,hp,c::css=>by simp only[ru,AL,List.zip_cons_cons];rw[ai9 is];rfl
theorem aC5{G:as5}{Γ:aI}{m:List Nat}(F:∀f avs css,m.contains f=false->G f avs css=none)(r:cE Γ m):cE (vM G Γ) m:=by
 refine⟨?_,?_⟩
 ·intro f vs hp y;have e:∀hp,vM G Γ f vs hp=Γ f vs hp:=by
   intro hp;unfold vM;split;·rw[F f _ _ y]
   ·rfl
  rw[e,e];exact r.pure f vs hp y
 ·intro f vs hp c v hp' y h;have j:∀d:List aJ,(∀i∈apf (tF vs),d[i]? =hp[i]?)->pE d (fv vs)=pE hp (fv vs):=λd l=>amJ λi H=>l i (af3 (ai3 H))
  unfold vM at h;cases k:pE hp (fv vs) with
  |none=>rw[k] at h;obtain⟨q,B,D,C⟩:=r.loc f _ _ _ _ _ y h;refine⟨q,B,D,λd A l=>?_⟩;simp only[vM,j d l,k];exact C d A l
  |some css=>
   rw[k] at h;simp only at h;cases z:G f (uE 0 vs) css with
   |none=>rw[z] at h;obtain⟨q,B,D,C⟩:=r.loc f _ _ _ _ _ y h;refine⟨q,B,D,λd A l=>?_⟩;simp only[vM,j d l,k,z];exact C d A l
   |some x=>
    obtain⟨J,E,css'⟩:=x;rw[z] at h;simp only at h;cases u:(ahu (fv vs)&&A4 css'.length css.length&&(uE 0 vs).all (V.flatP css.length)&&E.flat&&css.all (λcs=>cs.all V.flatO)&&css'.all (λcs=>cs.all V.flatO)) with
    |false=>rw[u] at h;simp at h
    |true=>
     rw[u] at h;simp only[cond_true,Ae,Al] at h;obtain⟨rfl,rfl,rfl⟩:=h;refine⟨(fv vs).zip (css'.map some),?_,ai9 _ _ _,λd A l=>?_⟩;·intro p hp;obtain⟨a,b⟩:=p;exact af3 (List.of_mem_zip hp).1
     ·simp only[vM,j d l,k,z,u,cond_true];rw[ai9]
end
def V.lend1(hp:List aJ):V->V
 | .sw _ id n=>match hp.getD id none with
   |some [.rw k xs]=>.sl k (.may false) xs
   |_=>.undef
 |v=>v
def V.lend(hp:List aJ):V->V
 | .agg cs=>.agg (cs.map (V.lend1 hp))
 |v=>v.lend1 hp
def V.lendT(hp:List aJ):V->Bool
 | .sw _ id n=>match hp.getD id none with
   |some [.rw _ xs]=>A4 n xs.length
   |_=>false
 |_=>true
def V.isSw:V->Bool
 | .sw _ _ _=>true
 |_=>false
def yC(hp:List aJ):List V->Bool->Bool
 | [],b=>b
 |v::r,b=>cond v.isSw (v.lendT hp&&yC hp r b) (yC hp r b)
def ack(hp:List aJ):List V->Bool
 | []=>true
 |v::r=>yC hp v.cellsA (ack hp r)
def V.scal1:V->Bool
 | .bool _| .int _ _| .str _| .nilif=>true
 |_=>false
def V.scal:V->Bool
 | .tup cs=>cs.all V.scal1
 |v=>v.scal1
def yD(a:List Nat)(G:Nat->List V->Option (Bool×V))(Γ:aI):aI:=λf vs hp=>
 cond (a.elem f) (match Γ f vs hp with
  |some r=>some r
  |none=>match G f (vs.map (V.lend hp)) with
   |some (c,v)=>cond (v.scal&&(vs.map (V.lend hp)).all V.flat) (some (c&&ack hp vs,v,hp)) none
   |none=>none) (Γ f vs hp)
section
variable{I I':Nat->Nat->Prop}{ρ ρ':Nat->Nat}{N N':Nat}{w w':World}{P:Program}
theorem VRel.scal1{v:V}{cv:Value}(h:VRel I ρ N w v cv)(a:v.scal1=true):VRel I' ρ' N' w' v cv:=by
 cases h<;>simp[V.scal1] at a;·exact .bool _
 ·exact .int _ _ (by assumption)
 ·exact .str _ _ (by assumption) (by assumption)
 ·exact .nilif
theorem VRel.scal{v:V}{cv:Value}(h:VRel I ρ N w v cv)(a:v.scal=true):VRel I' ρ' N' w' v cv:=by
 by_cases d:∃cs,v=.tup cs
 ·obtain⟨cs,rfl⟩:=d;cases h with
  |tup cs vs f j=>simp only[V.scal,AA] at a;exact .tup cs vs f λi c cv e b=>(j i c cv e b).scal1 (a c (At e))
 ·refine h.scal1 ?_;cases v<;>first|exact a|exact absurd ⟨_,rfl⟩ d
theorem aIh{v:V}(b:v.scal=true)(g:Gh)(a:Occ)(cv:Value):aO g w a v cv:=by cases v<;>simp[V.scal,V.scal1] at b<;>simp[aO]
theorem aGD{hp:List aJ}{v:V}(h:(v.lend1 hp).flat1=true)(a:v.one=true):(v.lend1 hp).one=true:=by generalize v.lend1 hp=u at h;cases u<;>simp[V.flat1] at h<;>rfl
theorem as6{hp:List aJ}:∀{cs:List V}{b:Bool},yC hp cs b=true->b=true∧∀c∈cs,c.lendT hp=true
 | [],b,h=>⟨h,by simp⟩
 |v::r,b,h=>by
  simp only[yC] at h;have e:v.lendT hp=true∧yC hp r b=true:=by
   cases a:v.isSw with
   |true=>rw[a] at h;simpa using h
   |false=>rw[a] at h;refine⟨?_,by simpa using h⟩;cases v<;>first|rfl|simp[V.isSw] at a
  obtain⟨i,f⟩:=as6 e.2;exact⟨i,λc d=>by
   rcases AN.1 d with rfl|d;·exact e.1
   ·exact f c d⟩
theorem as7{hp:List aJ}:∀{vs:List V},ack hp vs=true->∀v∈vs,∀c∈v.cellsA,c.lendT hp=true
 | [],_=>by simp
 |v::r,h=>by
  obtain⟨e,d⟩:=as6 (b:=ack hp r) h;intro u a;rcases AN.1 a with rfl|a;·exact d
  ·exact as7 e u a
theorem aIi{f:FuncId}{vs:List V}{hp:List aJ}{v:V}(h:aH P f (vs.map (V.lend hp)) v)(hT:ack hp vs=true)(hs:v.scal=true)(hf:(vs.map (V.lend hp)).all V.flat=true):gc P f vs hp v hp:=by
 obtain⟨hp',h⟩:=h;intro w g D ak m ah L ab;let J:Nat->Nat->Prop:=λb j=>g.I b j∨∃(id:Nat)(k:EK)(xs:List (Ty k)),hp[id]? =some (some [.rw k xs])∧b=g.ρ id∧j<xs.length*k.sz
 let u:Gh:={I:=J,ρ:=g.ρ,O:=λ_=>none,β:=g.β}
 have h0:HR u [] w:=by
  refine⟨by simp,by simp,by simp,by simp,?_,by simp[u]⟩;intro b j p;rcases p with p|⟨id,k,xs,d,rfl,p⟩
  ·exact m.exI b j p
  ·obtain⟨C,e,fz,a1,a2⟩:=(m.obj id _ d).row rfl;have R:=a2.len;simp only[cellsOf] at R;rw[dl] at R;rw[bE a1,Am (by omega)];rfl
 have M:∀N,Up g.I g.ρ N w J g.ρ N w:=λN=>⟨λb j p=>.inl p,λ_ _ _=>rfl,λ_ _=>rfl,Ap _⟩
 have G:∀(x:V)(cv:Value),VRel g.I g.ρ hp.length w x cv->x.lendT hp=true->(x.lend1 hp).flat1=true->VRel J g.ρ 0 w (x.lend1 hp) cv:=by
  intro x cv Z B a;by_cases l:∃k id n,x=.sw k id n
  ·obtain⟨k0,id,n,rfl⟩:=l;simp only[V.lend1] at a ⊢;simp only[V.lendT] at B;split at a
   ·rename_i k xs d;have H:hp[id]? =some (some [.rw k xs]):=by
     rw[Ar] at d;cases z:hp[id]? with
     |none=>rw[z] at d;simp at d
     |some y=>rw[z] at d;simpa using d
    rw[d] at B
    ·obtain rfl:=AJ B;cases Z with
     |sw _ _ _ h1 E h3=>
      obtain⟨C,e,fz,a1,a2⟩:=(m.obj id _ H).row rfl;have R:=a2.len;simp only[cellsOf] at R;rw[dl] at R;have X:∀(i:Nat) x (j:Nat),xs[i]? =some x->j<(enc k x).length->i*k.sz+j<xs.length*k.sz:=by intro i x j l p;rw[cP] at p;exact rt (Ag.1 l).1 p
      refine .sl k (.may false) xs (g.ρ id) 0 xs.length _ rfl E h3 (by simp) (λi j=>C.getD (i*k.sz+j) undef) ?_ ?_ ?_;·intro i x j l p;exact .inr ⟨id,k,xs,H,rfl,by rw[Bv];exact X i x j l p⟩
      ·intro i x j l p;have:=X i x j l p;rw[Bv,bE a1,Am (by omega)];simp[Cg,show i*k.sz+j<C.size by omega]
      ·intro i x j v l hv;have p:=(Ag.1 hv).1;have:=X i x j l p;have aa:=a2.rel (i*k.sz+j) v (C.getD (i*k.sz+j) undef) (by simp only[cellsOf];exact xn xs i j x v l hv) (by
        rw[Am (by omega)];simp[Cg,show i*k.sz+j<C.size by omega])
       exact(abi (ρ':=g.ρ) (N':=0) hv aa).up (M 0)
   ·simp[V.flat1] at a
  ·have e:x.lend1 hp=x:=by
    cases x<;>first|rfl|exact absurd ⟨_,_,_,rfl⟩ l
   rw[e] at a ⊢;exact(Z.flat1 (N':=0) a).up (M 0)
 have aj:∀(x:V)(cv:Value),VRel g.I g.ρ hp.length w x cv->(∀c∈x.cellsA,c.lendT hp=true)->(x.lend hp).flat=true->VRel J g.ρ 0 w (x.lend hp) cv:=by
  intro x cv Z S a;by_cases l:∃cs,x=.agg cs
  ·obtain⟨cs,rfl⟩:=l;simp only[V.cellsA] at S;simp only[V.lend] at a ⊢;simp only[V.flat,V.flat2,List.all_map,AA,Function.comp] at a;cases Z with
   |agg cs us R h1 B hv=>
    refine .agg _ us (by simpa using R) ?_ ?_ ?_;·intro c r;obtain⟨F,af,rfl⟩:=AD.1 r;exact aGD (a F af) (h1 F af)
    ·intro i c cv r q;rw[AF] at r;cases z:cs[i]? with
     |none=>rw[z] at r;simp at r
     |some F=>
      rw[z] at r;simp only[BC,Ae] at r;subst r;have:=B i F cv z q;unfold V.lend1;split
      ·split;·simp[fw]
       ·simp[fw]
      ·exact this
    ·intro i c cv r q;rw[AF] at r;cases z:cs[i]? with
     |none=>rw[z] at r;simp at r
     |some F=>rw[z] at r;simp only[BC,Ae] at r;subst r;exact G F cv (hv i F cv z q) (S F (At z)) (a F (At z))
  ·have e:x.lend hp=x.lend1 hp:=by
    cases x<;>first|rfl|exact absurd ⟨_,rfl⟩ l
   rw[e] at a ⊢;by_cases hy:∃k id n,x=.sw k id n
   ·refine G x cv Z ?_ ?_;·obtain⟨k,id,n,rfl⟩:=hy;exact S _ (by simp[V.cellsA])
    obtain⟨k,id,n,rfl⟩:=hy;simp only[V.lend1] at a ⊢;split at a;·simp[V.flat1]
    ·simp[V.flat,V.flat2,V.flat1] at a
   ·have e:x.lend1 hp=x:=by
     cases x<;>first|rfl|exact absurd ⟨_,_,_,rfl⟩ hy
    rw[e] at a ⊢;exact(Z.flat (ρ':=g.ρ) (N':=0) a).up (M 0)
 have Q:∀(i:Nat) x cv,(vs.map (V.lend hp))[i]? =some x->D[i]? =some cv->VRel u.I u.ρ ([]:List aJ).length w x cv:=by
  intro i x cv l q;have W:=AA.1 hf x (At l);rw[AF] at l;cases z:vs[i]? with
  |none=>rw[z] at l;simp at l
  |some y=>rw[z] at l;simp only[BC,Ae] at l;subst l;exact aj y cv (ab i y cv z q) (as7 hT y (At z)) W
 refine(h w u D (ak.sub rfl (λh=>.inl h) (λ_=>rfl)) h0 (by simpa using ah) (by
  intro x l;have W:=AA.1 hf x l;cases x<;>first|rfl|(simp[V.flat,V.flat2,V.flat1] at W;done)|skip
  rename_i k o xs;obtain⟨y,hy,e⟩:=AD.1 l;by_cases ac:∃k id n,y=.sw k id n
  ·obtain⟨k',id,n,rfl⟩:=ac;simp only[V.lend,V.lend1] at e;split at e;·simp at e;obtain⟨rfl,rfl, -⟩:=e;rfl
   ·simp at e
  ·have e':y.lend hp=y∨∃cs,y=.agg cs:=by
    cases y<;>first|exact .inl rfl|exact .inr ⟨_,rfl⟩|exact absurd ⟨_,_,_,rfl⟩ ac
   rcases e' with e'|⟨cs,rfl⟩
   ·rw[<-e,e'];exact L y hy
   ·simp[V.lend] at e) Q).mono ?_
 rintro ex w' ⟨cv,g₁,rfl,q1,Y,q3,q4⟩;have blk:∀b,b<w.heap.size->w'.heap[b]? =w.heap[b]?:=λb B=>Y.block b B (by simp) rfl
 have A:∀b j,g.I b j->w'.cell? ⟨b,j,none⟩=w.cell? ⟨b,j,none⟩:=λb j p=>Y.up.cell b j (.inl p)
 have up:Up g.I g.ρ hp.length w g.I g.ρ hp.length w':=⟨λ_ _ h=>h,A,λ_ _=>rfl,Ap _⟩
 have am:∀(id:Nat) cs,hp[id]? =some (some cs)->g.ρ id<w.heap.size:=by intro id cs d;obtain⟨ob,h1⟩:=(m.obj id cs d).block;exact(A1.1 h1).1
 refine⟨cv,g,rfl,⟨?_,m.apart,m.notI,m.notO,?_,λb o B=>AI (m.oLt b o B) Y.size⟩,⟨rfl,Y.os,Y.tape,Y.output,Y.size,λb B _ _=>blk b B,up,λ_ _ _ _ _ h=>h,λ_ _ _ h=>h,λ_ cs h=>.inl ⟨cs,h⟩⟩,q3.scal hs,aIh hs _ _ _⟩
 ·intro id cs d;refine(m.obj id cs d).keep (blk _ (am id cs d)) λC e fz h1 E=>?_
  refine⟨E.len,E.plain,E.typed,E.cold,E.one,λj c cv r q=>(E.rel j c cv r q).up up,λj c cv r q=>?_,E.bn⟩;exact dC (E.own j c cv r q) rfl (λb j hi=>⟨hi,A b j hi⟩) λb B=>⟨B,blk b (m.oLt b _ B),λj p=>p⟩
 ·intro b j p;rw[A b j p];exact m.exI b j p
theorem aIj{i:List Nat}{G:Nat->List V->Option (Bool×V)}{Γ:aI}(m:∀f vs v,G f vs=some (true,v)->aH P f vs v)(b:bB P Γ):bB P (yD i G Γ):=by
 intro f vs hp v hp' h;unfold yD at h;cases d:i.elem f with
 |false=>rw[d] at h;exact b _ _ _ _ _ h
 |true=>
  rw[d] at h;simp only[cond_true] at h;split at h;·rename_i r e;rw[AG h] at e;exact b _ _ _ _ _ e
  ·split at h
   ·rename_i c k p;cases a:(k.scal&&(vs.map (V.lend hp)).all V.flat) with
    |false=>rw[a] at h;simp at h
    |true=>rw[a] at h;simp only[cond_true,Ae,Al] at h;obtain⟨j,rfl,rfl⟩:=h;simp only[Ac] at a j;obtain⟨rfl,l⟩:=j;exact aIi (m f _ _ p) l a.1 a.2
   ·simp at h
theorem aja{hp a:List aJ}{v:V}(h:∀i∈v.id1,a[i]? =hp[i]?):v.lend1 a=v.lend1 hp∧v.lendT a=v.lendT hp:=by
 cases v with
 |sw k id n=>have e:=af2 (h id (by simp[V.id1]));simp only[V.lend1,V.lendT,e,and_self]
 |_=>exact⟨rfl,rfl⟩
theorem aGE{hp a:List aJ}{v:V}(h:∀i∈v.cellsA.flatMap V.id1,a[i]? =hp[i]?):v.lend a=v.lend hp:=by
 cases v with
 |agg cs=>
  simp only[V.lend,V.agg.injEq];refine Bk λc d=>(aja λi b=>h i ?_).1
  simp only[V.cellsA,AW];exact⟨c,d,b⟩
 |_=>exact(aja λi b=>h i (by simpa [V.cellsA] using b)).1
theorem aqE{hp a:List aJ}:∀{cs:List V}{b c:Bool},(∀i∈cs.flatMap V.id1,a[i]? =hp[i]?)->c=b->yC a cs c=yC hp cs b
 | [],b,c,_,e=>e
 |v::r,b,c,h,e=>by simp only[yC];rw[(aja (v:=v) λi d=>h i (by simp[d])).2,aqE (cs:=r) (λi d=>h i (by simp only[BV,Aw];exact .inr d)) e]
theorem aqF{hp a:List aJ}:∀{vs:List V},(∀i∈tF vs,a[i]? =hp[i]?)->ack a vs=ack hp vs
 | [],_=>rfl
 |v::r,h=>by simp only[ack];exact aqE (λi b=>h i (by simp only[tF,BV,Aw];exact .inl b)) (aqF λi b=>h i (by simp only[tF,BV,Aw] at b ⊢;exact .inr b))
theorem aFf{l:List Nat}{G:Nat->List V->Option (Bool×V)}{Γ:aI}{k j:List Nat}(C:cE Γ k)(E:(l++k).all (λx=>j.contains x)=true)
  (H:j.all (λx=>C9 x 2000000||k.contains x)=true):cE (yD l G Γ) j:=by
 simp only[DI,Ac] at E;refine⟨?_,?_⟩
 ·intro f vs hp u;have y:l.elem f=false:=by
   cases W:l.elem f with
   |false=>rfl
   |true=>have:=AA.1 E.1 f (by simpa using W);rw[this] at u;simp at u
  have e:∀hp,yD l G Γ f vs hp=Γ f vs hp:=by intro hp;unfold yD;rw[y];rfl
  rw[e,e];exact(C.mono E.2 H).pure f vs hp u
 ·intro f vs hp c v hp' u h;have d:=(C.mono E.2 H).loc f vs;cases y:l.elem f with
  |false=>
   have e:∀hp,yD l G Γ f vs hp=Γ f vs hp:=by intro hp;unfold yD;rw[y];rfl
   rw[e] at h;obtain⟨q,D,F,A⟩:=d _ _ _ _ u h;exact⟨q,D,F,λa b m=>by rw[e];exact A a b m⟩
  |true=>
   unfold yD at h;rw[y] at h;simp only[cond_true] at h;cases B:Γ f vs hp with
   |some r=>rw[B] at h;simp only[Ae] at h;subst h;obtain⟨q,D,F,A⟩:=d _ _ _ _ u B;refine⟨q,D,F,λa b m=>?_⟩;unfold yD;rw[y,A a b m];rfl
   |none=>
    rw[B] at h;simp only at h;split at h
    ·rename_i Y M R;cases p:(M.scal&&(vs.map (V.lend hp)).all V.flat) with
     |false=>rw[p] at h;simp at h
     |true=>
      rw[p] at h;simp only[cond_true,Ae,Al] at h;obtain⟨rfl,rfl,rfl⟩:=h;refine⟨[],by simp,rfl,λa b m=>?_⟩;have O:Γ f vs a=none:=by
       cases S:Γ f vs a with
       |none=>rfl
       |some r=>obtain⟨Z,X,J⟩:=r;obtain⟨q,D,F,A⟩:=d _ _ _ _ u S;have:=A hp b.symm (λi z=>(m i z).symm);rw[this] at B;cases B
      have L:vs.map (V.lend a)=vs.map (V.lend hp):=Bk λv Q=>aGE λi z=>m i (af3 (by simp only[tF,AW] at z ⊢;exact⟨v,Q,z⟩))
      unfold yD;rw[y,O];simp only[cond_true,L,R,p,aqF λi z=>m i (af3 z)];rfl
    ·simp at h
end
section
variable{I I':Nat->Nat->Prop}{ρ ρ':Nat->Nat}{N N':Nat}{w w':World}{P:Program}
def V.dim1:V->V
 | .sl k _ xs=>.sl k (.may false) xs
 |v=>v
def V.dim:V->V
 | .agg cs=>.agg (cs.map V.dim1)
 |v=>v.dim1
theorem VRel.dim1{v:V}{cv:Value}(h:VRel I ρ N w v cv):VRel I ρ N w v.dim1 cv:=by cases v<;>simp only[V.dim1]<;>first|exact h.own (by simp) (by simp)|exact h
theorem VRel.dim{v:V}{cv:Value}(h:VRel I ρ N w v cv):VRel I ρ N w v.dim cv:=by
 by_cases j:∃cs,v=.agg cs
 ·obtain⟨cs,rfl⟩:=j;cases h with
  |agg cs vs k l m j=>
   refine .agg _ vs (by simpa using k) ?_ ?_ ?_;·intro c d;obtain⟨f,a,rfl⟩:=AD.1 d;have:=l f a;cases f<;>exact this
   ·intro i c cv d b;rw[AF,Aq] at d;obtain⟨f,a,rfl⟩:=d;have:=m i f cv a b;cases f<;>first|exact this|simp[V.dim1,fw]
   ·intro i c cv d b;rw[AF,Aq] at d;obtain⟨f,a,rfl⟩:=d;exact(j i f cv a b).dim1
 ·have e:v.dim=v.dim1:=by cases v<;>first|rfl|exact absurd ⟨_,rfl⟩ j
  rw[e];exact h.dim1
theorem aIk{v:V}(h:v.bare=true):v.dim.bare=true:=by cases v<;>first|exact h|rfl
theorem gc.dim{f:FuncId}{vs us:List V}{hp hp':List aJ}{v:V}(h:gc P f us hp v hp')(e:vs.map V.dim=us):gc P f vs hp v hp':=by subst e;intro w g b l k d a c;refine h w g b l k (by simpa using d) (by intro x j;obtain⟨y,m,rfl⟩:=AD.1 j;exact aIk (a y m)) ?_;intro i x cv j p;rw[AF,Aq] at j;obtain⟨y,m,rfl⟩:=j;exact(c i y cv m p).dim
theorem aH.dim{f:FuncId}{vs us:List V}{v:V}(h:aH P f us v)(e:vs.map V.dim=us):aH P f vs v:=by obtain⟨hp',h⟩:=h;exact⟨hp',h.dim e⟩
def wB(P:Program)(f:FuncId)(vs cs:List V):Prop:=gc P f vs [] (.ptr 0 0) [some cs]
theorem wB.frame{f:FuncId}{vs cs:List V}(h:wB P f vs cs)(hf:vs.all V.flat=true)(hc:cs.all V.flatO=true)(hp:List aJ):gc P f vs hp (.ptr hp.length 0) (hp++[some cs]):=by
 intro w g W af C ab M ac;let r:Gh:={I:=g.I,ρ:=g.ρ,O:=λ_=>none,β:=g.β}
 have h0:HR r [] w:=⟨by simp,by simp,by simp,by simp,C.exI,by simp[r]⟩
 refine(h w r W (af.sub rfl (λh=>h) (λh=>by simp[r,h])) h0 ab M (λi x cv hx q=>(ac i x cv hx q).flat (AA.1 hf x (At hx)))).mono ?_;rintro e w' ⟨cv,g₁,rfl,Z,D,q3,q4⟩;have blk:∀b,b<w.heap.size->w'.heap[b]? =w.heap[b]?:=λb p=>D.block b p (by simp) rfl
 have B:∀b j,b<w.heap.size->g₁.I b j->g.I b j:=λb j p R=>D.iSame b j p (by simp) rfl R
 have Y:∀b,b<w.heap.size->g₁.O b=none:=λb p=>D.oSame b p (by simp) rfl
 have ad:w.heap.size<=g₁.ρ 0:=by
  rcases D.live 0 cs rfl with⟨_,h⟩|⟨_,h|h|⟨_,_,h,_⟩⟩
  ·simp at h
  ·exact h
  ·simp[r] at h
  ·simp at h
 let d:Gh:={I:=g₁.I,ρ:=λi=>if i=hp.length then g₁.ρ 0 else g.ρ i,β:=g.β,O:=λb=>if b<w.heap.size then g.O b else (match g₁.O b with
  |some (.cell i j)=>if i=0 then some (.cell hp.length j) else none
  |some .res=>some .res
  |_=>none)}
 have k:∀i,i<hp.length->d.ρ i=g.ρ i:=by intro i R;simp only[d];rw[if_neg (by omega)]
 have m:d.ρ hp.length=g₁.ρ 0:=by simp[d]
 have up:Up g.I g.ρ hp.length w d.I d.ρ (hp++[some cs]).length w':=⟨D.up.mono,D.up.cell,k,by simp⟩
 have F:∀(id:Nat) cs,hp[id]? =some (some cs)->g.ρ id<w.heap.size:=by intro id cs a;obtain⟨ob,J⟩:=(C.obj id cs a).block;exact(A1.1 J).1
 have l:∀(id:Nat) cs,hp[id]? =some (some cs)->id<hp.length:=λid cs a=>(Ag.1 a).1
 have key:∀(id:Nat) c,(hp++[some cs])[id]? =some (some c)->(id=hp.length∧c=cs)∨hp[id]? =some (some c):=by
  intro id c a;rcases AH id hp.length with Q|Q;·rw[Ax Q] at a;exact .inr a
  ·rw[Au Q] at a;have:id-hp.length=0:=by
    have:=(Ag.1 a).1;simp at this;omega
   rw[this] at a;exact .inl ⟨by omega,by simpa using a.symm⟩
 have S:∀id j v cv,id<hp.length->aO g w (.cell id j) v cv->aO d w' (.cell id j) v cv:=by intro id j v cv a ho;refine dC ho rfl (λb j R=>⟨D.up.mono b j R,D.up.cell b j R⟩) ?_;intro b p;have z:=C.oLt b _ p;exact⟨by simp[d,z,p],blk b z,λj y=>B b j z y⟩
 refine⟨cv,d,rfl,⟨?_,?_,?_,?_,Z.exI,?_⟩,⟨rfl,D.os,D.tape,D.output,D.size,λb p _ _=>blk b p,up,λb j p _ _ R=>B b j p R,?_,?_⟩,?_,?_⟩
 ·intro id c a;rcases key id c a with⟨rfl,rfl⟩|a
  ·refine(Z.obj 0 c rfl).keep (by rw[m]) λag e fz a1 X=>?_
   have hr:=amG hc;refine⟨X.len,X.plain,by rw[abU hr];simp,X.cold,X.one,?_,?_,?_⟩;·intro j H cv y q;exact(X.rel j H cv y q).flatO (AA.1 hc H (At (by rw[nL hr] at y;exact y)))
   ·intro j H cv y q;refine(X.own j H cv y q).reloc D.beta.symm rfl λb p=>?_
    have ah:¬b<w.heap.size:=by intro z;rw[Y b z] at p;cases p
    simp[d,p,ah]
   ·intro j E n y;rw[m];exact X.bn j E n y
  ·have Q:=l id c a;refine(C.obj id c a).keep (by rw[k id Q];exact blk _ (F id c a)) λag e fz J u=>?_
   exact⟨u.len,u.plain,u.typedUp rfl k (by simp) rfl,u.cold,u.one,λj c cv hc q=>(u.rel j c cv hc q).up up,λj c cv hc q=>S _ _ _ _ Q (u.own j c cv hc q),λj E n y=>by rw[k id Q];exact u.bn j E n y⟩
 ·intro id A c H a L ae;rcases key id c a with⟨rfl,rfl⟩|J
  ·rcases key A H L with⟨rfl,rfl⟩|u;·exact absurd rfl ae
   ·rw[m,k A (l A H u)];have:=F A H u;omega
  ·rcases key A H L with⟨rfl,rfl⟩|u;·rw[m,k id (l id c J)];have:=F id c J;omega
   ·rw[k id (l id c J),k A (l A H u)];exact C.apart _ _ _ _ J u ae
 ·intro id c a j y;rcases key id c a with⟨rfl,rfl⟩|a;·rw[m] at y;exact Z.notI 0 c rfl j y
  ·rw[k id (l id c a)] at y;exact C.notI id c a j (B _ j (F id c a) y)
 ·intro id c a;rcases key id c a with⟨rfl,rfl⟩|a
  ·rw[m];have J:=Z.notO 0 c rfl;have u:¬g₁.ρ 0<w.heap.size:=by omega
   simp[d,J,u]
  ·rw[k id (l id c a)];have:=F id c a;simp[d,this,C.notO id c a]
 ·intro b o p;simp only[d] at p;split at p;·rename_i z;exact AI z D.size
  ·split at p;·rename_i G;exact Z.oLt b _ G
   ·rename_i G;exact Z.oLt b _ G
   ·simp at p
 ·intro b p _ hO;simp[d,p,hO]
 ·intro id c a;rcases key id c a with⟨rfl,rfl⟩|a;·exact .inr ⟨Ap _,.inl (by rw[m];exact ad)⟩
  ·exact .inl ⟨c,a⟩
 ·cases q3 with
  |ptr _ _ _=>rw[<-m];exact .ptr _ _ (by simp)
 ·simp[aO]
theorem wB.dim{f:FuncId}{vs us cs:List V}(h:wB P f us cs)(e:vs.map V.dim=us):wB P f vs cs:=gc.dim h e
theorem bq.dim{f:FuncId}{vs us:List V}{css css':List (List V)}{v:V}(h:bq P f us css v css')(e:vs.map V.dim=us):bq P f vs css v css':=by obtain⟨b,rest,a⟩:=h;exact⟨b,rest,a.dim e⟩
def V.dimR:V->V
 | .tup vs=>.tup (vs.map V.dim)
 |v=>v.dim
theorem VRel.dimR{v:V}{cv:Value}(h:VRel I ρ N w v cv):VRel I ρ N w v.dimR cv:=by
 by_cases a:∃cs,v=.tup cs
 ·obtain⟨cs,rfl⟩:=a;cases h with
  |tup cs vs j a=>refine .tup _ vs (by simpa using j) ?_;intro i c cv f d;rw[AF,Aq] at f;obtain⟨k,b,rfl⟩:=f;exact(a i k cv b d).dim
 ·have e:v.dimR=v.dim:=by cases v<;>first|rfl|exact absurd ⟨_,rfl⟩ a
  rw[e];exact h.dim
theorem aO.dimR{g:Gh}{a:Occ}{v:V}{cv:Value}(h:aO g w a v cv):aO g w a v.dimR cv:=by cases v<;>first|exact h|simp[V.dimR,V.dim,V.dim1,aO]
theorem gc.dimR{f:FuncId}{vs:List V}{hp hp':List aJ}{v:V}(h:gc P f vs hp v hp'):gc P f vs hp v.dimR hp':=by intro w g b j i c a d;refine(h w g b j i c a d).mono ?_;rintro e w' ⟨cv,k,rfl,m,p,l,q⟩;exact⟨cv,k,rfl,m,p,l.dimR,q.dimR⟩
theorem aH.dimR{f:FuncId}{vs:List V}{v u:V}(h:aH P f vs v)(e:v.dimR=u):aH P f vs u:=by subst e;obtain⟨hp',h⟩:=h;exact⟨hp',h.dimR⟩
theorem bq.dimR{f:FuncId}{vs:List V}{css css':List (List V)}{v u:V}(h:bq P f vs css v css')(e:v.dimR=u):bq P f vs css u css':=by subst e;obtain⟨b,rest,a⟩:=h;exact⟨b,rest,a.dimR⟩
abbrev azD:=Nat->List V->Option (Bool×List V)
def af5(G:azD)(Γ:aI):aI:=λf vs hp=>
 match G f vs with
 |some (c,cs)=>cond (vs.all V.flat&&cs.all V.flatO) (some (c,.ptr hp.length 0,hp++[some cs])) none
 |none=>Γ f vs hp
theorem aIl{G:azD}{Γ:aI}(d:∀f vs cs,G f vs=some (true,cs)->wB P f vs cs)(b:bB P Γ):bB P (af5 G Γ):=by
 intro f vs hp v hp' h;unfold af5 at h;split at h
 ·rename_i c cs e;cases a:(vs.all V.flat&&cs.all V.flatO) with
  |false=>rw[a] at h;simp at h
  |true=>rw[a] at h;simp only[cond_true,Ae,Al] at h;obtain⟨rfl,rfl,rfl⟩:=h;simp only[Ac] at a;exact(d f vs cs e).frame a.1 a.2 hp
 ·exact b _ _ _ _ _ h
theorem aFg{G:azD}{Γ:aI}{a:List Nat}(l:∀f vs,a.contains f=false->G f vs=none)(j:∀f vs,a.contains (f+2000000)=true->G f vs=none)(b:cE Γ a):cE (af5 G Γ) a:=by
 refine⟨?_,?_⟩
 ·intro f vs hp d;have e:∀hp,af5 G Γ f vs hp=Γ f vs hp:=by
   intro hp;unfold af5;rw[l f vs d]
  rw[e,e];exact b.pure f vs hp d
 ·intro f vs hp c v hp' d h;have e:∀hp,af5 G Γ f vs hp=Γ f vs hp:=by
   intro hp;unfold af5;rw[j f vs d]
  rw[e] at h;obtain⟨q,r,u,p⟩:=b.loc _ _ _ _ _ _ d h;exact⟨q,r,u,λi k m=>by rw[e];exact p i k m⟩
def pick{R:Type}[Inhabited R](C:R->Prop):R:= @Classical.epsilon R ⟨default⟩ C
def can{R:Type}[Inhabited R](C:R->Prop):Bool:= @decide (C (pick C)) (Dm _)
theorem aGF{R:Type}[Inhabited R]{C:R->Prop}(h:∃r,C r):can C=true:= @decide_eq_true _ (Dm _) (Classical.epsilon_spec h)
theorem as8{R:Type}[Inhabited R]{C:R->Prop}(h:can C=true):C (pick C):= @of_decide_eq_true _ (Dm _) h
def pk{R a:Type}[Inhabited R](C:R->Prop)(f:R->a):Option (Bool×a):=some (can C,f (pick C))
def aA{R a:Type}[Inhabited a](C:a->Prop)(K:a->Option R):Option R:=chk (can C) (K (pick C))
end
theorem nO{α R:Type}{B:(α->Option R)->α->Option R}(a:α->Prop)(b:α->Nat)(F:α->R)
  (step:∀(rec:α->Option R) x,a x->(∀y,a y->b y<b x->rec y=some (F y))->B rec x=some (F x)):∀n x,a x->b x<n->aN n B x=some (F x)
 |0,_,_,h=>by omega
 |n+1,x,d,f=>step (aN n B) x d λy e c=>nO a b F step n y e (by omega)
theorem tL{R:Type}{c:Bool}(h:c=true)(x:Option R):chk c x=x:=by rw[h];rfl
theorem aed{R:Type}(x:Option R):chk true x=x:=rfl
theorem aAe(k:IntKind)(b:k.signed=false)(a:Nat):k.wrap (a:Int)=((a%2^k.bits:Nat):Int):=by cases k<;>simp[AU] at b<;>simp[Ab,AU,A8]
theorem vN(k:IntKind)(b:k.signed=false)(a:Nat)(h:a<2^k.bits):k.wrap (a:Int)=(a:Int):=by rw[aAe k b,Bn h]
theorem tM(n:Int):IntKind.u64.wrap n=n%18446744073709551616:=by simp[Ab,A8,AU]
theorem qn(n:Int):IntKind.u32.wrap n=n%4294967296:=by simp[Ab,A8,AU]
theorem aEk(n:Int):IntKind.u8.wrap n=n%256:=by simp[Ab,A8,AU]
theorem mD(n:Int):IntKind.i64.wrap n=(n+9223372036854775808)%18446744073709551616-9223372036854775808:=by simp[Ab,A8,AU];omega
theorem qo(n:Int):IntKind.i32.wrap n=(n+2147483648)%4294967296-2147483648:=by simp[Ab,A8,AU];omega
theorem aQ(n:Int)(h:-9223372036854775808<=n∧n<=9223372036854775807):IntKind.i64.wrap n=n:=by rw[mD];omega
theorem cp(n:Int)(h:0<=n∧n<=18446744073709551615):IntKind.u64.wrap n=n:=by rw[tM];omega
theorem aqG(n:Int)(h:0<=n∧n<=4294967295):IntKind.u32.wrap n=n:=by rw[qn];omega
theorem jW(n:Int)(h:0<=n∧n<=255):IntKind.u8.wrap n=n:=by rw[aEk];omega
theorem amK(n a:Nat):(AV n (a:Int)).toNat=a%2^n:=by simp
theorem aAf(k:IntKind)(e:k.signed=false)(a b:Nat)(d:a<2^k.bits)(c:b<2^k.bits):bC .xor k a b=((a ^^^b:Nat):Int):=by unfold bC;simp only[BitVec.toNat_xor,amK,Bn d,Bn c];exact vN k e _ (Nat.xor_lt_two_pow d c)
theorem aAg(k:IntKind)(e:k.signed=false)(a b:Nat)(d:a<2^k.bits)(c:b<2^k.bits):bC .and k a b=((a&&& b:Nat):Int):=by unfold bC;simp only[BitVec.toNat_and,amK,Bn d,Bn c];exact vN k e _ (Nat.and_lt_two_pow a c)
theorem au7(k:IntKind)(e:k.signed=false)(a b:Nat)(d:a<2^k.bits)(c:b<2^k.bits):bC .or k a b=((a|||b:Nat):Int):=by unfold bC;simp only[BitVec.toNat_or,amK,Bn d,Bn c];exact vN k e _ (Nat.or_lt_two_pow d c)
theorem qp(k:IntKind)(a n:Nat)(h:n<=k.bits):ey k (a:Int) (n:Int)=((a / 2^n:Nat):Int):=by
 unfold ey;rw[AC,Nat.min_eq_left h,Cb _ (DA (DR (by omega)))]
 norm_cast
theorem arx(k:IntKind)(b:k.signed=false)(a n:Nat)(h:n<=k.bits):iu k (a:Int) (n:Int)=((a*2^n%2^k.bits:Nat):Int):=by
 unfold iu;rw[AC,Nat.min_eq_left h,<-aAe k b]
 norm_cast
theorem ajb(a b:Nat):BO (a:Int) (b:Int)=((a / b:Nat):Int):=by rw[B9 (by omega)];norm_cast
theorem xp(a b:Nat):Bd (a:Int) (b:Int)=((a%b:Nat):Int):=by rw[Bh (by omega)];norm_cast
def nF(w:World):Gh:={I:=λb j=>(w.cell? ⟨b,j,none⟩).isSome=true,ρ:=id,O:=λ_=>none,β:=0}
theorem aGG{P:Program}{f:FuncId}{vs:List V}(h:aH P f vs (.bool true)){a:Array Value}{w:World}(l:vs.length=a.size)(m:∀x∈vs,x.bare=true)
  (p:∀(i:Nat) x cv,vs[i]? =some x->a[i]? =some cv->VRel (nF w).I id 0 w x cv)
  (c:au0≠[]->∃t,w.heap[agV]? =some (.cells au0.toArray t (0,0)):=by simp[au0]):
  Calls P f a w λe w'=>e=.returned (.bool true)∧RowKit.Below w.heap.size w w':=by
 obtain⟨hp',h⟩:=h;have u:agY P {nF w with β:=lN P} w:=⟨rfl,λd=>by obtain⟨t,c⟩:=c d;have l:0<au0.length:=Cr.2 d;refine⟨?_,rfl,(A1.1 c).1,t,c⟩;simp only[nF];rw[bE c];simp[l]⟩
 refine(h w {nF w with β:=lN P} a u ⟨by simp,by simp,by simp,by simp,λb j q=>q,by simp[nF]⟩ l m p).mono ?_;rintro e w' ⟨cv,v,rfl,_,k,r,_⟩;cases r;exact⟨rfl,k.os,k.tape,k.output,k.size,λb m=>k.block b m (by simp) rfl⟩
theorem dt{p:Prop}[Decidable p](h:p):decide p=true:=decide_eq_true h
theorem df{p:Prop}[Decidable p](h:¬p):decide p=false:=decide_eq_false h
theorem bt{a b:Int}(h:a=b):(a==b)=true:=by simp[h]
theorem bf{a b:Int}(h:a≠b):(a==b)=false:=by simp[h]
theorem it{α:Type}{p:Prop}[Decidable p]{a b:α}(h:p):(if p then a else b)=a:=if_pos h
theorem iF{α:Type}{p:Prop}[Decidable p]{a b:α}(h:¬p):(if p then a else b)=b:=if_neg h
theorem aEl{a b:Int}(h:0<=a):BO a b=a / b:=B9 h
theorem aEm{a b:Int}(h:0<=a):Bd a b=a%b:=Bh h
theorem axf{α a:Type}(f:α->a)(x:α):Option.map f (some x)=some (f x):=rfl
theorem aqH(n:Int)(h:-2147483648<=n∧n<=2147483647):IntKind.i32.wrap n=n:=by rw[qo];omega
theorem amL{o:Option (V×List aJ)}{v:V}(h:o.map (·.1)=some v):∃hp,o=some (v,hp):=by
 cases o with
 |none=>simp at h
 |some p=>obtain⟨a,hp⟩:=p;simp at h;subst h;exact⟨hp,rfl⟩
theorem af6{α:Type}{B:(α->Option (V×List aJ))->α->Option (V×List aJ)}(a:α->Prop)(b:α->Nat)(F:α->V)
  (step:∀(rec:α->Option (V×List aJ)) x,a x->(∀y,a y->b y<b x->(rec y).map (·.1)=some (F y))->(B rec x).map (·.1)=some (F x)):
  ∀n x,a x->b x<n->(aN n B x).map (·.1)=some (F x)
 |0,_,_,h=>by omega
 |n+1,x,d,f=>step (aN n B) x d λy e c=>af6 a b F step n y e (by omega)
theorem oL{n:Int}(h:(V.int .u64 n).fits):0<=n∧n<=18446744073709551615:=by simpa [V.fits,BU,Bz,AU,A8] using h
theorem aAh{n:Int}(h:(V.int .u32 n).fits):0<=n∧n<=4294967295:=by simpa [V.fits,BU,Bz,AU,A8] using h
theorem abk{n:Int}(h:(V.int .i64 n).fits):-9223372036854775808<=n∧n<=9223372036854775807:=by simpa [V.fits,BU,Bz,AU,A8] using h
theorem qq{l:List UInt8}(h:(V.str l).fits):l.length<=9223372036854775807:=h
theorem yE{cs:List V}(h:(V.agg cs).fits)(n:Int)(a:V.int .i64 n∈cs):-9223372036854775808<=n∧n<=9223372036854775807:=by have:=h _ a;simpa [BU,Bz,AU,A8] using this
theorem amM{cs:List V}(h:(V.agg cs).fits)(n:Int)(a:V.int .u64 n∈cs):0<=n∧n<=18446744073709551615:=by have:=h _ a;simpa [BU,Bz,AU,A8] using this
theorem yF{cs:List V}(h:(V.agg cs).fits)(l:List UInt8)(a:V.str l∈cs):l.length<=9223372036854775807:=h _ a
theorem iv{a:Int}{n:Nat}(h:a=(n:Int)):a.toNat=n:=by subst h;rfl
theorem aAi{α:Type}(n:Int)(l:List α):(ixl n l=true)=(0<=n∧n<(l.length:Int)):=by simp[ixl]
theorem ixt{α:Type}{n:Int}{l:List α}(h:0<=n∧n<(l.length:Int)):ixl n l=true:=by rw[aAi];exact h
theorem aX:type_of% @dt∧type_of% @ixt∧type_of% @df∧type_of% @it∧type_of% @iF∧type_of% @bt∧type_of% @bf∧type_of% @cond_true.{1}∧type_of% @cond_false.{1}∧type_of% @axf∧type_of% @aed∧type_of% @Bool.and_true∧type_of% @Bool.true_and∧type_of% @Bool.and_false∧type_of% @Bool.false_and∧type_of% @Bool.or_true∧type_of% @Bool.true_or∧type_of% @Bool.or_false∧type_of% @Bool.false_or∧type_of% @Bool.not_true∧type_of% @Bool.not_false∧type_of% @if_true.{1}∧type_of% @if_false.{1}∧type_of% @beq_self_eq_true.{0}∧type_of% @aQ∧type_of% @cp∧type_of% @aqH∧type_of% @aqG∧type_of% @jW∧type_of% @aEl∧type_of% @aEm∧type_of% @Int.toNat_natCast∧type_of% @List.take_length.{0}∧type_of% @List.drop_zero.{0}∧type_of% @or_true∧type_of% @true_or∧type_of% @or_false∧type_of% @false_or∧type_of% @or_self:=⟨@dt, @ixt, @df, @it, @iF, @bt, @bf, @cond_true.{1}, @cond_false.{1}, @axf, @aed, @Bool.and_true, @Bool.true_and, @Bool.and_false, @Bool.false_and, @Bool.or_true, @Bool.true_or, @Bool.or_false, @Bool.false_or, @Bool.not_true, @Bool.not_false, @if_true.{1}, @if_false.{1}, @beq_self_eq_true.{0}, @aQ, @cp, @aqH, @aqG, @jW, @aEl, @aEm, @Int.toNat_natCast, @List.take_length.{0}, @List.drop_zero.{0}, @or_true, @true_or, @or_false, @false_or, @or_self⟩
theorem bnl:type_of% @aAi∧type_of% @decide_eq_true_eq∧type_of% @decide_eq_false_iff_not∧type_of% @Bool.and_eq_true∧type_of% @Bool.and_eq_false_iff∧type_of% @Bool.or_eq_true∧type_of% @Bool.or_eq_false_iff∧type_of% @Bool.not_eq_true'∧type_of% @Bool.not_eq_false'∧type_of% @beq_iff_eq.{0}∧type_of% @beq_eq_false_iff_ne.{0}∧type_of% @Int.not_lt∧type_of% @Int.not_le∧type_of% @Nat.not_lt∧type_of% @Nat.not_le∧type_of% @ne_eq.{1}∧type_of% @Nat.beq_eq∧type_of% @true_and∧type_of% @and_true∧type_of% @Bool.not_not:=⟨@aAi, @decide_eq_true_eq, @decide_eq_false_iff_not, @Bool.and_eq_true, @Bool.and_eq_false_iff, @Bool.or_eq_true, @Bool.or_eq_false_iff, @Bool.not_eq_true', @Bool.not_eq_false', @beq_iff_eq.{0}, @beq_eq_false_iff_ne.{0}, @Int.not_lt, @Int.not_le, @Nat.not_lt, @Nat.not_le, @ne_eq.{1}, @Nat.beq_eq, @true_and, @and_true, @Bool.not_not⟩
def Tot{R:Type}(x:Option R)(Q:R->Prop):Prop:=∃r,x=some r∧Q r
section
variable{R:Type}{Q:R->Prop}
theorem aIm{x:Option R}{a:R->Prop}(h:Tot x Q)(b:∀r,Q r->a r):Tot x a:=by obtain⟨r,e,h⟩:=h;exact⟨r,e,b r h⟩
theorem bj{α:Type}{B:(α->Option R)->α->Option R}(Inv:α->Prop)(b:α->Nat)
  (step:∀(a:α->Option R) x,Inv x->(∀y,Inv y->b y<b x->Tot (a y) Q)->Tot (B a x) Q):∀n x,Inv x->b x<n->Tot (aN n B x) Q
 |0,_,_,h=>by omega
 |n+1,x,d,f=>step (aN n B) x d λy e c=>bj Inv b step n y e (by omega)
theorem aG{r:R}(h:Q r):Tot (some r) Q:=⟨r,rfl,h⟩
theorem aD{c:Bool}{x:Option R}(a:c=true)(h:Tot x Q):Tot (chk c x) Q:=by subst a;exact h
theorem aB{b:Bool}{x y:Option R}(c:b=true->Tot x Q)(a:b=false->Tot y Q):Tot (cond b x y) Q:=by
 cases b with
 |true=>exact c rfl
 |false=>exact a rfl
theorem aJ1{R:Type}[Inhabited R]{C:R->Prop}(h:∃r,C r):C (pick C):=as8 (aGF h)
theorem aY{a:Type}[Inhabited a]{C:a->Prop}{K:a->Option R}(h:∃r,C r)(b:∀r,C r->Tot (K r) Q):Tot (aA C K) Q:=
 aD (aGF h) (b _ (aJ1 h))
end
def cY{R:Type}(C:Nat->St->Option R)(Γ:aI)(n:Nat):IR->(Ex->St->Option R)->St->Option R
 | .skip,K,s=>K .normal s
 | .bad,_,_=>none
 | .reg e _,K,s=>runOps Γ e (K .normal) s
 | .seq a b,K,s=>cY C Γ n a (kseq (cY C Γ n b) K) s
 | .cond c a b,K,s=>match c.ev s with
   | .bool t=>cond t (cY C Γ n a K (c.fix s true)) (cY C Γ n b K (c.fix s false))
   |_=>none
 | .block id a,K,s=>cY C Γ n a (aP id K) s
 | .loop d m a,K,s=>C (d.getLastD 0) (s.keep d m)
 | .cut d m a,K,s=>C (d.getLastD 0) (s.keep d m)
 | .gh g a,K,s=>match g.step s with
   |some (c,s')=>chk c (cY C Γ n a K s')
   |none=>none
 | .ope o a,K,s=>cond (aEV s o) (match (jJ.fz o).step s with
   |some (c,s')=>chk c (cY C Γ n a K s')
   |none=>none) (match (jJ.opn o).step s with
   |some (c,s')=>chk c (cY C Γ n a K s')
   |none=>none)
 | .ghp g a,K,s=>cY C Γ n a (apg g K) s
 | .exit id,K,s=>K (.exit id) s
 | .ret,K,s=>K .ret s
def cU{R:Type}(Γ:aI)(n:Nat):IR->(Ex->St->Option R)->List (Nat×(St->Option R))
 | .seq a b,K=>cU Γ n a (kseq (run Γ n b) K)++cU Γ n b K
 | .cond _ a b,K=>cU Γ n a K++cU Γ n b K
 | .block id a,K=>cU Γ n a (aP id K)
 | .loop c m a,K=>[(c.getLastD 0,λs=>aZ n (λd s=>run Γ n a (bu d c m K) s) s)]
 | .cut c m a,K=>[(c.getLastD 0,λs=>run Γ n a K s)]
 | .gh g a,K=>cU Γ n a K
 | .ope o a,K=>cU Γ n a K
 | .ghp g a,K=>cU Γ n a (apg g K)
 |_,_=>[]
theorem au8{R:Type}{C:Nat->St->Option R}{Γ:aI}{n:Nat}:∀(ir:IR)(K:Ex->St->Option R),(∀p∈cU Γ n ir K,C p.1=p.2)->∀s,cY C Γ n ir K s=run Γ n ir K s:=by
 intro ir;induction ir with
 |seq a b d j=>
  intro K h s;have e:kseq (cY C Γ n b) K=kseq (run Γ n b) K:=by
   funext e s;cases e with
   |normal=>exact j K (λp hp=>h p (Cd _ hp)) s
   |_=>rfl
  show cY C Γ n a (kseq (cY C Γ n b) K) s=run Γ n a (kseq (run Γ n b) K) s;rw[e];exact d _ (λp hp=>h p (BS _ hp)) s
 |cond c a b d j=>intro K h s;simp only[cY,run,d K (λp hp=>h p (BS _ hp)),j K (λp hp=>h p (Cd _ hp))];cases c.ev s<;>rfl
 |block id a d=>intro K h s;exact d _ h s
 |loop i m a d=>intro K h s;have:=h (i.getLastD 0,_) (Av.2 rfl);simp only[cY,run];rw[this]
 |cut i m a d=>intro K h s;have:=h (i.getLastD 0,_) (Av.2 rfl);simp only[cY,run];rw[this]
 |gh g a d=>intro K h s;simp only[cY,run,d K h];cases g.step s<;>rfl
 |ope o a d=>intro K h s;simp only[cY,run,d K h];cases (jJ.fz o).step s<;>cases (jJ.opn o).step s<;>rfl
 |ghp g a d=>intro K h s;exact d _ h s
 |_=>intro K h s;rfl
def iw{R:Type}:List (Nat×(St->Option R))->Nat->St->Option R
 | [],_=>λ_=>none
 |(j,f)::l,i=>cond (A4 j i) f (iw l i)
def ajc:List Nat->Bool
 | []=>true
 |i::l=> !(l.any (A4 i))&&ajc l
theorem cb{R:Type}:∀{l:List (Nat×(St->Option R))},ajc (l.map BP)=true->∀p∈l,iw l p.1=p.2
 | [],_,p,hp=>by simp at hp
 |(j,f)::l,h,p,hp=>by
  simp only[AL,ajc,Ac,BW,Dr] at h;rcases AN.1 hp with rfl|hp;·simp[iw]
  ·have a:A4 j p.1=false:=by
    cases b:A4 j p.1 with
    |false=>rfl
    |true=>have:=h.1 p.1 (AD.2 ⟨p,hp,rfl⟩);exact absurd b this
   simp only[iw,a,cond_false];exact cb h.2 p hp
theorem nP{R:Type}{C:Nat->St->Option R}{Γ:aI}{n:Nat}{b:IR}{K a:Ex->St->Option R}(h:∀p∈cU Γ n b K,C p.1=p.2)(e:a=K):kseq (cY C Γ n b) a=kseq (run Γ n b) K:=by
 subst e;funext e s;cases e with
 |normal=>exact au8 b a h s
 |_=>rfl
theorem eK{R:Type}{i:Nat}{K a:Ex->St->Option R}(e:a=K):aP i a=aP i K:=by rw[e]
theorem jm{R:Type}{a:St->Option R}{b:List Nat}{m:Nat}{K c:Ex->St->Option R}(e:c=K):bu a b m c=bu a b m K:=by rw[e]
theorem dU{R:Type}{C:Nat->St->Option R}{l a:List (Nat×(St->Option R))}(h:∀p∈l++a,C p.1=p.2):∀p∈l,C p.1=p.2:=λp hp=>h p (BS _ hp)
theorem kL{R:Type}{C:Nat->St->Option R}{l a:List (Nat×(St->Option R))}(h:∀p∈l++a,C p.1=p.2):∀p∈a,C p.1=p.2:=λp hp=>h p (Cd _ hp)
theorem ff{R:Type}{C:Nat->St->Option R}{Γ:aI}{n:Nat}{ir:IR}{K a:Ex->St->Option R}(h:∀p∈cU Γ n ir K,C p.1=p.2)(e:a=K)(s:St):run Γ n ir K s=cY C Γ n ir a s:=by subst e;exact(au8 ir a h s).symm
abbrev Ro:=Option (V×List aJ)
abbrev Bs:=List UInt8
abbrev Bss:=List (List UInt8)
def U(n:Nat)(l:List V):List V:=List.replicate n .undef++l
def Pp(o:IOp):GOp:=⟨none,o,none⟩
def Mv(d x:Nat):GOp:=⟨none,.mov d (.t x),none⟩
def Fa(d o x:Nat):GOp:=⟨none,.fad d o (.t x),none⟩
def Ld(d n:Nat)(a:Bool)(x:Nat):GOp:=⟨none,.lde d n a (.t x),none⟩
def Pa(d c x:Nat):GOp:=⟨none,.pick d (.t c) (.t x) (.c (.bool false)),none⟩
def Po(d c x:Nat):GOp:=⟨none,.pick d (.t c) (.c (.bool true)) (.t x),none⟩
def Bi(d:Nat)(o:BinOp)(x y:Nat):GOp:=⟨none,.bin d o (.t x) (.t y),none⟩
def Bc(d:Nat)(o:BinOp)(x:Nat)(n:Int):GOp:=⟨none,.bin d o (.t x) (.c (.int .i64 n)),none⟩
def Ex_(d i x:Nat):GOp:=⟨none,.ext d i (.t x),none⟩
def Nk(d x:Nat):GOp:=⟨none,.nck (some d) (.t x),none⟩
instance (n:Nat):OfNat ASrc n:=⟨.t n⟩
instance (n:Nat):OfNat (Option Nat) n:=⟨some n⟩
def Rg(l:List GOp):IR:=.reg l []
def Rs(l:List GOp)(a:IR):IR:=.seq (.reg l []) a
def Sq(a b:IR):IR:=.seq a b
def Cn(c:Nat)(a b:IR):IR:=.cond (.t c) a b
def Gt(g:Nat)(o:IOp):GOp:=⟨some (g,true),o,none⟩
def Gf(g:Nat)(o:IOp):GOp:=⟨some (g,false),o,none⟩
def Fo(r w:List Nat)(o:IOp):GOp:=⟨none,o,some (r,w)⟩
def Mi(d:Nat)(n:Int):GOp:=⟨none,.mov d (.c (.int .i64 n)),none⟩
def Ms(d:Nat)(s:List UInt8):GOp:=⟨none,.mov d (.c (.str s)),none⟩
def Mb(d:Nat)(b:Bool):GOp:=⟨none,.mov d (.c (.bool b)),none⟩
def Lq(d x:Nat):GOp:=⟨none,.lde d 1 false (.t x),none⟩
def Lo(d x:Nat):GOp:=⟨none,.ld d 1 false false (.t x),none⟩
def Ca(d f:Nat)(l:List ASrc):GOp:=⟨none,.call (some d) f l,none⟩
def Ix(d:Nat)(k:EK)(x i:Nat):GOp:=⟨none,.ixa d k (.t x) (.t i),none⟩
def Ll(d x:Nat):GOp:=⟨none,.lenl d (.t x),none⟩
def Un(d x:Nat):GOp:=⟨none,.un d .not (.t x),none⟩
def Bx(d x:Nat):GOp:=⟨none,.boxe d (.t x),none⟩
def Fz(r n v:Nat):GOp:=⟨none,.frz none r n (.t v),none⟩
def Sv(n x v:Nat):GOp:=⟨none,.st none n (.t x) (.t v),none⟩
def Sk(n x v:Nat):GOp:=⟨none,.st none n (.t x) (.tk v),none⟩
def kI(n:Int):ASrc:=.c (.int .i64 n)
def kU(n:Int):ASrc:=.c (.int .u64 n)
def kS(s:List UInt8):ASrc:=.c (.str s)
def kB(b:Bool):ASrc:=.c (.bool b)
abbrev TS:=St->Ro
abbrev TE:=Ex->TS
abbrev TRr:=IR->TE->TS
abbrev vI(n:Int):V:=.int .i64 n
abbrev vU(n:Int):V:=.int .u64 n
abbrev vS:V:=.str []
abbrev vB(b:Bool):V:=.bool b
abbrev vT(s:List UInt8):V:=.str s
abbrev vF(k:EK)(xs:List (Ty k)):V:=.sl k (.may false) xs
abbrev vO(k:EK)(xs:List (Ty k)):V:=.sl k .own xs
def nl(k:EK):V:=.sl k .own []
def fu(k:EK)(b:Bool):V:=.sl k (.may b) []
def rg(a b:Nat):List Nat:=Da a (b+1-a)
theorem bK{Γ:aI}{N n:Nat}{rs:List RV}{ir:IR}{vs:List V}{hp:List aJ}(l:List (Nat×(St->Ro)))(b:ajc (l.map BP)=true)(e:l=cU Γ N ir (fin rs)++[])
  (S:(Nat->St->Ro)->Ro) (a:∀C,cY C Γ N ir (fin rs) (AM.start n vs hp)=S C):callF Γ N n rs ir vs hp=S (iw l):=by
 refine AE ?_ (a _);exact(au8 ir (fin rs) (λp hp=>cb b p (by rw[e];exact BS _ hp)) _).symm
section
variable{P:Program}
theorem apl{f:FuncId}{vs:List V}{a v:V}{R:Type}[Inhabited R]{C:R->Prop}(h:some (can C,a)=some (true,v))(k:C (pick C)->aH P f vs a)(d:vs.all V.flat=true)(b:a.flatU=true):
  aH P f vs v∧vs.all V.flat=true∧v.flatU=true:=by
 simp only[Ae,Al] at h;obtain⟨c,rfl⟩:=h;exact⟨k (as8 c),d,b⟩
theorem apm{f:FuncId}{vs:List V}{a v:V}{css cs b:List (List V)}{R:Type}[Inhabited R]{C:R->Prop}(h:some (can C,a,cs)=some (true,v,b))(k:C (pick C)->bq P f vs css a cs):bq P f vs css v b:=by simp only[Ae,Al] at h;obtain⟨c,rfl,rfl⟩:=h;exact k (as8 c)
theorem apn{f:FuncId}{vs cs a:List V}{R:Type}[Inhabited R]{C:R->Prop}(h:some (can C,cs)=some (true,a))(k:C (pick C)->wB P f vs cs):wB P f vs a:=by simp only[Ae,Al] at h;obtain⟨b,rfl⟩:=h;exact k (as8 b)
end
structure bA(P:Program) where
 id:Nat
 t:List V->Option (Bool×V)
 ok:∀vs v,t vs=some (true,v)->aH P id vs v∧vs.all V.flat=true∧v.flatU=true:=by (intro _ _ h;split at h;(first|exact apl h (λh=>h.1.dim rfl) rfl rfl|exact apl h (λh=>h.dim rfl) rfl rfl|exact apl h (λh=>h.1) rfl rfl|exact apl h (λh=>h) rfl rfl);cases h)
structure de(P:Program) where
 id:Nat
 t:List V->List (List V)->Option (Bool×V×List (List V))
 ok:∀us css v css',t us css=some (true,v,css')->bq P id us css v css':=by (intro _ _ _ _ h;split at h;(first|exact apm h (λh=>h.1.dim rfl)|exact apm h (λh=>h.dim rfl)|exact apm h (λh=>h.1)|exact apm h (λh=>h));cases h)
structure agZ(P:Program) where
 id:Nat
 t:List V->Option (Bool×List V)
 ok:∀us cs,t us=some (true,cs)->wB P id us cs:=by (intro _ _ h;split at h;(first|exact apn h (λh=>h.1.dim rfl)|exact apn h (λh=>h.dim rfl)|exact apn h (λh=>h.1)|exact apn h (λh=>h));cases h)
section
variable{P:Program}
def ajd:List (bA P)->Nat->List V->Option (Bool×V)
 | [],_,_=>none
 |r::l,f,vs=>cond (A4 r.id f) (r.t vs) (ajd l f vs)
def ary:List (de P)->as5
 | [],_,_,_=>none
 |r::l,f,us,css=>cond (A4 r.id f) (r.t us css) (ary l f us css)
def arz:List (agZ P)->azD
 | [],_,_=>none
 |r::l,f,us=>cond (A4 r.id f) (r.t us) (arz l f us)
theorem au9:∀(l:List (bA P)) f vs v,ajd l f vs=some (true,v)->aH P f vs v∧vs.all V.flat=true∧v.flatU=true
 | [],_,_,_,h=>by simp[ajd] at h
 |r::l,f,vs,v,h=>by
  unfold ajd at h;cases a:A4 r.id f with
  |true=>rw[a] at h;have e:r.id=f:=AJ a;subst e;exact r.ok vs v h
  |false=>rw[a] at h;exact au9 l f vs v h
theorem aEn:∀(l:List (de P)) f us css v css',ary l f us css=some (true,v,css')->bq P f us css v css'
 | [],_,_,_,_,_,h=>by simp[ary] at h
 |r::l,f,us,css,v,css',h=>by
  unfold ary at h;cases a:A4 r.id f with
  |true=>rw[a] at h;have e:r.id=f:=AJ a;subst e;exact r.ok _ _ _ _ h
  |false=>rw[a] at h;exact aEn l f us css v css' h
theorem aEo:∀(l:List (agZ P)) f us cs,arz l f us=some (true,cs)->wB P f us cs
 | [],_,_,_,h=>by simp[arz] at h
 |r::l,f,us,cs,h=>by
  unfold arz at h;cases a:A4 r.id f with
  |true=>rw[a] at h;have e:r.id=f:=AJ a;subst e;exact r.ok _ _ h
  |false=>rw[a] at h;exact aEo l f us cs h
theorem axg:∀(l:List (de P)) f us css,(∀r∈l,r.id≠f)->ary l f us css=none
 | [],_,_,_,_=>rfl
 |r::l,f,us,css,h=>by
  unfold ary;have a:A4 r.id f=false:=by
   cases a:A4 r.id f with
   |true=>exact absurd (AJ a) (h r (by simp))
   |false=>rfl
  rw[a];exact axg l f us css λr b=>h r (by simp[b])
theorem amN:∀(l:List (agZ P)) f us,(∀r∈l,r.id≠f)->arz l f us=none
 | [],_,_,_=>rfl
 |r::l,f,us,h=>by
  unfold arz;have a:A4 r.id f=false:=by
   cases a:A4 r.id f with
   |true=>exact absurd (AJ a) (h r (by simp))
   |false=>rfl
  rw[a];exact amN l f us λr b=>h r (by simp[b])
theorem arA(l:List (bA P)):bB P (eW (ajd l)):=by intro f vs hp v hp' b;obtain⟨h,e⟩:=dw b;subst e;obtain⟨c,a,d⟩:=au9 l f vs v h;exact c.frameR a d _
def tab(N:List (agZ P))(O:List (de P))(a:List Nat)(G:List (bA P)):aI:=af5 (arz N) (vM (ary O) (yD a (ajd G) (eW (ajd G))))
theorem aAj(N:List (agZ P))(O:List (de P))(a:List Nat)(G:List (bA P)):bB P (tab N O a G):=
 aIl (aEo N) (aGC (aEn O) (aIj (λf vs v h=>(au9 G f vs v h).1) (arA G)))
def aAk(N:List (agZ P))(O:List (de P))(a imp:List Nat):Bool:=
 N.all (λr=>imp.contains r.id&& !imp.contains (r.id+2000000))&&O.all (λr=>imp.contains r.id)&&(a++imp.filter (λx=> !Nat.blt x 2000000)).all (λx=>imp.contains x)
theorem arB{N:List (agZ P)}{O:List (de P)}{c:List Nat}{G:List (bA P)}{imp:List Nat}(h:aAk N O c imp=true):cE (tab N O c G) imp:=by
 simp only[aAk,Ac,AA,BW] at h;obtain⟨⟨d,e⟩,j⟩:=h;refine aFg (λf us a=>amN N f us ?_) (λf us a=>amN N f us ?_) (aC5 (λf us css a=>axg O f us css ?_) (aFf (cK _ _) (AA.2 j) ?_));·rintro r b rfl;rw[(d r b).1] at a;cases a
 ·rintro r b rfl;rw[(d r b).2] at a;cases a
 ·rintro r b rfl;rw[e r b] at a;cases a
 ·refine AA.2 λx l=>?_
  cases i:C9 x 2000000 with
  |true=>rfl
  |false=>simp only[CE];rw[Dz];exact List.mem_filter.2 ⟨l,by simp[i]⟩
end
structure FnC(P:Program)(Γ:aI)(imp:List Nat)(k:Nat)(f:FuncId)(fn:Func)(ir:IR)(rs:List RV):Prop where
 spec:bB P Γ
 imps:cE Γ imp
 func:P.funcs[f]? =some fn
 body:fn.body=some (fn.body.getD .skip)
 chk:(bL P imp k ir (fn.body.getD .skip)&&dD P rs fn.results.toList)=true
 small:fn.results.toList.length<=5
section
variable{P:Program}{Γ:aI}{imp:List Nat}{k n:Nat}{f:FuncId}{fn:Func}{ir:IR}{rs:List RV}{vs:List V}{x:Ro}
theorem FnC.fnOK(h:FnC P Γ imp k f fn ir rs){hp hp':List aJ}{v:V}(c:hp.length=k)(b:callF Γ n fn.ntmps rs ir vs hp=some (v,hp')):gc P f vs hp v hp':=by subst c;have a:=h.chk;simp only[Ac] at a;exact ez h.spec h.imps h.func h.body a.1 a.2 h.small b
theorem FnC.pure(h:FnC P Γ imp 0 f fn ir rs)(b:callF Γ n fn.ntmps rs ir vs []=x){v:V}{hp':List aJ}(a:x=some (v,hp')):aH P f vs v:=⟨hp',h.fnOK rfl (b.trans a)⟩
theorem FnC.newFn(h:FnC P Γ imp 0 f fn ir rs)(b:callF Γ n fn.ntmps rs ir vs []=x){cs:List V}(a:x=some (.ptr 0 0,[some cs])):wB P f vs cs:=h.fnOK rfl (b.trans a)
theorem FnC.objs{css css':List (List V)}{rest:List aJ}(h:FnC P Γ imp css.length f fn ir rs)(b:callF Γ n fn.ntmps rs ir vs (css.map some)=x){v:V}(a:x=some (v,css'.map some++rest))(c:css'.length=css.length):
  bq P f vs css v css':=⟨c,rest,h.fnOK (by simp) (b.trans a)⟩
section
variable{N:Nat}{R:Type}{ret:R->V}{p:R->Prop}{Q:V×List aJ->Prop}
theorem FnC.finP(h:FnC P Γ imp 0 f fn ir rs)(b:callF Γ N fn.ntmps rs ir vs []=x)(d:Tot x Q)(k:∀z,Q z->∃r,z.1.dimR=ret r∧p r):∃r,aH P f vs (ret r)∧p r:=by obtain⟨z,a,c⟩:=d;obtain⟨r,e,hp⟩:=k z c;exact⟨r,(h.pure b a).dimR e,hp⟩
theorem FnC.finP0(h:FnC P Γ imp 0 f fn ir rs)(b:callF Γ N fn.ntmps rs ir vs []=x)(d:Tot x Q)(k:∀z,Q z->∃r,z.1.dimR=ret r):∃r,aH P f vs (ret r):=by obtain⟨z,a,c⟩:=d;obtain⟨r,e⟩:=k z c;exact⟨r,(h.pure b a).dimR e⟩
variable{css:List (List V)}{css':R->List (List V)}
theorem FnC.finO(h:FnC P Γ imp css.length f fn ir rs)(d:callF Γ N fn.ntmps rs ir vs (css.map some)=x)(j:Tot x Q)(k:∀z,Q z->∃r,z.1.dimR=ret r∧(∃rest,z.2=(css' r).map some++rest)∧p r)(c:∀r,(css' r).length=css.length:=by exactλ_=>rfl):
  ∃r,bq P f vs css (ret r) (css' r)∧p r:=by
 obtain⟨⟨v,hp⟩,b,i⟩:=j;obtain⟨r,e,⟨rest,a⟩,hp⟩:=k _ i;simp only at a;subst a;exact⟨r,(h.objs d b (c r)).dimR e,hp⟩
end
abbrev LB{α R:Type}(F:(St->Option R)->St->Option R)(mk:α->St)(B:(α->Option R)->α->Option R):Prop:=∀a x,F a (mk x)=B (λy=>a (mk y)) x
abbrev LJ{α R:Type}(F:St->Option R)(mk:α->St)(J:α->Option R):Prop:=∀x,F (mk x)=J x
theorem fnC{N:List (agZ P)}{O:List (de P)}{c:List Nat}{G:List (bA P)}(b:P.funcs[f]? =some fn)(h:aAk N O c imp=true:=by kernel_rfl)(a:fn.body=some (fn.body.getD .skip):=by kernel_rfl)
  (chk:(bL P imp k ir (fn.body.getD .skip)&&dD P rs fn.results.toList)=true:=by kernel_rfl) (small:fn.results.toList.length<=5:=by decide):FnC P (tab N O c G) imp k f fn ir rs:=⟨aAj N O c G,arB h,b,a,chk,small⟩
end
theorem aLt{α:Type}{a:α}(x:{r // a=r}):x.1=a:=x.2.symm
def aMe(a:Nat)(b:ASrc)(Γ:aI)(s:St):{r // step Γ (.mov a b) s=r}:=⟨_,by unfold step;exact rfl⟩
def aLu(a:Nat)(d c b:ASrc)(Γ:aI)(s:St):{r // step Γ (.pick a d c b) s=r}:=⟨_,by unfold step;exact rfl⟩
def aMf(a:Nat)(d:BinOp)(c b:ASrc)(Γ:aI)(s:St):{r // step Γ (.bin a d c b) s=r}:=⟨_,by unfold step;exact rfl⟩
def aMU(a:Nat)(c:UnOp)(b:ASrc)(Γ:aI)(s:St):{r // step Γ (.un a c b) s=r}:=⟨_,by unfold step;exact rfl⟩
def aMg(a:Nat)(c:IntKind)(b:ASrc)(Γ:aI)(s:St):{r // step Γ (.cvi a c b) s=r}:=⟨_,by unfold step;exact rfl⟩
def aMh(a:Nat)(b:ASrc)(Γ:aI)(s:St):{r // step Γ (.s2b a b) s=r}:=⟨_,by unfold step;exact rfl⟩
def aMi(a:Nat)(b:ASrc)(Γ:aI)(s:St):{r // step Γ (.b2s a b) s=r}:=⟨_,by unfold step;exact rfl⟩
def aLv(a:Nat)(b:ASrc)(Γ:aI)(s:St):{r // step Γ (.lens a b) s=r}:=⟨_,by unfold step;exact rfl⟩
def aLw(a:Nat)(b:ASrc)(Γ:aI)(s:St):{r // step Γ (.lenl a b) s=r}:=⟨_,by unfold step;exact rfl⟩
def aMj(a:Nat)(c b:ASrc)(Γ:aI)(s:St):{r // step Γ (.idx a c b) s=r}:=⟨_,by unfold step;exact rfl⟩
def aMk(a:Nat)(d:EK)(c b:ASrc)(Γ:aI)(s:St):{r // step Γ (.ixa a d c b) s=r}:=⟨_,by unfold step;exact rfl⟩
def aLx(a:Nat)(d:ASrc)(c b:Option ASrc)(Γ:aI)(s:St):{r // step Γ (.subs a d c b) s=r}:=⟨_,by unfold step;exact rfl⟩
def aLy(a:Nat)(c:EK)(b:ASrc)(e d:Option ASrc)(Γ:aI)(s:St):{r // step Γ (.subl a c b e d) s=r}:=⟨_,by unfold step;exact rfl⟩
def aMl(a:Nat)(d:EK)(c:List ASrc)(b:Bool)(Γ:aI)(s:St):{r // step Γ (.bsl a d c b) s=r}:=⟨_,by unfold step;exact rfl⟩
def aMm(a:Nat)(c:List V)(b:List (Nat×Nat×ASrc))(Γ:aI)(s:St):{r // step Γ (.bld a c b) s=r}:=⟨_,by unfold step;exact rfl⟩
def aMn(a c b:Nat)(e:Bool)(d:ASrc)(Γ:aI)(s:St):{r // step Γ (.fld a c b e d) s=r}:=⟨_,by unfold step;exact rfl⟩
def aMo(a:Nat)(b:List V)(Γ:aI)(s:St):{r // step Γ (.new a b) s=r}:=⟨_,by unfold step;exact rfl⟩
def aMp(a:Nat)(b:ASrc)(Γ:aI)(s:St):{r // step Γ (.box a b) s=r}:=⟨_,by unfold step;exact rfl⟩
def aLz(a:Nat)(b:List V)(Γ:aI)(s:St):{r // step Γ (.newb a b) s=r}:=⟨_,by unfold step;exact rfl⟩
def aMq(a c:Nat)(b:ASrc)(Γ:aI)(s:St):{r // step Γ (.fad a c b) s=r}:=⟨_,by unfold step;exact rfl⟩
def aMV(a c:Nat)(b e:Bool)(d:ASrc)(Γ:aI)(s:St):{r // step Γ (.ld a c b e d) s=r}:=⟨_,by unfold step;exact rfl⟩
def aMW(a:Option Nat)(d:Nat)(c b:ASrc)(Γ:aI)(s:St):{r // step Γ (.st a d c b) s=r}:=⟨_,by unfold step;exact rfl⟩
def aMr(a:Nat)(d:EK)(c b:ASrc)(Γ:aI)(s:St):{r // step Γ (.app a d c b) s=r}:=⟨_,by unfold step;exact rfl⟩
def aLA(a:Nat)(c b:ASrc)(Γ:aI)(s:St):{r // step Γ (.apps a c b) s=r}:=⟨_,by unfold step;exact rfl⟩
def aMs(a c:Nat)(b:ASrc)(Γ:aI)(s:St):{r // step Γ (.ext a c b) s=r}:=⟨_,by unfold step;exact rfl⟩
def aMt(a:Option Nat)(b:ASrc)(Γ:aI)(s:St):{r // step Γ (.nck a b) s=r}:=⟨_,by unfold step;exact rfl⟩
def aLB(a:Option Nat)(c:Nat)(b:List ASrc)(Γ:aI)(s:St):{r // step Γ (.call a c b) s=r}:=⟨_,by unfold step;exact rfl⟩
def aMX(a:Nat)(d:Bool)(c b:ASrc)(Γ:aI)(s:St):{r // step Γ (.mx a d c b) s=r}:=⟨_,by unfold step;exact rfl⟩
def aLC(a:Nat)(b:ASrc)(Γ:aI)(s:St):{r // step Γ (.boxe a b) s=r}:=⟨_,by unfold step;exact rfl⟩
def aMu(a b:Nat)(Γ:aI)(s:St):{r // step Γ (.alr a b) s=r}:=⟨_,by unfold step;exact rfl⟩
def aMv(a:Option Nat)(d c:Nat)(b:ASrc)(Γ:aI)(s:St):{r // step Γ (.frz a d c b) s=r}:=⟨_,by unfold step;exact rfl⟩
def aMw(a d:Nat)(c:Bool)(b:ASrc)(Γ:aI)(s:St):{r // step Γ (.lde a d c b) s=r}:=⟨_,by unfold step;exact rfl⟩
def aMx(a c:Nat)(b:List ASrc)(Γ:aI)(s:St):{r // step Γ (.mkf a c b) s=r}:=⟨_,by unfold step;exact rfl⟩
def aJ2(a:Option Nat)(d:Nat)(c:ASrc)(b:List ASrc)(Γ:aI)(s:St):{r // step Γ (.dcall a d c b) s=r}:=⟨_,by unfold step;exact rfl⟩
def aMy(a:Nat)(d:EK)(c b:ASrc)(Γ:aI)(s:St):{r // step Γ (.apu a d c b) s=r}:=⟨_,by unfold step;exact rfl⟩
def aLD(a:Nat)(b:ASrc)(Γ:aI)(s:St):{r // step Γ (.snil a b) s=r}:=⟨_,by unfold step;exact rfl⟩
def aMz(a:Nat)(b:ASrc)(Γ:aI)(s:St):{r // step Γ (.lnw a b) s=r}:=⟨_,by unfold step;exact rfl⟩
def aMA(a:Nat)(d:EK)(c b:ASrc)(Γ:aI)(s:St):{r // step Γ (.ixw a d c b) s=r}:=⟨_,by unfold step;exact rfl⟩
def aMB(a:Option Nat)(d:Nat)(c b:ASrc)(Γ:aI)(s:St):{r // step Γ (.stw a d c b) s=r}:=⟨_,by unfold step;exact rfl⟩
def aMC(a:Nat)(b:MK)(Γ:aI)(s:St):{r // step Γ (.mkm a b) s=r}:=⟨_,by unfold step;exact rfl⟩
def aLE(a:Nat)(c:MK)(b:Bool)(e d:ASrc)(Γ:aI)(s:St):{r // step Γ (.mget a c b e d) s=r}:=⟨_,by unfold step;exact rfl⟩
def aLF(a:Option Nat)(c:MK)(b e d:ASrc)(Γ:aI)(s:St):{r // step Γ (.mput a c b e d) s=r}:=⟨_,by unfold step;exact rfl⟩
def aMD(a d:Nat)(c b:ASrc)(Γ:aI)(s:St):{r // step Γ (.ixe a d c b) s=r}:=⟨_,by unfold step;exact rfl⟩
def aME(a:Nat)(d:EK)(c b:ASrc)(Γ:aI)(s:St):{r // step Γ (.apo a d c b) s=r}:=⟨_,by unfold step;exact rfl⟩
def aFh(o:IOp):aI->St->Option (Bool×St):=match o with
 | .mov a b=>λΓ s=>(aMe a b Γ s).1
 | .pick a b c d=>λΓ s=>(aLu a b c d Γ s).1
 | .bin a b c d=>λΓ s=>(aMf a b c d Γ s).1
 | .un a b c=>λΓ s=>(aMU a b c Γ s).1
 | .cvi a b c=>λΓ s=>(aMg a b c Γ s).1
 | .s2b a b=>λΓ s=>(aMh a b Γ s).1
 | .b2s a b=>λΓ s=>(aMi a b Γ s).1
 | .lens a b=>λΓ s=>(aLv a b Γ s).1
 | .lenl a b=>λΓ s=>(aLw a b Γ s).1
 | .idx a b c=>λΓ s=>(aMj a b c Γ s).1
 | .ixa a b c d=>λΓ s=>(aMk a b c d Γ s).1
 | .subs a b c d=>λΓ s=>(aLx a b c d Γ s).1
 | .subl a b c d e=>λΓ s=>(aLy a b c d e Γ s).1
 | .bsl a b c d=>λΓ s=>(aMl a b c d Γ s).1
 | .bld a b c=>λΓ s=>(aMm a b c Γ s).1
 | .fld a b c d e=>λΓ s=>(aMn a b c d e Γ s).1
 | .new a b=>λΓ s=>(aMo a b Γ s).1
 | .box a b=>λΓ s=>(aMp a b Γ s).1
 | .newb a b=>λΓ s=>(aLz a b Γ s).1
 | .fad a b c=>λΓ s=>(aMq a b c Γ s).1
 | .ld a b c d e=>λΓ s=>(aMV a b c d e Γ s).1
 | .st a b c d=>λΓ s=>(aMW a b c d Γ s).1
 | .app a b c d=>λΓ s=>(aMr a b c d Γ s).1
 | .apps a b c=>λΓ s=>(aLA a b c Γ s).1
 | .ext a b c=>λΓ s=>(aMs a b c Γ s).1
 | .nck a b=>λΓ s=>(aMt a b Γ s).1
 | .call a b c=>λΓ s=>(aLB a b c Γ s).1
 | .mx a b c d=>λΓ s=>(aMX a b c d Γ s).1
 | .boxe a b=>λΓ s=>(aLC a b Γ s).1
 | .alr a b=>λΓ s=>(aMu a b Γ s).1
 | .frz a b c d=>λΓ s=>(aMv a b c d Γ s).1
 | .lde a b c d=>λΓ s=>(aMw a b c d Γ s).1
 | .mkf a b c=>λΓ s=>(aMx a b c Γ s).1
 | .dcall a b c d=>λΓ s=>(aJ2 a b c d Γ s).1
 | .apu a b c d=>λΓ s=>(aMy a b c d Γ s).1
 | .snil a b=>λΓ s=>(aLD a b Γ s).1
 | .lnw a b=>λΓ s=>(aMz a b Γ s).1
 | .ixw a b c d=>λΓ s=>(aMA a b c d Γ s).1
 | .stw a b c d=>λΓ s=>(aMB a b c d Γ s).1
 | .mkm a b=>λΓ s=>(aMC a b Γ s).1
 | .mget a b c d e=>λΓ s=>(aLE a b c d e Γ s).1
 | .mput a b c d e=>λΓ s=>(aLF a b c d e Γ s).1
 | .ixe a b c d=>λΓ s=>(aMD a b c d Γ s).1
 | .apo a b c d=>λΓ s=>(aME a b c d Γ s).1
theorem aIn(Γ:aI)(o:IOp)(s:St):aFh o Γ s=step Γ o s:=by cases o<;>exact aLt _
section
variable{R:Type}
def ava:Nat->List V->(List V->R)->R
 |0,l,k=>k l
 |_+1,[],k=>k []
 |n+1,a::l,k=>ava n l λb=>k (a::b)
def as9:List V->(List V->R)->R
 | [],k=>k []
 |a::l,k=>as9 l λb=>k (a::b)
def aGH(o:aJ)(k:aJ->R):R:=match o with
 |none=>k none
 |some cs=>as9 cs λc=>k (some c)
def amO:List aJ->(List aJ->R)->R
 | [],k=>k []
 |a::l,k=>aGH a λb=>amO l λc=>k (b::c)
def ata(n:Nat)(s:St)(k:St->R):R:=ava n s.env λe=>amO s.hp λh=>k ⟨e,h⟩
def rv(s:St)(k:St->R):R:=as9 s.env λe=>amO s.hp λh=>k ⟨e,h⟩
theorem atb:∀(n:Nat)(l:List V)(k:List V->R),ava n l k=k l
 |0,_,_=>rfl
 |_+1,[],_=>rfl
 |n+1,a::l,k=>atb n l _
theorem amP:∀(l:List V)(k:List V->R),as9 l k=k l
 | [],_=>rfl
 |a::l,k=>amP l _
theorem aGI(o:aJ)(k:aJ->R):aGH o k=k o:=by
 cases o with
 |none=>rfl
 |some cs=>exact amP cs _
theorem amQ:∀(l:List aJ)(k:List aJ->R),amO l k=k l
 | [],_=>rfl
 |a::l,k=>by rw[amO,aGI,amQ l]
theorem aGJ(n:Nat)(s:St)(k:St->R):ata n s k=k s:=by rw[ata,atb,amQ]
theorem qh(s:St)(k:St->R):rv s k=k s:=by rw[rv,amP,amQ]
def apq(o:IOp)(s:St)(k:St->Option R):Option R:=match o.dst with|some d=>ata (d+1) s k|none=>ata 0 s k
theorem aAl(o:IOp)(s:St)(k:St->Option R):apq o s k=k s:=by unfold apq;cases o.dst<;>exact aGJ _ _ _
def amR(Γ:aI)(a:Option (List Nat×List Nat))(o:IOp)(s:St):Option (Bool×St):=match a with
 |none=>aFh o Γ s
 |some l=>cond (o.within l s) (aFh o Γ s) none
theorem axh(Γ:aI)(a:Option (List Nat×List Nat))(o:IOp)(s:St):amR Γ a o s=stepO Γ a o s:=by unfold amR stepO;simp only[aIn];rfl
def sf(Γ:aI):List GOp->(St->Option R)->St->Option R
 | [],K,s=>K s
 |⟨none,o,a⟩::r,K,s=>match amR Γ a o s with
  |some (c,s')=>chk c (apq o s' (sf Γ r K))
  |none=>none
 |⟨some (g,w),o,a⟩::r,K,s=>match s.get g with
  | .bool b=>cond b
    (match w with
     |true=>match amR Γ a o (s.set g (.bool true)) with
      |some (c,s')=>chk c (apq o s' (sf Γ r K))
      |none=>none
     |false=>rv ((s.set g (.bool true)).setO o.dst (.tup [])) (sf Γ r K))
    (match w with
     |false=>match amR Γ a o (s.set g (.bool false)) with
      |some (c,s')=>chk c (apq o s' (sf Γ r K))
      |none=>none
     |true=>rv ((s.set g (.bool false)).setO o.dst (.tup [])) (sf Γ r K))
  | .tup []=>apq o (s.setO o.dst (.tup [])) (sf Γ r K)
  |_=>none
theorem aje(Γ:aI):∀(l:List GOp)(K:St->Option R)(s:St),sf Γ l K s=runOps Γ l K s
 | [],_,_=>rfl
 |⟨none,o,a⟩::r,K,s=>by
  simp only[sf,runOps,axh];cases stepO Γ a o s with
  |none=>rfl
  |some p=>simp only[aAl,aje Γ r K]
 |⟨some (g,w),o,a⟩::r,K,s=>by simp only[sf,runOps,axh,aAl,qh,aje Γ r K];rfl
def aAm(g:jJ)(K:Ex->St->Option R):Ex->St->Option R
 | .normal,s=>match g.step s with
   |some (c,s')=>chk c (rv s' (K .normal))
   |none=>none
 |e,s=>K e s
def aAn(a:St->Option R)(b:List Nat)(n:Nat)(K:Ex->St->Option R):Ex->St->Option R
 | .normal,s=>rv (s.keep b n) a
 |e,s=>K e s
def oM(Γ:aI)(n:Nat):IR->(Ex->St->Option R)->St->Option R
 | .skip,K,s=>K .normal s
 | .bad,_,_=>none
 | .reg f _,K,s=>sf Γ f (K .normal) s
 | .seq a b,K,s=>oM Γ n a (kseq (oM Γ n b) K) s
 | .cond c a b,K,s=>match c.ev s with
   | .bool t=>cond t (oM Γ n a K s) (oM Γ n b K s)
   |_=>none
 | .block id a,K,s=>oM Γ n a (aP id K) s
 | .loop d m a,K,s=>rv (s.keep d m) (aZ n (λe s=>oM Γ n a (aAn e d m K) s))
 | .cut d m a,K,s=>rv (s.keep d m) (oM Γ n a K)
 | .gh g a,K,s=>match g.step s with
   |some (c,s')=>chk c (rv s' (oM Γ n a K))
   |none=>none
 | .ope o a,K,s=>cond (aEV s o) (match (jJ.fz o).step s with
   |some (c,s')=>chk c (rv s' (oM Γ n a K))
   |none=>none) (match (jJ.opn o).step s with
   |some (c,s')=>chk c (rv s' (oM Γ n a K))
   |none=>none)
 | .ghp g a,K,s=>oM Γ n a (aAm g K) s
 | .exit id,K,s=>K (.exit id) s
 | .ret,K,s=>K .ret s
theorem aGK(g:jJ)(K:Ex->St->Option R):aAm g K=apg g K:=by funext e s;cases e<;>simp only[aAm,apg,qh]<;>rfl
theorem aGL(a:St->Option R)(b:List Nat)(n:Nat)(K:Ex->St->Option R):aAn a b n K=bu a b n K:=by funext e s;cases e<;>simp only[aAn,bu,qh]
theorem aJ3(Γ:aI)(n:Nat):∀(j:IR)(K:Ex->St->Option R)(s:St),oM Γ n j K s=run Γ n j K s:=by
 intro j;induction j with
 |reg k l=>intro K s;exact aje Γ k _ s
 |seq a b d f=>
  intro K s;have e:(oM Γ n b:(Ex->St->Option R)->St->Option R)=run Γ n b:=by funext K s;exact f K s
  simp only[oM,run,e,d]
 |cond c a b d f=>
  intro K s;simp only[oM,run];cases h:c.ev s with
  |bool t=>
   simp only[d,f];cases t;·rw[ASrc.fix_eq h];rfl
   ·rw[ASrc.fix_eq h];rfl
  |_=>rfl
 |block id a d=>intro K s;exact d _ s
 |loop i m a d=>intro K s;simp only[oM,run,qh,aGL,d]
 |cut i m a d=>intro K s;simp only[oM,run,qh,d]
 |gh g a d=>intro K s;simp only[oM,run,qh,d];rfl
 |ope o a d=>intro K s;simp only[oM,run,qh,d];rfl
 |ghp g a d=>intro K s;simp only[oM,run,aGK,d]
 |_=>intro K s;rfl
end
def pF(Γ:aI)(n a:Nat)(d:List RV)(b:IR)(c:List V)(hp:List aJ):Ro:=rv (start a c hp) (oM Γ n b (fin d))
theorem aGM(Γ:aI)(n a:Nat)(d:List RV)(b:IR)(c:List V)(hp:List aJ):pF Γ n a d b c hp=callF Γ n a d b c hp:=by simp only[pF,callF,qh,aJ3]
structure bO(P:Program)(imp:List Nat) where
 id:Nat
 k:Nat
 fn:Func
 ir:IR
 rs:List RV
 func:P.funcs[id]? =some fn
 body:fn.body=some (fn.body.getD .skip):=by kernel_rfl
 chk:(bL P imp k ir (fn.body.getD .skip)&&dD P rs fn.results.toList)=true:=by kernel_rfl
 small:fn.results.toList.length<=5:=by decide
section
variable{P:Program}{imp:List Nat}
abbrev Tab(P:Program)(imp:List Nat):={Γ:aI // bB P Γ∧cE Γ imp}
theorem bO.ok(c:bO P imp)(Γ:Tab P imp){N:Nat}{vs:List V}{hp hp':List aJ}{v:V}(a:hp.length=c.k)(h:pF Γ.1 N c.fn.ntmps c.rs c.ir vs hp=some (v,hp')):gc P c.id vs hp v hp':=
 (FnC.mk Γ.2.1 Γ.2.2 c.func c.body c.chk c.small).fnOK a ((aGM ..).symm.trans h)
def apr:List aJ->Option (List (List V))
 | []=>some []
 |some c::l=>(apr l).map (c::·)
 |none::_=>none
theorem atc:∀{l:List aJ}{cs:List (List V)},apr l=some cs->l=cs.map some
 | [],cs,h=>by cases h;rfl
 |some c::l,cs,h=>by obtain⟨r,a,rfl⟩:=Aq.1 h;simp[atc a]
 |none::l,cs,h=>by cases h
def aLG(vs:List V):Ro->Option (Bool×V)
 |some (v,_)=>cond (vs.all V.flat&&v.flatU) (some (true,v)) none
 |none=>none
def aLH(n:Nat):Ro->Option (Bool×V×List (List V))
 |some (v,hp)=>match apr (hp.take n) with
  |some cs=>cond (A4 cs.length n) (some (true,v,cs)) none
  |none=>none
 |none=>none
def aLI:Ro->Option (Bool×List V)
 |some (.ptr 0 0,[some cs])=>some (true,cs)
 |_=>none
def bO.g(N:Nat)(Γ:Option (Tab P imp))(c:bO P imp):bA P where
 id:=c.id
 t vs:=match Γ with|some Γ=>cond (A4 c.k 0) (aLG vs (pF Γ.1 N c.fn.ntmps c.rs c.ir vs [])) none|none=>none
 ok vs v h:=by
  cases Γ with
  |none=>cases h
  |some Γ=>
   cases hk:A4 c.k 0 with
   |false=>simp[hk] at h
   |true=>
    simp only[hk,cond_true] at h;have hk:=AJ hk;cases hr:pF Γ.1 N c.fn.ntmps c.rs c.ir vs [] with
    |none=>rw[hr] at h;cases h
    |some p=>
     obtain⟨v',hp'⟩:=p;rw[hr] at h;simp only[aLG] at h;cases hf:(vs.all V.flat&&v'.flatU) with
     |false=>rw[hf] at h;cases h
     |true=>rw[hf] at h;simp only[cond_true,Ae,Al,true_and] at h;subst h;simp only[Ac] at hf;exact⟨⟨hp',c.ok Γ hk.symm hr⟩,hf⟩
def bO.o(N:Nat)(Γ:Option (Tab P imp))(c:bO P imp):de P where
 id:=c.id
 t vs css:=match Γ with|some Γ=>cond (A4 css.length c.k) (aLH css.length (pF Γ.1 N c.fn.ntmps c.rs c.ir vs (css.map some))) none|none=>none
 ok vs css v css' h:=by
  cases Γ with
  |none=>cases h
  |some Γ=>
   cases hk:A4 css.length c.k with
   |false=>simp[hk] at h
   |true=>
    simp only[hk,cond_true] at h;have hk:=AJ hk;cases hr:pF Γ.1 N c.fn.ntmps c.rs c.ir vs (css.map some) with
    |none=>rw[hr] at h;cases h
    |some p=>
     obtain⟨v',hp'⟩:=p;rw[hr] at h;simp only[aLH] at h;cases ha:apr (hp'.take css.length) with
     |none=>rw[ha] at h;cases h
     |some cs=>
      rw[ha] at h;simp only at h;cases hl:A4 cs.length css.length with
      |false=>rw[hl] at h;cases h
      |true=>rw[hl] at h;simp only[cond_true,Ae,Al,true_and] at h;obtain⟨rfl,rfl⟩:=h;refine⟨AJ hl,hp'.drop css.length,?_⟩;rw[<-atc ha,Ba];exact c.ok Γ (by simpa using hk) hr
def bO.n(N:Nat)(Γ:Option (Tab P imp))(c:bO P imp):agZ P where
 id:=c.id
 t vs:=match Γ with|some Γ=>cond (A4 c.k 0) (aLI (pF Γ.1 N c.fn.ntmps c.rs c.ir vs [])) none|none=>none
 ok vs cs h:=by
  cases Γ with
  |none=>cases h
  |some Γ=>
   cases hk:A4 c.k 0 with
   |false=>simp[hk] at h
   |true=>
    simp only[hk,cond_true] at h;have hk:=AJ hk;unfold aLI at h;split at h;·rename_i cs' hr;simp only[Ae,Al,true_and] at h;subst h;exact c.ok Γ hk.symm hr
    ·cases h
structure wC(P:Program)(imp:List Nat) where
 n:List (bO P imp)
 o:List (bO P imp)
 ls:List Nat
 g:List (bO P imp)
 ok:(n.all (λr=>imp.contains r.id&& !imp.contains (r.id+2000000))&&o.all (λr=>imp.contains r.id)&&(ls++imp.filter (λx=> !Nat.blt x 2000000)).all (λx=>imp.contains x))=true:=by kernel_rfl
def wC.tab1(C:wC P imp)(N:Nat)(Γ:Option (Tab P imp)):Tab P imp:=
 ⟨tab (C.n.map (bO.n N Γ)) (C.o.map (bO.o N Γ)) C.ls (C.g.map (bO.g N Γ)),aAj _ _ _ _,arB (by have:=C.ok;simp only[aAk,List.all_map];exact this)⟩
def wC.tab(C:wC P imp)(N:Nat):Nat->Tab P imp
 |0=>C.tab1 N none
 |n+1=>C.tab1 N (some (C.tab N n))
def aGN:Ro->Bool
 |some (.bool true,_)=>true
 |_=>false
theorem bO.true(c:bO P imp)(C:wC P imp)(N n:Nat)(b:c.k=0)(h:aGN (pF (C.tab N n).1 N c.fn.ntmps c.rs c.ir [] [])=true):aH P c.id [] (.bool true):=by
 unfold aGN at h;split at h;·rename_i hp a;exact⟨hp,c.ok _ b.symm a⟩
 ·cases h
end
section
variable{P:Program}{imp:List Nat}
def wC.tab1K(C:wC P imp)(N:Nat)(a:List (de P))(b:List (bA P))(h:a.all (λr=>imp.contains r.id)=true)(Γ:Option (Tab P imp)):Tab P imp:=
 ⟨Go.AM.tab (C.n.map (bO.n N Γ)) (a++C.o.map (bO.o N Γ)) C.ls (b++C.g.map (bO.g N Γ)),aAj _ _ _ _,arB (by have:=C.ok;simp only[Ac,DI] at this;simp only[aAk,DI,List.all_map,Ac];exact⟨⟨this.1.1,h,this.1.2⟩,this.2⟩)⟩
def wC.tabK(C:wC P imp)(N:Nat)(a:List (de P))(b:List (bA P))(h:a.all (λr=>imp.contains r.id)=true):Nat->Tab P imp
 |0=>C.tab1K N a b h none
 |n+1=>C.tab1K N a b h (some (C.tabK N a b h n))
theorem bO.pureK(c:bO P imp)(C:wC P imp)(N n:Nat)(b:List (de P))(e:List (bA P))(h:b.all (λr=>imp.contains r.id)=Bool.true)(f:c.k=0){vs:List V}{v:V}(a:(pF (C.tabK N b e h n).1 N c.fn.ntmps c.rs c.ir vs []).map (·.1)=some v):aH P c.id vs v:=by
 cases d:pF (C.tabK N b e h n).1 N c.fn.ntmps c.rs c.ir vs [] with
 |none=>rw[d] at a;cases a
 |some p=>obtain⟨i,hp'⟩:=p;rw[d] at a;cases a;exact⟨hp',c.ok _ f.symm d⟩
theorem bO.objK(c:bO P imp)(C:wC P imp)(N n:Nat)(e:List (de P))(i:List (bA P))(h:e.all (λr=>imp.contains r.id)=Bool.true)(j:c.k=1){vs cs a:List V}{v:V}(b:(pF (C.tabK N e i h n).1 N c.fn.ntmps c.rs c.ir vs [some cs]).map (λp=>(p.1,p.2.headD none))=some (v,some a)):bq P c.id vs [cs] v [a]:=by
 cases f:pF (C.tabK N e i h n).1 N c.fn.ntmps c.rs c.ir vs [some cs] with
 |none=>rw[f] at b;cases b
 |some p=>
  obtain⟨l,hp'⟩:=p;rw[f] at b;simp only[BC,Ae,Al] at b;obtain⟨rfl,d⟩:=b;cases hp' with
  |nil=>cases d
  |cons o rest=>have d:o=some a:=d;subst d;exact⟨rfl,rest,c.ok _ (by rw[j];rfl) f⟩
end
instance:Inhabited bi:=⟨aK .record⟩
instance:Inhabited Tok:=⟨aK .tok⟩
instance:Inhabited bI:=⟨aK .ffld⟩
instance:Inhabited PVl:=⟨aK .pvl⟩
instance:Inhabited PEn:=⟨aK .pen⟩
def reM(x:aS):aS:=(.mk x.name x.fields x.oneofs x.msgs x.enums x.nums x.names)
theorem amS:∀x,reM x=x
 | .mk _ _ _ _ _ _ _=>rfl
instance:Inhabited aS:=⟨aK .fmsg⟩
instance:Inhabited et:=⟨aK .src⟩
instance:Inhabited ca:=⟨aK .fil⟩
def reN(x:PNm):PNm:=⟨x.name,x.kind,.mk x.m.name x.m.fields x.m.oneofs x.m.msgs x.m.enums x.m.nums x.m.names,⟨x.x.name,x.x.values⟩,x.file⟩
theorem aLJ(x:PNm):reN x=x:=by have:=amS x.m;simp only[reN];rw[show (.mk x.m.name x.m.fields x.m.oneofs x.m.msgs x.m.enums x.m.nums x.m.names:aS)=x.m from this]
instance:Inhabited PNm:=⟨aK .nms⟩
instance:Inhabited PFl:=⟨aK .pfl⟩
instance:Inhabited PMs:=⟨aK .pms⟩
def reP(x:aC):aC:=(.mk x.n x.s x.fs x.rest)
theorem nQ:∀x,reP x=x
 | .mk _ _ _ _=>rfl
instance:Inhabited aC:=⟨aK .pval⟩
end Go.AM
namespace Go.Proofs.YtndccphabnjkhaaGreat
open Go.AM
def dL:Nat->List UInt8->Option (Nat×Nat)
 |0,_=>none
 |_+1,[]=>none
 |k+1,c::r=>
  if k=0∧1<c.toNat then none
  else if c.toNat<128 then some (c.toNat,1)
  else match dL k r with
   |some (v,n)=>some (c.toNat%128+128*v,n+1)
   |none=>none
def aU(s:List UInt8):Int×Int×Int:=
 match dL 10 s with
 |some (v,n)=>((v:Int),(n:Int),0)
 |none=>(0,0,2)
def da:Nat->Nat->List UInt8
 |0,v=>[Az v]
 |k+1,v=>if v<128 then [Az v] else Az (v%128+128)::da k (v / 128)
def dP(v:Int):List UInt8:=da 9 v.toNat
def adb:List UInt8->Nat
 | []=>0
 |c::r=>c.toNat+256*adb r
def ix(s:List UInt8):Int:=((adb s%2^64:Nat):Int)
def pi(w:Int):Int:=if w=1 then 8 else 4
def hY:Nat->Nat->List UInt8
 |0,_=>[]
 |k+1,v=>Az (v%256)::hY k (v / 256)
def kM(v n:Int):List UInt8:=hY n.toNat v.toNat
def yG:bi:=⟨0,0,0,[],[]⟩
def fx(s:List UInt8):Option bi:=
 match dL 10 s with
 |none=>none
 |some (t,n)=>
  if t / 8<1∨536870911<t / 8 then none
  else
   let rest:=s.drop n
   if t%8=0 then
    match dL 10 rest with
    |none=>none
    |some (v,k)=>some ⟨(t / 8:Nat),0,(v:Nat),[],s.take (n+k)⟩
   else if t%8=2 then
    match dL 10 rest with
    |none=>none
    |some (v,k)=>if (rest.drop k).length<v then none else some ⟨(t / 8:Nat),2,0,(rest.drop k).take v,s.take (n+k+v)⟩
   else if t%8=1 then
    if rest.length<8 then none else some ⟨(t / 8:Nat),1,ix (rest.take 8),[],s.take (n+8)⟩
   else if t%8=5 then
    if rest.length<4 then none else some ⟨(t / 8:Nat),5,ix (rest.take 4),[],s.take (n+4)⟩
   else none
def eP(s:List UInt8):bi×Int:=
 match fx s with
 |some r=>(r,0)
 |none=>(yG,2)
def eQ:Nat->List UInt8->Option (List bi)
 |_,[]=>some []
 |0,_::_=>none
 |k+1,c::s=>
  match fx (c::s) with
  |none=>none
  |some r=>match eQ k ((c::s).drop r.raw.length) with
   |none=>none
   |some l=>some (r::l)
def fT(s:List UInt8):List bi×Int:=
 if 5000<s.length then ([],3) else match eQ s.length s with|some l=>(l,0)|none=>([],2)
def dE(r:bi):List UInt8:=
 if r.num<1∨536870911<r.num then []
 else
  let t:=dP (r.num*8+r.wire%8)
  if r.wire=0 then t++dP r.n
  else if r.wire=2 then t++dP r.s.length++r.s
  else if r.wire=1 then t++kM r.n 8
  else if r.wire=5 then t++kM r.n 4
  else []
def sL(n:Int):Int:=if n%4294967296<2147483648 then n%4294967296 else n%4294967296+18446744069414584320
def af7(k:Int):Int:=
 if k=1∨k=10∨k=12 then 1
 else if k=2∨k=9∨k=11 then 5
 else if k=14∨k=15∨k=16 then 2
 else if 3<=k∧k<=8∨k=13∨k=17 then 0
 else -1
def azE(k n:Int):Int:=
 if k=3∨k=17∨k=11 then sL n
 else if k=5∨k=9∨k=2 then n%4294967296
 else if k=13 then (if 1<n then 1 else n)
 else if k=7 then (if n%2=1 then sL (4294967295-n%4294967296 / 2) else sL (n%4294967296 / 2))
 else if k=8 then (if n%2=1 then 18446744073709551615-n / 2 else n / 2)
 else n
def toD(k n:Int):Int:=
 if k=3∨k=17 then sL n
 else if k=5∨k=9∨k=2∨k=11 then n%4294967296
 else if k=13 then (if 1<n then 1 else n)
 else if k=7 then (if n%4294967296<2147483648 then n%4294967296*2 else (4294967295-n%4294967296)*2+1)
 else if k=8 then (if n<9223372036854775808 then n*2 else (18446744073709551615-n)*2+1)
 else n
def azF(k n:Int):Bool:=
 if k=3∨k=7∨k=11∨k=17 then decide (n=sL n)
 else if k=5∨k=9∨k=2 then decide (n<4294967296)
 else if k=13 then decide (n<=1)
 else decide (k=4∨k=8∨k=12∨k=6∨k=10∨k=1)
theorem aAo:∃f:Int->Int,f=sL:=⟨_,rfl⟩
def wD:Int->Int:=aAo.choose
theorem amT:wD=sL:=aAo.choose_spec
theorem aAp:∃f:Int->Int,f=af7:=⟨_,rfl⟩
def dO:Int->Int:=aAp.choose
theorem tN:dO=af7:=aAp.choose_spec
theorem aAq:∃f:Int->Int->Int,f=azE:=⟨_,rfl⟩
def ajf:Int->Int->Int:=aAq.choose
theorem axi:ajf=azE:=aAq.choose_spec
theorem aGO:∃f:Int->Int->Int,f=toD:=⟨_,rfl⟩
def toR:Int->Int->Int:=aGO.choose
theorem avb:toR=toD:=aGO.choose_spec
theorem aAr:∃f:Int->Int->Bool,f=azF:=⟨_,rfl⟩
def yH:Int->Int->Bool:=aAr.choose
theorem af8:yH=azF:=aAr.choose_spec
def gly(r:Nat):List UInt8:=
 if r<128 then [Az r]
 else if r<2048 then [Az (192+r / 64),Az (128+r%64)]
 else if (55296<=r∧r<57344)∨1114111<r then [239,191,189]
 else if r<65536 then [Az (224+r / 4096),Az (128+r / 64%64),Az (128+r%64)]
 else [Az (240+r / 262144),Az (128+r / 4096%64),Az (128+r / 64%64),Az (128+r%64)]
def aeH(r:Int):List UInt8:=gly r.toNat
def nR(r k:Int):Int:=((128+r.toNat / 2^k.toNat%64:Nat):Int)
def dV(n v:Nat)(s:List UInt8):Nat×Nat:=
 if s.length<n then (0,0)
 else
  let r:=(s.take n).tail.foldl (λa b=>a*64+b.toNat%64) v
  if gly r=s.take n then (r,n) else (0,0)
def fU(s:List UInt8):Nat×Nat:=
 match s with
 | []=>(0,0)
 |c::_=>
  if c.toNat<128 then (c.toNat,1)
  else if c.toNat / 32=6 then dV 2 (c.toNat%32) s
  else if c.toNat / 16=14 then dV 3 (c.toNat%16) s
  else if c.toNat / 8=30 then dV 4 (c.toNat%8) s
  else (0,0)
def fy(s:List UInt8):Int×Int:=(((fU s).1 :Int),((fU s).2 :Int))
def aeI:Nat->List UInt8->Bool
 |_,[]=>true
 |0,_::_=>false
 |k+1,c::s=>if (fU (c::s)).2 =0 then false else aeI k ((c::s).drop (fU (c::s)).2)
def lw(s:List UInt8):Bool:=aeI s.length s
def dg(s:List UInt8)(i:Int)(t rest:List UInt8):Prop:=0<=i∧s.drop i.toNat=t++rest
theorem dg.at{s:List UInt8}{i:Int}{c:UInt8}{t rest:List UInt8}(h:dg s i (c::t) rest):(0<=i∧i<(s.length:Int))∧s.getD i.toNat 0=c∧dg s (i+1) t rest:=by
 obtain⟨e,a⟩:=h;have b:i.toNat<s.length:=by
  rcases AH i.toNat s.length with h|h;·exact h
  ·rw[B6 h] at a;cases a
 rw[AX b] at a;obtain⟨f,d⟩:=Bt a;refine⟨⟨e,by omega⟩,?_,by omega,?_⟩;·rw[Ar,Ah b,Bo,f]
 ·rw[show (i+1).toNat=i.toNat+1 by omega];exact d
theorem dg.app{s:List UInt8}{i:Int}{t t' rest:List UInt8}:dg s i (t++t') rest↔dg s i t (t'++rest):=by unfold dg;rw[AB]
theorem dg.step{s:List UInt8}{i:Int}{t t' rest:List UInt8}(h:dg s i t (t'++rest)):dg s (i+(t.length:Int)) t' rest:=by obtain⟨b,a⟩:=h;refine⟨by omega,?_⟩;rw[show (i+(t.length:Int)).toNat=i.toNat+t.length by omega,<-Dj,a,List.drop_left'];rfl
theorem dg.len{s:List UInt8}{i:Int}{t rest:List UInt8}(h:dg s i t rest)(a:i<=(s.length:Int)):i+(t.length:Int)+(rest.length:Int)=(s.length:Int):=by have:=congrArg Aa h.2;rw[AT,Aj] at this;have:=h.1;omega
theorem dg.end_{s:List UInt8}{i:Int}(h:dg s i [] []):(s.length:Int)<=i:=by have:=congrArg Aa h.2;rw[AT] at this;simp at this;have:=h.1;omega
def jX(c:UInt8):Bool:=decide (97<=c.toNat∧c.toNat<=122)||decide (65<=c.toNat∧c.toNat<=90)||c==95
def jg(c:UInt8):Bool:=decide (48<=c.toNat∧c.toNat<=57)
def abl(c:UInt8):Bool:=jX c||jg c
def pG(c:UInt8):Bool:=c==32||c==10
def jn:List UInt8:=[123,125,40,41,91,93,61,59,44,60,62,45]
inductive Wd where
 |nm (s:List UInt8)
 |nu (n:Nat)
 |tx (s:List UInt8)
 |sg (c:UInt8)
def Wd.t:Wd->List UInt8
 | .nm s=>s
 | .nu n=>Go.Lib.decDigits n
 | .tx s=>34::(s++[34])
 | .sg c=>[c]
def Wd.ok:Wd->Prop
 | .nm s=>jX (s.headD 0)=true∧(∀c∈s,abl c=true)∧s.length<=20
 | .nu n=>n<=899
 | .tx s=>s=[112,114,111,116,111,51]
 | .sg c=>c∈jn
def avc(r:List UInt8):Prop:=∀c a,r=c::a->abl c=false∧c≠46
def Wd.nb(w:Wd)(r:List UInt8):Prop:=match w with
 | .nm _=>avc r
 | .nu _=>avc r
 |_=>True
theorem ahv(p:UInt8->Bool):∀{a b r f:List UInt8},(∀c∈a,p c=true)->(∀c∈b,p c=true)->(∀c t,r=c::t->p c=false)->(∀c t,f=c::t->p c=false)->a++r=b++f->a=b∧r=f
 | [],[],r,f,_,_,_,_,h=>⟨rfl,h⟩
 | [],c::b,r,f,_,k,j,_,h=>absurd (k c (by simp)) (by rw[j c _ h];decide)
 |c::a,[],r,f,i,_,_,e,h=>absurd (i c (by simp)) (by rw[e c _ h.symm];decide)
 |c::a,d::b,r,f,i,k,j,e,h=>by obtain⟨u,q⟩:=Bt h;obtain⟨m,v⟩:=ahv p (λx l=>i x (A3 _ l)) (λx l=>k x (A3 _ l)) j e q;exact⟨by rw[u,m],v⟩
def dgV(l:List UInt8):Nat:=l.foldl (λv c=>v*10+(c.toNat-48)) 0
theorem aeJ(n:Nat):dgV (Go.Lib.decDigits n)=n∧(∀c∈Go.Lib.decDigits n,jg c=true)∧Go.Lib.decDigits n≠[]∧((Go.Lib.decDigits n).headD 0=48->n=0):=by
 have a:∀d:Nat,d<10->(Az (48+d)).toNat=48+d:=λd f=>by rw[CP];omega
 have b:∀d:Nat,d<10->jg (Az (48+d))=true:=λd f=>by unfold jg;rw[a d f];exact decide_eq_true (by omega)
 induction n using DG with
 |ind n m=>
  rw[Go.Lib.decDigits];by_cases h:n<10
  ·rw[dif_pos h];refine⟨?_,?_,by simp,?_⟩;·simp only[dgV,Bf,Cc,a n h];omega
   ·intro c e;rw[Av.1 e];exact b n h
   ·intro i;have:=congrArg AY (show Az (48+n)=48 from i);rw[a n h] at this;have:(48:UInt8).toNat=48:=rfl;omega
  ·rw[dif_neg h];obtain⟨k,p,q,j⟩:=m (n / 10) (by omega);refine⟨?_,?_,by simp,?_⟩;·unfold dgV at k ⊢;rw[Dp,k];simp only[Bf,Cc,a _ (show n%10<10 by omega)];omega
   ·intro c e;rcases Aw.1 e with e|e;·exact p c e
    ·rw[Av.1 e];exact b _ (by omega)
   ·intro i;cases f:Go.Lib.decDigits (n / 10) with
    |nil=>exact absurd f q
    |cons c l=>rw[f] at i j;have:=j i;omega
def wkB(c:UInt8):Nat:=if jX c=true then 1 else if jg c=true then 2 else if c=34 then 3 else 4
def Wd.wk:Wd->Nat
 | .nm _=>1
 | .nu _=>2
 | .tx _=>3
 | .sg _=>4
theorem Wd.head{w:Wd}(h:w.ok):∃c t,w.t=c::t∧wkB c=w.wk:=by
 cases w with
 |nm s=>
  obtain⟨a, -, -⟩:=h;cases s with
  |nil=>exact absurd a (by decide)
  |cons c l=>have a:jX c=true:=a;exact⟨c,l,rfl,by simp[wkB,a,Wd.wk]⟩
 |nu n=>
  obtain⟨-,e,f, -⟩:=aeJ n;cases b:Go.Lib.decDigits n with
  |nil=>exact absurd b f
  |cons c t=>
   have a:=e c (by rw[b];simp);refine⟨c,t,b,?_⟩;have d:jX c=false:=by unfold jg at a;have a:=of_decide_eq_true a;unfold jX;rw[decide_eq_false (by omega),decide_eq_false (by omega)];simp only[CE,beq_eq_false_iff_ne];rintro rfl;revert a;decide
   simp[wkB,d,a,Wd.wk]
 |tx s=>exact⟨34,_,rfl,show wkB 34=3 by decide⟩
 |sg c=>
  refine⟨c,[],rfl,?_⟩;have h:c∈jn:=h;have:∀c∈jn,wkB c=4:=by decide
  exact this c h
theorem Wd.uniq{w w':Wd}(h:w.ok)(l:w'.ok){r b:List UInt8}(u:w.nb r)(f:w'.nb b)(e:w.t++r=w'.t++b):w=w'∧r=b:=by
 have j:w.wk=w'.wk:=by obtain⟨c,t,p,A⟩:=Wd.head h;obtain⟨x,t',q,k⟩:=Wd.head l;rw[p,q] at e;rw[<-A,<-k,(Bt e).1]
 cases w with
 |nm s=>
  cases w' with
  |nm s'=>obtain⟨d,a⟩:=ahv abl h.2.1 l.2.1 (λc t i=>(u c t i).1) (λc t i=>(f c t i).1) e;exact⟨by rw[d],a⟩
  |_=>exact absurd j (by simp[Wd.wk])
 |nu n=>
  cases w' with
  |nu m=>
   have y:∀{r:List UInt8},avc r->∀c t,r=c::t->jg c=false:=λD c t i=>by have:=(D c t i).1;unfold abl at this;exact(Cj.1 this).2
   obtain⟨v,C, -⟩:=aeJ n;obtain⟨B,z, -⟩:=aeJ m;obtain⟨d,a⟩:=ahv jg C z (y u) (y f) e;rw[d,B] at v;exact⟨by rw[v],a⟩
  |_=>exact absurd j (by simp[Wd.wk])
 |tx s=>
  cases w' with
  |tx s'=>have p:s=s':=AE h (Eq.symm l);subst p;have e:(34::(s++[34]))++r=(34::(s++[34]))++b:=e;exact⟨rfl,List.append_cancel_left e⟩
  |_=>exact absurd j (by simp[Wd.wk])
 |sg c=>
  cases w' with
  |sg x=>obtain⟨d,a⟩:=Bt (show c::r=x::b from e);exact⟨by rw[d],a⟩
  |_=>exact absurd j (by simp[Wd.wk])
abbrev Ws:=List (Wd×List UInt8)
def cM:Ws->List UInt8
 | []=>[]
 |(w,a)::l=>w.t++(a++cM l)
def Ws.ok:Ws->Prop
 | []=>True
 |(w,a)::l=>w.ok∧(∀c∈a,pG c=true)∧w.nb (a++cM l)∧Ws.ok l
theorem tO:∀a b:Ws,cM (a++b)=cM a++cM b
 | [],b=>rfl
 |(w,c)::a,b=>by simp[cM,tO a b]
theorem Ws.nosp{l:Ws}(h:Ws.ok l):∀c t,cM l=c::t->pG c=false:=by
 intro c t e;cases l with
 |nil=>cases e
 |cons x l=>
  obtain⟨w,m⟩:=x;obtain⟨d,t',b,i⟩:=Wd.head h.1;rw[cM,b] at e;rw[<-(Bt e).1];by_cases j:pG d=true
  ·exfalso;have:d=32∨d=10:=by simpa [pG] using j
   have k:=h.1;rcases this with rfl|rfl
   ·have f:w.wk=4:=by rw[<-i];decide
    cases w with
    |sg c=>have a:c∈jn:=k;have:c=32:=(Bt b).1;subst this;revert a;decide
    |_=>simp[Wd.wk] at f
   ·have f:w.wk=4:=by rw[<-i];decide
    cases w with
    |sg c=>have a:c∈jn:=k;have:c=10:=(Bt b).1;subst this;revert a;decide
    |_=>simp[Wd.wk] at f
  ·simpa using j
theorem Ws.uniq:∀{l b:Ws},Ws.ok l->Ws.ok b->cM l=cM b->l=b
 | [],[],_,_,_=>rfl
 | [],(w,f)::b,_,a,e=>by obtain⟨c,t,d, -⟩:=Wd.head a.1;rw[cM,cM,d] at e;cases e
 |(w,f)::l,[],h,_,e=>by obtain⟨c,t,d, -⟩:=Wd.head h.1;rw[cM,cM,d] at e;cases e
 |(w,f)::l,(w',j)::b,h,a,e=>by rw[cM,cM] at e;obtain⟨m,k⟩:=Wd.uniq h.1 a.1 h.2.2.1 a.2.2.1 e;obtain⟨i,p⟩:=ahv pG h.2.1 a.2.1 (Ws.nosp h.2.2.2) (Ws.nosp a.2.2.2) k;rw[m,i,Ws.uniq h.2.2.2 a.2.2.2 p]
def Wd.long:Wd->Bool
 | .nm _=>true
 | .nu _=>true
 |_=>false
def okC:Ws->Prop
 | []=>True
 |(w,b)::l=>w.ok∧(∀c∈b,pG c=true)∧(w.long=true->b≠[]∨∃c a d,l=(.sg c,a)::d)∧okC l
theorem uF:∀{a b:Ws},okC a->okC b->okC (a++b)
 | [],b,_,f=>f
 |(w,k)::a,b,d,f=>⟨d.1,d.2.1,λi=>by
  rcases d.2.2.1 i with h|⟨c,e,j,h⟩
  ·exact .inl h
  ·exact .inr ⟨c,e,j++b,by rw[h];rfl⟩,uF d.2.2.2 f⟩
theorem arC{α:Type}{f:α->Ws}:∀{l:List α},(∀x∈l,okC (f x))->okC (l.flatMap f)
 | [],_=>trivial
 |x::l,h=>by rw[BV];exact uF (h x (by simp)) (arC λy a=>h y (by simp[a]))
theorem aMF{c:UInt8}(h:pG c=true):abl c=false∧c≠46:=by
 have:c=32∨c=10:=by simpa [pG] using h
 rcases this with rfl|rfl<;>decide
theorem okC.ok:∀{l:Ws},okC l->Ws.ok l
 | [],_=>trivial
 |(w,a)::l,h=>by
  refine⟨h.1,h.2.1,?_,okC.ok h.2.2.2⟩;have key:w.long=true->avc (a++cM l):=λm c i e=>by
   cases a with
   |cons d a=>rw[<-(Bt (show d::(a++cM l)=c::i from e)).1];exact aMF (h.2.1 d (by simp))
   |nil=>
    rcases h.2.2.1 m with k|⟨f,b,p,rfl⟩
    ·exact absurd rfl k
    ·have j:f∈jn:=h.2.2.2.1;have e:f::(b++cM p)=c::i:=e;rw[<-(Bt e).1];have:∀c∈jn,abl c=false∧c≠46:=by decide
     exact this f j
  cases w with
  |nm s=>exact key rfl
  |nu n=>exact key rfl
  |tx s=>trivial
  |sg c=>trivial
structure Sta where
 lab:Nat
 ty:List UInt8
 key:List UInt8
 num:Nat
 pk:Nat
abbrev aMY:List UInt8:=[111,112,116,105,111,110,97,108]
abbrev aMZ:List UInt8:=[114,101,112,101,97,116,101,100]
abbrev aM0:List UInt8:=[109,97,112]
abbrev aJ4:List UInt8:=[112,97,99,107,101,100]
abbrev aMG:List UInt8:=[116,114,117,101]
abbrev aLK:List UInt8:=[102,97,108,115,101]
abbrev lk:List UInt8:=[109,101,115,115,97,103,101]
abbrev atd:List UInt8:=[101,110,117,109]
abbrev aM1:List UInt8:=[111,110,101,111,102]
abbrev aM2:List UInt8:=[115,121,110,116,97,120]
abbrev ate:List UInt8:=[112,97,99,107,97,103,101]
abbrev wP3:List UInt8:=[112,114,111,116,111,51]
def aee(p:UInt8)(n:Nat):List UInt8:=p::Go.Lib.decDigits n
def uG(p:UInt8)(n:Nat)(a:List UInt8):Ws:=[(.nm (aee p n),[32]),(.sg 61,[32]),(.nu n,a)]
def xq:Ws:=[(.sg 59,[10])]
def aFi(b:List UInt8):Ws:=[(.sg 91,[]),(.nm aJ4,[32]),(.sg 61,[32]),(.nm b,[]),(.sg 93,[])]
def Sta.ws(f:Sta):Ws:=
 if f.lab=3 then [(.nm aM0,[]),(.sg 60,[]),(.nm f.key,[]),(.sg 44,[32]),(.nm f.ty,[]),(.sg 62,[32])]++(uG 102 f.num []++xq)
 else (if f.lab=1 then [(.nm aMY,[32])] else if f.lab=2 then [(.nm aMZ,[32])] else [])++((.nm f.ty,[32])::
  (if f.pk=0 then uG 102 f.num []++xq else uG 102 f.num [32]++(aFi (if f.pk=1 then aLK else aMG)++xq)))
def arD(x:List UInt8×Nat):Ws:=(.nm x.1,[32])::(uG 111 x.2 []++xq)
def sM(fs:List Sta)(a:List (List UInt8×Nat)):Ws:=
 fs.flatMap Sta.ws++(if a=[] then [] else (.nm aM1,[32])::(.nm [99],[32])::(.sg 123,[10])::(a.flatMap arD++[(.sg 125,[10])]))
def aFj(name:List UInt8)(fs:List Sta)(a:List (List UInt8×Nat)):Ws:=(.nm lk,[32])::(.nm name,[32])::(.sg 123,[10])::(sM fs a++[(.sg 125,[10])])
def nS:Ws:=[(.nm aM2,[32]),(.sg 61,[32]),(.tx wP3,[]),(.sg 59,[10]),(.nm ate,[32]),(.nm [97],[]),(.sg 59,[10])]
def nh:Ws:=[(.nm atd,[32]),(.nm [69],[32]),(.sg 123,[32]),(.nm [65],[32]),(.sg 61,[32]),(.nu 0,[]),(.sg 59,[32]),(.nm [66],[32]),(.sg 61,[32]),(.nu 1,[]),(.sg 59,[32]),(.nm [67],[32]),(.sg 61,[32]),(.sg 45,[]),(.nu 1,[]),(.sg 59,[32]),(.sg 125,[10])]
def af9(fs:List Sta)(c:List (List UInt8×Nat))(b:List Sta)(a:List (List UInt8×Nat)):Ws:=nS++(nh++(aFj [73] fs c++aFj [77] b a))
def nT:List (List UInt8):=[[105,110,116,51,50],[115,116,114,105,110,103],[105,110,116,54,52],[98,111,111,108],[98,121,116,101,115],[117,105,110,116,51,50],[117,105,110,116,54,52],[115,105,110,116,51,50],[115,105,110,116,54,52],[102,105,120,101,100,51,50],[102,105,120,101,100,54,52],[115,102,105,120,101,100,51,50],[115,102,105,120,101,100,54,52],[100,111,117,98,108,101],[102,108,111,97,116],[69],[73],[77]]
def azG:List (List UInt8):=[[115,116,114,105,110,103],[105,110,116,51,50],[98,111,111,108],[117,105,110,116,54,52],[115,105,110,116,51,50],[102,105,120,101,100,51,50]]
structure Sta.ok(f:Sta):Prop where
 lab:f.lab<=3
 ty:f.ty∈nT
 key:f.lab=3->f.key∈azG
 nokey:f.lab≠3->f.key=[]
 num:1<=f.num∧f.num<=899
 pk:f.pk<=2
 pk0:f.lab≠2->f.pk=0
def yI(x:List UInt8×Nat):Prop:=x.1∈nT∧1<=x.2∧x.2<=899
instance:DecidablePred Wd.ok:=λw=>match w with
 | .nm s=>inferInstanceAs (Decidable (jX (s.headD 0)=true∧(∀c∈s,abl c=true)∧s.length<=20))
 | .nu n=>inferInstanceAs (Decidable (n<=899))
 | .tx s=>inferInstanceAs (Decidable (s=[112,114,111,116,111,51]))
 | .sg c=>inferInstanceAs (Decidable (c∈jn))
theorem aAs{p:UInt8}{n:Nat}(hp:jX p=true)(b:n<=1000000):(Wd.nm (aee p n)).ok:=by
 refine⟨hp,λc a=>?_,?_⟩
 ·rcases AN.1 a with rfl|a;·unfold abl;rw[hp];rfl
  ·unfold abl;rw[(aeJ n).2.1 c a,Bool.or_true]
 ·have:(Go.Lib.decDigits n).length<=19:=by
   rw[Go.Lib.decDigits];split;·simp
   ·rw[Go.Lib.decDigits];split;·simp
    ·rw[Go.Lib.decDigits];split;·simp
     ·rw[Go.Lib.decDigits];split;·simp
      ·rw[Go.Lib.decDigits];split;·simp
       ·rw[Go.Lib.decDigits];split;·simp
        ·rw[Go.Lib.decDigits];split;·simp
         ·omega
  show (aee p n).length<=20;rw[aee,Af];omega
theorem aFk:∀s∈nT,(Wd.nm s).ok:=by decide
theorem aLL:∀s∈azG,(Wd.nm s).ok:=by decide
theorem spN:∀c∈([]:List UInt8),pG c=true:=by simp
theorem okC.sg{c:UInt8}{a:List UInt8}{l:Ws}(b:okC l)(e:c∈jn:=by decide)(d:∀c∈a,pG c=true:=by decide):okC ((.sg c,a)::l):=⟨e,d,λh=>(by cases h),b⟩
theorem okC.wd{w:Wd}{a:List UInt8}{l:Ws}(f:w.ok)(b:okC l)(e:a≠[]:=by decide)(d:∀c∈a,pG c=true:=by decide):okC ((w,a)::l):=⟨f,d,λ_=>.inl e,b⟩
theorem okC.wd0{w:Wd}{c:UInt8}{a:List UInt8}{l:Ws}(b:w.ok)(d:okC ((.sg c,a)::l)):okC ((w,[])::(.sg c,a)::l):=⟨b,spN,λ_=>.inr ⟨c,a,l,rfl⟩,d⟩
theorem okC.tx{s a:List UInt8}{l:Ws}(e:(Wd.tx s).ok)(b:okC l)(d:∀c∈a,pG c=true:=by decide):okC ((.tx s,a)::l):=⟨e,d,λh=>(by cases h),b⟩
theorem aEp:okC xq:=.sg trivial
theorem aGP{p:UInt8}{n:Nat}(hp:jX p=true)(a:n<=899):okC (uG p n []++xq):=
 .wd (aAs hp (by omega)) (.sg (.wd0 (show n<=899 by omega) aEp))
theorem aIo{b:List UInt8}(a:(Wd.nm b).ok):okC (aFi b++xq):=.sg (.wd (by decide) (.sg (.wd0 a (.sg aEp))))
theorem Sta.okc{f:Sta}(h:f.ok):okC f.ws:=by
 have b:=aGP (p:=102) (n:=f.num) (by decide) h.num.2;unfold Sta.ws;by_cases a:f.lab=3;·rw[if_pos a];exact .wd0 (by decide) (.sg (.wd0 (aLL _ (h.key a)) (.sg (.wd0 (aFk _ h.ty) (.sg b)))))
 ·rw[if_neg a];refine uF ?_ (.wd (aFk _ h.ty) ?_)
  ·split;·exact .wd (by decide) trivial
   ·split;·exact .wd (by decide) trivial
    ·trivial
  ·split;·exact b
   ·refine .wd (aAs (by decide) (by have:=h.num.2;omega)) (.sg (.wd (show f.num<=899 by have:=h.num.2;omega) (aIo ?_)));split<;>decide
theorem aJ5{x:List UInt8×Nat}(h:yI x):okC (arD x):=.wd (aFk _ h.1) (aGP (by decide) h.2.2)
theorem aIp{fs:List Sta}{a:List (List UInt8×Nat)}(c:∀f∈fs,f.ok)(b:∀x∈a,yI x):okC (sM fs a):=by
 refine uF (arC λf h=>Sta.okc (c f h)) ?_;split;·trivial
 ·exact .wd (by decide) (.wd (by decide) (.sg (uF (arC λx h=>aJ5 (b x h)) (.sg trivial))))
theorem aEq{name:List UInt8}(b:(Wd.nm name).ok){fs:List Sta}{a:List (List UInt8×Nat)}(d:∀f∈fs,f.ok)(c:∀x∈a,yI x):okC (aFj name fs a):=
 .wd (by decide) (.wd b (.sg (uF (aIp d c) (.sg trivial))))
theorem aIq:okC nS:=.wd (by decide) (.sg (.tx (by decide) (.sg (.wd (by decide) (.wd0 (by decide) (.sg trivial))))))
theorem aIr:okC nh:=
 .wd (by decide) (.wd (by decide) (.sg (.wd (by decide) (.sg (.wd0 (by decide) (.sg (.wd (by decide) (.sg (.wd0 (by decide) (.sg (.wd (by decide) (.sg (.sg (.wd0 (by decide) (.sg (.sg trivial))))))))))))))))
theorem aIs{fs b:List Sta}{e a:List (List UInt8×Nat)}(i:∀f∈fs,f.ok)(h:∀x∈e,yI x)(d:∀f∈b,f.ok)(c:∀x∈a,yI x):Ws.ok (af9 fs e b a):=
 (uF aIq (uF aIr (uF (aEq (by decide) i h) (aEq (by decide) d c)))).ok
def qr(a b:List UInt8)(r:Int):Prop:=r=if a=b then 0 else if AO a b then -1 else 1
def avd(s:List UInt8)(r:List bi×Int):Prop:=r=fT s
def atf(s:List UInt8)(r:List bi×Int):Prop:=r=fT s
def aAt(x:bi)(r:List UInt8):Prop:=r=dE x
def axN(x:bi)(r:List UInt8):Prop:=r=dE x
def ave(k r:Int):Prop:=r=dO k
def aAu(k n r:Int):Prop:=r=toR k n
def avf(k n:Int)(r:Bool):Prop:=r=yH k n
def arE(s:List UInt8)(r:Bool):Prop:=r=lw s
def aga(s:List UInt8)(r:Int×Int):Prop:=r=fy s
def yJ(s:List UInt8)(r:Bool):Prop:=r=lw s
def qt(v r:Int):Prop:=r=sL v
def wE(v r:Int):Prop:=r=if v%2=1 then 18446744073709551615-v / 2 else v / 2
def agb(v:Int)(r:List UInt8):Prop:=r=Go.Lib.decDigits v.toNat
def ahw(v:Int)(r:List UInt8):Prop:=0<=v->r=Go.Lib.decDigits v.toNat
def abm(k r:Int):Prop:=r=dO k
def abn(k n r:Int):Prop:=r=ajf k n
def xr(c:Int)(r:Bool):Prop:=r=jX (Az c.toNat)
def yK(c:Int)(r:Bool):Prop:=r=jg (Az c.toNat)
def yL(c r:Int):Prop:=(48<=c->c<=57->r=c-48)∧(¬(48<=c∧c<=57)->r<0∨10<=r)∧ -1<=r∧r<=15
abbrev LxS:=List UInt8×Int×Int×Int
def ajg(s:List UInt8)(i e a b c:Int)(r:Tok×LxS):Prop:=r=(⟨0,[],0,0⟩,s,i,b,c)
def jY(s:List UInt8)(i e a:Int)(t:List UInt8)(r:Bool×LxS):Prop:=r=(t.isPrefixOf (s.drop i.toNat),s,i,e,a)
def lO(s:List UInt8)(i e a k:Int)(r:Int×LxS):Prop:=r=((((s.drop (i+k).toNat).headD 0).toNat:Int),s,i,e,a)
def SpP(s:List UInt8)(i e a:Int)(r:LxS):Prop:=∃b rest,(∀c∈b,pG c=true)∧(∀c t,rest=c::t->pG c=false)∧dg s i b rest∧r=(s,i+(b.length:Int),e,a)
def xK(s:List UInt8)(i e a:Int)(r:LxS):Prop:=SpP s i e a r
def Wd.tok(p:Int):Wd->Tok
 | .nm s=>⟨1,s,0,p⟩
 | .nu n=>⟨2,[],n,p⟩
 | .tx s=>⟨3,s,0,p⟩
 | .sg c=>⟨4,[c],0,p⟩
def WdP(s:List UInt8)(i e a:Int)(r:Tok×LxS):Prop:=∃(w:Wd)(rest:List UInt8),w.ok∧w.nb rest∧dg s i w.t rest∧r=(w.tok i,s,i+(w.t.length:Int),e,a)
def vP(s:List UInt8)(i e a:Int)(r:Tok×LxS):Prop:=WdP s i e a r
def yM(s:List UInt8)(i e a:Int)(r:Tok×LxS):Prop:=WdP s i e a r
def qu(s:List UInt8)(i e a:Int)(r:Tok×LxS):Prop:=(i<(s.length:Int)->WdP s i e a r)∧(i=(s.length:Int)->r=(⟨5,[],0,i⟩,s,i,e,a))
def gm:Int->Ws->List Tok
 |p,[]=>[⟨5,[],0,p⟩]
 |p,(w,a)::l=>w.tok p::gm (p+(w.t.length:Int)+(a.length:Int)) l
def Made(s:List UInt8):Prop:=∃(fs:List Sta)(c:List (List UInt8×Nat))(b:List Sta)(a:List (List UInt8×Nat)),((∀f∈fs,f.ok)∧(∀x∈c,yI x)∧(∀f∈b,f.ok)∧(∀x∈a,yI x))∧s=cM (af9 fs c b a)
def akv(s:List UInt8)(r:List Tok×Int×Int):Prop:=r.2.1=0->s.length<=3000∧∃l,Ws.ok l∧s=cM l∧r.1=gm 0 l
def amU(l:List Tok):Prop:=0<l.length∧l.length<=3001∧(l.getD (l.length-1) (aK .tok)).kind=5∧∀t∈l,(t.text.length<=3000∧(t.kind=1->0<t.text.length))∧0<=t.n∧t.n<=899
def isS(t:Tok)(p:List UInt8):Bool:=t.kind==4&&decide (t.text=p)
def isW(t:Tok)(p:List UInt8):Bool:=t.kind==1&&decide (t.text=p)
def clo:Nat->List Tok->Nat
 |_,[]=>0
 |d,t::l=>if isS t [123] then clo (d+1) l+1 else if isS t [125] then (match d with|0=>0|d+1=>clo d l+1) else clo d l+1
def Zed(l:List Tok)(i:Int):Int:=i+(clo 0 (l.drop i.toNat):Int)
abbrev tk(l:List Tok)(i:Int):Tok:=l.getD i.toNat (aK .tok)
def Eat(l:List Tok)(i e:Int)(c:List Tok)(a b:Int):Prop:=c=l∧i<=a∧a<l.length∧(b=0->e=0∧i<a∧Zed l a=Zed l i)
def arF(l:List Tok)(i e:Int)(c:List Tok)(a b:Int):Prop:=c=l∧i<=a∧a<l.length∧(b=0->e=0∧a=i+1)
def vQ:List (List UInt8):=[[100,111,117,98,108,101],[102,108,111,97,116],[105,110,116,51,50],[105,110,116,54,52],[117,105,110,116,51,50],[117,105,110,116,54,52],[115,105,110,116,51,50],[115,105,110,116,54,52],[102,105,120,101,100,51,50],[102,105,120,101,100,54,52],[115,102,105,120,101,100,51,50],[115,102,105,120,101,100,54,52],[98,111,111,108],[115,116,114,105,110,103],[98,121,116,101,115]]
def agc:List (List UInt8)->Int->List UInt8->Int
 | [],_,_=>0
 |x::l,k,s=>if x=s then k else agc l (k+1) s
def jh(s:List UInt8):Int:=agc vQ 1 s
def amV(k:Int):Prop:=3<=k∧k<=14
def sN(x:bI):Prop:=x.typ.length<=3000∧x.key.length<=3000∧x.name.length<=3000∧(0<=x.oneof∧x.oneof<=30∧0<=x.num∧x.num<=899)∧0<=x.label∧x.label<=3∧(0<x.oneof->x.label=0)∧(x.label=3->amV (jh x.key))
def adc(x:PEn):Prop:=x.name.length<=3000∧x.values.length<=31∧∀v∈x.values,v.name.length<=3000
def jZ(l:List (List UInt8)):Prop:=∀x∈l,x.length<=3000
mutual
def amW:aS->Nat
 | .mk _ _ _ ms _ _ _=>eL ms+1
def eL:List aS->Nat
 | []=>0
 |m::ms=>amW m+eL ms
end
mutual
def okM:aS->Prop
 | .mk nm fs os ms es ns ss=>nm.length<=3000∧(fs.length<=31∧∀f∈fs,sN f)∧(os.length<=30∧jZ os)∧(ms.length<=31∧xt ms)∧(es.length<=31∧∀e∈es,adc e)∧ns.length<=31∧(ss.length<=31∧jZ ss)
def xt:List aS->Prop
 | []=>True
 |m::ms=>okM m∧xt ms
end
abbrev aeK:=List UInt8×List bI×List (List UInt8)×List aS×List PEn×List (Int×Int)×List (List UInt8)
def ahx(s:List UInt8)(r:Int):Prop:=r=jh s
def yN(l:List Tok)(i e a:Int)(r:Tok×List Tok×Int×Int×Int):Prop:=r=(l.getD i.toNat (aK .tok),l,i,e,a)
def xL(l:List Tok)(i e a p:Int)(r:List Tok×Int×Int×Int):Prop:=r.1=l∧r.2.1=i∧(p≠0->r.2.2.1≠0)
def gF(l:List Tok)(i e a:Int)(p:List UInt8)(r:Bool×List Tok×Int×Int×Int):Prop:=r=(e==0&&isS (tk l i) p,l,i,e,a)
def gG(l:List Tok)(i e a:Int)(p:List UInt8)(r:Bool×List Tok×Int×Int×Int):Prop:=r=(e==0&&isW (tk l i) p,l,i,e,a)
def xM(l:List Tok)(i e a:Int)(p:List UInt8)(r:List Tok×Int×Int×Int):Prop:=arF l i e r.1 r.2.1 r.2.2.1∧(r.2.2.1=0->isS (tk l i) p=true)
def gH(l:List Tok)(i e a:Int)(p:List UInt8)(r:Bool×List Tok×Int×Int×Int):Prop:=r=if (e==0&&isW (tk l i) p)=true then (true,l,i+1,e,a) else (false,l,i,e,a)
def vR(l:List Tok)(i e a:Int)(r:List UInt8×List Tok×Int×Int×Int):Prop:=arF l i e r.2.1 r.2.2.1 r.2.2.2.1∧r.1.length<=3000∧(r.2.2.2.1=0->(tk l i).kind=1∧r.1=(tk l i).text)
def xN(l:List Tok)(i e a:Int)(r:List UInt8×List Tok×Int×Int×Int):Prop:=arF l i e r.2.1 r.2.2.1 r.2.2.2.1∧r.1.length<=3000∧(r.2.2.2.1=0->(tk l i).kind=1∧r.1=(tk l i).text)
def xO(l:List Tok)(i e a:Int)(r:List UInt8×List Tok×Int×Int×Int):Prop:=arF l i e r.2.1 r.2.2.1 r.2.2.2.1∧r.1.length<=3000∧(r.2.2.2.1=0->(tk l i).kind=3∧r.1=(tk l i).text)
def yO(l:List Tok)(i e a:Int)(r:Int×List Tok×Int×Int×Int):Prop:=arF l i e r.2.1 r.2.2.1 r.2.2.2.1∧(0<=r.1∧r.1<=899)∧(r.2.2.2.1=0->(tk l i).kind=2)
def xP(l:List Tok)(i e a p:Int)(r:Bool×List Tok×Int×Int×Int):Prop:=r.2.1=l∧r.2.2.1=i∧(r.1=true->r.2.2.2.1≠0)∧(r.1=false->r.2.2.2.1=0)∧(r.2.2.2.1=0->e=0∧p<30)
def oN(l:List Tok)(i e a:Int)(n:List UInt8)(fs:List bI)(c:List (List UInt8))(ms:List aS)(es:List PEn)(b:List (Int×Int))(d:List (List UInt8))(r:List Tok×Int×Int×Int×aeK):Prop:=r.1=l∧r.2.1=i∧(r.2.2.1=0->e=0∧fs.length<30)∧r.2.2.2.2=(n,fs,c,ms,es,b,d)
def xQ(l:List Tok)(i e a:Int)(n:List UInt8)(fs:List bI)(c:List (List UInt8))(ms:List aS)(es:List PEn)(b:List (Int×Int))(d:List (List UInt8))(p:bI)(r:List Tok×Int×Int×Int×aeK):Prop:=Eat l i e r.1 r.2.1 r.2.2.1∧∃x,(r.2.2.1=0->sN x)∧r.2.2.2.2=(n,fs++[x],c,ms,es,b,d)
def vV(l:List Tok)(i e a:Int)(n:List UInt8)(fs:List bI)(c:List (List UInt8))(ms:List aS)(es:List PEn)(b:List (Int×Int))(d:List (List UInt8))(r:List Tok×Int×Int×Int×aeK):Prop:=Eat l i e r.1 r.2.1 r.2.2.1∧∃x,(r.2.2.1=0->sN x)∧r.2.2.2.2=(n,fs++[x],c,ms,es,b,d)
def vW(l:List Tok)(i e a:Int)(n:List UInt8)(fs:List bI)(h:List (List UInt8))(ms:List aS)(es:List PEn)(d:List (Int×Int))(f:List (List UInt8))(r:List Tok×Int×Int×Int×aeK):Prop:=Eat l i e r.1 r.2.1 r.2.2.1∧∃b c,(b.length<=31∧(r.2.2.1=0->b.length<=30∧∀x∈b,sN x))∧(c.length<=30∧jZ c)∧r.2.2.2.2=(n,b,c,ms,es,d,f)
def sO(l:List Tok)(i e a:Int)(n:List UInt8)(fs:List bI)(d:List (List UInt8))(ms:List aS)(es:List PEn)(f:List (Int×Int))(h:List (List UInt8))(r:List Tok×Int×Int×Int×aeK):Prop:=Eat l i e r.1 r.2.1 r.2.2.1∧∃c b,(c.length<=31∧(r.2.2.1=0->c.length<=30))∧(b.length<=31∧(r.2.2.1=0->b.length<=30)∧jZ b)∧r.2.2.2.2=(n,fs,d,ms,es,c,b)
def xR(l:List Tok)(i e a:Int)(r:PEn×List Tok×Int×Int×Int):Prop:=(Eat l i e r.2.1 r.2.2.1 r.2.2.2.1∧(r.2.2.2.1=0->r.2.2.1=Zed l (i+3)+1))∧adc r.1
def tP(l:List Tok)(i e a d:Int)(r:aS×List Tok×Int×Int×Int):Prop:=Eat l i e r.2.1 r.2.2.1 r.2.2.2.1∧(r.2.2.2.1=0->(okM r.1∧(amW r.1:Int)<=r.2.2.1-i)∧r.1.name=(tk l (i+1)).text∧r.2.2.1=Zed l (i+3)+1)
def aFl(pk:List UInt8)(a:List (List UInt8))(ms:List aS)(es:List PEn):Prop:=(pk=[97]∧∃m∈ms,m.name=[77])∧(a.length<=31∧jZ a)∧(ms.length<=31∧xt ms∧eL ms<=3001)∧(es.length<=31∧∀e∈es,adc e)
def yP(s:List UInt8)(r:List UInt8×List (List UInt8)×List aS×List PEn×Int×Int):Prop:=r.2.2.2.2.1=0->aFl r.1 r.2.1 r.2.2.1 r.2.2.2.1
def akw(l:List (List UInt8))(s:List UInt8)(r:Bool):Prop:=r=true↔s∈l
def sP(a b:List UInt8):List UInt8:=if a=[]∨b=[] then a++b else a++[46]++b
def ahy(a b r:List UInt8):Prop:=r=sP a b
def amX(b:Nat)(x:PNm):Prop:=(x.kind=16∨x.kind=17)∧okM x.m∧adc x.x∧x.name.length<=b
def nmE(b a:List UInt8)(x:PEn):PNm:=⟨sP b x.name,17,.mk [] [] [] [] [] [] [],x,a⟩
mutual
def nmM(pre file:List UInt8):aS->List PNm
 | .mk nm fs os ms es ns ss=>⟨sP pre nm,16,.mk nm fs os ms es ns ss,⟨[],[]⟩,file⟩::(yQ (sP pre nm) file ms++es.map (nmE (sP pre nm) file))
def yQ(pre file:List UInt8):List aS->List PNm
 | []=>[]
 |m::ms=>nmM pre file m++yQ pre file ms
end
def ahz(ms:List aS)(es:List PEn)(b a:List UInt8):List PNm:=yQ b a ms++es.map (nmE b a)
def sk(l:List ca):List PNm:=l.flatMap λf=>ahz f.msgs f.enums f.pack f.name
def xu(ms:List aS)(es:List PEn)(a b:List UInt8)(r:List PNm):Prop:=r=ahz ms es a b∧r.length<=32*eL ms+es.length∧∀x∈r,amX (a.length+3001*(eL ms+1)) x
def xS(l:List ca):Prop:=l.length=1∧∀f∈l,aFl f.pack f.imports f.msgs f.enums∧f.sees.length<=40
def akx(l:List ca)(r:List PNm):Prop:=r=sk l∧r.length<=100000∧∀x∈r,amX 10000000 x
def abo(l:List ca)(b a s:List UInt8)(r:List UInt8×Int×Int):Prop:=r.2.2=0->(r.2.1=16∨r.2.1=17)∧∃y∈sk l,y.name=r.1∧y.kind=r.2.1
structure aps(x:PFl):Prop where
 k:1<=x.kind∧x.kind<=17
 o:0<=x.oneof∧x.oneof<=30
 n:1<=x.num∧x.num<=899
 y:0<=x.key∧x.key<=15
 pk:x.packed=true->dO x.kind≠2∧x.label=2
 lb:0<=x.label∧x.label<=3
 ol:0<x.oneof->x.label=0
 ky:x.label=3->amV x.key
def sQ(x:PMs):Prop:=x.fields.length<=31∧(∀f∈x.fields,aps f)∧x.oneofs.length<=31∧(x.fields.map PFl.num).Pairwise (·<·)
def aky(m:aS)(f:bI)(r:Bool):Prop:=r=false->1<=f.num∧f.num<=536870911
def vy(l:List ca)(x:PNm)(r:PMs×Int):Prop:=r.2=0->sQ r.1∧r.1.name=x.name∧∀f∈r.1.fields,f.kind=16->∃y∈sk l,y.name=f.typ∧y.kind=16
def adF(l:List PEn)(x:PEn)(r:List PEn):Prop:=r.length=l.length+1
def yR(l:List PMs)(x:PMs)(r:List PMs):Prop:=r.length=l.length+1∧∀y,y∈r↔y∈l∨y=x
def ajh(ms:List PMs):Prop:=ms.length<=60∧∀m∈ms,sQ m
def aeL(ms:List PMs):Prop:=ajh ms∧(∀m∈ms,∀f∈m.fields,f.kind=16->∃y∈ms,y.name=f.typ)∧∃y∈ms,y.name=[97,46,77]
def xv(l:List ca)(r:List PMs×List PEn×Int×List UInt8):Prop:=r.2.2.1=0->aeL r.1∧r.2.1.length<=60
def abp(l:List et)(r:List ca×Int×List UInt8×Int):Prop:=r.2.1=0->xS r.1
def aji(l:List et)(s:List UInt8):List UInt8×Bool:=match l.find? (λx=>decide (x.name=s)) with|some x=>(x.text,true)|none=>([],false)
def ji(l:List et)(fs:List ca)(e:Int)(f:List UInt8)(a:Int)(s:List UInt8)(r:List UInt8×Bool×List et×List ca×Int×List UInt8×Int):Prop:=r.2.2=(l,fs,e,f,a)∧(r.1,r.2.1)=aji l s
def xT(l:List et)(fs:List ca)(e:Int)(f:List UInt8)(a p:Int)(s:List UInt8)(q:Int)(r:List et×List ca×Int×List UInt8×Int):Prop:=r.1=l∧r.2.1=fs∧(p≠0->r.2.2.1≠0)
def pH(l:List et)(fs:List ca)(e:Int)(f:List UInt8)(a:Int)(s:List UInt8)(o:List (List UInt8))(r:List et×List ca×Int×List UInt8×Int):Prop:=r.2.2.1=0->xS r.2.1
def dh(l:List PMs)(s:List UInt8):PMs×Bool:=match l.find? (λm=>decide (m.name=s)) with|some m=>(m,true)|none=>(⟨[],[],[]⟩,false)
def cQ(m:PMs)(n:Int):PFl×Bool:=match m.fields.find? (λf=>f.num==n) with|some f=>(f,true)|none=>(⟨0,[],0,0,[],0,false,0⟩,false)
def adG(l:List PMs)(es:List PEn)(s:List UInt8)(r:PMs×Bool):Prop:=r=dh l s
end Go.Proofs.YtndccphabnjkhaaGreat
namespace Go.AM
section
variable{P:Program}
def agd:Option (List V×List V)->V->V
 |none,h=>h
 |some (p,q),h=>.tup (p++h::q)
def aFm:Option (List V×List V)->Bool
 |none=>true
 |some (p,q)=>p.all V.flat&&q.all V.flat
def atg(P:Program)(f:FuncId)(vs:List V)(o:Option (List V×List V))(k:EK)(xs:List (Ty k)):Prop:=
 gc P f vs [] (agd o (.sw k 0 xs.length)) [some [.rw k xs],none]
theorem atg.dim{f:FuncId}{vs us:List V}{o:Option (List V×List V)}{k:EK}{xs:List (Ty k)}(h:atg P f us o k xs)(e:vs.map V.dim=us):atg P f vs o k xs:=gc.dim h e
theorem aGQ{I I':Nat->Nat->Prop}{ρ ρ':Nat->Nat}{N N':Nat}{w:World}{o:Option (List V×List V)}{h l:V}{cv:Value}(j:aFm o=true)(e:VRel I ρ N w (agd o h) cv)
  (k:∀cv,VRel I ρ N w h cv->VRel I' ρ' N' w l cv) (m:∀v cv,v.flat=true->VRel I ρ N w v cv->VRel I' ρ' N' w v cv):VRel I' ρ' N' w (agd o l) cv:=by
 cases o with
 |none=>exact k cv e
 |some u=>
  obtain⟨p,q⟩:=u;simp only[aFm,Ac] at j;simp only[agd] at e ⊢;cases e with
  |tup _ vs r f=>
  refine .tup _ vs (by simpa using r) ?_;intro i c cv a b;rcases Nat.lt_trichotomy i p.length with d|d|d;·rw[Ax d] at a;exact m c cv (AA.1 j.1 c (At a)) (f i c cv (by rw[Ax d];exact a) b)
  ·subst d;rw[Au (Ap _),De] at a;simp only[BN,Ae] at a;subst a;exact k cv (f _ h cv (by rw[Au (Ap _),De];rfl) b)
  ·rw[Au (by omega),show i-p.length=(i-p.length-1)+1 by omega,BI] at a;exact m c cv (AA.1 j.2 c (At a)) (f i c cv (by rw[Au (by omega),show i-p.length=(i-p.length-1)+1 by omega,BI];exact a) b)
theorem aGR{g:Gh}{w:World}{a:Occ}{o:Option (List V×List V)}{k:EK}{id n:Nat}{cv:Value}:aO g w a (agd o (.sw k id n)) cv:=by
 cases o with
 |none=>simp[agd,aO]
 |some b=>simp[agd,aO]
theorem atg.frame{f:FuncId}{vs:List V}{o:Option (List V×List V)}{k:EK}{xs:List (Ty k)}(h:atg P f vs o k xs)(hf:vs.all V.flat=true)(ho:aFm o=true)(hp:List aJ):
  gc P f vs hp (agd o (.sw k hp.length xs.length)) (hp++[some [.rw k xs],none]):=by
 intro w g aa aj D ac W ad;let u:Gh:={I:=g.I,ρ:=g.ρ,O:=λ_=>none,β:=g.β}
 have h0:HR u [] w:=⟨by simp,by simp,by simp,by simp,D.exI,by simp[u]⟩
 refine(h w u aa (aj.sub rfl (λh=>h) (λh=>by simp[u,h])) h0 ac W (λi x cv hx r=>(ad i x cv hx r).flat (AA.1 hf x (At hx)))).mono ?_;rintro e w' ⟨cv,g₁,rfl,q1,G,q3,q4⟩;have blk:∀b,b<w.heap.size->w'.heap[b]? =w.heap[b]?:=λb q=>G.block b q (by simp) rfl
 have C:∀b j,b<w.heap.size->g₁.I b j->g.I b j:=λb j q L=>G.iSame b j q (by simp) rfl L
 have an:∀b,b<w.heap.size->g₁.O b=none:=λb q=>G.oSame b q (by simp) rfl
 have af:w.heap.size<=g₁.ρ 0:=by
  rcases G.live 0 [.rw k xs] rfl with⟨_,h⟩|⟨_,h|h|⟨_,_,h,_⟩⟩
  ·simp at h
  ·exact h
  ·simp[u] at h
  ·simp at h
 let d:Gh:={I:=g₁.I,ρ:=λi=>if i=hp.length then g₁.ρ 0 else if i=hp.length+1 then g₁.ρ 1 else g.ρ i,β:=g.β,O:=λb=>if b<w.heap.size then g.O b else (match g₁.O b with
  |some .res=>some .res
  |_=>none)}
 have l:∀i,i<hp.length->d.ρ i=g.ρ i:=by intro i L;simp only[d];rw[if_neg (by omega),if_neg (by omega)]
 have p:d.ρ hp.length=g₁.ρ 0:=by simp[d]
 have F:d.ρ (hp.length+1)=g₁.ρ 1:=by simp[d]
 have up:Up g.I g.ρ hp.length w d.I d.ρ (hp++[some [V.rw k xs],none]).length w':=⟨G.up.mono,G.up.cell,l,by simp⟩
 have J:∀(id:Nat) cs,hp[id]? =some (some cs)->g.ρ id<w.heap.size:=by intro id cs a;obtain⟨ob,M⟩:=(D.obj id cs a).block;exact(A1.1 M).1
 have m:∀(id:Nat) cs,hp[id]? =some (some cs)->id<hp.length:=λid cs a=>(Ag.1 a).1
 have key:∀(id:Nat) c,(hp++[some [V.rw k xs],none])[id]? =some (some c)->(id=hp.length∧c=[V.rw k xs])∨hp[id]? =some (some c):=by
  intro id c a;rcases AH id hp.length with Y|Y;·rw[Ax Y] at a;exact .inr a
  ·rw[Au Y] at a;match hq:id-hp.length,a with
   |0,a=>simp at a;exact .inl ⟨by omega,a.symm⟩
   |1,a=>simp at a
   |n+2,a=>simp at a
 have Z:∀id j v cv,id<hp.length->aO g w (.cell id j) v cv->aO d w' (.cell id j) v cv:=by intro id j v cv a ho;refine dC ho rfl (λb j L=>⟨G.up.mono b j L,G.up.cell b j L⟩) ?_;intro b q;have H:=D.oLt b _ q;exact⟨by simp[d,H,q],blk b H,λj R=>C b j H R⟩
 refine⟨cv,d,rfl,⟨?_,?_,?_,?_,q1.exI,?_⟩,⟨rfl,G.os,G.tape,G.output,G.size,λb q _ _=>blk b q,up,λb j q _ _ L=>C b j q L,?_,?_⟩,?_,aGR⟩
 ·intro id c a;rcases key id c a with⟨rfl,rfl⟩|a
  ·refine(q1.obj 0 _ rfl).keep (by rw[p]) λak e fz a1 a2=>?_
   refine⟨a2.len,a2.plain,?_,a2.cold,a2.one,?_,?_,?_⟩;·intro k2 ys hz;obtain⟨t1,t2,t3,t4⟩:=a2.typed k2 ys hz;refine⟨t1,?_,by simp,λhk=>(t4 hk).trans G.beta⟩;rw[F];exact t2
   ·intro j c cv A r;have Q:=A;simp only[cellsOf] at Q;obtain⟨y,hy,Q⟩:=gb _ j _ Q;exact abi Q (a2.rel j c cv A r)
   ·intro j c cv A r;have X:=At A;simp only[cellsOf,AW] at X;obtain⟨y,_,X⟩:=X;exact oJ (xm k y c X) _ _ _ _
   ·intro j E n A;simp only[cellsOf] at A;obtain⟨y,_,A⟩:=gb _ j _ A;exact absurd A (aeC k y _ E n)
  ·have Y:=m id c a;refine(D.obj id c a).keep (by rw[l id Y];exact blk _ (J id c a)) λak e fz M z=>?_
   exact⟨z.len,z.plain,z.typedUp rfl l (by simp) rfl,z.cold,z.one,λj c cv A r=>(z.rel j c cv A r).up up,λj c cv A r=>Z _ _ _ _ Y (z.own j c cv A r),λj E n R=>by rw[l id Y];exact z.bn j E n R⟩
 ·intro id B c c' a S ah;rcases key id c a with⟨rfl,rfl⟩|M
  ·rcases key B c' S with⟨rfl,rfl⟩|z;·exact absurd rfl ah
   ·rw[p,l B (m B c' z)];have:=J B c' z;omega
  ·rcases key B c' S with⟨rfl,rfl⟩|z;·rw[p,l id (m id c M)];have:=J id c M;omega
   ·rw[l id (m id c M),l B (m B c' z)];exact D.apart _ _ _ _ M z ah
 ·intro id c a j R;rcases key id c a with⟨rfl,rfl⟩|a;·rw[p] at R;exact q1.notI 0 _ rfl j R
  ·rw[l id (m id c a)] at R;exact D.notI id c a j (C _ j (J id c a) R)
 ·intro id c a;rcases key id c a with⟨rfl,rfl⟩|a
  ·rw[p];have M:=q1.notO 0 _ rfl;have z:¬g₁.ρ 0<w.heap.size:=by omega
   simp[d,M,z]
  ·rw[l id (m id c a)];have:=J id c a;simp[d,this,D.notO id c a]
 ·intro b o q;simp only[d] at q;split at q;·rename_i H;exact AI H G.size
  ·split at q;·rename_i ai;exact q1.oLt b _ ai
   ·simp at q
 ·intro b q _ hO;simp[d,q,hO]
 ·intro id c a;rcases key id c a with⟨rfl,rfl⟩|a;·exact .inr ⟨Ap _,.inl (by rw[p];exact af)⟩
  ·exact .inl ⟨c,a⟩
 ·refine aGQ ho q3 ?_ ?_
  ·intro cv hr;cases hr with
   |sw _ _ _ hN A X=>
   rw[Bv] at A X;have:=VRel.sw (I:=d.I) (ρ:=d.ρ) (N:=(hp++[some [V.rw k xs],none]).length) (w:=w') k hp.length xs.length (by simp) (by rw[F];exact A) (by rw[F];exact X);rw[F,p] at this;exact this
  ·intro v cv hv hr;exact(hr.up (I':=d.I) (ρ':=g₁.ρ) (N':=2) ⟨λ_ _ L=>L,λ_ _ _=>rfl,λ_ _=>rfl,Ap _⟩).flat hv
def aAv(P:Program)(f:FuncId)(p q:List V)(k:EK)(xs:List (Ty k))(v:V)(ys:List (Ty k)):Prop:=
 ∃rest,gc P f (p++.sw k 0 xs.length::q) [some [.rw k xs],none] v (some [.rw k ys]::none::rest)
theorem sK.rowTo{g l:Gh}{N N':Nat}{w:World}{id d:Nat}{k:EK}{xs:List (Ty k)}{f:Array Value}{e:TypeId}{q:Nat×Nat}(h:sK g N w id [.rw k xs] f e q)
  (D:l.I=g.I) (p:l.β=g.β) (z:l.ρ (d+1)=g.ρ (id+1)) (v:d+1<N'):sK l N' w d [.rw k xs] f e q:=by
 refine⟨h.len,h.plain,?_,h.cold,h.one,?_,?_,?_⟩;·intro r ys C;obtain⟨u,A,F,x⟩:=h.typed r ys C;exact⟨u,by rw[z];exact A,v,λB=>(x B).trans p.symm⟩
 ·intro j c cv a i;have b:=a;simp only[cellsOf] at b;obtain⟨y,G,b⟩:=gb _ j _ b;rw[D];exact abi b (h.rel j c cv a i)
 ·intro j c cv a i;have m:=At a;simp only[cellsOf,AW] at m;obtain⟨y,_,m⟩:=m;exact oJ (xm k y c m) _ _ _ _
 ·intro j E n a;simp only[cellsOf] at a;obtain⟨y,_,a⟩:=gb _ j _ a;exact absurd a (aeC k y _ E n)
theorem aAv.frame{f:FuncId}{p q:List V}{k:EK}{xs ys:List (Ty k)}{v:V}(h:aAv P f p q k xs v ys)(ar:p.all V.flat=true)(ao:q.all V.flat=true)(hv:v.flat=true)
  {hp:List aJ} {id:Nat} (C:hp[id]? =some (some [.rw k xs])):gc P f (p++.sw k id xs.length::q) hp v (hp.set id (some [.rw k ys])):=by
 obtain⟨rest,h⟩:=h;have af:id<hp.length:=(Ag.1 C).1;intro w g M am z ae J L;obtain⟨a6,e,fz,a1,a2⟩:=(z.obj id _ C).row rfl;obtain⟨t1,t2,t3,t4⟩:=a2.typed k xs rfl;let u:Gh:={I:=g.I,ρ:=λi=>if i=0 then g.ρ id else g.ρ (id+1),O:=λ_=>none,β:=g.β}
 have z0:∀(i:Nat) cs,([some [V.rw k xs],none]:List aJ)[i]? =some (some cs)->i=0∧cs=[.rw k xs]:=by
  intro i cs a;match i,a with
  |0,a=>simp at a;exact⟨rfl,a.symm⟩
  |1,a=>simp at a
  |n+2,a=>simp at a
 have h0:HR u [some [.rw k xs],none] w:=by
  refine⟨?_,?_,?_,?_,z.exI,by simp[u]⟩;·intro i cs a;obtain⟨rfl,rfl⟩:=z0 i cs a;exact jV.ofRow a1 (a2.rowTo rfl rfl rfl (by simp)) rfl
  ·intro i i' cs ap a X d;obtain⟨rfl,_⟩:=z0 i cs a;obtain⟨rfl,_⟩:=z0 i' ap X;exact absurd rfl d
  ·intro i cs a;obtain⟨rfl,_⟩:=z0 i cs a;exact z.notI id _ C
  ·intro i cs a;rfl
 have aa:∀(i:Nat) x cv,(p++.sw k 0 xs.length::q)[i]? =some x->M[i]? =some cv->VRel u.I u.ρ ([some [V.rw k xs],none]:List aJ).length w x cv:=by
  intro i x cv D E;rcases Nat.lt_trichotomy i p.length with a|a|a;·rw[Ax a] at D;exact(L i x cv (by rw[Ax a];exact D) E).flat (AA.1 ar x (At D))
  ·subst a;rw[Au (Ap _),De] at D;simp only[BN,Ae] at D;subst D;have r:=L p.length (.sw k id xs.length) cv (by rw[Au (Ap _),De];rfl) E;cases r with
   |sw _ _ _ hN hc hm=>exact VRel.sw (I:=u.I) (ρ:=u.ρ) (N:=([some [V.rw k xs],none]:List aJ).length) (w:=w) k 0 xs.length (by simp) hc hm
  ·rw[Au (by omega),show i-p.length=(i-p.length-1)+1 by omega,BI] at D;exact(L i x cv (by rw[Au (by omega),show i-p.length=(i-p.length-1)+1 by omega,BI];exact D) E).flat (AA.1 ao x (At D))
 refine(h w u M (am.sub rfl (λh=>h) (λh=>by simp[u,h])) h0 (by simpa using ae) (by
  intro x D;rcases Aw.1 D with D|D;·exact J x (BS _ D)
  ·rcases AN.1 D with rfl|D;·rfl
   ·exact J x (Cd _ (A3 _ D))) aa).mono ?_
 rintro ex w' ⟨cv,g₁,rfl,q1,H,q3,q4⟩;have r0:g₁.ρ 0=g.ρ id:=H.up.rho 0 (by simp);have r1:g₁.ρ (0+1)=g.ρ (id+1):=H.up.rho 1 (by simp);have ac:∀b,g.ρ id≠b->∀(i:Nat) cs,([some [V.rw k xs],none]:List aJ)[i]? =some (some cs)->u.ρ i≠b:=by intro b l i cs a;obtain⟨rfl,_⟩:=z0 i cs a;exact l
 have blk:∀b,b<w.heap.size->g.ρ id≠b->w'.heap[b]? =w.heap[b]?:=λb l d=>H.block b l (ac b d) rfl
 have F:∀b j,b<w.heap.size->g.ρ id≠b->g₁.I b j->g.I b j:=λb j l d a=>H.iSame b j l (ac b d) rfl a
 have ad:∀b,b<w.heap.size->g.ρ id≠b->g₁.O b=none:=λb l d=>H.oSame b l (ac b d) rfl
 have n0:=q1.notO 0 [.rw k ys] rfl;rw[r0] at n0
 let y:Gh:={I:=g₁.I,ρ:=g.ρ,O:=λb=>match g₁.O b with
  |some .res=>some .res
  |some _=>none
  |none=>if b<w.heap.size then g.O b else none,β:=g.β}
 have up:Up g.I g.ρ hp.length w y.I y.ρ (hp.set id (some [V.rw k ys])).length w':=⟨H.up.mono,H.up.cell,λ_ _=>rfl,by simp⟩
 have ab:∀(i:Nat) c,hp[i]? =some (some c)->g.ρ i<w.heap.size:=by intro i c a;obtain⟨ob,h1⟩:=(z.obj i c a).block;exact(A1.1 h1).1
 have key:∀(i:Nat) c,(hp.set id (some [V.rw k ys]))[i]? =some (some c)->(i=id∧c=[.rw k ys])∨(i≠id∧hp[i]? =some (some c)):=by
  intro i c a;rw[Ay] at a;split at a;·rename_i Y;simp[af] at a;exact .inl ⟨Y.symm,a.symm⟩
  ·rename_i Y;exact .inr ⟨λh=>Y h.symm,a⟩
 have m:∀(i:Nat) c,(hp.set id (some [V.rw k ys]))[i]? =some (some c)->∃B,hp[i]? =some (some B):=by
  intro i c a;rcases key i c a with⟨rfl,_⟩|⟨_,h⟩
  ·exact⟨_,C⟩
  ·exact⟨c,h⟩
 have G:∀(i:Nat) c,i≠id->hp[i]? =some (some c)->g.ρ id≠g.ρ i:=λi c d a=>z.apart _ _ _ _ C a d.symm
 have R:∀b o,g.O b=some o->g.ρ id≠b:=by intro b o l Y;rw[<-Y,z.notO _ _ C] at l;cases l
 have A:∀b,b<w.heap.size->y.O b=g.O b:=by
  intro b l;by_cases d:g.ρ id=b;·subst d;simp only[y,n0];rw[if_pos l]
  ·simp only[y,ad b l d];rw[if_pos l]
 refine⟨cv,y,rfl,⟨?_,?_,?_,?_,q1.exI,?_⟩,⟨rfl,H.os,H.tape,H.output,H.size,?_,up,?_,?_,?_⟩,?_,?_⟩
 ·intro i c a;rcases key i c a with⟨rfl,rfl⟩|⟨d,a⟩
  ·obtain⟨ai,Y,an,b1,Q⟩:=(q1.obj 0 _ rfl).row rfl;rw[r0] at b1;exact jV.ofRow b1 (Q.rowTo rfl H.beta.symm r1.symm (by simpa using t3)) rfl
  ·refine(z.obj i c a).keep (blk _ (ab i c a) (G i c d a)) λai Y an b1 Q=>?_
   refine⟨Q.len,Q.plain,Q.typedUp rfl (λ_ _=>rfl) up.num rfl,Q.cold,Q.one,λj c cv W E=>(Q.rel j c cv W E).up up,?_,Q.bn⟩;intro j c' cv W E;refine dC (Q.own j c' cv W E) rfl (λb j a=>⟨up.mono b j a,up.cell b j a⟩) ?_;intro b l;have Z:=z.oLt b _ l;have S:=R b _ l;exact⟨(A b Z).trans l,blk b Z S,λj W=>F b j Z S W⟩
 ·intro i i' c c' a X d;obtain⟨B,m1⟩:=m i c a;obtain⟨ax,m2⟩:=m i' c' X;exact z.apart _ _ _ _ m1 m2 d
 ·intro i c a j W;rcases key i c a with⟨rfl,rfl⟩|⟨d,a⟩
  ·have:=q1.notI 0 _ rfl j;rw[r0] at this;exact this W
  ·exact z.notI i c a j (F _ j (ab i c a) (G i c d a) W)
 ·intro i c a;obtain⟨B,m1⟩:=m i c a;exact(A _ (ab i B m1)).trans (z.notO i B m1)
 ·intro b o l;simp only[y] at l;split at l;·rename_i hq;exact q1.oLt b _ hq
  ·simp at l
  ·split at l;·rename_i hq;exact AI hq H.size
   ·simp at l
 ·intro b l ho hO;exact blk b l (ho id _ C)
 ·intro b j l ho hO a;exact F b j l (ho id _ C) a
 ·intro b l ho hO;exact(A b l).trans hO
 ·intro i c a;exact .inl (m i c a)
 ·exact q3.flat hv
 ·exact q4.reloc H.beta.symm rfl λb l=>by simp[y,l]
end
section
variable{P:Program}{Γ:aI}{imp:List Nat}{n:Nat}{f:FuncId}{fn:Func}{ir:IR}{rs:List RV}{x:Ro}
theorem aAv.dim{p q a b:List V}{k:EK}{xs ys:List (Ty k)}{v:V}(h:aAv P f p q k xs v ys)(d:a.map V.dim=p)(c:b.map V.dim=q):aAv P f a b k xs v ys:=by obtain⟨rest,h⟩:=h;refine⟨rest,h.dim ?_⟩;rw[AK,AL,d,c];rfl
end
end Go.AM
namespace Go.Proofs.YtndccphabnjkhaaGreat
open Go.AM
def amY:Nat->List V->Option (Bool×V):=λ_ _=>none
def mE:aI:=(eW amY)
theorem arG:cE mE []:=(cK _ _)
theorem ath:bB Tryz.prog mE:=by intro f vs hp v hp' h;obtain⟨h, -⟩:=dw h;simp[amY] at h
def aeM:IR:=Sq (Rs [Mv 6 3,Mv 7 0,Pp (.lens 8 7),Bi 9 .lss 6 8,Mv 10 9,Gt 10 (.mov 11 3),Gt 10 (.bin 12 .lss 11 (kI 10)),Pa 13 10 12] (Cn 13 .skip (.exit 0))) (.block 1 (Rs [Mv 14 0,Mv 15 3,Pp (.idx 16 14 15),Pp (.cvi 17 .u64 16),Mv 5 17] (Sq (Rs [Mv 18 3,Bc 19 .eql 18 9,Mv 20 19,Gt 20 (.mov 21 5),Gt 20 (.bin 22 .gtr 21 (kU 1)),Pa 23 20 22] (Cn 23 (Rs [Pp (.mov 2 (kU 0)),Mi 3 0,Mi 4 2] .ret) .skip)) (Rs [Mv 24 2,Mv 25 5,Pp (.bin 26 .rem 25 (kU 128)),Mv 27 3,Pp (.bin 28 .mul (kI 7) 27),Bi 29 .shl 26 28,Bi 30 .or 24 29,Mv 2 30] (Rs [Mv 31 3,Bc 32 .add 31 1,Mv 3 32] (Rs [Mv 33 5,Pp (.bin 34 .lss 33 (kU 128))] (Cn 34 (Rs [Mv 35 2,Mv 36 3,Mv 2 35,Mv 3 36,Mi 4 0] .ret) .skip)))))))
def aeN:IR:=Rs [Pp (.mov 2 (kU 0)),Mi 3 0,Mi 4 2] .ret
def ade:IR:=Rs [Pp (.mov 2 (kU 0)),Mi 3 0,Mi 4 0] (Sq (.block 0 (.loop [0,2,3,1000000] 0 aeM)) aeN)
def eR:List RV:=[.t 2,.t 3,.t 4]
theorem avg:(bL Tryz.prog [] 0 ade (Tryz.f197.body.getD .skip)&&dD Tryz.prog eR Tryz.f197.results.toList)=true:=by kernel_rfl
theorem ati:Tryz.f197.body=some (Tryz.f197.body.getD .skip):=by kernel_rfl
def avh(R:TRr)(a:TS):TE:=(bu a [0,2,3,1000000] 0 (aP 0 (kseq (R aeN) (fin eR))))
abbrev cS:Type:=(Bs×Int×Int)
def sR:cS->St:=λ(a,b,c)=>{env:=(vT a::.undef::vU b::vI c::(U 33 [])),hp:=[]}
def abq(N:Nat):TS->TS:=λa s=>run mE N aeM (avh (run mE N) a) s
def mz(N:Nat)(a:cS->Ro):cS->Ro:=λ(c,j,b)=>let n:=(↑(Aa c):Int);let h:=λo p q=>(some (.tup [vU o,vI p,vI q],[]):Ro);cond (decide (b<n)) (cond (decide (b<10)) (chk (ixl b c) (let d:=(↑(AY (Ai c (Ad b) 0)):Int);cond (b==9) (let r:=decide (1<(Ab .u64 d));cond r (some (.tup [vU 0,vI 0,vI 2],[])) (let s:=(Bd (Ab .u64 d) 128);let k:=(Ab .i64 (7*b));chk (decide (0<=k)) (let l:=(bC .or .u64 j (iu .u64 s k));let m:=(Ab .i64 (b+1));let t:=decide ((Ab .u64 d)<128);cond t (h l m 0) (a (c,l,m))))) (let u:=(Bd (Ab .u64 d) 128);let e:=(Ab .i64 (7*b));chk (decide (0<=e)) (let f:=(bC .or .u64 j (iu .u64 u e));let g:=(Ab .i64 (b+1));let i:=decide ((Ab .u64 d)<128);cond i (h f g 0) (a (c,f,g)))))) (h 0 0 2)) (h 0 0 2)
theorem atj(N:Nat):LB (abq N) sR (mz N):=λ_ _=>by kernel_rfl
def wF(N:Nat)(a:Bs)(b:cS->Ro):Ro:=b (a,0,0)
def adf(N:Nat)(a:Bs):Ro:=wF N a (λz=>aN N (mz N) z)
def aAw(N:Nat):List (Nat×(TS)):=cU mE N ade (fin eR)++[]
theorem avi(N:Nat)(a:Bs):callF mE N 37 eR ade [.str a] []=adf N a:=
 ((bK (aAw N) (by kernel_rfl) rfl (λC=>wF N a (λz=>C 1000000 (sR z))) (λC=>by kernel_rfl)).trans (AE (b:=wF N a (λz=>aZ N (abq N) (sR z))) (by kernel_rfl) (congrArg (wF N a) (funext λz=>aW (sR) (abq N) (mz N) (atj N) N z))))
theorem axO(c:bB Tryz.prog mE)(N:Nat)(a:Bs){v:V}{hp:List aJ}(h:adf N a=some (v,hp)):aH Tryz.prog 197 [.str a] v:=by have b:=avg;simp only[Ac] at b;exact⟨hp,ez c arG Tryz.func197 ati b.1 b.2 (by decide) ((avi N a).trans h)⟩
def akz:Nat->List V->Option (Bool×V):=λ_ _=>none
def ll:aI:=(eW akz)
theorem apA:cE ll []:=(cK _ _)
theorem arH:bB Tryz.prog ll:=by intro f vs hp v hp' h;obtain⟨h, -⟩:=dw h;simp[akz] at h
def adH:IR:=Sq (Rs [Mv 8 6,Bc 9 .lss 8 10] (Cn 9 .skip (.exit 0))) (Sq (.block 1 (Sq (Rs [Mv 12 6,Mv 13 0,Pp (.lens 14 13),Bi 15 .eql 12 14] (Cn 15 (.exit 0) .skip)) (Rs [Mv 16 0,Mv 17 6,Pp (.idx 18 16 17),Pp (.cvi 19 .u64 18),Mv 7 19] (Sq (Rs [Mv 20 6,Bc 21 .eql 20 9,Mv 22 21,Gt 22 (.mov 23 7),Gt 22 (.bin 24 .gtr 23 (kU 1)),Pa 25 22 24] (Cn 25 (.exit 0) .skip)) (Rs [Mv 26 5,Mv 27 7,Pp (.bin 28 .rem 27 (kU 128)),Mv 29 6,Pp (.bin 30 .mul (kI 7) 29),Bi 31 .shl 28 30,Bi 32 .or 26 31,Mv 5 32] (Rs [Mv 33 7,Pp (.bin 34 .lss 33 (kU 128))] (Cn 34 (Rs [Mv 35 5,Mv 36 6,Bc 37 .add 36 1,Mv 2 35,Mv 3 37,Mi 4 0] .ret) .skip))))))) (Rg [Mv 10 6,Bc 11 .add 10 1,Mv 6 11]))
def adI:IR:=Rs [Pp (.mov 2 (kU 0)),Mi 3 0,Mi 4 2] .ret
def abr:IR:=Rs [Pp (.mov 2 (kU 0)),Mi 3 0,Mi 4 0] (Rs [Pp (.mov 5 (kU 0))] (Sq (Rs [Mi 6 0] (.block 0 (.loop [0,5,6,1000000] 0 adH))) adI))
theorem atk:(bL Tryz.prog [] 0 abr (Tryz.f56.body.getD .skip)&&dD Tryz.prog eR Tryz.f56.results.toList)=true:=by kernel_rfl
theorem arI:Tryz.f56.body=some (Tryz.f56.body.getD .skip):=by kernel_rfl
def atl(R:TRr)(a:TS):TE:=(bu a [0,5,6,1000000] 0 (aP 0 (kseq (R adI) (fin eR))))
def qv:cS->St:=λ(a,b,c)=>{env:=(vT a::(U 4 (vU b::vI c::(U 31 [])))),hp:=[]}
def yS(N:Nat):TS->TS:=λa s=>run ll N adH (atl (run ll N) a) s
def kN(N:Nat)(a:cS->Ro):cS->Ro:=λ(c,l,b)=>let d:=λo p q=>(some (.tup [vU o,vI p,vI q],[]):Ro);cond (decide (b<10)) (let r:=(↑(Aa c):Int);cond (b==r) (d 0 0 2) (chk (ixl b c) (let e:=(↑(AY (Ai c (Ad b) 0)):Int);cond (b==9) (let s:=decide (1<(Ab .u64 e));cond s (d 0 0 2) (let t:=(Bd (Ab .u64 e) 128);let m:=(Ab .i64 (7*b));chk (decide (0<=m)) (let n:=(bC .or .u64 l (iu .u64 t m));let u:=decide ((Ab .u64 e)<128);cond u (let v:=(Ab .i64 (b+1));d n v 0) (let w:=(Ab .i64 (b+1));a (c,n,w))))) (let h:=(Bd (Ab .u64 e) 128);let f:=(Ab .i64 (7*b));chk (decide (0<=f)) (let g:=(bC .or .u64 l (iu .u64 h f));let i:=decide ((Ab .u64 e)<128);cond i (let j:=(Ab .i64 (b+1));d g j 0) (let k:=(Ab .i64 (b+1));a (c,g,k))))))) (d 0 0 2)
theorem arJ(N:Nat):LB (yS N) qv (kN N):=λ_ _=>by kernel_rfl
def uH(N:Nat)(a:Bs)(b:cS->Ro):Ro:=b (a,0,0)
def abt(N:Nat)(a:Bs):Ro:=uH N a (λz=>aN N (kN N) z)
def axP(N:Nat):List (Nat×(TS)):=cU ll N abr (fin eR)++[]
theorem atm(N:Nat)(a:Bs):callF ll N 38 eR abr [.str a] []=abt N a:=
 ((bK (axP N) (by kernel_rfl) rfl (λC=>uH N a (λz=>C 1000000 (qv z))) (λC=>by kernel_rfl)).trans (AE (b:=uH N a (λz=>aZ N (yS N) (qv z))) (by kernel_rfl) (congrArg (uH N a) (funext λz=>aW (qv) (yS N) (kN N) (arJ N) N z))))
theorem avj(c:bB Tryz.prog ll)(N:Nat)(a:Bs){v:V}{hp:List aJ}(h:abt N a=some (v,hp)):aH Tryz.prog 56 [.str a] v:=by have b:=atk;simp only[Ac] at b;exact⟨hp,ez c apA Tryz.func56 arI b.1 b.2 (by decide) ((atm N a).trans h)⟩
def age:Nat->List V->Option (Bool×V):=λ_ _=>none
def iy:aI:=(eW age)
theorem aln:cE iy []:=(cK _ _)
theorem amZ:bB Tryz.prog iy:=by intro f vs hp v hp' h;obtain⟨h, -⟩:=dw h;simp[age] at h
def acl:IR:=Sq (Rs [Mv 4 0,Pp (.bin 5 .geq 4 (kU 128))] (Cn 5 .skip (.exit 0))) (.block 1 (Rs [Pp (.mov 6 (.tk 3)),Mv 7 0,Pp (.bin 8 .rem 7 (kU 128)),Pp (.bin 9 .add 8 (kU 128)),Pp (.cvi 10 .u8 9),Pp (.bsl 11 .u8 [10] false),Pp (.app 12 .u8 (.tk 6) 11),Pp (.mov 3 (.tk 12))] (Rg [Mv 13 0,Pp (.bin 14 .shr 13 (kU 7)),Mv 0 14])))
def acm:IR:=Rs [Pp (.mov 15 (.tk 3)),Mv 16 0,Pp (.cvi 17 .u8 16),Pp (.bsl 18 .u8 [17] false),Pp (.app 19 .u8 (.tk 15) 18),Pp (.b2s 20 19),Mv 2 20] .ret
def xw:IR:=Rs [Ms 2 []] (Rs [Pp (.mov 3 (.c (nl .u8)))] (Sq (.block 0 (.loop [0,3,1000000] 0 acl)) acm))
def aE:List RV:=[.t 2]
theorem apB:(bL Tryz.prog [] 0 xw (Tryz.f192.body.getD .skip)&&dD Tryz.prog aE Tryz.f192.results.toList)=true:=by kernel_rfl
theorem am0:Tryz.f192.body=some (Tryz.f192.body.getD .skip):=by kernel_rfl
def apC(R:TRr)(a:TS):TE:=(bu a [0,3,1000000] 0 (aP 0 (kseq (R acm) (fin aE))))
abbrev eo:Type:=(Int×Bs)
def nU:eo->St:=λ(a,b)=>{env:=(vU a::.undef::.undef::vO .u8 b::(U 17 [])),hp:=[]}
def vz(N:Nat):TS->TS:=λa s=>run iy N acl (apC (run iy N) a) s
def lz(N:Nat)(a:eo->Ro):eo->Ro:=λ(b,c)=>cond (decide (128<=b)) (let d:=(Ab .u64 ((Bd b 128)+128));chk (decide ((Aa c+Aa ([(Az (Ad (Ab .u8 d)))]:Bs))*1<=140737488355328)) (let e:=(c++([(Az (Ad (Ab .u8 d)))]:Bs));a ((ey .u64 b 7),e))) (chk (decide ((Aa c+Aa ([(Az (Ad (Ab .u8 b)))]:Bs))*1<=140737488355328)) (let f:=(c++([(Az (Ad (Ab .u8 b)))]:Bs));some (vT f,[])))
theorem am1(N:Nat):LB (vz N) nU (lz N):=λ_ _=>by kernel_rfl
def qw(N:Nat)(a:Int)(b:eo->Ro):Ro:=b (a,[])
def xx(N:Nat)(a:Int):Ro:=qw N a (λz=>aN N (lz N) z)
def atn(N:Nat):List (Nat×(TS)):=cU iy N xw (fin aE)++[]
theorem apD(N:Nat)(a:Int):callF iy N 21 aE xw [.int .u64 a] []=xx N a:=
 ((bK (atn N) (by kernel_rfl) rfl (λC=>qw N a (λz=>C 1000000 (nU z))) (λC=>by kernel_rfl)).trans (AE (b:=qw N a (λz=>aZ N (vz N) (nU z))) (by kernel_rfl) (congrArg (qw N a) (funext λz=>aW (nU) (vz N) (lz N) (am1 N) N z))))
theorem arK(c:bB Tryz.prog iy)(N:Nat)(a:Int){v:V}{hp:List aJ}(h:xx N a=some (v,hp)):aH Tryz.prog 192 [.int .u64 a] v:=by have b:=apB;simp only[Ac] at b;exact⟨hp,ez c aln Tryz.func192 am0 b.1 b.2 (by decide) ((apD N a).trans h)⟩
def ato:Nat->List V->Option (Bool×V):=λ_ _=>none
def aef:aI:=(eW ato)
theorem avk:cE aef []:=(cK _ _)
theorem axQ:bB Tryz.prog aef:=by intro f vs hp v hp' h;obtain⟨h, -⟩:=dw h;simp[ato] at h
def aqI:IR:=Rs [Mi 2 0] (Sq (Rs [Mv 3 0,Bc 4 .eql 3 1] (Cn 4 (Rs [Mi 2 8] .ret) .skip)) (Rs [Mi 2 4] .ret))
theorem aAx:(bL Tryz.prog [] 0 aqI (Tryz.f193.body.getD .skip)&&dD Tryz.prog aE Tryz.f193.results.toList)=true:=by kernel_rfl
theorem axR:Tryz.f193.body=some (Tryz.f193.body.getD .skip):=by kernel_rfl
def aqJ(N:Nat)(a:Int):Ro:=cond (a==1) (some (vI 8,[])) (some (vI 4,[]))
def abZ(N:Nat)(a:Int):Ro:=aqJ N a
theorem aAy(N:Nat)(a:Int):callF aef N 5 aE aqI [.int .i64 a] []=abZ N a:=by kernel_rfl
theorem aC6(c:bB Tryz.prog aef)(N:Nat)(a:Int){v:V}{hp:List aJ}(h:abZ N a=some (v,hp)):aH Tryz.prog 193 [.int .i64 a] v:=by have b:=aAx;simp only[Ac] at b;exact⟨hp,ez c avk Tryz.func193 axR b.1 b.2 (by decide) ((aAy N a).trans h)⟩
def aqK:Nat->List V->Option (Bool×V):=λ_ _=>none
def oO:aI:=(eW aqK)
theorem atp:cE oO []:=(cK _ _)
theorem avl:bB Tryz.prog oO:=by intro f vs hp v hp' h;obtain⟨h, -⟩:=dw h;simp[aqK] at h
def ahA:IR:=Sq (Rs [Mv 7 3,Bc 8 .geq 7 0] (Cn 8 .skip (.exit 0))) (Sq (.block 1 (Rg [Mv 11 2,Pp (.bin 12 .shl 11 (kU 8)),Mv 13 0,Mv 14 3,Pp (.idx 15 13 14),Pp (.cvi 16 .u64 15),Bi 17 .or 12 16,Mv 2 17])) (Rg [Mv 9 3,Bc 10 .sub 9 1,Mv 3 10]))
def ahB:IR:=Rs [Mv 18 2,Mv 2 18] .ret
def aeO:IR:=Rs [Pp (.mov 2 (kU 0))] (Sq (Rs [Mv 4 0,Pp (.lens 5 4),Bc 6 .sub 5 1,Mv 3 6] (.block 0 (.loop [0,2,3,1000000] 0 ahA))) ahB)
theorem axS:(bL Tryz.prog [] 0 aeO (Tryz.f198.body.getD .skip)&&dD Tryz.prog aE Tryz.f198.results.toList)=true:=by kernel_rfl
theorem avm:Tryz.f198.body=some (Tryz.f198.body.getD .skip):=by kernel_rfl
def axT(R:TRr)(a:TS):TE:=(bu a [0,2,3,1000000] 0 (aP 0 (kseq (R ahB) (fin aE))))
def uI:cS->St:=λ(a,b,c)=>{env:=(vT a::.undef::vU b::vI c::(U 15 [])),hp:=[]}
def adg(N:Nat):TS->TS:=λa s=>run oO N ahA (axT (run oO N) a) s
def wG(N:Nat)(a:cS->Ro):cS->Ro:=λ(c,d,b)=>cond (decide (0<=b)) (chk (ixl b c) (let e:=(↑(AY (Ai c (Ad b) 0)):Int);let f:=(bC .or .u64 (iu .u64 d 8) (Ab .u64 e));let g:=(Ab .i64 (b-1));a (c,f,g))) (some (vU d,[]))
theorem avn(N:Nat):LB (adg N) uI (wG N):=λ_ _=>by kernel_rfl
def tQ(N:Nat)(a:Bs)(b:cS->Ro):Ro:=let c:=(↑(Aa a):Int);let d:=(Ab .i64 (c-1));b (a,0,d)
def yT(N:Nat)(a:Bs):Ro:=tQ N a (λz=>aN N (wG N) z)
def aC7(N:Nat):List (Nat×(TS)):=cU oO N aeO (fin aE)++[]
theorem axU(N:Nat)(a:Bs):callF oO N 19 aE aeO [.str a] []=yT N a:=
 ((bK (aC7 N) (by kernel_rfl) rfl (λC=>tQ N a (λz=>C 1000000 (uI z))) (λC=>by kernel_rfl)).trans (AE (b:=tQ N a (λz=>aZ N (adg N) (uI z))) (by kernel_rfl) (congrArg (tQ N a) (funext λz=>aW (uI) (adg N) (wG N) (avn N) N z))))
theorem aAz(c:bB Tryz.prog oO)(N:Nat)(a:Bs){v:V}{hp:List aJ}(h:yT N a=some (v,hp)):aH Tryz.prog 198 [.str a] v:=by have b:=axS;simp only[Ac] at b;exact⟨hp,ez c atp Tryz.func198 avm b.1 b.2 (by decide) ((axU N a).trans h)⟩
def atq:Nat->List V->Option (Bool×V):=λ_ _=>none
def qz:aI:=(eW atq)
theorem avo:cE qz []:=(cK _ _)
theorem axV:bB Tryz.prog qz:=by intro f vs hp v hp' h;obtain⟨h, -⟩:=dw h;simp[atq] at h
def akA:IR:=Sq (Rs [Mv 8 4,Bc 9 .geq 8 0] (Cn 9 .skip (.exit 0))) (Sq (.block 1 (Rg [Mv 12 3,Pp (.bin 13 .mul 12 (kU 256)),Mv 14 0,Mv 15 4,Pp (.idx 16 14 15),Pp (.cvi 17 .u64 16),Bi 18 .add 13 17,Mv 3 18])) (Rg [Mv 10 4,Bc 11 .sub 10 1,Mv 4 11]))
def akB:IR:=Rs [Mv 19 3,Mv 2 19] .ret
def ag0:IR:=Rs [Pp (.mov 2 (kU 0))] (Rs [Pp (.mov 3 (kU 0))] (Sq (Rs [Mv 5 0,Pp (.lens 6 5),Bc 7 .sub 6 1,Mv 4 7] (.block 0 (.loop [0,3,4,1000000] 0 akA))) akB))
theorem aAA:(bL Tryz.prog [] 0 ag0 (Tryz.f57.body.getD .skip)&&dD Tryz.prog aE Tryz.f57.results.toList)=true:=by kernel_rfl
theorem axW:Tryz.f57.body=some (Tryz.f57.body.getD .skip):=by kernel_rfl
def aAB(R:TRr)(a:TS):TE:=(bu a [0,3,4,1000000] 0 (aP 0 (kseq (R akB) (fin aE))))
def wH:cS->St:=λ(a,b,c)=>{env:=(vT a::.undef::.undef::vU b::vI c::(U 15 [])),hp:=[]}
def aeP(N:Nat):TS->TS:=λa s=>run qz N akA (aAB (run qz N) a) s
def yU(N:Nat)(a:cS->Ro):cS->Ro:=λ(c,d,b)=>cond (decide (0<=b)) (let e:=(Ab .u64 (d*256));chk (ixl b c) (let f:=(↑(AY (Ai c (Ad b) 0)):Int);let g:=(Ab .u64 (e+(Ab .u64 f)));let h:=(Ab .i64 (b-1));a (c,g,h))) (some (vU d,[]))
theorem axX(N:Nat):LB (aeP N) wH (yU N):=λ_ _=>by kernel_rfl
def vX(N:Nat)(a:Bs)(b:cS->Ro):Ro:=let c:=(↑(Aa a):Int);let d:=(Ab .i64 (c-1));b (a,0,d)
def ab0(N:Nat)(a:Bs):Ro:=vX N a (λz=>aN N (yU N) z)
def aFn(N:Nat):List (Nat×(TS)):=cU qz N ag0 (fin aE)++[]
theorem aAC(N:Nat)(a:Bs):callF qz N 20 aE ag0 [.str a] []=ab0 N a:=
 ((bK (aFn N) (by kernel_rfl) rfl (λC=>vX N a (λz=>C 1000000 (wH z))) (λC=>by kernel_rfl)).trans (AE (b:=vX N a (λz=>aZ N (aeP N) (wH z))) (by kernel_rfl) (congrArg (vX N a) (funext λz=>aW (wH) (aeP N) (yU N) (axX N) N z))))
theorem aC8(c:bB Tryz.prog qz)(N:Nat)(a:Bs){v:V}{hp:List aJ}(h:ab0 N a=some (v,hp)):aH Tryz.prog 57 [.str a] v:=by have b:=aAA;simp only[Ac] at b;exact⟨hp,ez c avo Tryz.func57 axW b.1 b.2 (by decide) ((aAC N a).trans h)⟩
def atr:Nat->List V->Option (Bool×V):=λ_ _=>none
def qA:aI:=(eW atr)
theorem avp:cE qA []:=(cK _ _)
theorem axY:bB Tryz.prog qA:=by intro f vs hp v hp' h;obtain⟨h, -⟩:=dw h;simp[atr] at h
def akC:IR:=Sq (Rs [Mv 7 6,Mv 8 1,Bi 9 .lss 7 8] (Cn 9 .skip (.exit 0))) (Sq (.block 1 (Rs [Mv 12 5,Mv 13 0,Pp (.bin 14 .rem 13 (kU 256)),Pp (.cvi 15 .u8 14),Pp (.bsl 16 .u8 [15] false),Pp (.b2s 17 16),Bi 18 .add 12 17,Mv 5 18] (Rg [Mv 19 0,Pp (.bin 20 .quo 19 (kU 256)),Mv 0 20]))) (Rg [Mv 10 6,Bc 11 .add 10 1,Mv 6 11]))
def akD:IR:=Rs [Mv 21 5,Mv 4 21] .ret
def ag1:IR:=Rs [Ms 4 []] (Rs [Ms 5 []] (Sq (Rs [Mi 6 0] (.block 0 (.loop [0,1,5,6,1000000] 0 akC))) akD))
def aR:List RV:=[.t 4]
theorem aAD:(bL Tryz.prog [] 0 ag1 (Tryz.f59.body.getD .skip)&&dD Tryz.prog aR Tryz.f59.results.toList)=true:=by kernel_rfl
theorem axZ:Tryz.f59.body=some (Tryz.f59.body.getD .skip):=by kernel_rfl
def aAE(R:TRr)(a:TS):TE:=(bu a [0,1,5,6,1000000] 0 (aP 0 (kseq (R akD) (fin aR))))
abbrev yV:Type:=(Int×Int×Bs×Int)
def wI:yV->St:=λ(a,b,c,d)=>{env:=(vU a::vI b::(U 3 (vT c::vI d::(U 15 [])))),hp:=[]}
def aeQ(N:Nat):TS->TS:=λa s=>run qA N akC (aAE (run qA N) a) s
def pI(N:Nat)(a:yV->Ro):yV->Ro:=λ(c,d,b,e)=>cond (decide (e<d)) (let f:=(Ab .u8 (Bd c 256));chk (decide (Aa b+Aa ([(Az (Ad f))]:Bs)<=9223372036854775807)) (let g:=(b++([(Az (Ad f))]:Bs));let h:=(Ab .u64 (BO c 256));let i:=(Ab .i64 (e+1));a (h,d,g,i))) (some (vT b,[]))
theorem ax0(N:Nat):LB (aeQ N) wI (pI N):=λ_ _=>by kernel_rfl
def ab1(N:Nat)(a b:Int)(c:yV->Ro):Ro:=c (a,b,[],0)
def ag2(N:Nat)(a b:Int):Ro:=ab1 N a b (λz=>aN N (pI N) z)
def aFo(N:Nat):List (Nat×(TS)):=cU qA N ag1 (fin aR)++[]
theorem aAF(N:Nat)(a c:Int):callF qA N 22 aR ag1 [.int .u64 a,.int .i64 c] []=ag2 N a c:=
 ((bK (aFo N) (by kernel_rfl) rfl (λC=>ab1 N a c (λz=>C 1000000 (wI z))) (λC=>by kernel_rfl)).trans (AE (b:=ab1 N a c (λz=>aZ N (aeQ N) (wI z))) (by kernel_rfl) (congrArg (ab1 N a c) (funext λz=>aW (wI) (aeQ N) (pI N) (ax0 N) N z))))
theorem aC9(d:bB Tryz.prog qA)(N:Nat)(a b:Int){v:V}{hp:List aJ}(h:ag2 N a b=some (v,hp)):aH Tryz.prog 59 [.int .u64 a,.int .i64 b] v:=by have c:=aAD;simp only[Ac] at c;exact⟨hp,ez d avp Tryz.func59 axZ c.1 c.2 (by decide) ((aAF N a b).trans h)⟩
def axj:Nat->List V->Option (Bool×V):=λf vs=>match f,vs with
 |193,[.int .i64 a]=>some (true,.int .i64 (pi a))
 |197,[.str a]=>some (true,.tup [.int .u64 ((aU a).1),.int .i64 ((aU a).2.1),.int .i64 ((aU a).2.2)])
 |198,[.str a]=>some (true,.int .u64 (ix a))
 |_,_=>none
def agf:aI:=(eW axj)
theorem ax1:cE agf []:=(cK _ _)
theorem aAG(d:∀(a:Int),aH Tryz.prog 193 [vI a] (vI (pi a)))(b:∀(a:Bs),aH Tryz.prog 197 [vT a] (.tup [vU ((aU a).1),vI ((aU a).2.1),vI ((aU a).2.2)]))(c:∀(a:Bs),aH Tryz.prog 198 [vT a] (vU (ix a))):bB Tryz.prog agf:=by
 intro f vs hp v hp' i;obtain⟨h,j⟩:=dw i;subst j;unfold axj at h;split at h;·simp only[Ae,Al] at h;obtain⟨e,rfl⟩:=h;exact((d _).dim rfl).frame rfl rfl _
 ·simp only[Ae,Al] at h;obtain⟨e,rfl⟩:=h;exact((b _).dim rfl).frame rfl rfl _
 ·simp only[Ae,Al] at h;obtain⟨e,rfl⟩:=h;exact((c _).dim rfl).frame rfl rfl _
 ·simp at h
def att:IR:=Rs [Pp (.new 2 [vI 0,vI 0,vU 0,vS,vS]),Mi 3 0] (Rs [Mv 12 0,Ca 13 197 [12],Mv 11 13,Ex_ 14 0 11,Ex_ 15 1 11,Ex_ 16 2 11,Mv 4 14,Mv 5 15,Mv 3 16] (Sq (Rs [Mv 17 3,Bc 18 .neq 17 0,Mv 19 18,Gf 19 (.mov 20 4),Gf 19 (.bin 21 .quo 20 (kU 8)),Gf 19 (.bin 22 .lss 21 (kU 1)),Po 23 19 22,Mv 24 23,Gf 24 (.mov 25 4),Gf 24 (.bin 26 .quo 25 (kU 8)),Gf 24 (.bin 27 .gtr 26 (kU 536870911)),Po 28 24 27] (Cn 28 (Rs [Pp (.ld 29 5 true false 2),Sv 5 2 29,Mi 3 2] .ret) .skip)) (Rs [Mv 30 4,Pp (.bin 31 .quo 30 (kU 8)),Pp (.cvi 32 .i64 31),Mv 33 4,Pp (.bin 34 .rem 33 (kU 8)),Pp (.cvi 35 .i64 34),Fa 36 0 2,Sv 1 36 32,Fa 37 1 2,Sv 1 37 35] (Rs [Mv 38 0,Mv 39 5,Pp (.subs 40 38 (some 39) none),Mv 6 40] (Sq (Rs [Fa 41 1 2,Lo 42 41] (.block 0 (Sq (Rs [Bc 45 .eql 42 0,Mv 44 45] (Cn 44 .skip (Rg [Bc 46 .eql 42 2,Mv 44 46]))) (Cn 44 (Rs [Mv 48 6,Ca 49 197 [48],Mv 47 49,Ex_ 50 0 47,Ex_ 51 1 47,Ex_ 52 2 47,Mv 7 50,Mv 8 51,Mv 9 52] (Sq (Rs [Mv 53 9,Bc 54 .neq 53 0] (Cn 54 (Rs [Pp (.bld 55 [vI 0,vI 0,vU 0,vS,vS] []),Mv 56 9,Sv 5 2 55,Mv 3 56] .ret) .skip)) (Sq (.reg [Mv 57 5,Mv 58 8,Bi 59 .add 57 58,Mv 60 6,Mv 61 8,Pp (.subs 62 60 (some 61) none),Mv 5 59,Mv 6 62] [[],[],[0,1],[],[],[3,4],[0,1,2],rg 0 6]) (Sq (Rs [Fa 63 1 2,Lo 64 63,Bc 65 .eql 64 0] (Cn 65 (Rs [Mv 66 7,Fa 67 2 2,Sv 1 67 66] (.exit 0)) .skip)) (Sq (Rs [Mv 68 7,Mv 69 6,Pp (.lens 70 69),Pp (.cvi 71 .u64 70),Bi 72 .gtr 68 71] (Cn 72 (Rs [Pp (.bld 73 [vI 0,vI 0,vU 0,vS,vS] []),Sv 5 2 73,Mi 3 2] .ret) .skip)) (Rs [Mv 74 6,Mv 75 7,Pp (.subs 76 74 none (some 75)),Fa 77 3 2,Sv 1 77 76] (Rg [Mv 78 5,Fa 79 3 2,Lo 80 79,Pp (.lens 81 80),Bi 82 .add 78 81,Mv 5 82]))))))) (Sq (Rs [Bc 84 .eql 42 1,Mv 83 84] (Cn 83 .skip (Rg [Bc 85 .eql 42 5,Mv 83 85]))) (Cn 83 (Rs [Fa 86 1 2,Lo 87 86,Ca 88 193 [87],Mv 10 88] (Sq (Rs [Mv 89 6,Pp (.lens 90 89),Mv 91 10,Bi 92 .lss 90 91] (Cn 92 (Rs [Pp (.bld 93 [vI 0,vI 0,vU 0,vS,vS] []),Sv 5 2 93,Mi 3 2] .ret) .skip)) (Rs [Mv 94 6,Mv 95 10,Pp (.subs 96 94 none (some 95)),Ca 97 198 [96],Fa 98 2 2,Sv 1 98 97] (Rg [Mv 99 5,Mv 100 10,Bi 101 .add 99 100,Mv 5 101])))) (Rs [Pp (.bld 43 [vI 0,vI 0,vU 0,vS,vS] []),Sv 5 2 43,Mi 3 2] .ret))))))) (Rs [Mv 102 0,Mv 103 5,Pp (.subs 104 102 none (some 103)),Fa 105 4 2,Sv 1 105 104] (Rs [Pp (.ld 106 5 true false 2),Sv 5 2 106,Mi 3 0] .ret)))))))
def atu:List RV:=[.cell 2 5 true,.t 3]
theorem aDa:(bL Tryz.prog [] 0 att (Tryz.f156.body.getD .skip)&&dD Tryz.prog atu Tryz.f156.results.toList)=true:=by kernel_rfl
theorem aAH:Tryz.f156.body=some (Tryz.f156.body.getD .skip):=by kernel_rfl
def atv(N:Nat)(b:Bs):Ro:=let R:=(!(((aU b).2.2)==0));let c:=λD B A E C I=>(some (.tup [.agg [vI D,vI B,vU A,vT E,vT C],vI I],[some [vI D,vI B,vU A,vT E,vT C]]):Ro);cond R (c 0 0 0 [] [] 2) (let F:=(Ab .u64 (BO ((aU b).1) 8));cond (decide (F<1)) (c 0 0 0 [] [] 2) (let W:=(Ab .u64 (BO ((aU b).1) 8));cond (decide (536870911<W)) (c 0 0 0 [] [] 2) (let n:=(Ab .u64 (BO ((aU b).1) 8));let d:=(Bd ((aU b).1) 8);chk (decide (0<=((aU b).2.1))&&decide (((aU b).2.1)<=(↑(Aa b):Int))) (let a:=(An (Ad ((aU b).2.1)) (Ao (Aa b) b));let J:=((Ab .i64 d)==0);cond J (let x8:=(!(((aU a).2.2)==0));cond x8 (c 0 0 0 [] [] ((aU a).2.2)) (let q:=(Ab .i64 (((aU b).2.1)+((aU a).2.1)));chk (decide (0<=((aU a).2.1))&&decide (((aU a).2.1)<=(↑(Aa a):Int))) (let h:=(An (Ad ((aU a).2.1)) (Ao (Aa a) a));let r:=((Ab .i64 d)==0);cond r (chk (decide (0<=q)&&decide (q<=(↑(Aa b):Int))) (let s:=(An 0 (Ao (Ad q) b));c (Ab .i64 n) (Ab .i64 d) ((aU a).1) [] s 0)) (let t:=(↑(Aa h):Int);let u:=decide ((Ab .u64 t)<((aU a).1));cond u (c 0 0 0 [] [] 2) (chk (decide (0<=((aU a).1))&&decide (((aU a).1)<=(↑(Aa h):Int))) (let o:=(An 0 (Ao (Ad ((aU a).1)) h));let v:=(↑(Aa o):Int);let i:=(Ab .i64 (q+v));chk (decide (0<=i)&&decide (i<=(↑(Aa b):Int))) (let w:=(An 0 (Ao (Ad i) b));c (Ab .i64 n) (Ab .i64 d) 0 o w 0))))))) (let x:=((Ab .i64 d)==2);cond x (let y:=(!(((aU a).2.2)==0));cond y (c 0 0 0 [] [] ((aU a).2.2)) (let g:=(Ab .i64 (((aU b).2.1)+((aU a).2.1)));chk (decide (0<=((aU a).2.1))&&decide (((aU a).2.1)<=(↑(Aa a):Int))) (let j:=(An (Ad ((aU a).2.1)) (Ao (Aa a) a));let z:=((Ab .i64 d)==0);cond z (chk (decide (0<=g)&&decide (g<=(↑(Aa b):Int))) (let L:=(An 0 (Ao (Ad g) b));c (Ab .i64 n) (Ab .i64 d) ((aU a).1) [] L 0)) (let Q:=(↑(Aa j):Int);let Y:=decide ((Ab .u64 Q)<((aU a).1));cond Y (c 0 0 0 [] [] 2) (chk (decide (0<=((aU a).1))&&decide (((aU a).1)<=(↑(Aa j):Int))) (let p:=(An 0 (Ao (Ad ((aU a).1)) j));let G:=(↑(Aa p):Int);let k:=(Ab .i64 (g+G));chk (decide (0<=k)&&decide (k<=(↑(Aa b):Int))) (let P:=(An 0 (Ao (Ad k) b));c (Ab .i64 n) (Ab .i64 d) 0 p P 0))))))) (let af:=((Ab .i64 d)==1);cond af (let e:=(pi (Ab .i64 d));let Z:=(↑(Aa a):Int);cond (decide (Z<e)) (c 0 0 0 [] [] 2) (chk (decide (0<=e)&&decide (e<=(↑(Aa a):Int))) (let M:=(An 0 (Ao (Ad e) a));let l:=(Ab .i64 (((aU b).2.1)+e));chk (decide (0<=l)&&decide (l<=(↑(Aa b):Int))) (let X:=(An 0 (Ao (Ad l) b));c (Ab .i64 n) (Ab .i64 d) (ix M) [] X 0)))) (let S:=((Ab .i64 d)==5);cond S (let f:=(pi (Ab .i64 d));let O:=(↑(Aa a):Int);cond (decide (O<f)) (c 0 0 0 [] [] 2) (chk (decide (0<=f)&&decide (f<=(↑(Aa a):Int))) (let al:=(An 0 (Ao (Ad f) a));let m:=(Ab .i64 (((aU b).2.1)+f));chk (decide (0<=m)&&decide (m<=(↑(Aa b):Int))) (let H:=(An 0 (Ao (Ad m) b));c (Ab .i64 n) (Ab .i64 d) (ix al) [] H 0)))) (c 0 0 0 [] [] 2))))))))
def aeg(N:Nat)(a:Bs):Ro:=atv N a
theorem aDb(N:Nat)(a:Bs):callF agf N 107 atu att [.str a] []=aeg N a:=by kernel_rfl
theorem aFp(c:bB Tryz.prog agf)(N:Nat)(a:Bs){v:V}{hp:List aJ}(h:aeg N a=some (v,hp)):aH Tryz.prog 156 [.str a] v:=by have b:=aDa;simp only[Ac] at b;exact⟨hp,ez c ax1 Tryz.func156 aAH b.1 b.2 (by decide) ((aDb N a).trans h)⟩
def aqL:Nat->List V->Option (Bool×V):=λf vs=>match f,vs with
 |156,[.str a]=>some (true,.tup [.agg [.int .i64 (((eP a).1).num),.int .i64 (((eP a).1).wire),.int .u64 (((eP a).1).n),.str (((eP a).1).s),.str (((eP a).1).raw)],.int .i64 ((eP a).2)])
 |_,_=>none
def oP:aI:=(eW aqL)
theorem atw:cE oP []:=(cK _ _)
theorem avq(b:∀(a:Bs),aH Tryz.prog 156 [vT a] (.tup [.agg [vI (((eP a).1).num),vI (((eP a).1).wire),vU (((eP a).1).n),vT (((eP a).1).s),vT (((eP a).1).raw)],vI ((eP a).2)])):bB Tryz.prog oP:=by
 intro f vs hp v hp' c;obtain⟨h,d⟩:=dw c;subst d;unfold aqL at h;split at h;·simp only[Ae,Al] at h;obtain⟨e,rfl⟩:=h;exact((b _).dim rfl).frame rfl rfl _
 ·simp at h
def ahC:IR:=Sq (Rs [Mv 10 0,Pp (.bin 11 .neq 10 (kS []))] (Cn 11 .skip (.exit 0))) (.block 1 (Rs [Mv 13 0,Ca 14 156 [13],Mv 12 14,Ex_ 15 0 12,Ex_ 16 1 12,Pp (.alr 5 5),Fz 5 5 15,Mv 6 16] (Sq (Rs [Mv 17 6,Bc 18 .neq 17 0] (Cn 18 (Rs [Mv 19 6,Pp (.mov 2 (.c (nl .record))),Mv 3 19] .ret) .skip)) (.reg [Pp (.mov 20 (.tk 4)),Ld 21 5 true 5,Pp (.bsl 22 .record [21] false),Pp (.app 23 .record (.tk 20) 22),Mv 24 0,Fa 25 4 5,Lq 26 25,Pp (.lens 27 26),Pp (.subs 28 24 (some 27) none),Pp (.mov 4 (.tk 23)),Mv 0 28] [[],[],[1],[0,1,2],[],[],[5],[5,6],rg 4 7,rg 0 3,rg 0 9]))))
def agh:IR:=Rs [Mv 29 4,Mv 2 29,Mi 3 0] .ret
def aeR:IR:=Rs [Pp (.mov 2 (.c (nl .record))),Mi 3 0] (Sq (Rs [Mv 7 0,Pp (.lens 8 7),Bc 9 .gtr 8 5000] (Cn 9 (Rs [Pp (.mov 2 (.c (nl .record))),Mi 3 3] .ret) .skip)) (Rs [Pp (.mov 4 (.c (nl .record)))] (Sq (.block 0 (.loop [0,4,1000000] 0 ahC)) agh)))
def dF:List RV:=[.t 2,.t 3]
theorem ax2:(bL Tryz.prog [] 0 aeR (Tryz.f102.body.getD .skip)&&dD Tryz.prog dF Tryz.f102.results.toList)=true:=by kernel_rfl
theorem avr:Tryz.f102.body=some (Tryz.f102.body.getD .skip):=by kernel_rfl
def ax3(R:TRr)(a:TS):TE:=(bu a [0,4,1000000] 0 (aP 0 (kseq (R agh) (fin dF))))
abbrev ja:Type:=(Bs×List bi)
def uJ:ja->St:=λ(a,b)=>{env:=(vT a::(U 3 (vO .record b::(U 25 [])))),hp:=[]}
def adh(N:Nat):TS->TS:=λa s=>run oP N ahC (ax3 (run oP N) a) s
def wJ(N:Nat)(b:ja->Ro):ja->Ro:=λ(a,c)=>let e:=(!decide (a=[]));cond e (cond (!(((eP a).2)==0)) (some (.tup [vF .record [],vI ((eP a).2)],[])) (chk (decide ((Aa c+Aa ([⟨((eP a).1).num,((eP a).1).wire,((eP a).1).n,((eP a).1).s,((eP a).1).raw⟩]:List bi))*56<=140737488355328)) (let f:=(c++([⟨((eP a).1).num,((eP a).1).wire,((eP a).1).n,((eP a).1).s,((eP a).1).raw⟩]:List bi));let d:=(↑(Aa (((eP a).1).raw)):Int);chk (decide (0<=d)&&decide (d<=(↑(Aa a):Int))) (let g:=(An (Ad d) (Ao (Aa a) a));b (g,f))))) (some (.tup [vF .record c,vI 0],[]))
theorem avt(N:Nat):LB (adh N) uJ (wJ N):=λ_ _=>by kernel_rfl
def tR(N:Nat)(a:Bs)(b:ja->Ro):Ro:=let c:=(↑(Aa a):Int);cond (decide (5000<c)) (some (.tup [vF .record [],vI 3],[])) (b (a,[]))
def yW(N:Nat)(a:Bs):Ro:=tR N a (λz=>aN N (wJ N) z)
def aDc(N:Nat):List (Nat×(TS)):=cU oP N aeR (fin dF)++[]
theorem ax4(N:Nat)(a:Bs):callF oP N 30 dF aeR [.str a] []=yW N a:=
 ((bK (aDc N) (by kernel_rfl) rfl (λC=>tR N a (λz=>C 1000000 (uJ z))) (λC=>by kernel_rfl)).trans (AE (b:=tR N a (λz=>aZ N (adh N) (uJ z))) (by kernel_rfl) (congrArg (tR N a) (funext λz=>aW (uJ) (adh N) (wJ N) (avt N) N z))))
theorem aAI(c:bB Tryz.prog oP)(N:Nat)(a:Bs){v:V}{hp:List aJ}(h:yW N a=some (v,hp)):aH Tryz.prog 102 [.str a] v:=by have b:=ax2;simp only[Ac] at b;exact⟨hp,ez c atw Tryz.func102 avr b.1 b.2 (by decide) ((ax4 N a).trans h)⟩
def am2:Nat->List V->Option (Bool×V):=λf vs=>match f,vs with
 |56,[.str a]=>some (true,.tup [.int .u64 ((aU a).1),.int .i64 ((aU a).2.1),.int .i64 ((aU a).2.2)])
 |57,[.str a]=>some (true,.int .u64 (ix a))
 |_,_=>none
def mF:aI:=(eW am2)
theorem arL:cE mF []:=(cK _ _)
theorem atx(b:∀(a:Bs),aH Tryz.prog 56 [vT a] (.tup [vU ((aU a).1),vI ((aU a).2.1),vI ((aU a).2.2)]))(c:∀(a:Bs),aH Tryz.prog 57 [vT a] (vU (ix a))):bB Tryz.prog mF:=by
 intro f vs hp v hp' e;obtain⟨h,d⟩:=dw e;subst d;unfold am2 at h;split at h;·simp only[Ae,Al] at h;obtain⟨i,rfl⟩:=h;exact((b _).dim rfl).frame rfl rfl _
 ·simp only[Ae,Al] at h;obtain⟨i,rfl⟩:=h;exact((c _).dim rfl).frame rfl rfl _
 ·simp at h
def aeS:IR:=Sq (Rs [Mv 20 0,Pp (.lens 21 20),Bc 22 .gtr 21 0] (Cn 22 .skip (.exit 0))) (.block 1 (Rs [Mv 24 0,Ca 25 56 [24],Mv 23 25,Ex_ 26 0 23,Ex_ 27 1 23,Ex_ 28 2 23,Mv 5 26,Mv 6 27,Mv 7 28] (Sq (Rs [Mv 29 7,Bc 30 .neq 29 0,Mv 31 30,Gf 31 (.mov 32 5),Gf 31 (.bin 33 .quo 32 (kU 8)),Gf 31 (.bin 34 .lss 33 (kU 1)),Po 35 31 34,Mv 36 35,Gf 36 (.mov 37 5),Gf 36 (.bin 38 .quo 37 (kU 8)),Gf 36 (.bin 39 .gtr 38 (kU 536870911)),Po 40 36 39] (Cn 40 (Rs [Pp (.mov 2 (.c (nl .record))),Mi 3 2] .ret) .skip)) (Rs [Mv 41 5,Pp (.bin 42 .quo 41 (kU 8)),Pp (.cvi 43 .i64 42),Mv 44 5,Pp (.bin 45 .rem 44 (kU 8)),Pp (.cvi 46 .i64 45),Pp (.bld 47 [vI 0,vI 0,vU 0,vS,vS] [(0,1,43),(1,1,46)]),Pp (.new 8 [vI 0,vI 0,vU 0,vS,vS]),Sv 5 8 47] (Rs [Mv 48 6,Mv 9 48] (Sq (Rs [Fa 49 1 8,Lo 50 49] (.block 2 (Rs [Bc 52 .eql 50 0,Mv 51 52] (Cn 51 (Rs [Mv 54 0,Mv 55 6,Pp (.subs 56 54 (some 55) none),Ca 57 56 [56],Mv 53 57,Ex_ 58 0 53,Ex_ 59 1 53,Ex_ 60 2 53,Mv 10 58,Mv 11 59,Mv 12 60] (Sq (Rs [Mv 61 12,Bc 62 .neq 61 0] (Cn 62 (Rs [Mv 63 12,Pp (.mov 2 (.c (nl .record))),Mv 3 63] .ret) .skip)) (Rg [Mv 64 10,Mv 65 6,Mv 66 11,Bi 67 .add 65 66,Fa 68 2 8,Sv 1 68 64,Mv 9 67]))) (Sq (Rs [Bc 70 .eql 50 1,Mv 69 70] (Cn 69 .skip (Rg [Bc 71 .eql 50 5,Mv 69 71]))) (Cn 69 (Rs [Mi 13 4] (Sq (Rs [Fa 72 1 8,Lo 73 72,Bc 74 .eql 73 1] (Cn 74 (Rg [Mi 13 8]) .skip)) (Sq (Rs [Mv 75 0,Pp (.lens 76 75),Mv 77 6,Bi 78 .sub 76 77,Mv 79 13,Bi 80 .lss 78 79] (Cn 80 (Rs [Pp (.mov 2 (.c (nl .record))),Mi 3 2] .ret) .skip)) (Rg [Mv 81 0,Mv 82 6,Mv 83 6,Mv 84 13,Bi 85 .add 83 84,Pp (.subs 86 81 (some 82) (some 85)),Ca 87 57 [86],Mv 88 6,Mv 89 13,Bi 90 .add 88 89,Fa 91 2 8,Sv 1 91 87,Mv 9 90])))) (Rs [Bc 93 .eql 50 2,Mv 92 93] (Cn 92 (Rs [Mv 95 0,Mv 96 6,Pp (.subs 97 95 (some 96) none),Ca 98 56 [97],Mv 94 98,Ex_ 99 0 94,Ex_ 100 1 94,Ex_ 101 2 94,Mv 14 99,Mv 15 100,Mv 16 101] (Sq (Rs [Mv 102 16,Bc 103 .neq 102 0,Mv 104 103,Gf 104 (.mov 105 14),Gf 104 (.mov 106 0),Gf 104 (.lens 107 106),Gf 104 (.mov 108 6),Gf 104 (.bin 109 .sub 107 108),Gf 104 (.mov 110 15),Gf 104 (.bin 111 .sub 109 110),Gf 104 (.cvi 112 .u64 111),Gf 104 (.bin 113 .gtr 105 112),Po 114 104 113] (Cn 114 (Rs [Pp (.mov 2 (.c (nl .record))),Mi 3 2] .ret) .skip)) (Rs [Mv 115 6,Mv 116 15,Bi 117 .add 115 116,Mv 118 14,Pp (.cvi 119 .i64 118),Bi 120 .add 117 119,Mv 9 120] (Rg [Mv 121 0,Mv 122 6,Mv 123 15,Bi 124 .add 122 123,Mv 125 9,Pp (.subs 126 121 (some 124) (some 125)),Fa 127 3 8,Sv 1 127 126])))) (Rs [Pp (.mov 2 (.c (nl .record))),Mi 3 2] .ret))))))))) (Rs [Mv 128 0,Mv 129 9,Pp (.subs 130 128 none (some 129)),Fa 131 4 8,Sv 1 131 130] (Rs [Mv 132 0,Mv 133 9,Pp (.subs 134 132 (some 133) none),Mv 0 134] (Rg [Pp (.mov 135 (.tk 4)),Pp (.ld 136 5 true false 8),Pp (.bsl 137 .record [136] false),Pp (.app 138 .record (.tk 135) 137),Pp (.mov 4 (.tk 138))])))))))))
def aeT:IR:=Rs [Mv 139 4,Mv 2 139,Mi 3 0] .ret
def adi:IR:=Rs [Pp (.mov 2 (.c (nl .record))),Mi 3 0] (Sq (Rs [Mv 17 0,Pp (.lens 18 17),Bc 19 .gtr 18 5000] (Cn 19 (Rs [Pp (.mov 2 (.c (nl .record))),Mi 3 3] .ret) .skip)) (Rs [Pp (.mov 4 (.c (nl .record)))] (Sq (.block 0 (.loop [0,4,1000000] 0 aeS)) aeT)))
theorem avu:(bL Tryz.prog [] 0 adi (Tryz.f19.body.getD .skip)&&dD Tryz.prog dF Tryz.f19.results.toList)=true:=by kernel_rfl
theorem aty:Tryz.f19.body=some (Tryz.f19.body.getD .skip):=by kernel_rfl
def avv(R:TRr)(a:TS):TE:=(bu a [0,4,1000000] 0 (aP 0 (kseq (R aeT) (fin dF))))
def sS:ja->St:=λ(a,b)=>{env:=(vT a::(U 3 (vO .record b::(U 135 [])))),hp:=[]}
def abu(N:Nat):TS->TS:=λa s=>run mF N aeS (avv (run mF N) a) s
def uK(N:Nat)(b:ja->Ro):ja->Ro:=λ(a,f)=>let G:=(↑(Aa a):Int);let m:=λg0 W=>(some (.tup [vF .record [],vI g0],W):Ro);cond (decide (0<G)) (let x3:=(!(((aU a).2.2)==0));cond x3 (m 2 []) (let J:=(Ab .u64 (BO ((aU a).1) 8));cond (decide (J<1)) (m 2 []) (let F:=(Ab .u64 (BO ((aU a).1) 8));cond (decide (536870911<F)) (m 2 []) (let e:=(Ab .u64 (BO ((aU a).1) 8));let c:=(Bd ((aU a).1) 8);let x8:=((Ab .i64 c)==0);cond x8 (chk (decide (0<=((aU a).2.1))&&decide (((aU a).2.1)<=(↑(Aa a):Int))) (let s:=(An (Ad ((aU a).2.1)) (Ao (Aa a) a));let ae:=(!(((aU s).2.2)==0));cond ae (m ((aU s).2.2) [some [vI (Ab .i64 e),vI (Ab .i64 c),vU 0,vT [],vT []]]) (let g:=(Ab .i64 (((aU a).2.1)+((aU s).2.1)));chk (decide (0<=g)&&decide (g<=(↑(Aa a):Int))) (let t:=(An 0 (Ao (Ad g) a));chk (decide (0<=g)&&decide (g<=(↑(Aa a):Int))) (let af:=(An (Ad g) (Ao (Aa a) a));chk (decide ((Aa f+Aa ([⟨(Ab .i64 e),(Ab .i64 c),(aU s).1,([]:Bs),t⟩]:List bi))*56<=140737488355328)) (let ag:=(f++([⟨(Ab .i64 e),(Ab .i64 c),(aU s).1,([]:Bs),t⟩]:List bi));b (af,ag))))))) (let ah:=((Ab .i64 c)==1);cond ah (let ai:=((Ab .i64 c)==1);cond ai (let aj:=(↑(Aa a):Int);let ak:=(Ab .i64 (aj-((aU a).2.1)));cond (decide (ak<8)) (m 2 [some [vI (Ab .i64 e),vI (Ab .i64 c),vU 0,vT [],vT []]]) (let n:=(Ab .i64 (((aU a).2.1)+8));chk (decide (0<=n)&&decide (n<=(↑(Aa a):Int))&&(decide (0<=((aU a).2.1))&&decide (((aU a).2.1)<=n))) (let u:=(An (Ad ((aU a).2.1)) (Ao (Ad n) a));let h:=(Ab .i64 (((aU a).2.1)+8));chk (decide (0<=h)&&decide (h<=(↑(Aa a):Int))) (let v:=(An 0 (Ao (Ad h) a));chk (decide (0<=h)&&decide (h<=(↑(Aa a):Int))) (let al:=(An (Ad h) (Ao (Aa a) a));chk (decide ((Aa f+Aa ([⟨(Ab .i64 e),(Ab .i64 c),(ix u),([]:Bs),v⟩]:List bi))*56<=140737488355328)) (let M:=(f++([⟨(Ab .i64 e),(Ab .i64 c),(ix u),([]:Bs),v⟩]:List bi));b (al,M))))))) (let L:=(↑(Aa a):Int);let X:=(Ab .i64 (L-((aU a).2.1)));cond (decide (X<4)) (m 2 [some [vI (Ab .i64 e),vI (Ab .i64 c),vU 0,vT [],vT []]]) (let o:=(Ab .i64 (((aU a).2.1)+4));chk (decide (0<=o)&&decide (o<=(↑(Aa a):Int))&&(decide (0<=((aU a).2.1))&&decide (((aU a).2.1)<=o))) (let w:=(An (Ad ((aU a).2.1)) (Ao (Ad o) a));let i:=(Ab .i64 (((aU a).2.1)+4));chk (decide (0<=i)&&decide (i<=(↑(Aa a):Int))) (let x:=(An 0 (Ao (Ad i) a));chk (decide (0<=i)&&decide (i<=(↑(Aa a):Int))) (let ap:=(An (Ad i) (Ao (Aa a) a));chk (decide ((Aa f+Aa ([⟨(Ab .i64 e),(Ab .i64 c),(ix w),([]:Bs),x⟩]:List bi))*56<=140737488355328)) (let S:=(f++([⟨(Ab .i64 e),(Ab .i64 c),(ix w),([]:Bs),x⟩]:List bi));b (ap,S)))))))) (let ar:=((Ab .i64 c)==5);cond ar (let H:=((Ab .i64 c)==1);cond H (let R:=(↑(Aa a):Int);let aw:=(Ab .i64 (R-((aU a).2.1)));cond (decide (aw<8)) (m 2 [some [vI (Ab .i64 e),vI (Ab .i64 c),vU 0,vT [],vT []]]) (let p:=(Ab .i64 (((aU a).2.1)+8));chk (decide (0<=p)&&decide (p<=(↑(Aa a):Int))&&(decide (0<=((aU a).2.1))&&decide (((aU a).2.1)<=p))) (let y:=(An (Ad ((aU a).2.1)) (Ao (Ad p) a));let j:=(Ab .i64 (((aU a).2.1)+8));chk (decide (0<=j)&&decide (j<=(↑(Aa a):Int))) (let z:=(An 0 (Ao (Ad j) a));chk (decide (0<=j)&&decide (j<=(↑(Aa a):Int))) (let I:=(An (Ad j) (Ao (Aa a) a));chk (decide ((Aa f+Aa ([⟨(Ab .i64 e),(Ab .i64 c),(ix y),([]:Bs),z⟩]:List bi))*56<=140737488355328)) (let P:=(f++([⟨(Ab .i64 e),(Ab .i64 c),(ix y),([]:Bs),z⟩]:List bi));b (I,P))))))) (let az:=(↑(Aa a):Int);let E:=(Ab .i64 (az-((aU a).2.1)));cond (decide (E<4)) (m 2 [some [vI (Ab .i64 e),vI (Ab .i64 c),vU 0,vT [],vT []]]) (let q:=(Ab .i64 (((aU a).2.1)+4));chk (decide (0<=q)&&decide (q<=(↑(Aa a):Int))&&(decide (0<=((aU a).2.1))&&decide (((aU a).2.1)<=q))) (let B:=(An (Ad ((aU a).2.1)) (Ao (Ad q) a));let k:=(Ab .i64 (((aU a).2.1)+4));chk (decide (0<=k)&&decide (k<=(↑(Aa a):Int))) (let C:=(An 0 (Ao (Ad k) a));chk (decide (0<=k)&&decide (k<=(↑(Aa a):Int))) (let a1:=(An (Ad k) (Ao (Aa a) a));chk (decide ((Aa f+Aa ([⟨(Ab .i64 e),(Ab .i64 c),(ix B),([]:Bs),C⟩]:List bi))*56<=140737488355328)) (let a2:=(f++([⟨(Ab .i64 e),(Ab .i64 c),(ix B),([]:Bs),C⟩]:List bi));b (a1,a2)))))))) (let Z:=((Ab .i64 c)==2);cond Z (chk (decide (0<=((aU a).2.1))&&decide (((aU a).2.1)<=(↑(Aa a):Int))) (let l:=(An (Ad ((aU a).2.1)) (Ao (Aa a) a));let a4:=(!(((aU l).2.2)==0));cond a4 (m 2 [some [vI (Ab .i64 e),vI (Ab .i64 c),vU 0,vT [],vT []]]) (let a5:=(↑(Aa a):Int);let a6:=(Ab .i64 (a5-((aU a).2.1)));let a7:=(Ab .i64 (a6-((aU l).2.1)));let O:=decide ((Ab .u64 a7)<((aU l).1));cond O (m 2 [some [vI (Ab .i64 e),vI (Ab .i64 c),vU 0,vT [],vT []]]) (let a9:=(Ab .i64 (((aU a).2.1)+((aU l).2.1)));let Y:=(Ab .i64 ((aU l).1));let d:=(Ab .i64 (a9+Y));let r:=(Ab .i64 (((aU a).2.1)+((aU l).2.1)));chk (decide (0<=d)&&decide (d<=(↑(Aa a):Int))&&(decide (0<=r)&&decide (r<=d))) (let D:=(An (Ad r) (Ao (Ad d) a));chk (decide (0<=d)&&decide (d<=(↑(Aa a):Int))) (let A:=(An 0 (Ao (Ad d) a));chk (decide (0<=d)&&decide (d<=(↑(Aa a):Int))) (let bb:=(An (Ad d) (Ao (Aa a) a));chk (decide ((Aa f+Aa ([⟨(Ab .i64 e),(Ab .i64 c),0,D,A⟩]:List bi))*56<=140737488355328)) (let Q:=(f++([⟨(Ab .i64 e),(Ab .i64 c),0,D,A⟩]:List bi));b (bb,Q))))))))) (m 2 [some [vI (Ab .i64 e),vI (Ab .i64 c),vU 0,vT [],vT []]])))))))) (some (.tup [vF .record f,vI 0],[]))
theorem atz(N:Nat):LB (abu N) sS (uK N):=λ_ _=>by kernel_rfl
def rz(N:Nat)(a:Bs)(b:ja->Ro):Ro:=let c:=(↑(Aa a):Int);cond (decide (5000<c)) (some (.tup [vF .record [],vI 3],[])) (b (a,[]))
def wK(N:Nat)(a:Bs):Ro:=rz N a (λz=>aN N (uK N) z)
def aAJ(N:Nat):List (Nat×(TS)):=cU mF N adi (fin dF)++[]
theorem avw(N:Nat)(a:Bs):callF mF N 140 dF adi [.str a] []=wK N a:=
 ((bK (aAJ N) (by kernel_rfl) rfl (λC=>rz N a (λz=>C 1000000 (sS z))) (λC=>by kernel_rfl)).trans (AE (b:=rz N a (λz=>aZ N (abu N) (sS z))) (by kernel_rfl) (congrArg (rz N a) (funext λz=>aW (sS) (abu N) (uK N) (atz N) N z))))
theorem ax5(c:bB Tryz.prog mF)(N:Nat)(a:Bs){v:V}{hp:List aJ}(h:wK N a=some (v,hp)):aH Tryz.prog 19 [.str a] v:=by have b:=avu;simp only[Ac] at b;exact⟨hp,ez c arL Tryz.func19 aty b.1 b.2 (by decide) ((avw N a).trans h)⟩
def aeU(N:Nat):Nat->List V->Option (Bool×V):=λf vs=>match f,vs with
 |58,[.int .u64 a]=>some (decide (1000000<=N-Ad a),.str (dP a))
 |_,_=>none
def qB(N:Nat):aI:=(eW (aeU N))
theorem ajj(N:Nat):cE (qB N) []:=(cK _ _)
theorem aas(N:Nat)(b:∀(a:Int),(decide (1000000<=N-Ad a))=true->aH Tryz.prog 58 [vU a] (vT (dP a))):bB Tryz.prog (qB N):=by
 intro f vs hp v hp' c;obtain⟨h,d⟩:=dw c;subst d;unfold aeU at h;split at h;·simp only[Ae,Al] at h;obtain⟨e,rfl⟩:=h;exact((b _ e).dim rfl).frame rfl rfl _
 ·simp at h
def adJ:IR:=Rs [Ms 2 []] (Sq (Rs [Mv 3 0,Pp (.bin 4 .lss 3 (kU 128))] (Cn 4 (Rs [Mv 5 0,Pp (.cvi 6 .u8 5),Pp (.bsl 7 .u8 [6] false),Pp (.b2s 8 7),Mv 2 8] .ret) .skip)) (Sq (.reg [Mv 9 0,Pp (.bin 10 .rem 9 (kU 128)),Pp (.cvi 11 .u8 10),Pp (.bin 12 .add 11 (.c (.int .u8 128))),Pp (.bsl 13 .u8 [12] false),Pp (.b2s 14 13),Mv 15 0,Pp (.bin 16 .quo 15 (kU 128)),Ca 17 58 [16],Bi 18 .add 14 17,Mv 2 18] [[],[0],[0,1],[0,1,2],rg 0 3,rg 0 4,[],[6],[6,7],rg 0 8,rg 0 9]) .ret))
theorem am3:(bL Tryz.prog [] 0 adJ (Tryz.f58.body.getD .skip)&&dD Tryz.prog aE Tryz.f58.results.toList)=true:=by kernel_rfl
theorem alo:Tryz.f58.body=some (Tryz.f58.body.getD .skip):=by kernel_rfl
def adK(N:Nat)(a:Int):Ro:=cond (decide (a<128)) (some (vT ([(Az (Ad (Ab .u8 a)))]:Bs),[])) (let d:=(Ab .u8 (Bd a 128));let c:=(Ab .u8 (d+128));let b:=(Ab .u64 (BO a 128));chk (decide (1000000<=N-Ad b)) (chk (decide (Aa ([(Az (Ad c))]:Bs)+Aa (dP b)<=9223372036854775807)) (let e:=(([(Az (Ad c))]:Bs)++(dP b));some (vT e,[]))))
def pj(N:Nat)(a:Int):Ro:=adK N a
theorem am4(N:Nat)(a:Int):callF (qB N) N 19 aE adJ [.int .u64 a] []=pj N a:=by kernel_rfl
theorem adL(N:Nat)(c:bB Tryz.prog (qB N))(a:Int){v:V}{hp:List aJ}(h:pj N a=some (v,hp)):aH Tryz.prog 58 [.int .u64 a] v:=by have b:=am3;simp only[Ac] at b;exact⟨hp,ez c (ajj N) Tryz.func58 alo b.1 b.2 (by decide) ((am4 N a).trans h)⟩
def axk:Nat->List V->Option (Bool×V):=λf vs=>match f,vs with
 |192,[.int .u64 a]=>some (true,.str (dP a))
 |193,[.int .i64 a]=>some (true,.int .i64 (pi a))
 |_,_=>none
def tS:aI:=(eW axk)
theorem ax6:cE tS []:=(cK _ _)
theorem aAK(b:∀(a:Int),aH Tryz.prog 192 [vU a] (vT (dP a)))(c:∀(a:Int),aH Tryz.prog 193 [vI a] (vI (pi a))):bB Tryz.prog tS:=by
 intro f vs hp v hp' d;obtain⟨h,e⟩:=dw d;subst e;unfold axk at h;split at h;·simp only[Ae,Al] at h;obtain⟨i,rfl⟩:=h;exact((b _).dim rfl).frame rfl rfl _
 ·simp only[Ae,Al] at h;obtain⟨i,rfl⟩:=h;exact((c _).dim rfl).frame rfl rfl _
 ·simp at h
def am5:IR:=Rs [Bi 52 .lss 51 50] (Sq (Cn 52 .skip (.exit 1)) (Sq (.block 2 (Rs [Mv 53 51,Mv 5 53] (Rg [Pp (.mov 54 (.tk 4)),Fa 55 2 1,Lq 56 55,Mv 57 5,Pp (.bin 58 .mul (kI 8) 57),Bi 59 .shr 56 58,Pp (.cvi 60 .u8 59),Pp (.bsl 61 .u8 [60] false),Pp (.app 62 .u8 (.tk 54) 61),Pp (.mov 4 (.tk 62))]))) (Rg [Bc 63 .add 51 1,Mv 51 63])))
def akE:IR:=Rs [Mv 64 3,Mv 65 4,Pp (.b2s 66 65),Bi 67 .add 64 66,Mv 2 67] .ret
def akF:IR:=Rs [Ms 2 []] .ret
def ajk:IR:=Rs [Bx 1 0,Ms 2 []] (Sq (Rs [Fa 6 0 1,Lq 7 6,Bc 8 .lss 7 1,Mv 9 8,Gf 9 (.fad 10 0 1),Gf 9 (.lde 11 1 false 10),Gf 9 (.bin 12 .gtr 11 (kI 536870911)),Po 13 9 12] (Cn 13 (Rs [Ms 2 []] .ret) .skip)) (Rs [Fa 14 0 1,Lq 15 14,Pp (.cvi 16 .u64 15),Pp (.bin 17 .mul 16 (kU 8)),Fa 18 1 1,Lq 19 18,Bc 20 .and 19 7,Pp (.cvi 21 .u64 20),Bi 22 .add 17 21,Ca 23 192 [22],Mv 3 23] (Sq (Rs [Fa 24 1 1,Lq 25 24] (.block 0 (Rs [Bc 27 .eql 25 0,Mv 26 27] (Cn 26 (Rs [Mv 28 3,Fa 29 2 1,Lq 30 29,Ca 31 192 [30],Bi 32 .add 28 31,Mv 2 32] .ret) (Rs [Bc 34 .eql 25 2,Mv 33 34] (Cn 33 (Sq (.reg [Mv 35 3,Fa 36 3 1,Lq 37 36,Pp (.lens 38 37),Pp (.cvi 39 .u64 38),Ca 40 192 [39],Bi 41 .add 35 40,Fa 42 3 1,Lq 43 42,Bi 44 .add 41 43,Mv 2 44] [[],[],[1],[1,2],[1,2,3],rg 1 4,rg 0 5,[],[7],rg 0 8,rg 0 9]) .ret) (Sq (Rs [Bc 46 .eql 25 1,Mv 45 46] (Cn 45 .skip (Rg [Bc 47 .eql 25 5,Mv 45 47]))) (Cn 45 (Rs [Pp (.mov 4 (.c (nl .u8)))] (Sq (Rs [Fa 48 1 1,Lq 49 48,Ca 50 193 [49],Mi 51 0] (.block 1 (.loop [1,3,4,50,51,1000000] 0 am5))) akE)) .skip)))))))) akF)))
theorem aDd:(bL Tryz.prog [] 0 ajk (Tryz.f148.body.getD .skip)&&dD Tryz.prog aE Tryz.f148.results.toList)=true:=by kernel_rfl
theorem aAL:Tryz.f148.body=some (Tryz.f148.body.getD .skip):=by kernel_rfl
def aDe(R:TRr)(a:TS):TE:=(bu a [1,3,4,50,51,1000000] 0 (aP 1 (kseq (R akE) (aP 0 (kseq (R akF) (fin aE))))))
abbrev ab2:Type:=(Int×Int×Int×Bs×Bs×Bs×Bs×Int×Int)
def yX:ab2->St:=λ(a,b,c,d,e,f,g,h,i)=>{env:=(.undef::.ea [vI a,vI b,vU c,vT d,vT e]::.undef::vT f::vO .u8 g::(U 45 (vI h::vI i::(U 16 [])))),hp:=[]}
def ag3(N:Nat):TS->TS:=λa s=>run tS N am5 (aDe (run tS N) a) s
def vY(N:Nat)(a:ab2->Ro):ab2->Ro:=λ(d,e,b,f,g,k,j,h,c)=>cond (decide (c<h)) (let n:=(Ab .i64 (8*c));chk (decide (0<=n)) (let i:=(Ab .u8 (ey .u64 b n));chk (decide ((Aa j+Aa ([(Az (Ad i))]:Bs))*1<=140737488355328)) (let l:=(j++([(Az (Ad i))]:Bs));let m:=(Ab .i64 (c+1));a (d,e,b,f,g,k,l,h,m)))) (chk (decide (Aa k+Aa j<=9223372036854775807)) (some (vT (k++j),[])))
theorem aAM(N:Nat):LB (ag3 N) yX (vY N):=λ_ _=>by kernel_rfl
def yY(N:Nat)(b a d:Int)(c f:Bs)(j:ab2->Ro):Ro:=let g:=(some (vT [],[]):Ro);let i:=λk=>j (b,a,d,c,f,(dP k),[],(pi a),0);cond (decide (b<1)) (g) (let l:=decide (536870911<b);cond l (g) (let m:=(Ab .u64 ((Ab .u64 b)*8));let n:=(Ab .u64 (bC .and .i64 a 7));let e:=(Ab .u64 (m+n));cond (a==0) (chk (decide (Aa (dP e)+Aa (dP d)<=9223372036854775807)) (let o:=((dP e)++(dP d));some (vT o,[]))) (cond (a==2) (let p:=(↑(Aa c):Int);let h:=(dP (Ab .u64 p));chk (decide (Aa (dP e)+Aa h<=9223372036854775807)) (chk (decide (Aa ((dP e)++h)+Aa c<=9223372036854775807)) (let q:=(((dP e)++h)++c);some (vT q,[])))) (cond (a==1) (i e) (cond (a==5) (i e) (g))))))
def aeh(N:Nat)(a b c:Int)(d e:Bs):Ro:=yY N a b c d e (λz=>aN N (vY N) z)
def aGS(N:Nat):List (Nat×(TS)):=cU tS N ajk (fin aE)++[]
theorem aDf(N:Nat)(a c d:Int)(e f:Bs):callF tS N 68 aE ajk [.agg [.int .i64 a,.int .i64 c,.int .u64 d,.str e,.str f]] []=aeh N a c d e f:=
 ((bK (aGS N) (by kernel_rfl) rfl (λC=>yY N a c d e f (λz=>C 1000000 (yX z))) (λC=>by kernel_rfl)).trans (AE (b:=yY N a c d e f (λz=>aZ N (ag3 N) (yX z))) (by kernel_rfl) (congrArg (yY N a c d e f) (funext λz=>aW (yX) (ag3 N) (vY N) (aAM N) N z))))
theorem aFq(i:bB Tryz.prog tS)(N:Nat)(a b c:Int)(d e:Bs){v:V}{hp:List aJ}(h:aeh N a b c d e=some (v,hp)):aH Tryz.prog 148 [.agg [.int .i64 a,.int .i64 b,.int .u64 c,.str d,.str e]] v:=by have f:=aDd;simp only[Ac] at f;exact⟨hp,ez i ax6 Tryz.func148 aAL f.1 f.2 (by decide) ((aDf N a b c d e).trans h)⟩
def atA:Nat->List V->Option (Bool×V):=λf vs=>match f,vs with
 |58,[.int .u64 a]=>some (true,.str (dP a))
 |59,[.int .u64 a,.int .i64 b]=>some (decide ((b:Int)<=1000),.str (kM a b))
 |_,_=>none
def aei:aI:=(eW atA)
theorem avx:cE aei []:=(cK _ _)
theorem ax7(c:∀(a:Int),aH Tryz.prog 58 [vU a] (vT (dP a)))(d:∀(a:Int)(b:Int),(decide ((b:Int)<=1000))=true->aH Tryz.prog 59 [vU a,vI b] (vT (kM a b))):bB Tryz.prog aei:=by
 intro f vs hp v hp' j;obtain⟨h,i⟩:=dw j;subst i;unfold atA at h;split at h;·simp only[Ae,Al] at h;obtain⟨e,rfl⟩:=h;exact((c _).dim rfl).frame rfl rfl _
 ·simp only[Ae,Al] at h;obtain⟨e,rfl⟩:=h;exact((d _ _ e).dim rfl).frame rfl rfl _
 ·simp at h
def aqM:IR:=Rs [Bx 1 0,Ms 2 []] (Sq (Rs [Fa 4 0 1,Lq 5 4,Bc 6 .lss 5 1,Mv 7 6,Gf 7 (.fad 8 0 1),Gf 7 (.lde 9 1 false 8),Gf 7 (.bin 10 .gtr 9 (kI 536870911)),Po 11 7 10] (Cn 11 (Rs [Ms 2 []] .ret) .skip)) (Rs [Fa 12 0 1,Lq 13 12,Pp (.cvi 14 .u64 13),Pp (.bin 15 .mul 14 (kU 8)),Fa 16 1 1,Lq 17 16,Pp (.cvi 18 .u64 17),Bi 19 .add 15 18,Ca 20 58 [19],Mv 3 20] (Sq (Rs [Fa 21 1 1,Lq 22 21] (.block 0 (Rs [Bc 24 .eql 22 0,Mv 23 24] (Cn 23 (Rs [Mv 25 3,Fa 26 2 1,Lq 27 26,Ca 28 58 [27],Bi 29 .add 25 28,Mv 2 29] .ret) (Rs [Bc 31 .eql 22 1,Mv 30 31] (Cn 30 (Rs [Mv 32 3,Fa 33 2 1,Lq 34 33,Ca 35 59 [34,kI 8],Bi 36 .add 32 35,Mv 2 36] .ret) (Rs [Bc 38 .eql 22 5,Mv 37 38] (Cn 37 (Rs [Mv 39 3,Fa 40 2 1,Lq 41 40,Ca 42 59 [41,kI 4],Bi 43 .add 39 42,Mv 2 43] .ret) (Rs [Bc 45 .eql 22 2,Mv 44 45] (Cn 44 (Sq (.reg [Mv 46 3,Fa 47 3 1,Lq 48 47,Pp (.lens 49 48),Pp (.cvi 50 .u64 49),Ca 51 58 [50],Bi 52 .add 46 51,Fa 53 3 1,Lq 54 53,Bi 55 .add 52 54,Mv 2 55] [[],[],[1],[1,2],[1,2,3],rg 1 4,rg 0 5,[],[7],rg 0 8,rg 0 9]) .ret) .skip)))))))))) (Rs [Ms 2 []] .ret))))
theorem aAN:(bL Tryz.prog [] 0 aqM (Tryz.f20.body.getD .skip)&&dD Tryz.prog aE Tryz.f20.results.toList)=true:=by kernel_rfl
theorem ax8:Tryz.f20.body=some (Tryz.f20.body.getD .skip):=by kernel_rfl
def aqN(N:Nat)(c b a:Int)(d h:Bs):Ro:=let f:=(some (vT [],[]):Ro);cond (decide (c<1)) (f) (let i:=decide (536870911<c);cond i (f) (let j:=(Ab .u64 ((Ab .u64 c)*8));let e:=(Ab .u64 (j+(Ab .u64 b)));cond (b==0) (chk (decide (Aa (dP e)+Aa (dP a)<=9223372036854775807)) (let k:=((dP e)++(dP a));some (vT k,[]))) (cond (b==1) (chk (decide ((8:Int)<=1000)) (chk (decide (Aa (dP e)+Aa (kM a 8)<=9223372036854775807)) (let l:=((dP e)++(kM a 8));some (vT l,[])))) (cond (b==5) (chk (decide ((4:Int)<=1000)) (chk (decide (Aa (dP e)+Aa (kM a 4)<=9223372036854775807)) (let m:=((dP e)++(kM a 4));some (vT m,[])))) (cond (b==2) (let n:=(↑(Aa d):Int);let g:=(dP (Ab .u64 n));chk (decide (Aa (dP e)+Aa g<=9223372036854775807)) (chk (decide (Aa ((dP e)++g)+Aa d<=9223372036854775807)) (let o:=(((dP e)++g)++d);some (vT o,[])))) (f))))))
def ab3(N:Nat)(a b c:Int)(d e:Bs):Ro:=aqN N a b c d e
theorem aAO(N:Nat)(a b c:Int)(d e:Bs):callF aei N 56 aE aqM [.agg [.int .i64 a,.int .i64 b,.int .u64 c,.str d,.str e]] []=ab3 N a b c d e:=by kernel_rfl
theorem aDg(i:bB Tryz.prog aei)(N:Nat)(a b c:Int)(d e:Bs){v:V}{hp:List aJ}(h:ab3 N a b c d e=some (v,hp)):aH Tryz.prog 20 [.agg [.int .i64 a,.int .i64 b,.int .u64 c,.str d,.str e]] v:=by have f:=aAN;simp only[Ac] at f;exact⟨hp,ez i avx Tryz.func20 ax8 f.1 f.2 (by decide) ((aAO N a b c d e).trans h)⟩
end Go.Proofs.YtndccphabnjkhaaGreat
end
