import Derived.KernelRfl
import Derived.Shelf.Strings.Search3
import Derived.Shelf.Strings.LastIndex
import Derived.Shelf.Strings.SlTrimAscii
import Derived.Shelf.Strings.Split
import Derived.Below
import Derived.Test.YtkinflmjagfapaaDoorZ02
open Array renaming getElem?_eq_getElem→Am,getElem?_eq_some_iff→AK,getElem?_push→CE
open Bool renaming and_eq_true→Ab,false_or→Cd
open Eq renaming trans→BB
open Go.Ending renaming returned→Da
open Go.IntKind renaming wrap→Ao,signed→Bb,bits→Br,max→B2,min→Cm
open Go.Lib renaming countB→Cz
open Go.Value renaming string→B5
open Go.World renaming cell?→Bn
open Int renaming toNat→Ag,tmod→Bl
open List renaming length→Aa,getElem?_eq_getElem→Ac,getElem?_eq_some_iff→Ad,mem_of_getElem?→Af,getD_eq_getElem?_getD→Ah,all_eq_true→Ai,getElem?_append_right→An,getElem?_append_left→Ap,getD→Aq,getElem?_map→Au,mem_map→AA,mem_flatMap→AC,getElem?_take→AJ,mem_cons→AL,mem_iff_getElem→AP,getElem?_cons_succ→AR,mem_cons_of_mem→AS,getElem?_eq_none→AU,map_congr_left→AV,getElem?_set_ne→AY,range→A2,take→A4,drop→A8,mem_range→Bd,set→Bg,length_map→Bm,length_take→Bv,length_drop→BA,any_eq_true→B8,map_map→B9,size_toArray→Cr,mem_map_of_mem→CF,ext_getElem?→CS,getElem?_range→Dc,mem_of_find?_eq_some→Dw
open Nat renaming le_refl→Aj,eq_of_beq_eq_true→As,beq→Av,lt_of_lt_of_le→Ax,lt_or_ge→AE,le_trans→AF,zero_le→Bj,ble→BM,blt→BP,blt_eq→B0,le_of_ble_eq_true→C1
open Option renaming map_eq_some_iff→Ak,getD_some→A5,isSome→CC
open Option.some renaming injEq→Ae
open Prod.mk renaming injEq→Al
set_option linter.all false
set_option maxRecDepth 100000
noncomputable section
namespace Go.AM
def V.ren1(σ:Nat->Nat):V->V
 | .ptr i o=>.ptr (σ i) o
 | .mr i=>.mr (σ i)
 |v=>v
def V.renS(σ:Nat->Nat):V->V
 | .fn f cs=>.fn f (cs.map (V.ren1 σ))
 |v=>v.ren1 σ
def V.flatS1(m n:Nat):V->Bool
 | .ptr i 0=>decide (i<n)
 | .mr i=>decide (i<n)
 | .ea [.ptr i _]=>decide (i<m)
 |v=>v.flat
def V.flatS(m n:Nat):V->Bool
 | .fn _ cs=>cs.all (V.flatS1 m n)
 |v=>v.flatS1 m n
section
variable{I:Nat->Nat->Prop}{ρ:Nat->Nat}{N m n:Nat}{w:World}{P:Program}{σ:Nat->Nat}
theorem V.ren1_flat{v:V}(h:v.flat=true):v.ren1 σ=v:=by cases v<;>simp[V.flat,V.flat2,V.flatE,V.flat1] at h<;>rfl
theorem V.renS_bare{v:V}:(v.renS σ).bare=v.bare:=by cases v<;>rfl
theorem adL(A:m<=n)(g:∀k,k<m->σ k=k){x:V}{cv:Value}(a:x.flatS1 m n=true)(h:VRel I ρ N w (x.ren1 σ) cv):VRel I (λk=>ρ (σ k)) n w x cv:=by
 unfold V.flatS1 at a;split at a
 ·rename_i i;simp only[V.ren1] at h;cases h with
  |ptr _ _ _=>exact .ptr i 0 (by simpa using a)
 ·rename_i i;simp only[V.ren1] at h;cases h with
  |mr _ _=>exact .mr i (by simpa using a)
 ·rename_i i o;have v:i<m:=by simpa using a
  simp only[V.ren1] at h;cases h with
  |ea _ b d f r y z t=>
   refine .ea _ b d f r y z (λj c q=>?_);cases j with
   |zero=>
    have p:V.ptr i o=c:=by simpa using q
    subst p;have:=t 0 _ rfl;generalize f 0=u at this;cases this with
    |ptr _ _ _=>
     have e:ρ i=ρ (σ i):=by rw[g i v]
     rw[e];exact .ptr (ρ:=λk=>ρ (σ k)) i o (by omega)
   |succ j=>simp at q
 ·rw[V.ren1_flat a] at h;exact h.flat a
theorem ah6(g:m<=n)(a:∀k,k<m->σ k=k){x:V}{cv:Value}(b:x.flatS m n=true)(h:VRel I ρ N w (x.renS σ) cv):VRel I (λk=>ρ (σ k)) n w x cv:=by
 cases x with
 |fn f cs=>
  simp only[V.flatS,Ai] at b;simp only[V.renS] at h;cases h with
  |fn _ _ vs o j=>refine .fn f cs vs (by simpa using o) (λi c cv e d=>?_);exact adL g a (b c (Af e)) (j i (c.ren1 σ) cv (by rw[Au,e];rfl) d)
 |_=>exact adL g a b h
theorem aP.frameS{m:Nat}{f:FuncId}{avs:List V}{css css':List (List V)}{v:V}(h:aP P f avs css v css')(hm:m<=css.length)(ha:avs.all (V.flatS m css.length)=true)(hv:v.flat=true)
  (hc:css.all (λcs=>cs.all (V.flatM m))=true) (ds:css'.all (λcs=>cs.all (V.flatM m))=true) {hp hp':List ah} {σ:Nat->Nat}
  (W:∀k,k<m->σ k=k) (b6:∀k k',k<css.length->k'<css.length->σ k=σ k'->k=k')
  (h1:∀(k:Nat) cs,css[k]? =some cs->hp[σ k]? =some (some cs)) (h2:hp'.length=hp.length)
  (h3:∀(k:Nat) cs,css'[k]? =some cs->hp'[σ k]? =some (some cs))
  (h4:∀id,(∀k,k<css.length->σ k≠id)->hp'[id]? =hp[id]?):eC P f (avs.map (V.renS σ)) hp v hp':=by
 obtain⟨d1,rest,h⟩:=h;intro w g Z c2 u cy a9 cx;have ci:∀(k:Nat) cs,css[k]? =some cs->cs.all (V.flatM m)=true:=λk cs a=>Ai.1 hc cs (Af a)
 have a0:∀(k:Nat) cs,css'[k]? =some cs->cs.all (V.flatM m)=true:=λk cs a=>Ai.1 ds cs (Af a)
 have H:∀(k:Nat) cs,css[k]? =some cs->k<css.length:=λk cs a=>(Ad.1 a).1
 have z:∀(k:Nat) cs,(css.map some)[k]? =some (some cs)->css[k]? =some cs:=by
  intro k cs a;rw[Au] at a;cases M:css[k]? with
  |none=>rw[M] at a;simp at a
  |some x=>rw[M] at a;simpa using a
 have sub:∀k,k<css.length->∃cs,css[k]? =some cs∧hp[σ k]? =some (some cs):=λk a=>⟨css[k],Ac a,h1 k _ (Ac a)⟩
 let inv:Nat->Option Nat:=λi=>(A2 css.length).find? λk=>σ k==i
 have J:∀i k,inv i=some k->k<css.length∧σ k=i:=by intro i k a;have m1:=Dw a;have m2:=List.find?_some a;exact⟨Bd.1 m1,by simpa using m2⟩
 have al:∀k,k<css.length->inv (σ k)=some k:=by
  intro k a;cases M:inv (σ k) with
  |none=>have:=List.find?_eq_none.1 M k (Bd.2 a);simp at this
  |some k'=>obtain⟨m1,m2⟩:=J _ _ M;rw[b6 k' k m1 a m2]
 let g₀:Gh:={I:=g.I,ρ:=λk=>g.ρ (σ k),O:=λb=>match g.O b with|some (.cell i j)=>(inv i).map λk=>.cell k j|_=>none,β:=g.β}
 have gO:∀b o,g₀.O b=some o->∃k j,k<css.length∧o=.cell k j∧g.O b=some (.cell (σ k) j):=by
  intro b o r;simp only[g₀] at r;split at r
  ·rename_i i j hg;cases M:inv i with
   |none=>rw[M] at r;simp at r
   |some k=>rw[M] at r;obtain⟨m1,m2⟩:=J _ _ M;exact⟨k,j,m1,by simpa using r.symm,by rw[m2];exact hg⟩
  ·simp at r
 have gN:∀b,(∀k j,k<css.length->g.O b≠some (.cell (σ k) j))->g₀.O b=none:=by
  intro b r;cases M:g₀.O b with
  |none=>rfl
  |some o=>obtain⟨k,j,a,_,p⟩:=gO b o M;exact absurd p (r k j a)
 have gC:∀b k j,k<css.length->g.O b=some (.cell (σ k) j)->g₀.O b=some (.cell k j):=by intro b k j a r;simp[g₀,r,al k a]
 have d2:∀k,k<css.length->g₀.O (g.ρ (σ k))=none:=by intro k a;obtain⟨cs,_,hid⟩:=sub k a;exact gN _ (by intro k' j _ p;rw[u.notO _ cs hid] at p;cases p)
 have h0:HR g₀ (css.map some) w:=by
  refine⟨?_,?_,?_,?_,u.exI,?_⟩
  ·intro k c a;have a:=z k c a;refine(u.obj _ c (h1 k c a)).keep rfl λey e fz a1 D=>?_
   have hr:=acj (ci k c a);refine⟨D.len,D.plain,by rw[fT hr];simp,D.cold,D.one,?_,?_,D.bn⟩;·intro j Q cv p C;exact(D.rel j Q cv p C).flatM (Ai.1 (ci k c a) Q (Af (by rw[c7 hr] at p;exact p))) (λi t=>congrArg g.ρ (W i t)) (by simpa using hm)
   ·intro j Q cv p C;exact(D.own j Q cv p C).reloc rfl rfl λb r=>gC b k j (H k c a) r
  ·intro k k' c Q a y B;have a:=z k c a;have y:=z k' Q y;exact u.apart _ _ _ _ (h1 k c a) (h1 k' Q y) λe=>B (b6 k k' (H k c a) (H k' Q y) e)
  ·intro k c a;exact u.notI _ c (h1 k c (z k c a))
  ·intro k c a;exact d2 k (H k c (z k c a))
  ·intro b o r;obtain⟨k,j,_,_,p⟩:=gO b o r;exact u.oLt b _ p
 have a5:∀(i:Nat) x cv,avs[i]? =some x->Z[i]? =some cv->VRel g₀.I g₀.ρ (css.map some).length w x cv:=by intro i x cv hx C;have hr:=cx i (x.renS σ) cv (by rw[Au,hx];rfl) C;have d3:=Ai.1 ha x (Af hx);have:=ah6 (m:=m) (n:=css.length) hm W d3 hr;simpa using this
 refine(h w g₀ Z (c2.sub rfl (λh=>h) (λh=>by simp[g₀,h])) h0 (by rw[<-cy,Bm]) (by intro x hx;have:=a9 (x.renS σ) (CF hx);rw[V.renS_bare] at this;exact this) a5).mono ?_;rintro ex w' ⟨cv,g₁,rfl,q1,R,q3,q4⟩;have r0:∀k,k<css.length->g₁.ρ k=g.ρ (σ k):=λk a=>R.up.rho k (by simpa using a)
 have Y:∀b,(∀k,k<css.length->g.ρ (σ k)≠b)->∀(k:Nat) cs,(css.map some)[k]? =some (some cs)->g₀.ρ k≠b:=λb r k cs a=>r k (H k cs (z k cs a))
 have blk:∀b,b<w.heap.size->(∀k,k<css.length->g.ρ (σ k)≠b)->g₀.O b=none->w'.heap[b]? =w.heap[b]?:=λb r B S=>R.block b r (Y b B) S
 let A:Gh:={I:=g₁.I,ρ:=g.ρ,O:=λb=>match g₁.O b with
  |some .res=>some .res
  |some (.cell k j)=>cond (BP k css.length) (some (.cell (σ k) j)) none
  |some (.slot _)=>none
  |none=>if b<w.heap.size∧g₀.O b=none then g.O b else none,β:=g.β}
 have b5:m<=hp'.length:=by
  rcases AE hp'.length m with hl|hl;·obtain⟨cs,_,dk⟩:=sub (m-1) (by omega);have:=(Ad.1 dk).1;rw[W _ (by omega)] at this;omega
  ·exact hl
 have up:Up g.I g.ρ hp.length w A.I A.ρ hp'.length w':=⟨R.up.mono,R.up.cell,λ_ _=>rfl,by rw[h2];exact Aj _⟩
 have br:∀(i:Nat) c,hp[i]? =some (some c)->g.ρ i<w.heap.size:=by intro i c t;obtain⟨ob,h1⟩:=(u.obj i c t).block;exact(AK.1 h1).1
 have b0:∀(k:Nat) cs,css'[k]? =some cs->(css'.map some++rest)[k]? =some (some cs):=by intro k cs a;rw[Ap (by simpa using (Ad.1 a).1),Au,a];rfl
 have key:∀(i:Nat) c,hp'[i]? =some (some c)->(∃k d,k<css.length∧i=σ k∧css'[k]? =some c∧hp[i]? =some (some d))∨((∀k,k<css.length->σ k≠i)∧hp[i]? =some (some c)):=by
  intro i c t;by_cases a:∃k,k<css.length∧σ k=i
  ·obtain⟨k,a,rfl⟩:=a;obtain⟨d,_,q⟩:=sub k a;have y:k<css'.length:=by omega
   have:=h3 k _ (Ac y);rw[this] at t;exact .inl ⟨k,d,a,rfl,by rw[Ac y];simpa using t,q⟩
  ·have hn:∀k,k<css.length->σ k≠i:=λk y e=>a ⟨k,y,e⟩
   exact .inr ⟨hn,(h4 i hn).symm.trans t⟩
 have G:∀(i:Nat) c,hp'[i]? =some (some c)->∃d,hp[i]? =some (some d):=by
  intro i c t;rcases key i c t with⟨_,d,_,_,_,h⟩|⟨_,h⟩
  ·exact⟨d,h⟩
  ·exact⟨c,h⟩
 have F:∀(i:Nat) c,(∀k,k<css.length->σ k≠i)->hp[i]? =some (some c)->∀k,k<css.length->g.ρ (σ k)≠g.ρ i:=by intro i c hn t k a;obtain⟨d,_,q⟩:=sub k a;exact u.apart _ _ _ _ q t (hn k a)
 have L:∀b,b<w.heap.size->(∀k,k<css.length->g.ρ (σ k)≠b)->g₀.O b=none->A.O b=g.O b:=by intro b r B S;have:=R.oSame b r (Y b B) S;simp only[A,this];rw[if_pos ⟨r,S⟩]
 have ar:∀b o,g.O b=some o->∀k,k<css.length->g.ρ (σ k)≠b:=by intro b o r k a e;obtain⟨d,_,q⟩:=sub k a;rw[<-e,u.notO _ d q] at r;cases r
 refine⟨cv,A,rfl,⟨?_,?_,?_,?_,q1.exI,?_⟩,⟨rfl,R.os,R.tape,R.output,R.size,?_,up,?_,?_,?_⟩,?_,?_⟩
 ·intro i c t;rcases key i c t with⟨k,d,a,rfl,y,hid⟩|⟨B,t⟩
  ·refine(q1.obj k c (b0 k c y)).keep (by rw[r0 k a]) λb4 e' fz a1 D=>?_
   rw[r0 k a] at a1;have hr:=acj (a0 k c y);refine⟨D.len,D.plain,by rw[fT hr];simp,D.cold,D.one,?_,?_,?_⟩;·intro j Q cv p C;exact(D.rel j Q cv p C).flatM (Ai.1 (a0 k c y) Q (Af (by rw[c7 hr] at p;exact p))) (λi t=>by rw[r0 i (Ax t hm),W i t]) b5
   ·intro j Q cv p C;refine(D.own j Q cv p C).reloc R.beta.symm rfl λb r=>?_
    have d0:BP k css.length=true:=by rw[B0];exact a
    simp[A,r,d0]
   ·intro j E n p;have:=D.bn j E n p;rw[r0 k a] at this;exact this
  ·have ad:g₀.O (g.ρ i)=none:=gN _ (by intro k j _ p;rw[u.notO i c t] at p;cases p);refine(u.obj i c t).keep (blk _ (br i c t) (F i c B t) ad) λb4 e' fz a1 D=>?_
   refine⟨D.len,D.plain,D.typedUp rfl (λ_ _=>rfl) up.num rfl,D.cold,D.one,λj c cv p C=>(D.rel j c cv p C).up up,?_,D.bn⟩;intro j Q cv p C;refine bd (D.own j Q cv p C) rfl (λb j t=>⟨up.mono b j t,up.cell b j t⟩) ?_;intro b r;have bl:=u.oLt b _ r;have S:g₀.O b=none:=gN _ (by intro k j' a b3;rw[r] at b3;cases b3;exact B k a rfl);have X:=ar b _ r;exact⟨(L b bl X S).trans r,blk b bl X S,λj p=>R.iSame b j bl (Y b X) S p⟩
 ·intro i i' c Q t c3 B;obtain⟨d,m1⟩:=G i c t;obtain⟨d4,m2⟩:=G i' Q c3;exact u.apart _ _ _ _ m1 m2 B
 ·intro i c t j p;rcases key i c t with⟨k,d,a,rfl,y,hid⟩|⟨B,t⟩
  ·have:=q1.notI k c (b0 k c y) j;rw[r0 k a] at this;exact this p
  ·have ad:g₀.O (g.ρ i)=none:=gN _ (by intro k j _ p;rw[u.notO i c t] at p;cases p);exact u.notI i c t j (R.iSame _ j (br i c t) (Y _ (F i c B t)) ad p)
 ·intro i c t;rcases key i c t with⟨k,d,a,rfl,y,hid⟩|⟨B,t⟩
  ·have:=q1.notO k c (b0 k c y);rw[r0 k a] at this;simp only[A,this];split;·exact u.notO _ d hid
   ·rfl
  ·have ad:g₀.O (g.ρ i)=none:=gN _ (by intro k j _ p;rw[u.notO i c t] at p;cases p);exact(L _ (br i c t) (F i c B t) ad).trans (u.notO i c t)
 ·intro b o r;simp only[A] at r;split at r;·rename_i M;exact q1.oLt b _ M
  ·rename_i M;exact q1.oLt b _ M
  ·simp at r
  ·split at r;·rename_i M;exact Ax M.1 R.size
   ·simp at r
 ·intro b r ho S;exact blk b r (λk a e=>by obtain⟨d,_,q⟩:=sub k a;exact ho _ d q e) (gN _ (by intro k j _ p;rw[S] at p;cases p))
 ·intro b j r ho S t;exact R.iSame b j r (Y b λk a e=>by obtain⟨d,_,q⟩:=sub k a;exact ho _ d q e) (gN _ (by intro k j _ p;rw[S] at p;cases p)) t
 ·intro b r ho S;exact(L b r (λk a e=>by obtain⟨d,_,q⟩:=sub k a;exact ho _ d q e) (gN _ (by intro k j _ p;rw[S] at p;cases p))).trans S
 ·intro i c t;exact .inl (G i c t)
 ·exact q3.flat hv
 ·exact q4.reloc R.beta.symm rfl λb r=>by simp[A,r]
def adM:List Nat->Nat->Nat
 | [],_=>0
 |j::l,i=>cond (Av j i) 0 (adM l i+1)
def V.un1(a:List Nat):V->V
 | .ptr i o=>.ptr (adM a i) o
 | .mr i=>.mr (adM a i)
 |v=>v
def V.unS(a:List Nat):V->V
 | .fn f cs=>.fn f (cs.map (V.un1 a))
 |v=>v.un1 a
def V.has1(a:List Nat):V->Bool
 | .ptr i _=>a.any λj=>Av j i
 | .mr i=>a.any λj=>Av j i
 |_=>true
def V.hasS(a:List Nat):V->Bool
 | .fn _ cs=>cs.all (V.has1 a)
 |v=>v.has1 a
def V.pmS:V->List Nat
 | .fn _ cs=>cs.flatMap V.pm1
 |v=>v.pm1
def cg(m:Nat)(vs:List V):List Nat:=A2 m++(vs.flatMap V.pmS).filter λi=>BM m i
theorem adN:∀{a:List Nat}{i:Nat},(a.any λj=>Av j i)=true->a.getD (adM a i) 0=i
 | [],_,h=>by simp at h
 |j::l,i,h=>by
  unfold adM;cases b:Av j i with
  |true=>simpa using As b
  |false=>simp only[List.any_cons,b,Cd] at h;simpa using adN h
theorem abD{a:List Nat}{v:V}(h:v.has1 a=true):(v.un1 a).ren1 (λk=>a.getD k 0)=v:=by cases v<;>first|rfl|(simp only[V.un1,V.ren1];rw[adN h])
theorem aiV{a:List Nat}{v:V}(h:v.hasS a=true):(v.unS a).renS (λk=>a.getD k 0)=v:=by
 cases v with
 |fn f cs=>
  simp only[V.hasS,Ai] at h;simp only[V.unS,V.renS,B9]
  congr 1
  conv=>rhs;rw[<-List.map_id cs]
  exact AV λc b=>abD (h c b)
 |ptr i o=>exact abD (v:=.ptr i o) h
 |mr i=>exact abD (v:=.mr i) h
 |_=>rfl
def mW(m:Nat)(G:rC)(Γ:am):am:=λf vs hp=>
 cond ((cg m vs).all λi=>(nX vs).any λj=>Av j i)
  (match fK hp (cg m vs) with
  |some css=>match G f (vs.map (V.unS (cg m vs))) css with
   |some (c,v,css')=>cond (og (cg m vs)&&BM m css.length&&Av css'.length css.length&&vs.all (V.hasS (cg m vs))&&(vs.map (V.unS (cg m vs))).all (V.flatS m css.length)&&v.flat&&css.all (λcs=>cs.all (V.flatM m))&&css'.all (λcs=>cs.all (V.flatM m)))
     (some (c,v,iY hp (cg m vs) css')) none
   |none=>Γ f vs hp
  |none=>Γ f vs hp)
  (Γ f vs hp)
theorem ahk{m k:Nat}{vs:List V}(h:k<m):(cg m vs).getD k 0=k:=by unfold cg;rw[Ah,Ap (by simpa using h),Dc h];rfl
theorem ah7{G:rC}{Γ:am}(A:∀f avs css v css',G f avs css=some (true,v,css')->aP P f avs css v css')(b:bR P Γ):bR P (mW m G Γ):=by
 intro f vs hp v hp' h;unfold mW at h;cases g:((cg m vs).all λi=>(nX vs).any λj=>Av j i) with
 |false=>rw[g] at h;exact b _ _ _ _ _ h
 |true=>
  rw[g] at h;simp only[cond_true] at h;split at h
  ·rename_i css q;split at h
   ·rename_i c O css' Q;cases a:(og (cg m vs)&&BM m css.length&&Av css'.length css.length&&vs.all (V.hasS (cg m vs))&&(vs.map (V.unS (cg m vs))).all (V.flatS m css.length)&&O.flat&&css.all (λcs=>cs.all (V.flatM m))&&css'.all (λcs=>cs.all (V.flatM m))) with
    |false=>rw[a] at h;simp at h
    |true=>
     rw[a] at h;simp only[cond_true,Ae,Al] at h;obtain⟨rfl,rfl,rfl⟩:=h;simp only[Ab] at a;obtain⟨⟨⟨⟨⟨⟨⟨z,y⟩,H⟩,L⟩,D⟩,W⟩,J⟩,M⟩:=a;obtain⟨R,u⟩:=sO q;have o:=rD z;have S:css'.length=css.length:=As H
     have:=aP.frameS (m:=m) (A f _ css _ css' Q) (C1 y) D W J M (hp:=hp) (hp':=iY hp (cg m vs) css') (σ:=λk=>(cg m vs).getD k 0) (λk d=>ahk d)
      (by intro k k' d p e;rw[R] at d p;simp only[Ah,Ac d,Ac p,A5] at e;exact(List.getElem_inj o).1 e)
      u qA
      (by
       intro k cs d;have C:k<css'.length:=(Ad.1 d).1;refine wX o ?_ k cs (by omega) d;intro i B;obtain⟨j,r,rfl⟩:=AP.1 B;have t:j<css.length:=by omega
       have:=u j _ (Ac t);rw[Ah,Ac r,A5] at this;exact(Ad.1 this).1)
      (by
       intro id X;refine re λF=>?_
       obtain⟨j,r,rfl⟩:=AP.1 F;exact X j (by omega) (by rw[Ah,Ac r,A5]))
     rw[B9] at this;have e:vs.map ((V.renS λk=>(cg m vs).getD k 0)∘V.unS (cg m vs))=vs:=by
      conv=>rhs;rw[<-List.map_id vs]
      exact AV λx E=>aiV (Ai.1 L x E)
     rwa [e] at this
   ·exact b _ _ _ _ _ h
  ·exact b _ _ _ _ _ h
theorem agn{G:rC}{Γ:am}{imp:List Nat}(F:∀f avs css,imp.contains f=false->G f avs css=none)(t:cd Γ imp):cd (mW m G Γ) imp:=by
 refine⟨?_,?_⟩
 ·intro f vs hp y;have e:∀hp,mW m G Γ f vs hp=Γ f vs hp:=by
   intro hp;unfold mW;cases ((cg m vs).all λi=>(nX vs).any λj=>Av j i) with
   |false=>rfl
   |true=>
    simp only[cond_true];split;·rw[F f _ _ y]
    ·rfl
  rw[e,e];exact t.pure f vs hp y
 ·intro f vs hp c v hp' y h;cases g:((cg m vs).all λi=>(nX vs).any λj=>Av j i) with
  |false=>
   have e:∀hp,mW m G Γ f vs hp=Γ f vs hp:=by intro hp;unfold mW;rw[g];rfl
   rw[e] at h;obtain⟨q,B,C,A⟩:=t.loc f _ _ _ _ _ y h;exact⟨q,B,C,λd z r=>by rw[e];exact A d z r⟩
  |true=>
   have D:∀k∈cg m vs,k∈nX vs:=by
    intro k L;obtain⟨j,Q,J⟩:=B8.1 (Ai.1 g k L)
    rwa [<-As J]
   have same:∀d:List ah,(∀i∈te vs,d[i]? =hp[i]?)->fK d (cg m vs)=fK hp (cg m vs):=λd r=>rE λi H=>r i (ahK (D i H))
   unfold mW at h;rw[g] at h;simp only[cond_true] at h;cases o:fK hp (cg m vs) with
   |none=>rw[o] at h;obtain⟨q,B,C,A⟩:=t.loc f _ _ _ _ _ y h;refine⟨q,B,C,λd z r=>?_⟩;simp only[mW,g,cond_true,same d r,o];exact A d z r
   |some css=>
    rw[o] at h;simp only at h;cases E:G f (vs.map (V.unS (cg m vs))) css with
    |none=>rw[E] at h;obtain⟨q,B,C,A⟩:=t.loc f _ _ _ _ _ y h;refine⟨q,B,C,λd z r=>?_⟩;simp only[mW,g,cond_true,same d r,o,E];exact A d z r
    |some x=>
     obtain⟨O,M,css'⟩:=x;rw[E] at h;simp only at h;cases u:(og (cg m vs)&&BM m css.length&&Av css'.length css.length&&vs.all (V.hasS (cg m vs))&&(vs.map (V.unS (cg m vs))).all (V.flatS m css.length)&&M.flat&&css.all (λcs=>cs.all (V.flatM m))&&css'.all (λcs=>cs.all (V.flatM m))) with
     |false=>rw[u] at h;simp at h
     |true=>
      rw[u] at h;simp only[cond_true,Ae,Al] at h;obtain⟨rfl,rfl,rfl⟩:=h;refine⟨(cg m vs).zip (css'.map some),?_,oh _ _ _,λd z r=>?_⟩;·intro p hp;obtain⟨a,b⟩:=p;exact D _ (List.of_mem_zip hp).1
      ·simp only[mW,g,cond_true,same d r,o,E,u];rw[oh]
def ge(m:Nat)(S:List (bV P))(N:List (nk P))(O:List (bV P))(a:List Nat)(G:List (cM P)):am:=mW m (w4 S) (tab N O a G)
theorem abE(m:Nat)(S:List (bV P))(N:List (nk P))(O:List (bV P))(a:List Nat)(G:List (cM P)):bR P (ge m S N O a G):=ah7 (abz S) (ady N O a G)
theorem xg{m:Nat}{S:List (bV P)}{N:List (nk P)}{O:List (bV P)}{b:List Nat}{G:List (cM P)}{imp:List Nat}(d:S.all (λr=>imp.contains r.id)=true)(h:zT N O b imp=true):cd (ge m S N O b G) imp:=
 agn (λf us css a=>w5 S f us css (by rintro r c rfl;rw[Ai.1 d r c] at a;cases a)) (zU h)
theorem kR{m k:Nat}{f:FuncId}{fn:Func}{g:IR}{e:List RV}{imp:List Nat}{S:List (bV P)}{N:List (nk P)}{O:List (bV P)}{d:List Nat}{G:List (cM P)}(b:P.funcs[f]? =some fn)(h:zT N O d imp=true:=by kernel_rfl)(i:S.all (λr=>imp.contains r.id)=true:=by kernel_rfl)(c:fn.body=some (fn.body.getD .skip):=by kernel_rfl)
  (chk:(aF P imp k g (fn.body.getD .skip)&&eD P e fn.results.toList)=true:=by kernel_rfl) (a:fn.results.toList.length<=5:=by decide):FnC P (ge m S N O d G) imp k f fn g e:=.of (abE m S N O d G) (xg i h) b c chk a
end
section
variable{P:Program}
theorem ajN{m k:Nat}{f q:FuncId}{fn b:Func}{z j:IR}{y w:List RV}{imp:List Nat}{B:Nat}{cs:List V}{S:List (bV P)}{N:List (nk P)}{O:List (bV P)}{u:List Nat}{G:List (cM P)}(i:P.funcs[f]? =some fn)(d:P.funcs[q]? =some b)(t:∀x∈cs,x.bare=true)
  (o:∀k,(aF P [] k j (b.body.getD .skip)&&eD P w b.results.toList)=true) (chk:∀base,dH P imp base q cs z (fn.body.getD .skip)=true)
  (h:zT N O u imp=true:=by kernel_rfl) (A:S.all (λr=>imp.contains r.id)=true:=by kernel_rfl) (g:fn.body=some (fn.body.getD .skip):=by kernel_rfl) (e:b.body=some (b.body.getD .skip):=by kernel_rfl) (p:lB P q=true:=by kernel_rfl)
  (v:eD P y fn.results.toList=true:=by kernel_rfl) (a:fn.results.toList.length<=5:=by decide) (c:b.results.toList.length<=5:=by decide):
  FnK P k f λn vs hp=>adA (pL (tab (P:=P) [] [] [] []) B b.ntmps w j) cs (ge m S N O u G) n fn.ntmps y z vs hp:=
 fnD (FnD.of (ady [] [] [] []) (zU (by rfl)) d p e o c) (abE m S N O u G) (xg A h) i g chk v a t
structure ago(P:Program) where
 id:Nat
 t:List V->Option (Bool×V)
 ok:∀vs v,t vs=some (true,v)->lf P id vs v∧vs.all V.flat=true∧v.flat=true∧(match v with| .tup _=>true|v=>v.bare)=true
def z6:List (ago P)->Nat->List V->Option (Bool×V)
 | [],_,_=>none
 |r::l,f,vs=>cond (Av r.id f) (r.t vs) (z6 l f vs)
theorem afw:∀(l:List (ago P)),abC P (z6 l)
 | [],f,vs,v,h=>by simp[z6] at h
 |r::l,f,vs,v,h=>by
  unfold z6 at h;cases a:Av r.id f with
  |true=>rw[a] at h;have e:r.id=f:=As a;subst e;exact r.ok vs v h
  |false=>rw[a] at h;exact afw l f vs v h
theorem ajA{m k:Nat}{f:FuncId}{fn:Func}{g:IR}{e:List RV}{imp:List Nat}{W:List (ago P)}{S:List (bV P)}{N:List (nk P)}{O:List (bV P)}{d:List Nat}{G:List (cM P)}(b:P.funcs[f]? =some fn)(j:Zed:=by trivial)(i:sM=[]:=by rfl)
  (h:zT N O d imp=true:=by kernel_rfl) (o:S.all (λr=>imp.contains r.id)=true:=by kernel_rfl) (c:fn.body=some (fn.body.getD .skip):=by kernel_rfl)
  (chk:(be P imp k g (fn.body.getD .skip)&&eD P e fn.results.toList)=true:=by kernel_rfl) (a:fn.results.toList.length<=5:=by decide):adJ P (d7 (z6 W) (ge m S N O d G)) imp k f fn g e:=
 .of j i (abE m S N O d G) (afw W) (xg o h) b c chk a
theorem lf.dim{f:FuncId}{vs us:List V}{v:V}(h:lf P f us v)(e:vs.map V.dim=us):lf P f vs v:=by subst e;obtain⟨hp',h⟩:=h;refine⟨hp',λw g a o m d b c=>h w g a o m (by simpa using d) (by intro x j;obtain⟨y,k,rfl⟩:=AA.1 j;exact adv (b y k)) ?_⟩;intro i x cv j p;rw[Au,Ak] at j;obtain⟨y,k,rfl⟩:=j;exact(c i y cv k p).dim
theorem lf.dimR{f:FuncId}{vs:List V}{v u:V}(h:lf P f vs v)(e:v.dimR=u):lf P f vs u:=by subst e;obtain⟨hp',h⟩:=h;refine⟨hp',λw g a d o p q k=>(h w g a d o p q k).mono ?_⟩;rintro e w' ⟨cv,m,rfl,i,b,c,j⟩;exact⟨cv,m,rfl,i,b,c.dimR,j.dimR⟩
theorem zZ.fin{R:Type}{b:R->V}{p:R->Prop}{Q:V×List ah->Prop}{f:FuncId}{a:Nat->List V->List ah->Ro}{vs:List V}{N:Nat}{x:Ro}(h:zZ P 0 f a)(c:a N vs []=x)(d:Tot x Q)(k:∀z,Q z->∃r,z.1.dimR=b r∧p r):∃r,lf P f vs (b r)∧p r:=by obtain⟨z,g,i⟩:=d;obtain⟨r,e,hp⟩:=k z i;exact⟨r,(h.pure c g).dimR e,hp⟩
end
def reJ(x:aa):aa:=.mk x.kind x.n x.s x.l x.names
def reF(x:aq):aq:=⟨x.name,x.aliases,x.typ,x.hasdef,reJ x.df⟩
instance:Inhabited nV:=⟨.mk 0 [] [] [] 0⟩
instance:Inhabited aa:=⟨.mk 0 0 [] [] []⟩
instance:Inhabited aq:=⟨⟨[],[],0,false,.mk 0 0 [] [] []⟩⟩
instance:Inhabited ab:=⟨⟨0,[],[],0,[],false,[],0,[],[]⟩⟩
theorem cq:∀x,reJ x=x
 | .mk _ _ _ _ _=>rfl
theorem ajB(x:aq):reF x=x:=by simp only[reF,cq]
end Go.AM
namespace Go.Proofs.YtkinflmjagfapaaDoor
open Go.AM
abbrev rM:FuncId:=97
abbrev eI:FuncId:=118
abbrev fv:FuncId:=118
abbrev p7:FuncId:=68
abbrev p8:FuncId:=141
abbrev nG:FuncId:=150
abbrev pg:FuncId:=120
abbrev p9:FuncId:=101
abbrev qO:FuncId:=115
abbrev qb:FuncId:=98
abbrev rN:FuncId:=100
abbrev ph:FuncId:=119
abbrev oz:FuncId:=121
abbrev qc:FuncId:=71
abbrev qP:FuncId:=69
abbrev qd:FuncId:=140
abbrev qQ:FuncId:=35
abbrev qe:FuncId:=70
abbrev qg:FuncId:=116
abbrev nH:FuncId:=138
abbrev zm:FuncId:=21
abbrev xh:FuncId:=34
abbrev aaM:FuncId:=22
abbrev zn:FuncId:=37
abbrev zo:FuncId:=139
abbrev xi:FuncId:=117
abbrev aeP:FuncId:=36
abbrev vj:FuncId:=36
abbrev vk:FuncId:=36
abbrev xj:FuncId:=74
abbrev aaN:FuncId:=99
abbrev tt:FuncId:=11
abbrev hD:FuncId:=72
abbrev gf:FuncId:=72
abbrev jO:FuncId:=73
abbrev cC:FuncId:=136
abbrev iN:FuncId:=142
abbrev cU:FuncId:=147
abbrev jP:FuncId:=96
abbrev xk:FuncId:=114
abbrev sa:FuncId:=66
abbrev aaO:FuncId:=137
abbrev abF:FuncId:=149
abbrev abG:=aa
noncomputable def bA(a:aa)(b:Bs)(c:Int)(r:abG):Prop:=aI Tryd.prog tt [.agg (enc .jnode a),.sl .u8 (.may false) b,.int .u8 c] (.agg (enc .jnode r))∧qN a b c r
noncomputable def tu:cM Tryd.prog:=.mk 11 λus=>match us with
 | [.agg [.int .i64 e,.int .i64 c,.str b,.sl .jnode (.may _) d,.sl .str (.may _) a],.sl .u8 (.may _) g,.int .u8 f]=>let r:=pick (bA (⟨e,c,b,d,a⟩) g f);some (can (bA (⟨e,c,b,d,a⟩) g f),.agg (enc .jnode r))
 |_=>none
abbrev aeQ:=List ab×Int
noncomputable def jn(a:aa)(r:aeQ):Prop:=lf Tryd.prog zm [.agg (enc .jnode a)] (.tup [.agg [.sl .atype (.may false) r.1],.int .i64 r.2])∧pG a r
noncomputable def aeR:ago Tryd.prog:=.mk 21 (λus=>match us with
 | [.agg [.int .i64 e,.int .i64 c,.str b,.sl .jnode (.may _) d,.sl .str (.may _) a]]=>let r:=pick (jn (⟨e,c,b,d,a⟩));some (can (jn (⟨e,c,b,d,a⟩)),.tup [.agg [.sl .atype (.may false) r.1],.int .i64 r.2])
 |_=>none) (by
 intro us v h;split at h
 ·obtain⟨f,rfl⟩:can _=true∧_=v:=by simpa using h
  exact⟨(wZ f).1.dim rfl,rfl,rfl,rfl⟩
 ·cases h)
abbrev agp:=Bs
noncomputable def mc(a:List ab)(b:Int)(r:agp):Prop:=aI Tryd.prog aaM [.agg [.sl .atype (.may false) a],.int .i64 b] (.str r)∧qE a b r
noncomputable def aaP:cM Tryd.prog:=.mk 22 λus=>match us with
 | [.agg [.sl .atype (.may _) a],.int .i64 b]=>let r:=pick (mc a b);some (can (mc a b),.str r)
 |_=>none
abbrev adO:=Bs
noncomputable def lH(a:Bs)(r:adO):Prop:=aI Tryd.prog xh [.str a] (.str r)∧ot a r
noncomputable def adP:cM Tryd.prog:=.mk 34 λus=>match us with
 | [.str a]=>let r:=pick (lH a);some (can (lH a),.str r)
 |_=>none
abbrev yM:=Int×List (Bs×Int)×List ab×Int×Int
noncomputable def bJ(d:List (Bs×Int))(c:List ab)(b a:Int)(f:aa)(e:Bs)(r:yM):Prop:=aP Tryd.prog qQ [.ptr 1 0,.agg (enc .jnode f),.str e] [[.mp .sn d],[.ul .atype c,.mr 0,.int .i64 b,.int .i64 a]] (.int .i64 r.1) [[.mp .sn r.2.1],[.ul .atype r.2.2.1,.mr 0,.int .i64 r.2.2.2.1,.int .i64 r.2.2.2.2]]∧eG d c b a f e r
noncomputable def eR:bV Tryd.prog:=.mk 35 λus css=>match us,css with
 | [.ptr 1 0,.agg [.int .i64 b,.int .i64 d,.str i,.sl .jnode (.may _) g,.sl .str (.may _) c],.str j],[[.mp .sn f],[.ul .atype e,.mr 0,.int .i64 h,.int .i64 a]]=>let r:=pick (bJ f e h a (⟨b,d,i,g,c⟩) j);some (can (bJ f e h a (⟨b,d,i,g,c⟩) j),.int .i64 r.1,[[.mp .sn r.2.1],[.ul .atype r.2.2.1,.mr 0,.int .i64 r.2.2.2.1,.int .i64 r.2.2.2.2]])
 |_,_=>none
abbrev aeS:=aa
noncomputable def iw(a:aa)(r:aeS):Prop:=aI Tryd.prog aeP [.agg (enc .jnode a)] (.agg (enc .jnode r))∧abB a r
noncomputable def zp:cM Tryd.prog:=.mk 36 λus=>match us with
 | [.agg [.int .i64 e,.int .i64 c,.str b,.sl .jnode (.may _) d,.sl .str (.may _) a]]=>let r:=pick (iw (⟨e,c,b,d,a⟩));some (can (iw (⟨e,c,b,d,a⟩)),.agg (enc .jnode r))
 |_=>none
abbrev acy:=aa
noncomputable def vl(a:aa)(r:acy):Prop:=aI Tryd.prog vj [.agg (enc .jnode a)] (.agg (enc .jnode r))∧rH a r
abbrev acz:=aa
noncomputable def vm(a:aa)(r:acz):Prop:=aI Tryd.prog vk [.agg (enc .jnode a)] (.agg (enc .jnode r))∧rI a r
abbrev aeT:=Bs
noncomputable def mG(a:Int)(r:aeT):Prop:=aI Tryd.prog zn [.int .i64 a] (.str r)∧jH a r
noncomputable def aeU:cM Tryd.prog:=.mk 37 λus=>match us with
 | [.int .i64 a]=>let r:=pick (mG a);some (can (mG a),.str r)
 |_=>none
abbrev sd:=Int
noncomputable def dI(a:Bs)(b:Int)(r:sd):Prop:=aI Tryd.prog sa [.str a,.int .u8 b] (.int .i64 r)∧qD a b r
noncomputable def ml:cM Tryd.prog:=.mk 66 λus=>match us with
 | [.str a,.int .u8 b]=>let r:=pick (dI a b);some (can (dI a b),.int .i64 r)
 |_=>none
abbrev xl:=List (Bs×Int)×List ab×Int×Int
noncomputable def ag(d:List (Bs×Int))(c:List ab)(b a:Int)(f:Bool)(e:Int)(r:xl):Prop:=aP Tryd.prog p7 [.ptr 1 0,.bool f,.int .i64 e] [[.mp .sn d],[.ul .atype c,.mr 0,.int .i64 b,.int .i64 a]] (.tup []) [[.mp .sn r.1],[.ul .atype r.2.1,.mr 0,.int .i64 r.2.2.1,.int .i64 r.2.2.2]]∧d5 d c b a f e r
noncomputable def aW:bV Tryd.prog:=.mk 68 λus css=>match us,css with
 | [.ptr 1 0,.bool f,.int .i64 e],[[.mp .sn d],[.ul .atype b,.mr 0,.int .i64 c,.int .i64 a]]=>let r:=pick (ag d b c a f e);some (can (ag d b c a f e),.tup [],[[.mp .sn r.1],[.ul .atype r.2.1,.mr 0,.int .i64 r.2.2.1,.int .i64 r.2.2.2]])
 |_,_=>none
abbrev yN:=Int×List (Bs×Int)×List ab×Int×Int
noncomputable def eS(d:List (Bs×Int))(c:List ab)(b a:Int)(f e:Bs)(r:yN):Prop:=aP Tryd.prog qP [.ptr 1 0,.str f,.str e] [[.mp .sn d],[.ul .atype c,.mr 0,.int .i64 b,.int .i64 a]] (.int .i64 r.1) [[.mp .sn r.2.1],[.ul .atype r.2.2.1,.mr 0,.int .i64 r.2.2.2.1,.int .i64 r.2.2.2.2]]∧eF d c b a f e r
noncomputable def qR:bV Tryd.prog:=.mk 69 λus css=>match us,css with
 | [.ptr 1 0,.str f,.str e],[[.mp .sn d],[.ul .atype b,.mr 0,.int .i64 c,.int .i64 a]]=>let r:=pick (eS d b c a f e);some (can (eS d b c a f e),.int .i64 r.1,[[.mp .sn r.2.1],[.ul .atype r.2.2.1,.mr 0,.int .i64 r.2.2.2.1,.int .i64 r.2.2.2.2]])
 |_,_=>none
abbrev xm:=Int×List (Bs×Int)×List ab×Int×Int
noncomputable def gg(d:List (Bs×Int))(c:List ab)(b a:Int)(f:aa)(e:Bs)(r:xm):Prop:=aP Tryd.prog qe [.ptr 1 0,.agg (enc .jnode f),.str e] [[.mp .sn d],[.ul .atype c,.mr 0,.int .i64 b,.int .i64 a]] (.int .i64 r.1) [[.mp .sn r.2.1],[.ul .atype r.2.2.1,.mr 0,.int .i64 r.2.2.2.1,.int .i64 r.2.2.2.2]]∧jL d c b a f e r
noncomputable def xn:bV Tryd.prog:=.mk 70 λus css=>match us,css with
 | [.ptr 1 0,.agg [.int .i64 b,.int .i64 d,.str i,.sl .jnode (.may _) g,.sl .str (.may _) c],.str j],[[.mp .sn f],[.ul .atype e,.mr 0,.int .i64 h,.int .i64 a]]=>let r:=pick (gg f e h a (⟨b,d,i,g,c⟩) j);some (can (gg f e h a (⟨b,d,i,g,c⟩) j),.int .i64 r.1,[[.mp .sn r.2.1],[.ul .atype r.2.2.1,.mr 0,.int .i64 r.2.2.2.1,.int .i64 r.2.2.2.2]])
 |_,_=>none
abbrev xo:=Int×List (Bs×Int)×List ab×Int×Int
noncomputable def gi(d:List (Bs×Int))(c:List ab)(b a:Int)(f:aa)(e:Bs)(r:xo):Prop:=aP Tryd.prog qc [.ptr 1 0,.agg (enc .jnode f),.str e] [[.mp .sn d],[.ul .atype c,.mr 0,.int .i64 b,.int .i64 a]] (.int .i64 r.1) [[.mp .sn r.2.1],[.ul .atype r.2.2.1,.mr 0,.int .i64 r.2.2.2.1,.int .i64 r.2.2.2.2]]∧gI d c b a f e r
noncomputable def xp:bV Tryd.prog:=.mk 71 λus css=>match us,css with
 | [.ptr 1 0,.agg [.int .i64 b,.int .i64 d,.str i,.sl .jnode (.may _) g,.sl .str (.may _) c],.str j],[[.mp .sn f],[.ul .atype e,.mr 0,.int .i64 h,.int .i64 a]]=>let r:=pick (gi f e h a (⟨b,d,i,g,c⟩) j);some (can (gi f e h a (⟨b,d,i,g,c⟩) j),.int .i64 r.1,[[.mp .sn r.2.1],[.ul .atype r.2.2.1,.mr 0,.int .i64 r.2.2.2.1,.int .i64 r.2.2.2.2]])
 |_,_=>none
abbrev mt:=List aa
noncomputable def bK(a:List aa)(r:mt):Prop:=aI Tryd.prog hD [.sl .jnode (.may false) a] (.sl .jnode (.may false) r)∧de a r
noncomputable def mu:cM Tryd.prog:=.mk 72 λus=>match us with
 | [.sl .jnode (.may _) a]=>let r:=pick (bK a);some (can (bK a),.sl .jnode (.may false) r)
 |_=>none
abbrev lI:=List aa
noncomputable def bu(a:List aa)(r:lI):Prop:=aI Tryd.prog gf [.sl .jnode (.may false) a] (.ul .jnode r)∧cT a r
noncomputable def lJ:cM Tryd.prog:=.mk 72 λus=>match us with
 | [.sl .jnode (.may _) a]=>let r:=pick (bu a);some (can (bu a),.ul .jnode r)
 |_=>none
abbrev pH:=Bss
noncomputable def bO(a:Bss)(r:pH):Prop:=aI Tryd.prog jO [.sl .str (.may false) a] (.sl .str (.may false) r)∧ek a r
noncomputable def jQ:cM Tryd.prog:=.mk 73 λus=>match us with
 | [.sl .str (.may _) a]=>let r:=pick (bO a);some (can (bO a),.sl .str (.may false) r)
 |_=>none
abbrev adQ:=Bss
noncomputable def dR(r:adQ):Prop:=aI Tryd.prog xj [] (.sl .str (.may false) r)∧sB  r
noncomputable def rO:cM Tryd.prog:=.mk 74 λus=>match us with
 | []=>let r:=pick dR;some (can dR,.sl .str (.may false) r)
 |_=>none
abbrev pI:=Int
noncomputable def aE(a:Bss)(b:Bs)(r:pI):Prop:=aI Tryd.prog jP [.sl .str (.may false) a,.str b] (.int .i64 r)∧ej a b r
noncomputable def dA:cM Tryd.prog:=.mk 96 λus=>match us with
 | [.sl .str (.may _) a,.str b]=>let r:=pick (aE a b);some (can (aE a b),.int .i64 r)
 |_=>none
abbrev z7:=Int×List (Bs×Int)×List ab×Int×Int
noncomputable def bS(d:List (Bs×Int))(b:List ab)(c a:Int)(e:ab)(r:z7):Prop:=aP Tryd.prog rM [.ptr 1 0,.agg (enc .atype e)] [[.mp .sn d],[.ul .atype b,.mr 0,.int .i64 c,.int .i64 a]] (.int .i64 r.1) [[.mp .sn r.2.1],[.ul .atype r.2.2.1,.mr 0,.int .i64 r.2.2.2.1,.int .i64 r.2.2.2.2]]∧iG d b c a e r
noncomputable def kn:bV Tryd.prog:=.mk 97 λus css=>match us,css with
 | [.ptr 1 0,.agg [.int .i64 c,.str e,.sl .str (.may _) m,.int .i64 h,.sl .str (.may _) d,.bool o,.str b,.int .i64 k,.sl .afield (.may _) j,.sl (.num .i64) (.may _) p]],[[.mp .sn g],[.ul .atype f,.mr 0,.int .i64 i,.int .i64 a]]=>let r:=pick (bS g f i a (⟨c,e,m,h,d,o,b,k,j,p⟩));some (can (bS g f i a (⟨c,e,m,h,d,o,b,k,j,p⟩)),.int .i64 r.1,[[.mp .sn r.2.1],[.ul .atype r.2.2.1,.mr 0,.int .i64 r.2.2.2.1,.int .i64 r.2.2.2.2]])
 |_,_=>none
abbrev xq:=Int×List (Bs×Int)×List ab×Int×Int
noncomputable def d8(d:List (Bs×Int))(c:List ab)(b a:Int)(f e:Bs)(r:xq):Prop:=aP Tryd.prog qb [.ptr 1 0,.str f,.str e] [[.mp .sn d],[.ul .atype c,.mr 0,.int .i64 b,.int .i64 a]] (.int .i64 r.1) [[.mp .sn r.2.1],[.ul .atype r.2.2.1,.mr 0,.int .i64 r.2.2.2.1,.int .i64 r.2.2.2.2]]∧d6 d c b a f e r
noncomputable def xr:bV Tryd.prog:=.mk 98 λus css=>match us,css with
 | [.ptr 1 0,.str f,.str e],[[.mp .sn d],[.ul .atype b,.mr 0,.int .i64 c,.int .i64 a]]=>let r:=pick (d8 d b c a f e);some (can (d8 d b c a f e),.int .i64 r.1,[[.mp .sn r.2.1],[.ul .atype r.2.2.1,.mr 0,.int .i64 r.2.2.2.1,.int .i64 r.2.2.2.2]])
 |_,_=>none
abbrev agq:=aa×Bool
noncomputable def b9(a:aa)(b:Bs)(r:agq):Prop:=aI Tryd.prog aaN [.agg (enc .jnode a),.str b] (.tup [.agg (enc .jnode r.1),.bool r.2])∧kF a b r
noncomputable def ia:cM Tryd.prog:=.mk 99 λus=>match us with
 | [.agg [.int .i64 e,.int .i64 c,.str b,.sl .jnode (.may _) d,.sl .str (.may _) a],.str f]=>let r:=pick (b9 (⟨e,c,b,d,a⟩) f);some (can (b9 (⟨e,c,b,d,a⟩) f),.tup [.agg (enc .jnode r.1),.bool r.2])
 |_=>none
abbrev z8:=Int×List (Bs×Int)×List ab×Int×Int
noncomputable def dj(c:List (Bs×Int))(b:List ab)(d a:Int)(g:aa)(e:Int)(f:Bs)(r:z8):Prop:=aP Tryd.prog rN [.ptr 1 0,.agg (enc .jnode g),.int .i64 e,.str f] [[.mp .sn c],[.ul .atype b,.mr 0,.int .i64 d,.int .i64 a]] (.int .i64 r.1) [[.mp .sn r.2.1],[.ul .atype r.2.2.1,.mr 0,.int .i64 r.2.2.2.1,.int .i64 r.2.2.2.2]]∧pd c b d a g e f r
noncomputable def aaa:bV Tryd.prog:=.mk 100 λus css=>match us,css with
 | [.ptr 1 0,.agg [.int .i64 b,.int .i64 d,.str i,.sl .jnode (.may _) g,.sl .str (.may _) c],.int .i64 j,.str k],[[.mp .sn f],[.ul .atype e,.mr 0,.int .i64 h,.int .i64 a]]=>let r:=pick (dj f e h a (⟨b,d,i,g,c⟩) j k);some (can (dj f e h a (⟨b,d,i,g,c⟩) j k),.int .i64 r.1,[[.mp .sn r.2.1],[.ul .atype r.2.2.1,.mr 0,.int .i64 r.2.2.2.1,.int .i64 r.2.2.2.2]])
 |_,_=>none
abbrev xt:=Int×List (Bs×Int)×List ab×Int×Int
noncomputable def dl(d:List (Bs×Int))(c:List ab)(b a:Int)(h:aa)(e:Int)(g f:Bs)(r:xt):Prop:=aP Tryd.prog p9 [.ptr 1 0,.agg (enc .jnode h),.int .i64 e,.str g,.str f] [[.mp .sn d],[.ul .atype c,.mr 0,.int .i64 b,.int .i64 a]] (.int .i64 r.1) [[.mp .sn r.2.1],[.ul .atype r.2.2.1,.mr 0,.int .i64 r.2.2.2.1,.int .i64 r.2.2.2.2]]∧nE d c b a h e g f r
noncomputable def xu:bV Tryd.prog:=.mk 101 λus css=>match us,css with
 | [.ptr 1 0,.agg [.int .i64 b,.int .i64 d,.str i,.sl .jnode (.may _) g,.sl .str (.may _) c],.int .i64 j,.str k,.str m],[[.mp .sn f],[.ul .atype e,.mr 0,.int .i64 h,.int .i64 a]]=>let r:=pick (dl f e h a (⟨b,d,i,g,c⟩) j k m);some (can (dl f e h a (⟨b,d,i,g,c⟩) j k m),.int .i64 r.1,[[.mp .sn r.2.1],[.ul .atype r.2.2.1,.mr 0,.int .i64 r.2.2.2.1,.int .i64 r.2.2.2.2]])
 |_,_=>none
abbrev xv:=Bool
noncomputable def d9(a b:Bs)(r:xv):Prop:=aI Tryd.prog xk [.str a,.str b] (.bool r)∧tm a b r
noncomputable def lK:cM Tryd.prog:=.mk 114 λus=>match us with
 | [.str a,.str b]=>let r:=pick (d9 a b);some (can (d9 a b),.bool r)
 |_=>none
abbrev yO:=Bs×List (Bs×Int)×List ab×Int×Int
noncomputable def eT(d:List (Bs×Int))(b:List ab)(c a:Int)(e:aa)(r:yO):Prop:=aP Tryd.prog qO [.ptr 1 0,.agg (enc .jnode e)] [[.mp .sn d],[.ul .atype b,.mr 0,.int .i64 c,.int .i64 a]] (.str r.1) [[.mp .sn r.2.1],[.ul .atype r.2.2.1,.mr 0,.int .i64 r.2.2.2.1,.int .i64 r.2.2.2.2]]∧ou d b c a e r
noncomputable def qS:bV Tryd.prog:=.mk 115 λus css=>match us,css with
 | [.ptr 1 0,.agg [.int .i64 b,.int .i64 d,.str i,.sl .jnode (.may _) g,.sl .str (.may _) c]],[[.mp .sn f],[.ul .atype e,.mr 0,.int .i64 h,.int .i64 a]]=>let r:=pick (eT f e h a (⟨b,d,i,g,c⟩));some (can (eT f e h a (⟨b,d,i,g,c⟩)),.str r.1,[[.mp .sn r.2.1],[.ul .atype r.2.2.1,.mr 0,.int .i64 r.2.2.2.1,.int .i64 r.2.2.2.2]])
 |_,_=>none
abbrev xw:=Bs×List (Bs×Int)×List ab×Int×Int
noncomputable def dm(d:List (Bs×Int))(c:List ab)(b a:Int)(f e:Bs)(r:xw):Prop:=aP Tryd.prog qg [.ptr 1 0,.str f,.str e] [[.mp .sn d],[.ul .atype c,.mr 0,.int .i64 b,.int .i64 a]] (.str r.1) [[.mp .sn r.2.1],[.ul .atype r.2.2.1,.mr 0,.int .i64 r.2.2.2.1,.int .i64 r.2.2.2.2]]∧gH d c b a f e r
noncomputable def qh:bV Tryd.prog:=.mk 116 λus css=>match us,css with
 | [.ptr 1 0,.str f,.str e],[[.mp .sn d],[.ul .atype b,.mr 0,.int .i64 c,.int .i64 a]]=>let r:=pick (dm d b c a f e);some (can (dm d b c a f e),.str r.1,[[.mp .sn r.2.1],[.ul .atype r.2.2.1,.mr 0,.int .i64 r.2.2.2.1,.int .i64 r.2.2.2.2]])
 |_,_=>none
abbrev adR:=Bs
noncomputable def jR(a:Bs)(r:adR):Prop:=aI Tryd.prog xi [.str a] (.str r)∧sC a r
noncomputable def adS:cM Tryd.prog:=.mk 117 λus=>match us with
 | [.str a]=>let r:=pick (jR a);some (can (jR a),.str r)
 |_=>none
abbrev kT:=Bss×List (Bs×Int)×List ab×Int×Int×Bs
noncomputable def aZ(d:List (Bs×Int))(b:List ab)(c a:Int)(e:Bs)(f:aa)(r:kT):Prop:=aP Tryd.prog fv [.ptr 1 0,.agg (enc .jnode f),.fn 119 [.ea [.ptr 1 0],.ptr 2 0]] [[.mp .sn d],[.ul .atype b,.mr 0,.int .i64 c,.int .i64 a],[.str e]] (.sl .str (.may false) r.1) [[.mp .sn r.2.1],[.ul .atype r.2.2.1,.mr 0,.int .i64 r.2.2.2.1,.int .i64 r.2.2.2.2.1],[.str r.2.2.2.2.2]]∧eo d b c a e f r
noncomputable def kU:bV Tryd.prog:=.mk 118 λus css=>match us,css with
 | [.ptr 1 0,.agg [.int .i64 b,.int .i64 d,.str i,.sl .jnode (.may _) g,.sl .str (.may _) c],.fn 119 [.ea [.ptr 1 0],.ptr 2 0]],[[.mp .sn f],[.ul .atype e,.mr 0,.int .i64 h,.int .i64 a],[.str j]]=>let r:=pick (aZ f e h a j (⟨b,d,i,g,c⟩));some (can (aZ f e h a j (⟨b,d,i,g,c⟩)),.sl .str (.may false) r.1,[[.mp .sn r.2.1],[.ul .atype r.2.2.1,.mr 0,.int .i64 r.2.2.2.1,.int .i64 r.2.2.2.2.1],[.str r.2.2.2.2.2]])
 |_,_=>none
abbrev ko:=Bss×List (Bs×Int)×List ab×Int×Int
noncomputable def bg(d:List (Bs×Int))(b:List ab)(c a:Int)(e:aa)(r:ko):Prop:=aP Tryd.prog eI [.ptr 1 0,.agg (enc .jnode e),.fn 150 [.ea [.ptr 1 0]]] [[.mp .sn d],[.ul .atype b,.mr 0,.int .i64 c,.int .i64 a]] (.sl .str (.may false) r.1) [[.mp .sn r.2.1],[.ul .atype r.2.2.1,.mr 0,.int .i64 r.2.2.2.1,.int .i64 r.2.2.2.2]]∧dX d b c a e r
noncomputable def kp:bV Tryd.prog:=.mk 118 λus css=>match us,css with
 | [.ptr 1 0,.agg [.int .i64 b,.int .i64 d,.str i,.sl .jnode (.may _) g,.sl .str (.may _) c],.fn 150 [.ea [.ptr 1 0]]],[[.mp .sn f],[.ul .atype e,.mr 0,.int .i64 h,.int .i64 a]]=>let r:=pick (bg f e h a (⟨b,d,i,g,c⟩));some (can (bg f e h a (⟨b,d,i,g,c⟩)),.sl .str (.may false) r.1,[[.mp .sn r.2.1],[.ul .atype r.2.2.1,.mr 0,.int .i64 r.2.2.2.1,.int .i64 r.2.2.2.2]])
 |_,_=>none
abbrev vE:=Bs×List (Bs×Int)×List ab×Int×Int×Bs
noncomputable def fx(d:List (Bs×Int))(b:List ab)(c a:Int)(e f:Bs)(r:vE):Prop:=aP Tryd.prog ph [.str f,.ea [.ptr 1 0],.ptr 2 0] [[.mp .sn d],[.ul .atype b,.mr 0,.int .i64 c,.int .i64 a],[.str e]] (.str r.1) [[.mp .sn r.2.1],[.ul .atype r.2.2.1,.mr 0,.int .i64 r.2.2.2.1,.int .i64 r.2.2.2.2.1],[.str r.2.2.2.2.2]]∧mF d b c a e f r
noncomputable def vG:bV Tryd.prog:=.mk 119 λus css=>match us,css with
 | [.str f,.ea [.ptr 1 0],.ptr 2 0],[[.mp .sn d],[.ul .atype b,.mr 0,.int .i64 c,.int .i64 a],[.str e]]=>let r:=pick (fx d b c a e f);some (can (fx d b c a e f),.str r.1,[[.mp .sn r.2.1],[.ul .atype r.2.2.1,.mr 0,.int .i64 r.2.2.2.1,.int .i64 r.2.2.2.2.1],[.str r.2.2.2.2.2]])
 |_,_=>none
abbrev vH:=List (Bs×Int)×List ab×Int×Int×Int×Bs×Bss×Int×Bss×Bool×Bs×Int×List aq×List Int
noncomputable def dP(i:List (Bs×Int))(h:List ab)(g a o:Int)(k:Bs)(e:Bss)(m:Int)(b:Bss)(j:Bool)(p:Bs)(c:Int)(d:List aq)(f:List Int)(t:aa)(q:Bs)(r:vH):Prop:=aP Tryd.prog pg [.ptr 1 0,.agg (enc .jnode t),.ptr 2 0,.str q] [[.mp .sn i],[.ul .atype h,.mr 0,.int .i64 g,.int .i64 a],[.int .i64 o,.str k,.sl .str (.may false) e,.int .i64 m,.sl .str (.may false) b,.bool j,.str p,.int .i64 c,.sl .afield .own d,.sl (.num .i64) (.may false) f]] (.tup []) [[.mp .sn r.1],[.ul .atype r.2.1,.mr 0,.int .i64 r.2.2.1,.int .i64 r.2.2.2.1],[.int .i64 r.2.2.2.2.1,.str r.2.2.2.2.2.1,.sl .str (.may false) r.2.2.2.2.2.2.1,.int .i64 r.2.2.2.2.2.2.2.1,.sl .str (.may false) r.2.2.2.2.2.2.2.2.1,.bool r.2.2.2.2.2.2.2.2.2.1,.str r.2.2.2.2.2.2.2.2.2.2.1,.int .i64 r.2.2.2.2.2.2.2.2.2.2.2.1,.sl .afield .own r.2.2.2.2.2.2.2.2.2.2.2.2.1,.sl (.num .i64) (.may false) r.2.2.2.2.2.2.2.2.2.2.2.2.2]]∧jl i h g a o k e m b j p c d f t q r
noncomputable def vJ:bV Tryd.prog:=.mk 120 λus css=>match us,css with
 | [.ptr 1 0,.agg [.int .i64 h,.int .i64 c,.str o,.sl .jnode (.may _) f,.sl .str (.may _) q],.ptr 2 0,.str x],[[.mp .sn i],[.ul .atype e,.mr 0,.int .i64 d,.int .i64 p],[.int .i64 k,.str w,.sl .str (.may false) t,.int .i64 j,.sl .str (.may false) a,.bool v,.str g,.int .i64 m,.sl .afield .own b,.sl (.num .i64) (.may false) u]]=>let r:=pick (dP i e d p k w t j a v g m b u (⟨h,c,o,f,q⟩) x);some (can (dP i e d p k w t j a v g m b u (⟨h,c,o,f,q⟩) x),.tup [],[[.mp .sn r.1],[.ul .atype r.2.1,.mr 0,.int .i64 r.2.2.1,.int .i64 r.2.2.2.1],[.int .i64 r.2.2.2.2.1,.str r.2.2.2.2.2.1,.sl .str (.may false) r.2.2.2.2.2.2.1,.int .i64 r.2.2.2.2.2.2.2.1,.sl .str (.may false) r.2.2.2.2.2.2.2.2.1,.bool r.2.2.2.2.2.2.2.2.2.1,.str r.2.2.2.2.2.2.2.2.2.2.1,.int .i64 r.2.2.2.2.2.2.2.2.2.2.2.1,.sl .afield .own r.2.2.2.2.2.2.2.2.2.2.2.2.1,.sl (.num .i64) (.may false) r.2.2.2.2.2.2.2.2.2.2.2.2.2]])
 |_,_=>none
abbrev uw:=List (Bs×Int)×List ab×Int×Int×Int×Bs×Bss×Int×Bss×Bool×Bs×Int×List aq×List Int
noncomputable def dB(i:List (Bs×Int))(h:List ab)(g a o:Int)(k:Bs)(e:Bss)(m:Int)(b:Bss)(j:Bool)(p:Bs)(c:Int)(d:List aq)(f:List Int)(q:aa)(r:uw):Prop:=aP Tryd.prog oz [.ptr 1 0,.agg (enc .jnode q),.ptr 2 0] [[.mp .sn i],[.ul .atype h,.mr 0,.int .i64 g,.int .i64 a],[.int .i64 o,.str k,.sl .str (.may false) e,.int .i64 m,.sl .str (.may false) b,.bool j,.str p,.int .i64 c,.sl .afield .own d,.sl (.num .i64) (.may false) f]] (.tup []) [[.mp .sn r.1],[.ul .atype r.2.1,.mr 0,.int .i64 r.2.2.1,.int .i64 r.2.2.2.1],[.int .i64 r.2.2.2.2.1,.str r.2.2.2.2.2.1,.sl .str (.may false) r.2.2.2.2.2.2.1,.int .i64 r.2.2.2.2.2.2.2.1,.sl .str (.may false) r.2.2.2.2.2.2.2.2.1,.bool r.2.2.2.2.2.2.2.2.2.1,.str r.2.2.2.2.2.2.2.2.2.2.1,.int .i64 r.2.2.2.2.2.2.2.2.2.2.2.1,.sl .afield .own r.2.2.2.2.2.2.2.2.2.2.2.2.1,.sl (.num .i64) (.may false) r.2.2.2.2.2.2.2.2.2.2.2.2.2]]∧mj i h g a o k e m b j p c d f q r
noncomputable def uz:bV Tryd.prog:=.mk 121 λus css=>match us,css with
 | [.ptr 1 0,.agg [.int .i64 h,.int .i64 c,.str o,.sl .jnode (.may _) f,.sl .str (.may _) q],.ptr 2 0],[[.mp .sn i],[.ul .atype e,.mr 0,.int .i64 d,.int .i64 p],[.int .i64 k,.str w,.sl .str (.may false) t,.int .i64 j,.sl .str (.may false) a,.bool v,.str g,.int .i64 m,.sl .afield .own b,.sl (.num .i64) (.may false) u]]=>let r:=pick (dB i e d p k w t j a v g m b u (⟨h,c,o,f,q⟩));some (can (dB i e d p k w t j a v g m b u (⟨h,c,o,f,q⟩)),.tup [],[[.mp .sn r.1],[.ul .atype r.2.1,.mr 0,.int .i64 r.2.2.1,.int .i64 r.2.2.2.1],[.int .i64 r.2.2.2.2.1,.str r.2.2.2.2.2.1,.sl .str (.may false) r.2.2.2.2.2.2.1,.int .i64 r.2.2.2.2.2.2.2.1,.sl .str (.may false) r.2.2.2.2.2.2.2.2.1,.bool r.2.2.2.2.2.2.2.2.2.1,.str r.2.2.2.2.2.2.2.2.2.2.1,.int .i64 r.2.2.2.2.2.2.2.2.2.2.2.1,.sl .afield .own r.2.2.2.2.2.2.2.2.2.2.2.2.1,.sl (.num .i64) (.may false) r.2.2.2.2.2.2.2.2.2.2.2.2.2]])
 |_,_=>none
abbrev fV:=Bool
noncomputable def av(a:Bss)(r:fV):Prop:=aI Tryd.prog cC [.sl .str (.may false) a,.fn 138 []] (.bool r)∧cf a r
noncomputable def fW:cM Tryd.prog:=.mk 136 λus=>match us with
 | [.sl .str (.may _) a,.fn 138 []]=>let r:=pick (av a);some (can (av a),.bool r)
 |_=>none
abbrev aaQ:=Bss
noncomputable def eJ(a b:Bs)(r:aaQ):Prop:=aI Tryd.prog aaO [.str a,.str b] (.sl .str (.may false) r)∧xc a b r
noncomputable def aaR:cM Tryd.prog:=.mk 137 λus=>match us with
 | [.str a,.str b]=>let r:=pick (eJ a b);some (can (eJ a b),.sl .str (.may false) r)
 |_=>none
abbrev tv:=Bool
noncomputable def eb(a:Bs)(r:tv):Prop:=aI Tryd.prog nH [.str a] (.bool r)∧lF a r
noncomputable def tw:cM Tryd.prog:=.mk 138 λus=>match us with
 | [.str a]=>let r:=pick (eb a);some (can (eb a),.bool r)
 |_=>none
abbrev aeV:=Bool
noncomputable def ix(a:Bs)(r:aeV):Prop:=aI Tryd.prog zo [.str a] (.bool r)∧tp a r
noncomputable def pT:cM Tryd.prog:=.mk 139 λus=>match us with
 | [.str a]=>let r:=pick (ix a);some (can (ix a),.bool r)
 |_=>none
abbrev xx:=Bss×List (Bs×Int)×List ab×Int×Int
noncomputable def dn(d:List (Bs×Int))(b:List ab)(c a:Int)(e:aa)(r:xx):Prop:=aP Tryd.prog qd [.ptr 1 0,.agg (enc .jnode e)] [[.mp .sn d],[.ul .atype b,.mr 0,.int .i64 c,.int .i64 a]] (.sl .str (.may false) r.1) [[.mp .sn r.2.1],[.ul .atype r.2.2.1,.mr 0,.int .i64 r.2.2.2.1,.int .i64 r.2.2.2.2]]∧jK d b c a e r
noncomputable def lL:bV Tryd.prog:=.mk 140 λus css=>match us,css with
 | [.ptr 1 0,.agg [.int .i64 b,.int .i64 d,.str i,.sl .jnode (.may _) g,.sl .str (.may _) c]],[[.mp .sn f],[.ul .atype e,.mr 0,.int .i64 h,.int .i64 a]]=>let r:=pick (dn f e h a (⟨b,d,i,g,c⟩));some (can (dn f e h a (⟨b,d,i,g,c⟩)),.sl .str (.may false) r.1,[[.mp .sn r.2.1],[.ul .atype r.2.2.1,.mr 0,.int .i64 r.2.2.2.1,.int .i64 r.2.2.2.2]])
 |_,_=>none
abbrev xy:=aq×List (Bs×Int)×List ab×Int×Int×List (Bs×Bool)
noncomputable def gj(d:List (Bs×Int))(c:List ab)(b a:Int)(e:List (Bs×Bool))(g:aa)(f:Bs)(r:xy):Prop:=aP Tryd.prog p8 [.ptr 1 0,.agg (enc .jnode g),.mr 2,.str f] [[.mp .sn d],[.ul .atype c,.mr 0,.int .i64 b,.int .i64 a],[.mp .sb e]] (.agg (enc .afield r.1)) [[.mp .sn r.2.1],[.ul .atype r.2.2.1,.mr 0,.int .i64 r.2.2.2.1,.int .i64 r.2.2.2.2.1],[.mp .sb r.2.2.2.2.2]]∧nF d c b a e g f r
noncomputable def xz:bV Tryd.prog:=.mk 141 λus css=>match us,css with
 | [.ptr 1 0,.agg [.int .i64 b,.int .i64 d,.str i,.sl .jnode (.may _) g,.sl .str (.may _) c],.mr 2,.str k],[[.mp .sn f],[.ul .atype e,.mr 0,.int .i64 h,.int .i64 a],[.mp .sb j]]=>let r:=pick (gj f e h a j (⟨b,d,i,g,c⟩) k);some (can (gj f e h a j (⟨b,d,i,g,c⟩) k),.agg (enc .afield r.1),[[.mp .sn r.2.1],[.ul .atype r.2.2.1,.mr 0,.int .i64 r.2.2.2.1,.int .i64 r.2.2.2.2.1],[.mp .sb r.2.2.2.2.2]])
 |_,_=>none
abbrev nR:=Bool
noncomputable def bq(a:Bss)(b:Bs)(r:nR):Prop:=aI Tryd.prog iN [.sl .str (.may false) a,.str b] (.bool r)∧gZ a b r
noncomputable def nS:cM Tryd.prog:=.mk 142 λus=>match us with
 | [.sl .str (.may _) a,.str b]=>let r:=pick (bq a b);some (can (bq a b),.bool r)
 |_=>none
abbrev gW:=Int
noncomputable def aJ(a:Bss)(r:gW):Prop:=aI Tryd.prog cU [.sl .str (.may false) a,.fn 138 []] (.int .i64 r)∧cB a r
noncomputable def gX:cM Tryd.prog:=.mk 147 λus=>match us with
 | [.sl .str (.may _) a,.fn 138 []]=>let r:=pick (aJ a);some (can (aJ a),.int .i64 r)
 |_=>none
abbrev abH:=Bs
noncomputable def md(a b:Bs)(r:abH):Prop:=aI Tryd.prog abF [.str a,.str b] (.str r)∧yJ a b r
noncomputable def abI:cM Tryd.prog:=.mk 149 λus=>match us with
 | [.str a,.str b]=>let r:=pick (md a b);some (can (md a b),.str r)
 |_=>none
abbrev tx:=Bs×List (Bs×Int)×List ab×Int×Int
noncomputable def ec(d:List (Bs×Int))(b:List ab)(c a:Int)(e:Bs)(r:tx):Prop:=aP Tryd.prog nG [.str e,.ea [.ptr 1 0]] [[.mp .sn d],[.ul .atype b,.mr 0,.int .i64 c,.int .i64 a]] (.str r.1) [[.mp .sn r.2.1],[.ul .atype r.2.2.1,.mr 0,.int .i64 r.2.2.2.1,.int .i64 r.2.2.2.2]]∧lG d b c a e r
noncomputable def tz:bV Tryd.prog:=.mk 150 λus css=>match us,css with
 | [.str e,.ea [.ptr 1 0]],[[.mp .sn c],[.ul .atype b,.mr 0,.int .i64 d,.int .i64 a]]=>let r:=pick (ec c b d a e);some (can (ec c b d a e),.str r.1,[[.mp .sn r.2.1],[.ul .atype r.2.2.1,.mr 0,.int .i64 r.2.2.2.1,.int .i64 r.2.2.2.2]])
 |_,_=>none
abbrev vn:FuncId:=21
abbrev np:FuncId:=7
abbrev vo:FuncId:=20
abbrev aab:=Bool
noncomputable def rP(a b:Bs)(c:Int)(r:aab):Prop:=lf Tryd.prog np [.sl .u8 (.may false) a,.sl .u8 (.may false) b,.int .u8 c] (.bool r)∧fm a b c r
abbrev acA:=Bool
noncomputable def kG(r:acA):Prop:=aI Tryd.prog vo [] (.bool r)∧rK  r
noncomputable def acB:cM Tryd.prog:=.mk 20 λus=>match us with
 | []=>let r:=pick kG;some (can kG,.bool r)
 |_=>none
abbrev acC:=List ab×Int
noncomputable def iU(a:aa)(r:acC):Prop:=aI Tryd.prog vn [.agg (enc .jnode a)] (.tup [.agg [.sl .atype (.may false) r.1],.int .i64 r.2])∧rJ a r
noncomputable def acD:cM Tryd.prog:=.mk 21 λus=>match us with
 | [.agg [.int .i64 e,.int .i64 c,.str b,.sl .jnode (.may _) d,.sl .str (.may _) a]]=>let r:=pick (iU (⟨e,c,b,d,a⟩));some (can (iU (⟨e,c,b,d,a⟩)),.tup [.agg [.sl .atype (.may false) r.1],.int .i64 r.2])
 |_=>none
noncomputable def du:am:=ge (P:=Tryd.prog) 2 [eR] [] [] [] []
def rQ:IR:=Rs [Bi 46 .lss 45 44] (Sq (Cn 46 .skip (.exit 2)) (Sq (.block 3 (Rs [Mv 47 45,Mv 7 47] .bad)) (Rg [Bc 64 .add 45 1,Mv 45 64])))
def qT:IR:=Rg [Bc 65 .add 30 1,Mv 30 65]
def jC:IR:=Rs [Bi 31 .lss 30 29] (Sq (Cn 31 .skip (.exit 0)) (Sq (.block 1 (Rs [Mv 32 30,Mv 5 32] (Rs [Mv 33 4,Nk 34 33,Fa 35 0 34,Fa 36 0 35,Lo 37 36,Mv 38 5,Pp (.ixw 39 .atype 37 38),Mv 6 39] (Rs [Mv 40 6,Nk 41 40,Pp (.fdw 42 8 41),Pp (.ldw 43 1 false 42),Ll 44 43,Mi 45 0] (.block 2 (.loop [2,4,6,29,30,44,45,1000000] 4 rQ)))))) qT))
def mv:IR:=Sq (.gh (.cls (.cell 1 0)) (.gh (.fz (.cell 1 0)) (Rg [Mv 66 4,Nk 67 66,Fa 68 0 67,Pp (.ld 69 1 true false 68),Fz 2 1 69,Mi 3 0]))) .ret
def abJ:IR:=Rs [Bx 1 0,Pp (.alr 2 1),Mi 3 0] (Rs [Pp (.mkm 8 .sn),Pp (.bld 9 [.ul .atype ([]:List ab),.nilm,vI 0,vI 0] [(1,1,8)]),Pp (.box 10 9),Mv 4 10] (Rs [Mv 11 4,Ld 12 5 true 1,Ca 13 35 [11,12,kS []]] (Sq (Rs [Mv 14 4,Nk 15 14,Fa 16 2 15,Lo 17 16,Bc 18 .neq 17 0] (Cn 18 (Sq (.reg [Pp (.bld 19 [fu .atype true] []),Mv 20 4,Nk 21 20,Fa 22 2 21,Fo [1] [] (.ld 23 1 false false 22),Fz 2 1 19,Mv 3 23] [[],[],[1],[1,2],[1,2,3],[0],rg 0 5]) .ret) .skip)) (Sq (Sq (.gh (.opn (.cell 1 0)) (Rg [Mv 24 4,Nk 25 24,Fa 26 0 25,Fa 27 0 26,Lo 28 27,Pp (.lnw 29 28),Mi 30 0])) (.block 0 (.loop [2,4,29,30,1000001] 4 jC))) mv))))
def pJ:List RV:=[.cell 2 1 true,.t 3]
theorem abK:FnC Tryd.prog du [35,2000035] 0 vn Tryd.f21 abJ pJ:=kR Tryd.func21
def lg(R:IR->(Ex->St->Ro)->St->Ro)(a:St->Ro):Ex->St->Ro:=(dv a [2,4,29,30,1000001] 4 (aQ 0 (cj (R mv) (fin pJ))))
abbrev dO:Type:=(Int×Int×List (Bs×Int)×Nat×Int×Int×List ab)
def bF(x:dO):St:={env:=(.undef::.undef::.raw 1::.undef::.ptr 1 0::(U 24 (.int .i64 x.1::.int .i64 x.2.1::(U 39 [])))),hp:=[some [.mp .sn x.2.2.1],some [.sw .atype 2 x.2.2.2.1,.mr 0,.int .i64 x.2.2.2.2.1,.int .i64 x.2.2.2.2.2.1],some [.rw .atype x.2.2.2.2.2.2],none]}
def aaS(R:IR->(Ex->St->Ro)->St->Ro)(b a:St->Ro):Ex->St->Ro:=(dv a [2,4,6,29,30,44,45,1000000] 4 (aQ 2 (aQ 1 (cj (R qT) (lg R b)))))
abbrev lh:Type:=(Nat×Int×Int×Int×Int×List (Bs×Int)×Nat×Int×Int×List ab)
def iz(x:lh):St:={env:=(.undef::.undef::.raw 1::.undef::.ptr 1 0::.undef::.wp 2 .atype x.1 0::(U 22 (.int .i64 x.2.1::.int .i64 x.2.2.1::(U 13 (.int .i64 x.2.2.2.1::.int .i64 x.2.2.2.2.1::(U 24 [])))))),hp:=[some [.mp .sn x.2.2.2.2.2.1],some [.sw .atype 2 x.2.2.2.2.2.2.1,.mr 0,.int .i64 x.2.2.2.2.2.2.2.1,.int .i64 x.2.2.2.2.2.2.2.2.1],some [.rw .atype x.2.2.2.2.2.2.2.2.2],none]}
def li(N:Nat)(b:St->Ro):(St->Ro)->St->Ro:=λa s=>run du N rQ (aaS (run du N) b a) s
def eK(N:Nat)(a:dO->Ro)(g:lh->Ro)(x:lh):Ro:=
 let o:Nat:=x.1;let j:Int:=x.2.1;let i:Int:=x.2.2.1;let h:Int:=x.2.2.2.1;let k:Int:=x.2.2.2.2.1;let d:List (Bs×Int):=x.2.2.2.2.2.1;let c:Nat:=x.2.2.2.2.2.2.1;let e:Int:=x.2.2.2.2.2.2.2.1;let b:Int:=x.2.2.2.2.2.2.2.2.1;let f:List ab:=x.2.2.2.2.2.2.2.2.2
 cond (decide (k<h)) (
  none) (
  let m:=(Ao .i64 (i+1))
  a (j,m,d,c,e,b,f))
theorem aac(N:Nat)(a:St->Ro):LB (li N a) iz (eK N (λy=>a (bF y))):=λ_ _=>by kernel_rfl
def lj(N:Nat):(St->Ro)->St->Ro:=λa s=>run du N jC (lg (run du N) a) s
def kq(N:Nat)(h:dO->Ro)(i:lh->Ro)(x:dO):Ro:=
 let g:Int:=x.1;let b:Int:=x.2.1;let e:List (Bs×Int):=x.2.2.1;let c:Nat:=x.2.2.2.1;let f:Int:=x.2.2.2.2.1;let d:Int:=x.2.2.2.2.2.1;let a:List ab:=x.2.2.2.2.2.2
 cond (decide (b<g)) (
  chk ((decide (0<=b)&&decide (b<↑c))) (
   chk (decide ((Ag b)<Aa a)) (
    let k:=(Aq a (Ag b) (ao .atype)).fields;let j:=(↑(Aa k):Int)
    i ((Ag b),g,b,j,0,e,c,f,d,a)))) (
  chk (Av c (Aa a)) (
   some (.tup [.agg [.sl .atype (.may false) a],.int .i64 0],[some [.mp .sn e],some [.sl .atype .own a,.mr 0,.int .i64 f,.int .i64 d],none,none])))
def lk(N:Nat)(a:dO->Ro)(x:dO):Ro:=kq N a (λz=>b8 N (eK N a) z) x
def oA(N:Nat)(a:St->Ro):List (Nat×(St->Ro)):=(dZ du N jC (lg (run du N) a)++(dZ du N mv (fin pJ)++[]))
theorem aad(N:Nat):∀(a:St->Ro)(x:dO),lj N a (bF x)=lk N (λy=>a (bF y)) x:=by
 intro a x;have b:∀C:Nat->St->Ro,dd C du N jC (lg (dd C du N) a) (bF x)=kq N (λy=>a (bF y)) (λz=>C 1000000 (iz z)) x:=by intro C;kernel_rfl
 have h:lj N a (bF x)=kq N (λy=>a (bF y)) (λz=>bP N (li N a) (iz z)) x:=(lD (C:=l9 (oA N a)) (hR (cb (l:=(oA N a)) (by kernel_rfl))) (rF (jG (om (hR (iZ (cb (l:=(oA N a)) (by kernel_rfl)))) rfl))) _).trans ((b _).trans (by kernel_rfl));have c:(λz=>bP N (li N a) (iz z))=(λz=>b8 N (eK N (λy=>a (bF y))) z):=funext λz=>cL (iz) (li N a) (eK N (λy=>a (bF y))) (aac N a) N z
 rw[h,c];rfl
def jS(N:Nat)(d:aa)(b:dO->Ro):Ro:=
 ae (bJ ([]:List (Bs×Int)) ([]:List ab) 0 0 (reJ d) ([]:Bs)) (λa=>
  cond (!(a.2.2.2.1==0)) (
   some (.tup [.agg [.sl .atype (.may true) ([]:List ab)],.int .i64 a.2.2.2.1],[some [.mp .sn a.2.1],some [.ul .atype a.2.2.1,.mr 0,.int .i64 a.2.2.2.1,.int .i64 a.2.2.2.2]])) (
   chk (decide (0<Aa a.2.2.1)) (
    let c:=(↑(Aa a.2.2.1):Int)
    b (c,0,a.2.1,(Aa a.2.2.1),a.2.2.2.1,a.2.2.2.2,a.2.2.1))))
def tA(N:Nat)(a:aa):Ro:=jS N a (λz=>b8 N (lk N) z)
theorem aaT(N:Nat)(a:aa)(h:Tot (tA N a) (λz=>∃(d:List ab)(c:Int)(rest:List ah),z.1.dimR=.tup [.agg [.sl .atype (.may false) d],.int .i64 c]∧z.2=rest∧rJ a (d,c))):∃r,iU a r:=abK.finP (N:=N) ((gb _ (by kernel_rfl) rfl (λC=>jS N a (λz=>C 1000001 (bF z))) (λC=>by kernel_rfl)).trans (BB (b:=jS N a (λz=>bP N (lj N) (bF z))) (by kernel_rfl) (congrArg (jS N a) (funext λz=>cL (bF) (lj N) (lk N) (aad N) N z)))) h λ_ ⟨d,c,_,e,_,q⟩=>⟨(d,c),e,q⟩
noncomputable def acE:am:=tab (P:=Tryd.prog) [] [] [] [acD,aaP,adP]
def abL:IR:=Rs [Mb 0 false] (Rs [Pp (.bld 6 [vI 0,vI 0,vS,fu .jnode true,fu .str true] [(0,1,kI 4),(2,1,kS [105,110,116])]),Ca 7 21 [6],Mv 5 7,Ex_ 8 0 5,Ex_ 9 1 5,Pp (.alr 1 1),Fz 1 1 8,Mv 2 9] (Rs [Pp (.bld 11 [vI 0,vI 0,vS,fu .jnode true,fu .str true] [(0,1,kI 4),(2,1,kS [120])]),Ca 12 21 [11],Mv 10 12,Ex_ 13 0 10,Ex_ 14 1 10,Pp (.alr 3 1),Fz 3 1 13,Mv 4 14] (Rs [Mv 15 2,Bc 16 .eql 15 0,Mv 17 16,Gt 17 (.fad 18 0 1),Gt 17 (.lde 19 1 false 18),Gt 17 (.lenl 20 19),Gt 17 (.bin 21 .eql 20 (kI 1)),Pa 22 17 21,Mv 23 22,Gt 23 (.fad 24 0 1),Gt 23 (.lde 25 1 false 24),Gt 23 (.ixa 26 .atype 25 (kI 0)),Gt 23 (.fad 27 0 26),Gt 23 (.ld 28 1 false false 27),Gt 23 (.bin 29 .eql 28 (kI 3)),Pa 30 23 29,Mv 31 30,Gt 31 (.mov 32 4),Gt 31 (.bin 33 .eql 32 (kI 4)),Pa 34 31 33,Mv 35 34,Gt 35 (.call 36 34 [kS [97,46,98]]),Gt 35 (.bin 37 .eql 36 (kS [98])),Pa 38 35 37,Mv 39 38,Gt 39 (.lde 40 1 true 1),Gt 39 (.call 41 22 [40,kI 0]),Gt 39 (.bin 42 .eql 41 (kS [105,110,116])),Pa 43 39 42,Mv 0 43] .ret)))
def abM:List RV:=[.t 0]
theorem abN:FnC Tryd.prog acE [] 0 vo Tryd.f20 abL abM:=fnC Tryd.func20
def tB(N:Nat):Ro:=
 ae (iU ⟨4,0,([105,110,116]:Bs),([]:List aa),([]:Bss)⟩) (λa=>
  ae (iU ⟨4,0,([120]:Bs),([]:List aa),([]:Bss)⟩) (λb=>
   cond (a.2==0) (
    let c:=(↑(Aa a.1):Int)
    cond (c==1) (
     chk (decide ((0:Int)<↑(Aa a.1))) (
      let g:=(Aq a.1 (Ag 0) (ao .atype))
      cond (g.kind==3) (
       cond (b.2==4) (
        ae (lH ([97,46,98]:Bs)) (λ(h:Bs)=>
         let e:=decide (h=([98]:Bs))
         cond e (
          ae (mc a.1 0) (λ(f:Bs)=>
           let d:=decide (f=([105,110,116]:Bs))
           some (.bool d,[]))) (
          some (.bool false,[])))) (
        some (.bool false,[]))) (
       some (.bool false,[])))) (
     some (.bool false,[]))) (
    some (.bool false,[]))))
def tC(N:Nat):Ro:=tB N
theorem aaU(N:Nat)(h:Tot (tC N) (λz=>∃(a:Bool)(rest:List ah),z.1.dimR=.bool a∧z.2=rest∧rK  (a))):∃r,kG  r:=abN.finP (N:=N) (by kernel_rfl) h λ_ ⟨a,_,e,_,q⟩=>⟨(a),e,q⟩
noncomputable def an:am:=d7 (z6 (P:=Tryd.prog) [aeR]) (ge (P:=Tryd.prog) 2 [] [aeK] [vD] [] [tu,acB])
def ic:IR:=Sq (Rs [Mv 60 12,Mv 61 10,Bi 62 .lss 60 61] (Cn 62 .skip (.exit 2))) (Sq (.block 3 (Sq (.reg [Fa 65 1 11,Lq 66 65,Pp (.bin 67 .neq 66 (kS [])),Mv 68 67,Gt 68 (.fad 69 0 8),Gt 68 (.lde 70 1 false 69),Gt 68 (.mov 71 12),Gt 68 (.ixa 72 .atype 70 71),Gt 68 (.fad 73 1 72),⟨some (68,true),.ld 74 1 false false 73,some ([],[])⟩,Gt 68 (.fad 75 1 11),Gt 68 (.lde 76 1 false 75),Gt 68 (.bin 77 .eql 74 76),Pa 78 68 77] [[],[0],[0,1],[0,1,2],rg 0 3,rg 0 4,rg 0 3,rg 0 6,rg 0 7,rg 0 8,rg 0 3,[0,1,2,3,10],rg 0 11,rg 0 12]) (Cn 78 (Rs [Mb 6 false] .ret) .skip))) (Rg [Mv 63 12,Bc 64 .add 63 1,Mv 12 64]))
def oB:IR:=Sq (Rs [Mv 114 14,Mv 115 13,Bi 116 .lss 114 115] (Cn 116 .skip (.exit 6))) (Sq (.block 7 (Sq (.reg [Fa 119 8 11,Lq 120 119,Mv 121 14,Ix 122 .afield 120 121,Fa 123 0 122,Fo [] [] (.ld 124 1 false false 123),Fa 125 8 11,Lq 126 125,Mv 127 13,Ix 128 .afield 126 127,Fa 129 0 128,Fo [] [] (.ld 130 1 false false 129),Bi 131 .eql 124 130] [[],[0],[],[0,1,2],rg 0 3,rg 0 4,[],[6],[],[6,7,8],rg 6 9,rg 6 10,rg 0 11]) (Cn 131 (Rs [Mb 6 false] .ret) .skip))) (Rg [Mv 117 14,Bc 118 .add 117 1,Mv 14 118]))
def oC:IR:=Rg [Mv 84 13,Bc 85 .add 84 1,Mv 13 85]
def ig:IR:=Sq (Rs [Mv 79 13,Fa 80 8 11,Lq 81 80,Ll 82 81,Bi 83 .lss 79 82] (Cn 83 .skip (.exit 4))) (Sq (.block 5 (Sq (Sq (.reg [Fa 86 8 11,Lq 87 86,Mv 88 13,Ix 89 .afield 87 88,Fa 90 2 89,Fo [] [] (.ld 91 1 false false 90),Bc 92 .lss 91 0,Mv 93 92,Gf 93 (.fad 94 8 11),Gf 93 (.lde 95 1 false 94),Gf 93 (.mov 96 13),Gf 93 (.ixa 97 .afield 95 96),Gf 93 (.fad 98 2 97),⟨some (93,false),.ld 99 1 false false 98,some ([],[])⟩,Gf 93 (.fad 100 0 8),Gf 93 (.lde 101 1 false 100),Gf 93 (.lenl 102 101),Gf 93 (.bin 103 .geq 99 102),Po 104 93 103,Mv 105 104,Gf 105 (.fad 106 8 11),Gf 105 (.lde 107 1 false 106),Gf 105 (.mov 108 13),Gf 105 (.ixa 109 .afield 107 108),Gf 105 (.fad 110 0 109),⟨some (105,false),.ld 111 1 false false 110,some ([],[])⟩,Gf 105 (.bin 112 .eql 111 (kS [])),Po 113 105 112] [[],[0],[],[0,1,2],rg 0 3,rg 0 4,rg 0 5,rg 0 6,rg 0 7,rg 0 8,rg 0 7,rg 0 10,rg 0 11,rg 0 12,rg 0 7,rg 0 7++[14],rg 0 7++[14,15],rg 0 16,rg 0 17,rg 0 18,rg 0 19,rg 0 20,rg 0 19,rg 0 22,rg 0 23,rg 0 24,rg 0 25,rg 0 26]) (Cn 113 (Rs [Mb 6 false] .ret) .skip)) (Rs [Mi 14 0] (.block 6 (.loop [8,10,11,13,14,1000001] 1 oB))))) oC)
def oD:IR:=Sq (Rs [Mv 132 15,Fa 133 9 11,Lq 134 133,Ll 135 134,Bi 136 .lss 132 135] (Cn 136 .skip (.exit 8))) (Sq (.block 9 (Sq (.reg [Fa 139 9 11,Lq 140 139,Mv 141 15,Ix 142 (.num .i64) 140 141,Lq 143 142,Bc 144 .lss 143 0,Mv 145 144,Gf 145 (.fad 146 9 11),Gf 145 (.lde 147 1 false 146),Gf 145 (.mov 148 15),Gf 145 (.ixa 149 (.num .i64) 147 148),Gf 145 (.lde 150 1 false 149),Gf 145 (.fad 151 0 8),Gf 145 (.lde 152 1 false 151),Gf 145 (.lenl 153 152),Gf 145 (.bin 154 .geq 150 153),Po 155 145 154,Mv 156 155,Gf 156 (.fad 157 0 8),Gf 156 (.lde 158 1 false 157),Gf 156 (.fad 159 9 11),Gf 156 (.lde 160 1 false 159),Gf 156 (.mov 161 15),Gf 156 (.ixa 162 (.num .i64) 160 161),Gf 156 (.lde 163 1 false 162),Gf 156 (.ixa 164 .atype 158 163),Gf 156 (.fad 165 0 164),⟨some (156,false),.ld 166 1 false false 165,some ([],[])⟩,Gf 156 (.bin 167 .eql 166 (kI 14)),Po 168 156 167] [[],[0],[],[0,1,2],rg 0 3,rg 0 4,rg 0 5,rg 0 6,rg 0 7,rg 0 6,rg 0 9,rg 0 10,rg 0 6,rg 0 6++[12],rg 0 6++[12,13],rg 0 14,rg 0 15,rg 0 16,rg 0 17,rg 0 18,rg 0 17,rg 0 17++[20],rg 0 17,rg 0 17++[20,21,22],rg 0 17++rg 20 23,rg 0 24,rg 0 25,rg 0 26,rg 0 27,rg 0 28]) (Cn 168 (Rs [Mb 6 false] .ret) .skip))) (Rg [Mv 137 15,Bc 138 .add 137 1,Mv 15 138]))
def oE:IR:=Rs [Fa 169 3 11,Lq 170 169,Bc 171 .lss 170 0,Mv 172 171,Gf 172 (.fad 173 3 11),Gf 172 (.lde 174 1 false 173),Gf 172 (.fad 175 0 8),Gf 172 (.lde 176 1 false 175),Gf 172 (.lenl 177 176),Gf 172 (.bin 178 .geq 174 177),Po 179 172 178,Mv 180 179,Gf 180 (.fad 181 0 11),Gf 180 (.lde 182 1 false 181),Gf 180 (.bin 183 .lss 182 (kI 1)),Po 184 180 183,Mv 185 184,Gf 185 (.fad 186 0 11),Gf 185 (.lde 187 1 false 186),Gf 185 (.bin 188 .gtr 187 (kI 14)),Po 189 185 188,Mv 190 189,Gf 190 (.fad 191 1 11),Gf 190 (.lde 192 1 false 191),Gf 190 (.bin 193 .neq 192 (kS [])),Gf 190 (.fad 194 0 11),Gf 190 (.lde 195 1 false 194),Gf 190 (.bin 196 .eql 195 (kI 9)),Gf 190 (.mov 197 196),Gf 197 (.fad 198 0 11),Gf 197 (.lde 199 1 false 198),Gf 197 (.bin 200 .eql 199 (kI 10)),Gf 190 (.pick 201 197 (kB true) 200),Gf 190 (.mov 202 201),Gf 202 (.fad 203 0 11),Gf 202 (.lde 204 1 false 203),Gf 202 (.bin 205 .eql 204 (kI 11)),Gf 190 (.pick 206 202 (kB true) 205),Gf 190 (.beq 207 true 193 206),Po 208 190 207] (Cn 208 (Rs [Mb 6 false] .ret) .skip)
def kr:IR:=Sq (Rs [Mi 15 0] (.block 8 (.loop [8,10,11,15,1000003] 1 oD))) oE
def ks:IR:=Sq (Rs [Mi 13 0] (.block 4 (.loop [8,10,11,13,1000002] 1 ig))) kr
def ca:IR:=Rg [Mv 53 10,Bc 54 .add 53 1,Mv 10 54]
def ii:IR:=Sq (Rs [Mv 48 10,Fa 49 0 8,Lq 50 49,Ll 51 50,Bi 52 .lss 48 51] (Cn 52 .skip (.exit 0))) (Sq (.block 1 (Rs [Fa 55 0 8,Lq 56 55,Mv 57 10,Ix 58 .atype 56 57,Ld 59 10 true 58,Pp (.alr 11 10),Fz 11 10 59] (Sq (Rs [Mi 12 0] (.block 2 (.loop [8,10,11,12,1000000] 1 ic))) ks))) ca)
def eL:IR:=Rs [Fa 209 0 8,Lq 210 209,Ll 211 210,Bc 212 .gtr 211 0,Mv 6 212] .ret
def yP:IR:=Rs [Mb 6 false] (Sq (Rs [Ca 16 20 [],Un 17 16] (Cn 17 (Rs [Mb 6 false] .ret) .skip)) (Sq (Rs [Mv 18 0,Ll 19 18,Bc 20 .gtr 19 120,Mv 21 20,Gf 21 (.mov 22 1),Gf 21 (.lenl 23 22),Gf 21 (.bin 24 .gtr 23 (kI 8)),Po 25 21 24] (Cn 25 (Rs [Mb 6 true] .ret) .skip)) (Rs [Mv 26 0,Ca 27 12 [26],Ca 28 13 [27],Pp (.new 7 [vI 0,vI 0,vS,nl .jnode,nl .str]),Sv 5 7 28] (Sq (Rs [Mv 29 2,Pp (.bin 30 .rem 29 (.c (.int .u8 2))),Pp (.bin 31 .eql 30 (.c (.int .u8 0)))] (Cn 31 (Rg [Pp (.ld 32 5 true false 7),Mv 33 1,Mv 34 2,Pp (.bin 35 .quo 34 (.c (.int .u8 2))),Ca 36 11 [32,33,35],Sv 5 7 36]) .skip)) (Sq (.wk [] [] [Pp (.ld 38 5 true false (.t 7))] (.call 39 21 [.t 38]) [Mv 37 39,Ex_ 40 0 37,Ex_ 41 1 37,Pp (.alr 8 1),Pp (.frz none 8 1 (.t 40)),Mv 9 41]) (Sq (Rs [Mv 42 9,Bc 43 .neq 42 0] (Cn 43 (Rs [Fa 44 0 8,Lq 45 44,Ll 46 45,Bc 47 .eql 46 0,Mv 6 47] .ret) .skip)) (Sq (Rs [Mi 10 0] (.block 0 (.loop [8,10,1000004] 1 ii))) eL)))))))
def hF:List RV:=[.t 6]
theorem yQ:adJ Tryd.prog an [12,13,2000013] 0 np Tryd.f7 yP hF:=ajA Tryd.func7
def bN(R:IR->(Ex->St->Ro)->St->Ro)(a:St->Ro):Ex->St->Ro:=(dv a [8,10,1000004] 1 (aQ 0 (cj (R eL) (fin hF))))
abbrev a8:Type:=(List ab×Int×Bs×Int)
def aw(x:a8):St:={env:=(U 8 (.ea [.sl .atype (.may false) x.1]::.undef::.int .i64 x.2.1::(U 202 []))),hp:=[some [.sl .u8 (.may false) x.2.2.1,.int .i64 x.2.2.2]]}
def lM(R:IR->(Ex->St->Ro)->St->Ro)(b a:St->Ro):Ex->St->Ro:=(dv a [8,10,11,12,1000000] 1 (aQ 2 (cj (R ks) (aQ 1 (cj (R ca) (bN R b))))))
abbrev dq:Type:=(List ab×Int×Int×Bs×Bss×Int×Bss×Bool×Bs×Int×List aq×List Int×Int×Bs×Int)
def bD(x:dq):St:={env:=(U 8 (.ea [.sl .atype (.may false) x.1]::.undef::.int .i64 x.2.1::.ea [.int .i64 x.2.2.1,.str x.2.2.2.1,.sl .str (.may false) x.2.2.2.2.1,.int .i64 x.2.2.2.2.2.1,.sl .str (.may false) x.2.2.2.2.2.2.1,.bool x.2.2.2.2.2.2.2.1,.str x.2.2.2.2.2.2.2.2.1,.int .i64 x.2.2.2.2.2.2.2.2.2.1,.sl .afield (.may false) x.2.2.2.2.2.2.2.2.2.2.1,.sl (.num .i64) (.may false) x.2.2.2.2.2.2.2.2.2.2.2.1]::.int .i64 x.2.2.2.2.2.2.2.2.2.2.2.2.1::(U 200 []))),hp:=[some [.sl .u8 (.may false) x.2.2.2.2.2.2.2.2.2.2.2.2.2.1,.int .i64 x.2.2.2.2.2.2.2.2.2.2.2.2.2.2]]}
def jc(R:IR->(Ex->St->Ro)->St->Ro)(b a:St->Ro):Ex->St->Ro:=(dv a [8,10,11,13,1000002] 1 (aQ 4 (cj (R kr) (aQ 1 (cj (R ca) (bN R b))))))
abbrev cJ:Type:=(List ab×Int×Int×Bs×Bss×Int×Bss×Bool×Bs×Int×List aq×List Int×Int×Bs×Int)
def a6(x:cJ):St:={env:=(U 8 (.ea [.sl .atype (.may false) x.1]::.undef::.int .i64 x.2.1::.ea [.int .i64 x.2.2.1,.str x.2.2.2.1,.sl .str (.may false) x.2.2.2.2.1,.int .i64 x.2.2.2.2.2.1,.sl .str (.may false) x.2.2.2.2.2.2.1,.bool x.2.2.2.2.2.2.2.1,.str x.2.2.2.2.2.2.2.2.1,.int .i64 x.2.2.2.2.2.2.2.2.2.1,.sl .afield (.may false) x.2.2.2.2.2.2.2.2.2.2.1,.sl (.num .i64) (.may false) x.2.2.2.2.2.2.2.2.2.2.2.1]::.undef::.int .i64 x.2.2.2.2.2.2.2.2.2.2.2.2.1::(U 199 []))),hp:=[some [.sl .u8 (.may false) x.2.2.2.2.2.2.2.2.2.2.2.2.2.1,.int .i64 x.2.2.2.2.2.2.2.2.2.2.2.2.2.2]]}
def xA(R:IR->(Ex->St->Ro)->St->Ro)(a b c:St->Ro):Ex->St->Ro:=(dv c [8,10,11,13,14,1000001] 1 (aQ 6 (aQ 5 (cj (R oC) (jc R a b)))))
abbrev jd:Type:=(List ab×Int×Int×Bs×Bss×Int×Bss×Bool×Bs×Int×List aq×List Int×Int×Int×Bs×Int)
def fy(x:jd):St:={env:=(U 8 (.ea [.sl .atype (.may false) x.1]::.undef::.int .i64 x.2.1::.ea [.int .i64 x.2.2.1,.str x.2.2.2.1,.sl .str (.may false) x.2.2.2.2.1,.int .i64 x.2.2.2.2.2.1,.sl .str (.may false) x.2.2.2.2.2.2.1,.bool x.2.2.2.2.2.2.2.1,.str x.2.2.2.2.2.2.2.2.1,.int .i64 x.2.2.2.2.2.2.2.2.2.1,.sl .afield (.may false) x.2.2.2.2.2.2.2.2.2.2.1,.sl (.num .i64) (.may false) x.2.2.2.2.2.2.2.2.2.2.2.1]::.undef::.int .i64 x.2.2.2.2.2.2.2.2.2.2.2.2.1::.int .i64 x.2.2.2.2.2.2.2.2.2.2.2.2.2.1::(U 198 []))),hp:=[some [.sl .u8 (.may false) x.2.2.2.2.2.2.2.2.2.2.2.2.2.2.1,.int .i64 x.2.2.2.2.2.2.2.2.2.2.2.2.2.2.2]]}
def je(N:Nat)(c b:St->Ro):(St->Ro)->St->Ro:=λa s=>run an N oB (xA (run an N) c b a) s
def gk(N:Nat)(v:a8->Ro)(p:cJ->Ro)(r:jd->Ro)(x:jd):Ro:=
 let t:List ab:=x.1;let u:Int:=x.2.1;let h:Int:=x.2.2.1;let m:Bs:=x.2.2.2.1;let g:Bss:=x.2.2.2.2.1;let b:Int:=x.2.2.2.2.2.1;let j:Bss:=x.2.2.2.2.2.2.1;let c:Bool:=x.2.2.2.2.2.2.2.1;let d:Bs:=x.2.2.2.2.2.2.2.2.1;let o:Int:=x.2.2.2.2.2.2.2.2.2.1;let a:List aq:=x.2.2.2.2.2.2.2.2.2.2.1;let i:List Int:=x.2.2.2.2.2.2.2.2.2.2.2.1;let f:Int:=x.2.2.2.2.2.2.2.2.2.2.2.2.1;let q:Int:=x.2.2.2.2.2.2.2.2.2.2.2.2.2.1;let e:Bs:=x.2.2.2.2.2.2.2.2.2.2.2.2.2.2.1;let k:Int:=x.2.2.2.2.2.2.2.2.2.2.2.2.2.2.2
 cond (decide (q<f)) (
  chk (ixl q a) (
   let y:=(Aq a (Ag q) (ao .afield))
   chk (ixl f a) (
    let z:=(Aq a (Ag f) (ao .afield))
    let B:=decide (y.name=z.name)
    cond B (
     some (.bool false,[some [.sl .u8 (.may false) e,.int .i64 k]])) (
     let w:=(Ao .i64 (q+1))
     r (t,u,h,m,g,b,j,c,d,o,a,i,f,w,e,k))))) (
  let A:=(Ao .i64 (f+1))
  p (t,u,h,m,g,b,j,c,d,o,a,i,A,e,k))
theorem vK(N:Nat)(b a:St->Ro):LB (je N b a) fy (gk N (λy=>b (aw y)) (λy=>a (a6 y))):=λ_ _=>by kernel_rfl
def xB(R:IR->(Ex->St->Ro)->St->Ro)(b a:St->Ro):Ex->St->Ro:=(dv a [8,10,11,15,1000003] 1 (aQ 8 (cj (R oE) (aQ 1 (cj (R ca) (bN R b))))))
abbrev jf:Type:=(List ab×Int×Int×Bs×Bss×Int×Bss×Bool×Bs×Int×List aq×List Int×Int×Bs×Int)
def fA(x:jf):St:={env:=(U 8 (.ea [.sl .atype (.may false) x.1]::.undef::.int .i64 x.2.1::.ea [.int .i64 x.2.2.1,.str x.2.2.2.1,.sl .str (.may false) x.2.2.2.2.1,.int .i64 x.2.2.2.2.2.1,.sl .str (.may false) x.2.2.2.2.2.2.1,.bool x.2.2.2.2.2.2.2.1,.str x.2.2.2.2.2.2.2.2.1,.int .i64 x.2.2.2.2.2.2.2.2.2.1,.sl .afield (.may false) x.2.2.2.2.2.2.2.2.2.2.1,.sl (.num .i64) (.may false) x.2.2.2.2.2.2.2.2.2.2.2.1]::(U 3 (.int .i64 x.2.2.2.2.2.2.2.2.2.2.2.2.1::(U 197 []))))),hp:=[some [.sl .u8 (.may false) x.2.2.2.2.2.2.2.2.2.2.2.2.2.1,.int .i64 x.2.2.2.2.2.2.2.2.2.2.2.2.2.2]]}
def jg(N:Nat)(b:St->Ro):(St->Ro)->St->Ro:=λa s=>run an N oD (xB (run an N) b a) s
def gl(N:Nat)(d:a8->Ro)(k:jf->Ro)(x:jf):Ro:=
 let c:List ab:=x.1;let m:Int:=x.2.1;let b:Int:=x.2.2.1;let i:Bs:=x.2.2.2.1;let q:Bss:=x.2.2.2.2.1;let h:Int:=x.2.2.2.2.2.1;let t:Bss:=x.2.2.2.2.2.2.1;let o:Bool:=x.2.2.2.2.2.2.2.1;let p:Bs:=x.2.2.2.2.2.2.2.2.1;let v:Int:=x.2.2.2.2.2.2.2.2.2.1;let u:List aq:=x.2.2.2.2.2.2.2.2.2.2.1;let a:List Int:=x.2.2.2.2.2.2.2.2.2.2.2.1;let e:Int:=x.2.2.2.2.2.2.2.2.2.2.2.2.1;let f:Bs:=x.2.2.2.2.2.2.2.2.2.2.2.2.2.1;let g:Int:=x.2.2.2.2.2.2.2.2.2.2.2.2.2.2;let D:=(↑(Aa a):Int)
 let j:=(some (.bool false,[some [.sl .u8 (.may false) f,.int .i64 g]]):Ro)
 cond (decide (e<D)) (
  chk (ixl e a) (
   let B:=Aq a (Ag e) (ao (.num .i64))
   cond (decide (B<0)) (
    j) (
    chk (ixl e a) (
     let C:=Aq a (Ag e) (ao (.num .i64));let E:=(↑(Aa c):Int)
     cond (decide (E<=C)) (
      j) (
      chk (ixl e a) (
       let w:=Aq a (Ag e) (ao (.num .i64))
       chk (ixl w c) (
        let G:=(Aq c (Ag w) (ao .atype))
        cond (G.kind==14) (
         j) (
         let H:=(Ao .i64 (e+1))
         k (c,m,b,i,q,h,t,o,p,v,u,a,H,f,g))))))))) (
  cond (decide (h<0)) (
   j) (
   let A:=(↑(Aa c):Int)
   cond (decide (A<=h)) (
    j) (
    cond (decide (b<1)) (
     j) (
     cond (decide (14<b)) (
      j) (
      let r:=(!decide (i=([]:Bs)))
      cond (b==9) (
       cond (!(r==true)) (
        j) (
        let I:=(Ao .i64 (m+1))
        d (c,I,f,g))) (
       cond (b==10) (
        cond (!(r==true)) (
         j) (
         let z:=(Ao .i64 (m+1))
         d (c,z,f,g))) (
        let y:=(!(r==(b==11)))
        cond y (
         j) (
         let F:=(Ao .i64 (m+1))
         d (c,F,f,g)))))))))
theorem vL(N:Nat)(a:St->Ro):LB (jg N a) fA (gl N (λy=>a (aw y))):=λ_ _=>by kernel_rfl
def gn(N:Nat)(b:St->Ro):(St->Ro)->St->Ro:=λa s=>run an N ig (jc (run an N) b a) s
def iI(N:Nat)(r:a8->Ro)(t:cJ->Ro)(C:jd->Ro)(D:jf->Ro)(x:cJ):Ro:=
 let c:List ab:=x.1;let q:Int:=x.2.1;let i:Int:=x.2.2.1;let o:Bs:=x.2.2.2.1;let h:Bss:=x.2.2.2.2.1;let d:Int:=x.2.2.2.2.2.1;let k:Bss:=x.2.2.2.2.2.2.1;let e:Bool:=x.2.2.2.2.2.2.2.1;let f:Bs:=x.2.2.2.2.2.2.2.2.1;let p:Int:=x.2.2.2.2.2.2.2.2.2.1;let a:List aq:=x.2.2.2.2.2.2.2.2.2.2.1;let j:List Int:=x.2.2.2.2.2.2.2.2.2.2.2.1;let b:Int:=x.2.2.2.2.2.2.2.2.2.2.2.2.1;let g:Bs:=x.2.2.2.2.2.2.2.2.2.2.2.2.2.1;let m:Int:=x.2.2.2.2.2.2.2.2.2.2.2.2.2.2;let w:=(↑(Aa a):Int)
 let A:=(some (.bool false,[some [.sl .u8 (.may false) g,.int .i64 m]]):Ro)
 cond (decide (b<w)) (
  chk (ixl b a) (
   let v:=(Aq a (Ag b) (ao .afield))
   cond (decide (v.typ<0)) (
    A) (
    chk (ixl b a) (
     let z:=(Aq a (Ag b) (ao .afield))
     let B:=(↑(Aa c):Int)
     cond (decide (B<=z.typ)) (
      A) (
      chk (ixl b a) (
       let y:=(Aq a (Ag b) (ao .afield))
       let u:=decide (y.name=([]:Bs))
       cond u (
        A) (
        C (c,q,i,o,h,d,k,e,f,p,a,j,b,0,g,m)))))))) (
  D (c,q,i,o,h,d,k,e,f,p,a,j,0,g,m))
def gp(N:Nat)(a:a8->Ro)(b:cJ->Ro)(x:cJ):Ro:=iI N a b (λz=>b8 N (gk N a b) z) (λz=>b8 N (gl N a) z) x
def gq(N:Nat)(a b:St->Ro):List (Nat×(St->Ro)):=(dZ an N ig (jc (run an N) a b)++(dZ an N kr (aQ 1 (cj (run an N ca) (bN (run an N) a)))++(dZ an N ca (bN (run an N) a)++(dZ an N eL (fin hF)++[]))))
theorem vM(N:Nat)(a:St->Ro):∀(b:St->Ro)(x:cJ),gn N a b (a6 x)=gp N (λy=>a (aw y)) (λy=>b (a6 y)) x:=by
 intro b x;have d:∀C:Nat->St->Ro,dd C an N ig (jc (dd C an N) a b) (a6 x)=iI N (λy=>a (aw y)) (λy=>b (a6 y)) (λz=>C 1000001 (fy z)) (λz=>C 1000003 (fA z)) x:=by intro C;kernel_rfl
 have h:gn N a b (a6 x)=iI N (λy=>a (aw y)) (λy=>b (a6 y)) (λz=>bP N (je N a b) (fy z)) (λz=>bP N (jg N a) (fA z)) x:=(lD (C:=l9 (gq N a b)) (hR (cb (l:=(gq N a b)) (by kernel_rfl))) (rF (jG (om (hR (iZ (cb (l:=(gq N a b)) (by kernel_rfl)))) (jG (om (hR (iZ (iZ (cb (l:=(gq N a b)) (by kernel_rfl))))) (rF (jG (om (hR (iZ (iZ (iZ (cb (l:=(gq N a b)) (by kernel_rfl)))))) rfl)))))))) _).trans ((d _).trans (by kernel_rfl));have c:(λz=>bP N (je N a b) (fy z))=(λz=>b8 N (gk N (λy=>a (aw y)) (λy=>b (a6 y))) z):=funext λz=>cL (fy) (je N a b) (gk N (λy=>a (aw y)) (λy=>b (a6 y))) (vK N a b) N z
 have e:(λz=>bP N (jg N a) (fA z))=(λz=>b8 N (gl N (λy=>a (aw y))) z):=funext λz=>cL (fA) (jg N a) (gl N (λy=>a (aw y))) (vL N a) N z
 rw[h,c,e];rfl
def gr(N:Nat)(b:St->Ro):(St->Ro)->St->Ro:=λa s=>run an N ic (lM (run an N) b a) s
def iJ(N:Nat)(t:a8->Ro)(q:dq->Ro)(y:cJ->Ro)(x:dq):Ro:=
 let b:List ab:=x.1;let r:Int:=x.2.1;let i:Int:=x.2.2.1;let a:Bs:=x.2.2.2.1;let h:Bss:=x.2.2.2.2.1;let c:Int:=x.2.2.2.2.2.1;let k:Bss:=x.2.2.2.2.2.2.1;let d:Bool:=x.2.2.2.2.2.2.2.1;let e:Bs:=x.2.2.2.2.2.2.2.2.1;let p:Int:=x.2.2.2.2.2.2.2.2.2.1;let o:List aq:=x.2.2.2.2.2.2.2.2.2.2.1;let j:List Int:=x.2.2.2.2.2.2.2.2.2.2.2.1;let g:Int:=x.2.2.2.2.2.2.2.2.2.2.2.2.1;let f:Bs:=x.2.2.2.2.2.2.2.2.2.2.2.2.2.1;let m:Int:=x.2.2.2.2.2.2.2.2.2.2.2.2.2.2;let v:=λA=>q (b,r,i,a,h,c,k,d,e,p,o,j,A,f,m)
 cond (decide (g<r)) (
  let z:=(!decide (a=([]:Bs)))
  cond z (
   chk (ixl g b) (
    let w:=(Aq b (Ag g) (ao .atype))
    cond (decide (w.name=a)) (
     some (.bool false,[some [.sl .u8 (.may false) f,.int .i64 m]])) (
     let B:=(Ao .i64 (g+1))
     v B))) (
   let u:=(Ao .i64 (g+1))
   v u)) (
  y (b,r,i,a,h,c,k,d,e,p,o,j,0,f,m))
def gt(N:Nat)(a:a8->Ro)(b:dq->Ro)(x:dq):Ro:=iJ N a b (λz=>b8 N (gp N a) z) x
def gu(N:Nat)(a b:St->Ro):List (Nat×(St->Ro)):=(dZ an N ic (lM (run an N) a b)++(dZ an N ks (aQ 1 (cj (run an N ca) (bN (run an N) a)))++(dZ an N ca (bN (run an N) a)++(dZ an N eL (fin hF)++[]))))
theorem vN(N:Nat)(a:St->Ro):∀(b:St->Ro)(x:dq),gr N a b (bD x)=gt N (λy=>a (aw y)) (λy=>b (bD y)) x:=by
 intro b x;have c:∀C:Nat->St->Ro,dd C an N ic (lM (dd C an N) a b) (bD x)=iJ N (λy=>a (aw y)) (λy=>b (bD y)) (λz=>C 1000002 (a6 z)) x:=by intro C;kernel_rfl
 have h:gr N a b (bD x)=iJ N (λy=>a (aw y)) (λy=>b (bD y)) (λz=>bP N (gn N a) (a6 z)) x:=(lD (C:=l9 (gu N a b)) (hR (cb (l:=(gu N a b)) (by kernel_rfl))) (rF (jG (om (hR (iZ (cb (l:=(gu N a b)) (by kernel_rfl)))) (jG (om (hR (iZ (iZ (cb (l:=(gu N a b)) (by kernel_rfl))))) (rF (jG (om (hR (iZ (iZ (iZ (cb (l:=(gu N a b)) (by kernel_rfl)))))) rfl)))))))) _).trans ((c _).trans (by kernel_rfl));have d:(λz=>bP N (gn N a) (a6 z))=(λz=>b8 N (gp N (λy=>a (aw y))) z):=funext λz=>cL (a6) (gn N a) (gp N (λy=>a (aw y))) (vM N a) N z
 rw[h,d];rfl
def jh(N:Nat):(St->Ro)->St->Ro:=λa s=>run an N ii (bN (run an N) a) s
def iK(N:Nat)(f:a8->Ro)(h:dq->Ro)(x:a8):Ro:=
 let a:List ab:=x.1;let c:Int:=x.2.1;let e:Bs:=x.2.2.1;let d:Int:=x.2.2.2;let i:=(↑(Aa a):Int)
 cond (decide (c<i)) (
  chk (ixl c a) (
   let b:=(Aq a (Ag c) (ao .atype))
   h (a,c,b.kind,b.name,b.aliases,b.items,b.syms,b.hasdef,b.df,b.size,b.fields,b.branches,0,e,d))) (
  let g:=(↑(Aa a):Int)
  some (.bool (decide (0<g)),[some [.sl .u8 (.may false) e,.int .i64 d]]))
def ee(N:Nat)(a:a8->Ro)(x:a8):Ro:=iK N a (λz=>b8 N (gt N a) z) x
def lN(N:Nat)(a:St->Ro):List (Nat×(St->Ro)):=(dZ an N ii (bN (run an N) a)++(dZ an N eL (fin hF)++[]))
theorem vP(N:Nat):∀(a:St->Ro)(x:a8),jh N a (aw x)=ee N (λy=>a (aw y)) x:=by
 intro a x;have b:∀C:Nat->St->Ro,dd C an N ii (bN (dd C an N) a) (aw x)=iK N (λy=>a (aw y)) (λz=>C 1000000 (bD z)) x:=by intro C;kernel_rfl
 have h:jh N a (aw x)=iK N (λy=>a (aw y)) (λz=>bP N (gr N a) (bD z)) x:=(lD (C:=l9 (lN N a)) (hR (cb (l:=(lN N a)) (by kernel_rfl))) (rF (jG (om (hR (iZ (cb (l:=(lN N a)) (by kernel_rfl)))) rfl))) _).trans ((b _).trans (by kernel_rfl));have c:(λz=>bP N (gr N a) (bD z))=(λz=>b8 N (gt N (λy=>a (aw y))) z):=funext λz=>cL (bD) (gr N a) (gt N (λy=>a (aw y))) (vN N a) N z
 rw[h,c];rfl
def hH(N:Nat)(j i:Bs)(g:Int)(h:a8->Ro):Ro:=
 ae (kG) (λ(p:Bool)=>
  cond (!p) (
   some (.bool false,[])) (
   let k:=(↑(Aa j):Int)
   cond (decide (120<k)) (
    some (.bool true,[])) (
    let q:=(↑(Aa i):Int)
    cond (decide (8<q)) (
     some (.bool true,[])) (
     ae (pR j) (λf=>
      ae (iH f.1 f.2) (λa=>
       cond ((Bl g 2)==0) (
        let o:=(Ao .u8 (Int.tdiv g 2))
        ae (bA ⟨a.1,a.2.1,a.2.2.1,a.2.2.2.1,a.2.2.2.2.1⟩ i o) (λ(b:aa)=>
         ae (jn ⟨b.kind,b.n,b.s,b.l,b.names⟩) (λe=>
          cond (!(e.2==0)) (
           let m:=(↑(Aa e.1):Int)
           some (.bool (m==0),[some [.sl .u8 (.may false) a.2.2.2.2.2.1,.int .i64 a.2.2.2.2.2.2],none])) (
           h (e.1,0,a.2.2.2.2.2.1,a.2.2.2.2.2.2))))) (
        ae (jn ⟨a.1,a.2.1,a.2.2.1,a.2.2.2.1,a.2.2.2.2.1⟩) (λc=>
         cond (!(c.2==0)) (
          let d:=(↑(Aa c.1):Int)
          some (.bool (d==0),[some [.sl .u8 (.may false) a.2.2.2.2.2.1,.int .i64 a.2.2.2.2.2.2],none])) (
          h (c.1,0,a.2.2.2.2.2.1,a.2.2.2.2.2.2))))))))))
def qU(N:Nat)(c a:Bs)(b:Int):Ro:=hH N c a b (λz=>b8 N (ee N) z)
theorem xC(N:Nat)(d c:Bs)(a:Int)(h:Tot (qU N d c a) (λz=>∃(f:Bool)(rest:List ah),z.1.dimR=.bool f∧z.2=rest∧fm d c a (f))):∃r,rP d c a r:=zZ.fin (p:=λr=>fm d c a r) yQ (N:=N) ((gb _ (by kernel_rfl) rfl (λC=>hH N d c a (λz=>C 1000004 (aw z))) (λC=>by kernel_rfl)).trans (BB (b:=hH N d c a (λz=>bP N (jh N) (aw z))) (by kernel_rfl) (congrArg (hH N d c a) (funext λz=>cL (aw) (jh N) (ee N) (vP N) N z)))) h λ_ ⟨f,_,e,_,q⟩=>⟨(f),e,q⟩
noncomputable def aae:am:=ge (P:=Tryd.prog) 2 [aW,kn,qS,qh,kU,vJ,uz] [] [] [] [ia,adS]
def yR:IR:=Rs [Bx 4 0,Bx 5 1,Pp (.box 7 3),Mi 8 0] (Rs [Lq 18 4,Ld 19 5 true 5,Ca 20 115 [18,19],Mv 9 20] (Sq (Rs [Ld 22 5 true 5,Ca 23 99 [22,kS [110,97,109,101,115,112,97,99,101]],Mv 21 23,Ex_ 24 0 21,Ex_ 25 1 21,Pp (.alr 10 5),Fz 10 5 24,Mv 11 25] (Rs [Mv 26 11] (Cn 26 (Rs [Lq 27 4,Fa 28 0 10,Lq 29 28,Bc 30 .neq 29 4,Ca 31 68 [27,30,kI 2]] (Rg [Fa 32 2 10,Lq 33 32,Sv 1 7 33])) .skip))) (Rs [Mv 34 2,Lq 35 4,Mv 36 9,Lo 37 7,Ca 38 116 [35,36,37],Pp (.bld 39 [vI 0,vS,fu .str false,vI 0,fu .str false,.bool false,vS,vI 0,nl .afield,fu (.num .i64) false] [(0,1,34),(1,1,38)]),Pp (.new 12 [vI 0,vS,fu .str false,vI 0,fu .str false,.bool false,vS,vI 0,nl .afield,fu (.num .i64) false]),Sv 10 12 39] (Rs [Fa 40 1 12,Lo 41 40,Ca 42 117 [41],Sv 1 7 42] (Rs [Lq 43 4,Ld 44 5 true 5,Pp (.mkf 45 119 [.t 4,.t 7]),Ca 46 118 [43,44,45],Fa 47 2 12,Sk 1 47 46] (Sq (.reg [Lq 49 4,Nk 50 49,Fa 51 1 50,Fo [1] [] (.ld 52 1 false false 51),Fa 53 1 12,Fo [3] [] (.ld 54 1 false false 53),Pp (.mget 55 .sn true (.t 52) (.t 54)),Mv 48 55,Ex_ 56 0 48,Ex_ 57 1 48,Mv 13 56,Mv 14 57] [[],[0],[0,1],[0,1,2],[],[4],rg 0 5,rg 0 6,rg 0 7,rg 0 7,rg 0 8,rg 0 10]) (Rs [Lq 58 4,Mv 59 14,Ca 60 68 [58,59,kI 5]] (Rs [Lq 61 4,Pp (.ld 62 10 true false 12),Ca 63 97 [61,62],Mv 15 63] (Sq (Rs [Lq 64 4,Nk 65 64,Fa 66 2 65,Lo 67 66,Bc 68 .neq 67 0] (Cn 68 (Rs [Mi 8 0] .ret) .skip)) (Sq (.reg [Lq 69 4,Nk 70 69,Fa 71 1 70,Fo [1] [] (.ld 72 1 false false 71),Fa 73 1 12,Fo [3] [] (.ld 74 1 false false 73),Mv 75 15,Pp (.mput none .sn (.t 72) (.t 74) (.t 75))] [[],[0],[0,1],[0,1,2],[],[4],[],rg 0 6]) (Sq (Rs [Mv 76 2] (.block 0 (Rs [Bc 103 .eql 76 9,Mv 102 103] (Cn 102 (Rg [Lq 104 4,Ld 105 5 true 5,Lo 106 7,Ca 107 120 [104,105,12,106]]) (Rs [Bc 109 .eql 76 10,Mv 108 109] (Cn 108 (Rg [Lq 110 4,Ld 111 5 true 5,Ca 112 121 [110,111,12]]) (Rs [Ld 78 5 true 5,Ca 79 99 [78,kS [115,105,122,101]],Mv 77 79,Ex_ 80 0 77,Ex_ 81 1 77,Pp (.alr 16 5),Fz 16 5 80,Mv 17 81] (Rs [Lq 82 4,Fa 83 0 16,Lq 84 83,Bc 85 .neq 84 3,Ca 86 68 [82,85,kI 2]] (Rs [Lq 87 4,Fa 88 1 16,Lq 89 88,Bc 90 .lss 89 0,Mv 91 90,Gf 91 (.fad 92 1 16),Gf 91 (.lde 93 1 false 92),Gf 91 (.bin 94 .gtr 93 (kI 5000)),Po 95 91 94,Ca 96 68 [87,95,kI 6]] (Rg [Fa 97 1 16,Lq 98 97,Pp (.mx 99 false 98 (kI 0)),Pp (.mx 100 true 99 (kI 5000)),Fa 101 7 12,Sv 1 101 100])))))))))) (Sq (Rs [Lq 113 4,Nk 114 113,Fa 115 2 114,Lo 116 115,Bc 117 .eql 116 0] (Cn 117 (.gh (.opn (.cell 1 0)) (.ghp (.cls (.cell 1 0)) (.reg [Lq 118 4,Nk 119 118,Fa 120 0 119,Fa 121 0 120,Fo [1] [] (.ld 122 1 false false 121),Mv 123 15,Fo [3] [] (.ld 124 10 true false 12),Pp (.ixw 125 .atype 122 123),Fo [] [4] (.stw none 10 125 124)] [[],[0],[0,1],[0,1,2],rg 0 3,[],[],rg 0 6,rg 0 7]))) .skip)) (Rs [Mv 126 15,Mv 8 126] .ret)))))))))))))
def yS:List RV:=[.t 8]
theorem yT:FnC Tryd.prog aae [68,97,115,116,118,120,121,2000068,2000097,2000115,2000116,2000118,2000120,2000121] 2 rN Tryd.f100 yR yS:=kR Tryd.func100
def qV(N:Nat)(M:List (Bs×Int))(F:List ab)(G S:Int)(y:aa)(q:Int)(p3:Bs):Ro:=
 ae (eT M F G S (reJ y)) (λx=>
  ae (b9 (reJ y) ([110,97,109,101,115,112,97,99,101]:Bs)) (λr2=>
   cond r2.2 (
    ae (ag x.2.1 x.2.2.1 x.2.2.2.1 x.2.2.2.2 (!(r2.1.kind==4)) 2) (λr3=>
     ae (dm r3.1 r3.2.1 r3.2.2.1 r3.2.2.2 x.1 r2.1.s) (λr=>
      ae (jR r.1) (λ(r5:Bs)=>
       ae (aZ r.2.1 r.2.2.1 r.2.2.2.1 r.2.2.2.2 r5 (reJ y)) (λp=>
        let x1:=(iy (k:=.sn) p.2.1 r.1)
        let x2:=(CC (aU (k:=.sn) p.2.1 r.1))
        ae (ag p.2.1 p.2.2.1 p.2.2.2.1 p.2.2.2.2.1 x2 5) (λZ=>
         ae (bS Z.1 Z.2.1 Z.2.2.1 Z.2.2.2 ⟨q,r.1,p.1,0,([]:Bss),false,([]:Bs),0,([]:List aq),([]:List Int)⟩) (λg=>
          cond (!(g.2.2.2.1==0)) (
           some (.int .i64 0,[some [.mp .sn g.2.1],some [.ul .atype g.2.2.1,.mr 0,.int .i64 g.2.2.2.1,.int .i64 g.2.2.2.2],some [.str p.2.2.2.2.2],some [.int .i64 q,.str r.1,.sl .str (.may false) p.1,.int .i64 0,.sl .str (.may false) ([]:Bss),.bool false,.str ([]:Bs),.int .i64 0,.sl .afield .own ([]:List aq),.sl (.num .i64) (.may false) ([]:List Int)]])) (
           let x3:=(bz (k:=.sn) g.2.1 r.1 g.1)
           cond (q==9) (
            ae (dP x3 g.2.2.1 g.2.2.2.1 g.2.2.2.2 q r.1 p.1 0 ([]:Bss) false ([]:Bs) 0 ([]:List aq) ([]:List Int) (reJ y) p.2.2.2.2.2) (λf=>
             cond (f.2.2.1==0) (
              chk (decide (0<Aa f.2.1)) (
               let x4:Int:=f.2.2.2.2.2.2.2.2.2.2.2.1;let x5:List aq:=f.2.2.2.2.2.2.2.2.2.2.2.2.1;let x6:List Int:=f.2.2.2.2.2.2.2.2.2.2.2.2.2
               chk ((decide (0<=g.1)&&decide (g.1<↑(Aa f.2.1)))) (
                chk (decide ((Ag g.1)<Aa f.2.1)) (
                 let x7:=(Bg f.2.1 (Ag g.1) ⟨f.2.2.2.2.1,f.2.2.2.2.2.1,f.2.2.2.2.2.2.1,f.2.2.2.2.2.2.2.1,f.2.2.2.2.2.2.2.2.1,f.2.2.2.2.2.2.2.2.2.1,f.2.2.2.2.2.2.2.2.2.2.1,x4,x5,x6⟩)
                 chk (Av (Aa f.2.1) (Aa x7)) (
                  some (.int .i64 g.1,[some [.mp .sn f.1],some [.ul .atype x7,.mr 0,.int .i64 f.2.2.1,.int .i64 f.2.2.2.1],some [.str p.2.2.2.2.2],some [.int .i64 f.2.2.2.2.1,.str f.2.2.2.2.2.1,.sl .str (.may false) f.2.2.2.2.2.2.1,.int .i64 f.2.2.2.2.2.2.2.1,.sl .str (.may false) f.2.2.2.2.2.2.2.2.1,.bool f.2.2.2.2.2.2.2.2.2.1,.str f.2.2.2.2.2.2.2.2.2.2.1,.int .i64 f.2.2.2.2.2.2.2.2.2.2.2.1,.sl .afield .own f.2.2.2.2.2.2.2.2.2.2.2.2.1,.sl (.num .i64) (.may false) f.2.2.2.2.2.2.2.2.2.2.2.2.2],none,none])))))) (
              some (.int .i64 g.1,[some [.mp .sn f.1],some [.ul .atype f.2.1,.mr 0,.int .i64 f.2.2.1,.int .i64 f.2.2.2.1],some [.str p.2.2.2.2.2],some [.int .i64 f.2.2.2.2.1,.str f.2.2.2.2.2.1,.sl .str (.may false) f.2.2.2.2.2.2.1,.int .i64 f.2.2.2.2.2.2.2.1,.sl .str (.may false) f.2.2.2.2.2.2.2.2.1,.bool f.2.2.2.2.2.2.2.2.2.1,.str f.2.2.2.2.2.2.2.2.2.2.1,.int .i64 f.2.2.2.2.2.2.2.2.2.2.2.1,.sl .afield .own f.2.2.2.2.2.2.2.2.2.2.2.2.1,.sl (.num .i64) (.may false) f.2.2.2.2.2.2.2.2.2.2.2.2.2]])))) (
            cond (q==10) (
             ae (dB x3 g.2.2.1 g.2.2.2.1 g.2.2.2.2 q r.1 p.1 0 ([]:Bss) false ([]:Bs) 0 ([]:List aq) ([]:List Int) (reJ y)) (λa=>
              cond (a.2.2.1==0) (
               chk (decide (0<Aa a.2.1)) (
                let x8:Bs:=a.2.2.2.2.2.2.2.2.2.2.1;let x9:Int:=a.2.2.2.2.2.2.2.2.2.2.2.1;let al:List aq:=a.2.2.2.2.2.2.2.2.2.2.2.2.1;let a4:List Int:=a.2.2.2.2.2.2.2.2.2.2.2.2.2
                chk ((decide (0<=g.1)&&decide (g.1<↑(Aa a.2.1)))) (
                 chk (decide ((Ag g.1)<Aa a.2.1)) (
                  let L:=(Bg a.2.1 (Ag g.1) ⟨a.2.2.2.2.1,a.2.2.2.2.2.1,a.2.2.2.2.2.2.1,a.2.2.2.2.2.2.2.1,a.2.2.2.2.2.2.2.2.1,a.2.2.2.2.2.2.2.2.2.1,x8,x9,al,a4⟩)
                  chk (Av (Aa a.2.1) (Aa L)) (
                   some (.int .i64 g.1,[some [.mp .sn a.1],some [.ul .atype L,.mr 0,.int .i64 a.2.2.1,.int .i64 a.2.2.2.1],some [.str p.2.2.2.2.2],some [.int .i64 a.2.2.2.2.1,.str a.2.2.2.2.2.1,.sl .str (.may false) a.2.2.2.2.2.2.1,.int .i64 a.2.2.2.2.2.2.2.1,.sl .str (.may false) a.2.2.2.2.2.2.2.2.1,.bool a.2.2.2.2.2.2.2.2.2.1,.str a.2.2.2.2.2.2.2.2.2.2.1,.int .i64 a.2.2.2.2.2.2.2.2.2.2.2.1,.sl .afield .own a.2.2.2.2.2.2.2.2.2.2.2.2.1,.sl (.num .i64) (.may false) a.2.2.2.2.2.2.2.2.2.2.2.2.2],none,none])))))) (
               some (.int .i64 g.1,[some [.mp .sn a.1],some [.ul .atype a.2.1,.mr 0,.int .i64 a.2.2.1,.int .i64 a.2.2.2.1],some [.str p.2.2.2.2.2],some [.int .i64 a.2.2.2.2.1,.str a.2.2.2.2.2.1,.sl .str (.may false) a.2.2.2.2.2.2.1,.int .i64 a.2.2.2.2.2.2.2.1,.sl .str (.may false) a.2.2.2.2.2.2.2.2.1,.bool a.2.2.2.2.2.2.2.2.2.1,.str a.2.2.2.2.2.2.2.2.2.2.1,.int .i64 a.2.2.2.2.2.2.2.2.2.2.2.1,.sl .afield .own a.2.2.2.2.2.2.2.2.2.2.2.2.1,.sl (.num .i64) (.may false) a.2.2.2.2.2.2.2.2.2.2.2.2.2]])))) (
             ae (b9 (reJ y) ([115,105,122,101]:Bs)) (λw=>
              ae (ag x3 g.2.2.1 g.2.2.2.1 g.2.2.2.2 (!(w.1.kind==3)) 2) (λu=>
               cond (decide (w.1.n<0)) (
                ae (ag u.1 u.2.1 u.2.2.1 u.2.2.2 true 6) (λi=>
                 let P:=(if w.1.n<0 then 0 else w.1.n)
                 let E:=(if 5000<P then 5000 else P)
                 cond (i.2.2.1==0) (
                  chk (decide (0<Aa i.2.1)) (
                   chk ((decide (0<=g.1)&&decide (g.1<↑(Aa i.2.1)))) (
                    chk (decide ((Ag g.1)<Aa i.2.1)) (
                     let O:=(Bg i.2.1 (Ag g.1) ⟨q,r.1,p.1,0,([]:Bss),false,([]:Bs),E,([]:List aq),([]:List Int)⟩)
                     chk (Av (Aa i.2.1) (Aa O)) (
                      some (.int .i64 g.1,[some [.mp .sn i.1],some [.ul .atype O,.mr 0,.int .i64 i.2.2.1,.int .i64 i.2.2.2],some [.str p.2.2.2.2.2],some [.int .i64 q,.str r.1,.sl .str (.may false) p.1,.int .i64 0,.sl .str (.may false) ([]:Bss),.bool false,.str ([]:Bs),.int .i64 E,.sl .afield .own ([]:List aq),.sl (.num .i64) (.may false) ([]:List Int)],none,none])))))) (
                  some (.int .i64 g.1,[some [.mp .sn i.1],some [.ul .atype i.2.1,.mr 0,.int .i64 i.2.2.1,.int .i64 i.2.2.2],some [.str p.2.2.2.2.2],some [.int .i64 q,.str r.1,.sl .str (.may false) p.1,.int .i64 0,.sl .str (.may false) ([]:Bss),.bool false,.str ([]:Bs),.int .i64 E,.sl .afield .own ([]:List aq),.sl (.num .i64) (.may false) ([]:List Int)]])))) (
                ae (ag u.1 u.2.1 u.2.2.1 u.2.2.2 (decide (5000<w.1.n)) 6) (λj=>
                 let I:=(if w.1.n<0 then 0 else w.1.n)
                 let A:=(if 5000<I then 5000 else I)
                 cond (j.2.2.1==0) (
                  chk (decide (0<Aa j.2.1)) (
                   chk ((decide (0<=g.1)&&decide (g.1<↑(Aa j.2.1)))) (
                    chk (decide ((Ag g.1)<Aa j.2.1)) (
                     let Q:=(Bg j.2.1 (Ag g.1) ⟨q,r.1,p.1,0,([]:Bss),false,([]:Bs),A,([]:List aq),([]:List Int)⟩)
                     chk (Av (Aa j.2.1) (Aa Q)) (
                      some (.int .i64 g.1,[some [.mp .sn j.1],some [.ul .atype Q,.mr 0,.int .i64 j.2.2.1,.int .i64 j.2.2.2],some [.str p.2.2.2.2.2],some [.int .i64 q,.str r.1,.sl .str (.may false) p.1,.int .i64 0,.sl .str (.may false) ([]:Bss),.bool false,.str ([]:Bs),.int .i64 A,.sl .afield .own ([]:List aq),.sl (.num .i64) (.may false) ([]:List Int)],none,none])))))) (
                  some (.int .i64 g.1,[some [.mp .sn j.1],some [.ul .atype j.2.1,.mr 0,.int .i64 j.2.2.1,.int .i64 j.2.2.2],some [.str p.2.2.2.2.2],some [.int .i64 q,.str r.1,.sl .str (.may false) p.1,.int .i64 0,.sl .str (.may false) ([]:Bss),.bool false,.str ([]:Bs),.int .i64 A,.sl .afield .own ([]:List aq),.sl (.num .i64) (.may false) ([]:List Int)]])))))))))))))))) (
    ae (dm x.2.1 x.2.2.1 x.2.2.2.1 x.2.2.2.2 x.1 p3) (λh=>
     ae (jR h.1) (λ(ar:Bs)=>
      ae (aZ h.2.1 h.2.2.1 h.2.2.2.1 h.2.2.2.2 ar (reJ y)) (λe=>
       let b1:=(iy (k:=.sn) e.2.1 h.1)
       let a0:=(CC (aU (k:=.sn) e.2.1 h.1))
       ae (ag e.2.1 e.2.2.1 e.2.2.2.1 e.2.2.2.2.1 a0 5) (λz=>
        ae (bS z.1 z.2.1 z.2.2.1 z.2.2.2 ⟨q,h.1,e.1,0,([]:Bss),false,([]:Bs),0,([]:List aq),([]:List Int)⟩) (λd=>
         cond (!(d.2.2.2.1==0)) (
          some (.int .i64 0,[some [.mp .sn d.2.1],some [.ul .atype d.2.2.1,.mr 0,.int .i64 d.2.2.2.1,.int .i64 d.2.2.2.2],some [.str e.2.2.2.2.2],some [.int .i64 q,.str h.1,.sl .str (.may false) e.1,.int .i64 0,.sl .str (.may false) ([]:Bss),.bool false,.str ([]:Bs),.int .i64 0,.sl .afield .own ([]:List aq),.sl (.num .i64) (.may false) ([]:List Int)]])) (
          let D:=(bz (k:=.sn) d.2.1 h.1 d.1)
          cond (q==9) (
           ae (dP D d.2.2.1 d.2.2.2.1 d.2.2.2.2 q h.1 e.1 0 ([]:Bss) false ([]:Bs) 0 ([]:List aq) ([]:List Int) (reJ y) e.2.2.2.2.2) (λb=>
            cond (b.2.2.1==0) (
             chk (decide (0<Aa b.2.1)) (
              let a9:Bs:=b.2.2.2.2.2.2.2.2.2.2.1;let a3:Int:=b.2.2.2.2.2.2.2.2.2.2.2.1;let a5:List aq:=b.2.2.2.2.2.2.2.2.2.2.2.2.1;let bl:List Int:=b.2.2.2.2.2.2.2.2.2.2.2.2.2
              chk ((decide (0<=d.1)&&decide (d.1<↑(Aa b.2.1)))) (
               chk (decide ((Ag d.1)<Aa b.2.1)) (
                let H:=(Bg b.2.1 (Ag d.1) ⟨b.2.2.2.2.1,b.2.2.2.2.2.1,b.2.2.2.2.2.2.1,b.2.2.2.2.2.2.2.1,b.2.2.2.2.2.2.2.2.1,b.2.2.2.2.2.2.2.2.2.1,a9,a3,a5,bl⟩)
                chk (Av (Aa b.2.1) (Aa H)) (
                 some (.int .i64 d.1,[some [.mp .sn b.1],some [.ul .atype H,.mr 0,.int .i64 b.2.2.1,.int .i64 b.2.2.2.1],some [.str e.2.2.2.2.2],some [.int .i64 b.2.2.2.2.1,.str b.2.2.2.2.2.1,.sl .str (.may false) b.2.2.2.2.2.2.1,.int .i64 b.2.2.2.2.2.2.2.1,.sl .str (.may false) b.2.2.2.2.2.2.2.2.1,.bool b.2.2.2.2.2.2.2.2.2.1,.str b.2.2.2.2.2.2.2.2.2.2.1,.int .i64 b.2.2.2.2.2.2.2.2.2.2.2.1,.sl .afield .own b.2.2.2.2.2.2.2.2.2.2.2.2.1,.sl (.num .i64) (.may false) b.2.2.2.2.2.2.2.2.2.2.2.2.2],none,none])))))) (
             some (.int .i64 d.1,[some [.mp .sn b.1],some [.ul .atype b.2.1,.mr 0,.int .i64 b.2.2.1,.int .i64 b.2.2.2.1],some [.str e.2.2.2.2.2],some [.int .i64 b.2.2.2.2.1,.str b.2.2.2.2.2.1,.sl .str (.may false) b.2.2.2.2.2.2.1,.int .i64 b.2.2.2.2.2.2.2.1,.sl .str (.may false) b.2.2.2.2.2.2.2.2.1,.bool b.2.2.2.2.2.2.2.2.2.1,.str b.2.2.2.2.2.2.2.2.2.2.1,.int .i64 b.2.2.2.2.2.2.2.2.2.2.2.1,.sl .afield .own b.2.2.2.2.2.2.2.2.2.2.2.2.1,.sl (.num .i64) (.may false) b.2.2.2.2.2.2.2.2.2.2.2.2.2]])))) (
           cond (q==10) (
            ae (dB D d.2.2.1 d.2.2.2.1 d.2.2.2.2 q h.1 e.1 0 ([]:Bss) false ([]:Bs) 0 ([]:List aq) ([]:List Int) (reJ y)) (λc=>
             cond (c.2.2.1==0) (
              chk (decide (0<Aa c.2.1)) (
               let bs:Bs:=c.2.2.2.2.2.2.2.2.2.2.1;let bx:Int:=c.2.2.2.2.2.2.2.2.2.2.2.1;let a1:List aq:=c.2.2.2.2.2.2.2.2.2.2.2.2.1;let bn:List Int:=c.2.2.2.2.2.2.2.2.2.2.2.2.2
               chk ((decide (0<=d.1)&&decide (d.1<↑(Aa c.2.1)))) (
                chk (decide ((Ag d.1)<Aa c.2.1)) (
                 let Y:=(Bg c.2.1 (Ag d.1) ⟨c.2.2.2.2.1,c.2.2.2.2.2.1,c.2.2.2.2.2.2.1,c.2.2.2.2.2.2.2.1,c.2.2.2.2.2.2.2.2.1,c.2.2.2.2.2.2.2.2.2.1,bs,bx,a1,bn⟩)
                 chk (Av (Aa c.2.1) (Aa Y)) (
                  some (.int .i64 d.1,[some [.mp .sn c.1],some [.ul .atype Y,.mr 0,.int .i64 c.2.2.1,.int .i64 c.2.2.2.1],some [.str e.2.2.2.2.2],some [.int .i64 c.2.2.2.2.1,.str c.2.2.2.2.2.1,.sl .str (.may false) c.2.2.2.2.2.2.1,.int .i64 c.2.2.2.2.2.2.2.1,.sl .str (.may false) c.2.2.2.2.2.2.2.2.1,.bool c.2.2.2.2.2.2.2.2.2.1,.str c.2.2.2.2.2.2.2.2.2.2.1,.int .i64 c.2.2.2.2.2.2.2.2.2.2.2.1,.sl .afield .own c.2.2.2.2.2.2.2.2.2.2.2.2.1,.sl (.num .i64) (.may false) c.2.2.2.2.2.2.2.2.2.2.2.2.2],none,none])))))) (
              some (.int .i64 d.1,[some [.mp .sn c.1],some [.ul .atype c.2.1,.mr 0,.int .i64 c.2.2.1,.int .i64 c.2.2.2.1],some [.str e.2.2.2.2.2],some [.int .i64 c.2.2.2.2.1,.str c.2.2.2.2.2.1,.sl .str (.may false) c.2.2.2.2.2.2.1,.int .i64 c.2.2.2.2.2.2.2.1,.sl .str (.may false) c.2.2.2.2.2.2.2.2.1,.bool c.2.2.2.2.2.2.2.2.2.1,.str c.2.2.2.2.2.2.2.2.2.2.1,.int .i64 c.2.2.2.2.2.2.2.2.2.2.2.1,.sl .afield .own c.2.2.2.2.2.2.2.2.2.2.2.2.1,.sl (.num .i64) (.may false) c.2.2.2.2.2.2.2.2.2.2.2.2.2]])))) (
            ae (b9 (reJ y) ([115,105,122,101]:Bs)) (λv=>
             ae (ag D d.2.2.1 d.2.2.2.1 d.2.2.2.2 (!(v.1.kind==3)) 2) (λt=>
              cond (decide (v.1.n<0)) (
               ae (ag t.1 t.2.1 t.2.2.1 t.2.2.2 true 6) (λm=>
                let J:=(if v.1.n<0 then 0 else v.1.n)
                let B:=(if 5000<J then 5000 else J)
                cond (m.2.2.1==0) (
                 chk (decide (0<Aa m.2.1)) (
                  chk ((decide (0<=d.1)&&decide (d.1<↑(Aa m.2.1)))) (
                   chk (decide ((Ag d.1)<Aa m.2.1)) (
                    let X:=(Bg m.2.1 (Ag d.1) ⟨q,h.1,e.1,0,([]:Bss),false,([]:Bs),B,([]:List aq),([]:List Int)⟩)
                    chk (Av (Aa m.2.1) (Aa X)) (
                     some (.int .i64 d.1,[some [.mp .sn m.1],some [.ul .atype X,.mr 0,.int .i64 m.2.2.1,.int .i64 m.2.2.2],some [.str e.2.2.2.2.2],some [.int .i64 q,.str h.1,.sl .str (.may false) e.1,.int .i64 0,.sl .str (.may false) ([]:Bss),.bool false,.str ([]:Bs),.int .i64 B,.sl .afield .own ([]:List aq),.sl (.num .i64) (.may false) ([]:List Int)],none,none])))))) (
                 some (.int .i64 d.1,[some [.mp .sn m.1],some [.ul .atype m.2.1,.mr 0,.int .i64 m.2.2.1,.int .i64 m.2.2.2],some [.str e.2.2.2.2.2],some [.int .i64 q,.str h.1,.sl .str (.may false) e.1,.int .i64 0,.sl .str (.may false) ([]:Bss),.bool false,.str ([]:Bs),.int .i64 B,.sl .afield .own ([]:List aq),.sl (.num .i64) (.may false) ([]:List Int)]])))) (
               ae (ag t.1 t.2.1 t.2.2.1 t.2.2.2 (decide (5000<v.1.n)) 6) (λo=>
                let R:=(if v.1.n<0 then 0 else v.1.n)
                let C:=(if 5000<R then 5000 else R)
                cond (o.2.2.1==0) (
                 chk (decide (0<Aa o.2.1)) (
                  chk ((decide (0<=d.1)&&decide (d.1<↑(Aa o.2.1)))) (
                   chk (decide ((Ag d.1)<Aa o.2.1)) (
                    let W:=(Bg o.2.1 (Ag d.1) ⟨q,h.1,e.1,0,([]:Bss),false,([]:Bs),C,([]:List aq),([]:List Int)⟩)
                    chk (Av (Aa o.2.1) (Aa W)) (
                     some (.int .i64 d.1,[some [.mp .sn o.1],some [.ul .atype W,.mr 0,.int .i64 o.2.2.1,.int .i64 o.2.2.2],some [.str e.2.2.2.2.2],some [.int .i64 q,.str h.1,.sl .str (.may false) e.1,.int .i64 0,.sl .str (.may false) ([]:Bss),.bool false,.str ([]:Bs),.int .i64 C,.sl .afield .own ([]:List aq),.sl (.num .i64) (.may false) ([]:List Int)],none,none])))))) (
                 some (.int .i64 d.1,[some [.mp .sn o.1],some [.ul .atype o.2.1,.mr 0,.int .i64 o.2.2.1,.int .i64 o.2.2.2],some [.str e.2.2.2.2.2],some [.int .i64 q,.str h.1,.sl .str (.may false) e.1,.int .i64 0,.sl .str (.may false) ([]:Bss),.bool false,.str ([]:Bs),.int .i64 C,.sl .afield .own ([]:List aq),.sl (.num .i64) (.may false) ([]:List Int)]])))))))))))))))))
def qW(N:Nat)(d:List (Bs×Int))(b:List ab)(c a:Int)(g:aa)(e:Int)(f:Bs):Ro:=qV N d b c a g e f
theorem xD(N:Nat)(d:List (Bs×Int))(b:List ab)(c a:Int)(t:aa)(o:Int)(p:Bs)(h:Tot (qW N d b c a t o p) (λz=>∃(k:Int)(g:List (Bs×Int))(i:List ab)(m:Int)(j:Int)(rest:List ah),z.1.dimR=.int .i64 k∧z.2=some [.mp .sn g]::some [.ul .atype i,.mr 0,.int .i64 m,.int .i64 j]::rest∧pd d b c a t o p (k,g,i,m,j))):∃r,dj d b c a t o p r:=FnK.finO (css:=[[.mp .sn d],[.ul .atype b,.mr 0,.int .i64 c,.int .i64 a]]) yT (N:=N) (by kernel_rfl) h λ_ ⟨k,g,i,m,j,_,e,f,q⟩=>⟨(k,g,i,m,j),e,⟨_,f⟩,q⟩
noncomputable def c6:am:=ge (P:=Tryd.prog) 2 [vG,lL] [] [] [] [ia]
def ep:IR:=Rs [Bi 22 .lss 21 20] (Sq (Cn 22 .skip (.exit 0)) (Sq (.block 1 (Rs [Ix 23 .str 19 21,Lq 24 23,Mv 10 24] (Rs [Mv 25 0,Nk 26 25,Fa 27 2 26,Lo 28 27,Bc 29 .eql 28 0] (Cn 29 (Rg [Pp (.mov 30 (.tk 6)),Mv 31 2,Mv 32 10,Pp (.dcall (some 33) 119 (.t 31) [.t 32]),Pp (.bsl 34 .str [33] true),Pp (.app 35 .str (.tk 30) 34),Pp (.mov 6 (.tk 35))]) .skip)))) (Rg [Bc 36 .add 21 1,Mv 21 36])))
def ef:IR:=Rs [Pp (.mov 37 (.tk 6)),Pp (.mov 6 (.tk 37))] .ret
def kH:IR:=Rs [Bx 4 1,Pp (.mov 6 (.c (nl .str)))] (Sq (Rs [Ld 12 5 true 4,Ca 13 99 [12,kS [97,108,105,97,115,101,115]],Mv 11 13,Ex_ 14 0 11,Ex_ 15 1 11,Pp (.alr 7 5),Fz 7 5 14,Mv 8 15] (Rs [Mv 16 8] (Cn 16 (Rs [Mv 17 0,Ld 18 5 true 7,Ca 19 140 [17,18],Ll 20 19,Mi 21 0] (.block 0 (.loop [0,2,6,19,20,21,1000000] 3 ep))) .skip))) ef)
def eW:List RV:=[.t 6]
theorem kJ:FnC Tryd.prog c6 [119,140,2000119,2000140] 3 fv Tryd.f118 kH eW:=kR Tryd.func118
def ku(R:IR->(Ex->St->Ro)->St->Ro)(a:St->Ro):Ex->St->Ro:=(dv a [0,2,6,19,20,21,1000000] 3 (aQ 0 (cj (R ef) (fin eW))))
abbrev bL:Type:=(Bss×Bss×Int×Int×List (Bs×Int)×List ab×Int×Int×Bs)
def bH(x:bL):St:={env:=(.ptr 1 0::.undef::.fn 119 [.ea [.ptr 1 0],.ptr 2 0]::(U 3 (.sl .str .own x.1::(U 12 (.sl .str (.may false) x.2.1::.int .i64 x.2.2.1::.int .i64 x.2.2.2.1::(U 16 [])))))),hp:=[some [.mp .sn x.2.2.2.2.1],some [.ul .atype x.2.2.2.2.2.1,.mr 0,.int .i64 x.2.2.2.2.2.2.1,.int .i64 x.2.2.2.2.2.2.2.1],some [.str x.2.2.2.2.2.2.2.2]]}
def cN(N:Nat):(St->Ro)->St->Ro:=λa s=>run c6 N ep (ku (run c6 N) a) s
def bM(N:Nat)(b:bL->Ro)(x:bL):Ro:=
 let k:Bss:=x.1;let h:Bss:=x.2.1;let i:Int:=x.2.2.1;let d:Int:=x.2.2.2.1;let f:List (Bs×Int):=x.2.2.2.2.1;let e:List ab:=x.2.2.2.2.2.1;let a:Int:=x.2.2.2.2.2.2.1;let c:Int:=x.2.2.2.2.2.2.2.1;let g:Bs:=x.2.2.2.2.2.2.2.2
 cond (decide (d<i)) (
  chk (ixl d h) (
   let p:=Aq h (Ag d) (ao .str)
   cond (a==0) (
    ae (fx f e a c g p) (λj=>
     chk (decide ((Aa k+Aa ([j.1]:Bss))*16<=140737488355328)) (
      let o:=(k++([j.1]:Bss))
      let m:=(Ao .i64 (d+1))
      b (o,h,i,m,j.2.1,j.2.2.1,j.2.2.2.1,j.2.2.2.2.1,j.2.2.2.2.2)))) (
    let q:=(Ao .i64 (d+1))
    b (k,h,i,q,f,e,a,c,g)))) (
  some (.sl .str .own k,[some [.mp .sn f],some [.ul .atype e,.mr 0,.int .i64 a,.int .i64 c],some [.str g]]))
theorem j5(N:Nat):LB (cN N) bH (bM N):=λ_ _=>by kernel_rfl
def bi(N:Nat)(d:List (Bs×Int))(b:List ab)(c a:Int)(e:Bs)(j:aa)(i:bL->Ro):Ro:=
 ae (b9 (reJ j) ([97,108,105,97,115,101,115]:Bs)) (λg=>
  cond g.2 (
   ae (dn d b c a (reJ g.1)) (λf=>
    let h:=(↑(Aa f.1):Int)
    i (([]:Bss),f.1,h,0,f.2.1,f.2.2.1,f.2.2.2.1,f.2.2.2.2,e))) (
   some (.sl .str .own ([]:Bss),[some [.mp .sn d],some [.ul .atype b,.mr 0,.int .i64 c,.int .i64 a],some [.str e]])))
def eX(N:Nat)(d:List (Bs×Int))(c:List ab)(b a:Int)(e:Bs)(f:aa):Ro:=bi N d c b a e f (λz=>b8 N (bM N) z)
theorem kv(N:Nat)(g:List (Bs×Int))(c:List ab)(d a:Int)(i:Bs)(j:aa)(h:Tot (eX N g c d a i j) (λz=>∃(t:Bss)(k:List (Bs×Int))(m:List ab)(u:Int)(o:Int)(p:Bs)(rest:List ah),z.1.dimR=.sl .str (.may false) t∧z.2=some [.mp .sn k]::some [.ul .atype m,.mr 0,.int .i64 u,.int .i64 o]::some [.str p]::rest∧eo g c d a i j (t,k,m,u,o,p))):∃r,aZ g c d a i j r:=FnK.finO (css:=[[.mp .sn g],[.ul .atype c,.mr 0,.int .i64 d,.int .i64 a],[.str i]]) kJ (N:=N) ((gb _ (by kernel_rfl) rfl (λC=>bi N g c d a i j (λz=>C 1000000 (bH z))) (λC=>by kernel_rfl)).trans (BB (b:=bi N g c d a i j (λz=>bP N (cN N) (bH z))) (by kernel_rfl) (congrArg (bi N g c d a i j) (funext λz=>cL (bH) (cN N) (bM N) (j5 N) N z)))) h λ_ ⟨t,k,m,u,o,p,_,e,f,q⟩=>⟨(t,k,m,u,o,p),e,⟨_,f⟩,q⟩
noncomputable def cO:am:=ge (P:=Tryd.prog) 2 [lL,tz] [] [] [] [ia]
def dY:IR:=Rs [Bi 22 .lss 21 20] (Sq (Cn 22 .skip (.exit 0)) (Sq (.block 1 (Rs [Ix 23 .str 19 21,Lq 24 23,Mv 10 24] (Rs [Mv 25 0,Nk 26 25,Fa 27 2 26,Lo 28 27,Bc 29 .eql 28 0] (Cn 29 (Rg [Pp (.mov 30 (.tk 6)),Mv 31 2,Mv 32 10,Pp (.dcall (some 33) 150 (.t 31) [.t 32]),Pp (.bsl 34 .str [33] true),Pp (.app 35 .str (.tk 30) 34),Pp (.mov 6 (.tk 35))]) .skip)))) (Rg [Bc 36 .add 21 1,Mv 21 36])))
def dS:IR:=Rs [Pp (.mov 37 (.tk 6)),Pp (.mov 6 (.tk 37))] .ret
def j6:IR:=Rs [Bx 4 1,Pp (.mov 6 (.c (nl .str)))] (Sq (Rs [Ld 12 5 true 4,Ca 13 99 [12,kS [97,108,105,97,115,101,115]],Mv 11 13,Ex_ 14 0 11,Ex_ 15 1 11,Pp (.alr 7 5),Fz 7 5 14,Mv 8 15] (Rs [Mv 16 8] (Cn 16 (Rs [Mv 17 0,Ld 18 5 true 7,Ca 19 140 [17,18],Ll 20 19,Mi 21 0] (.block 0 (.loop [0,2,6,19,20,21,1000000] 2 dY))) .skip))) dS)
def eq:List RV:=[.t 6]
theorem j7:FnC Tryd.prog cO [140,150,2000140,2000150] 2 eI Tryd.f118 j6 eq:=kR Tryd.func118
def jT(R:IR->(Ex->St->Ro)->St->Ro)(a:St->Ro):Ex->St->Ro:=(dv a [0,2,6,19,20,21,1000000] 2 (aQ 0 (cj (R dS) (fin eq))))
abbrev bB:Type:=(Bss×Bss×Int×Int×List (Bs×Int)×List ab×Int×Int)
def bw(x:bB):St:={env:=(.ptr 1 0::.undef::.fn 150 [.ea [.ptr 1 0]]::(U 3 (.sl .str .own x.1::(U 12 (.sl .str (.may false) x.2.1::.int .i64 x.2.2.1::.int .i64 x.2.2.2.1::(U 16 [])))))),hp:=[some [.mp .sn x.2.2.2.2.1],some [.ul .atype x.2.2.2.2.2.1,.mr 0,.int .i64 x.2.2.2.2.2.2.1,.int .i64 x.2.2.2.2.2.2.2]]}
def cr(N:Nat):(St->Ro)->St->Ro:=λa s=>run cO N dY (jT (run cO N) a) s
def bC(N:Nat)(b:bB->Ro)(x:bB):Ro:=
 let j:Bss:=x.1;let g:Bss:=x.2.1;let h:Int:=x.2.2.1;let d:Int:=x.2.2.2.1;let f:List (Bs×Int):=x.2.2.2.2.1;let e:List ab:=x.2.2.2.2.2.1;let a:Int:=x.2.2.2.2.2.2.1;let c:Int:=x.2.2.2.2.2.2.2
 cond (decide (d<h)) (
  chk (ixl d g) (
   let o:=Aq g (Ag d) (ao .str)
   cond (a==0) (
    ae (ec f e a c o) (λi=>
     chk (decide ((Aa j+Aa ([i.1]:Bss))*16<=140737488355328)) (
      let m:=(j++([i.1]:Bss))
      let k:=(Ao .i64 (d+1))
      b (m,g,h,k,i.2.1,i.2.2.1,i.2.2.2.1,i.2.2.2.2)))) (
    let p:=(Ao .i64 (d+1))
    b (j,g,h,p,f,e,a,c)))) (
  some (.sl .str .own j,[some [.mp .sn f],some [.ul .atype e,.mr 0,.int .i64 a,.int .i64 c]]))
theorem jy(N:Nat):LB (cr N) bw (bC N):=λ_ _=>by kernel_rfl
def bc(N:Nat)(d:List (Bs×Int))(b:List ab)(c a:Int)(i:aa)(h:bB->Ro):Ro:=
 ae (b9 (reJ i) ([97,108,105,97,115,101,115]:Bs)) (λf=>
  cond f.2 (
   ae (dn d b c a (reJ f.1)) (λe=>
    let g:=(↑(Aa e.1):Int)
    h (([]:Bss),e.1,g,0,e.2.1,e.2.2.1,e.2.2.2.1,e.2.2.2.2))) (
   some (.sl .str .own ([]:Bss),[some [.mp .sn d],some [.ul .atype b,.mr 0,.int .i64 c,.int .i64 a]])))
def eu(N:Nat)(d:List (Bs×Int))(b:List ab)(c a:Int)(e:aa):Ro:=bc N d b c a e (λz=>b8 N (bC N) z)
theorem jU(N:Nat)(g:List (Bs×Int))(c:List ab)(d a:Int)(i:aa)(h:Tot (eu N g c d a i) (λz=>∃(o:Bss)(j:List (Bs×Int))(k:List ab)(p:Int)(m:Int)(rest:List ah),z.1.dimR=.sl .str (.may false) o∧z.2=some [.mp .sn j]::some [.ul .atype k,.mr 0,.int .i64 p,.int .i64 m]::rest∧dX g c d a i (o,j,k,p,m))):∃r,bg g c d a i r:=FnK.finO (css:=[[.mp .sn g],[.ul .atype c,.mr 0,.int .i64 d,.int .i64 a]]) j7 (N:=N) ((gb _ (by kernel_rfl) rfl (λC=>bc N g c d a i (λz=>C 1000000 (bw z))) (λC=>by kernel_rfl)).trans (BB (b:=bc N g c d a i (λz=>bP N (cr N) (bw z))) (by kernel_rfl) (congrArg (bc N g c d a i) (funext λz=>cL (bw) (cr N) (bC N) (jy N) N z)))) h λ_ ⟨o,j,k,p,m,_,e,f,q⟩=>⟨(o,j,k,p,m),e,⟨_,f⟩,q⟩
noncomputable def kV:am:=ge (P:=Tryd.prog) 2 [aW,xz] [] [] [] [ia]
def mH:IR:=Rs [Bi 34 .lss 33 32] (Sq (Cn 34 .skip (.exit 0)) (Sq (.block 1 (Rs [Ix 35 .jnode 31 33,Ld 36 5 true 35,Pp (.alr 12 5),Fz 12 5 36] (Rs [Mv 37 0,Nk 38 37,Fa 39 2 38,Lo 40 39,Bc 41 .eql 40 0] (Cn 41 (.reg [Mv 42 2,Mv 43 2,Nk 44 43,Fa 45 8 44,Fo [] [2] (.ld 46 1 false true 45),Mv 47 0,Ld 48 5 true 12,Mv 49 10,Mv 50 3,Fo [] [0,1,3] (.call 51 141 [47,48,49,50]),Pp (.bsl 52 .afield [51] true),Pp (.app 53 .afield (.tk 46) 52),Nk 54 42,Fa 55 8 54,Fo [] [2] (.st none 1 55 (.tk 53))] [[],[],[1],[1,2],[1,2,3],[],[],[],[],rg 5 8,rg 5 9,rg 1 10,rg 0 11,rg 0 12,rg 0 13]) .skip)))) (Rg [Bc 56 .add 33 1,Mv 33 56])))
def uA:IR:=Rs [Bx 5 1] (Rs [Ld 14 5 true 5,Ca 15 99 [14,kS [102,105,101,108,100,115]],Mv 13 15,Ex_ 16 0 13,Ex_ 17 1 13,Pp (.alr 8 5),Fz 8 5 16,Mv 9 17] (Rs [Mv 18 0,Fa 19 0 8,Lq 20 19,Bc 21 .neq 20 5,Ca 22 68 [18,21,kI 2]] (Rs [Mv 23 0,Fa 24 3 8,Lq 25 24,Ll 26 25,Bc 27 .gtr 26 30,Ca 28 68 [23,27,kI 3]] (Rs [Pp (.mkm 29 .sb),Mv 10 29] (Rs [Fa 30 3 8,Lq 31 30,Ll 32 31,Mi 33 0] (.block 0 (.loop [0,2,3,10,31,32,33,1000000] 4 mH)))))))
def oF:List RV:=[]
theorem uB:FnC Tryd.prog kV [68,141,2000068,2000141] 3 pg Tryd.f120 uA oF:=kR Tryd.func120
def tD(R:IR->(Ex->St->Ro)->St->Ro)(a:St->Ro):Ex->St->Ro:=(dv a [0,2,3,10,31,32,33,1000000] 4 (aQ 0 (fin oF)))
abbrev gJ:Type:=(Bs×List aa×Int×Int×List (Bs×Int)×List ab×Int×Int×Int×Bs×Bss×Int×Bss×Bool×Bs×Int×List aq×List Int×List (Bs×Bool))
def fX(x:gJ):St:={env:=(.ptr 1 0::.undef::.ptr 2 0::.str x.1::(U 6 (.mr 3::(U 20 (.sl .jnode (.may false) x.2.1::.int .i64 x.2.2.1::.int .i64 x.2.2.2.1::(U 23 [])))))),hp:=[some [.mp .sn x.2.2.2.2.1],some [.ul .atype x.2.2.2.2.2.1,.mr 0,.int .i64 x.2.2.2.2.2.2.1,.int .i64 x.2.2.2.2.2.2.2.1],some [.int .i64 x.2.2.2.2.2.2.2.2.1,.str x.2.2.2.2.2.2.2.2.2.1,.sl .str (.may false) x.2.2.2.2.2.2.2.2.2.2.1,.int .i64 x.2.2.2.2.2.2.2.2.2.2.2.1,.sl .str (.may false) x.2.2.2.2.2.2.2.2.2.2.2.2.1,.bool x.2.2.2.2.2.2.2.2.2.2.2.2.2.1,.str x.2.2.2.2.2.2.2.2.2.2.2.2.2.2.1,.int .i64 x.2.2.2.2.2.2.2.2.2.2.2.2.2.2.2.1,.sl .afield .own x.2.2.2.2.2.2.2.2.2.2.2.2.2.2.2.2.1,.sl (.num .i64) (.may false) x.2.2.2.2.2.2.2.2.2.2.2.2.2.2.2.2.2.1],some [.mp .sb x.2.2.2.2.2.2.2.2.2.2.2.2.2.2.2.2.2.2]]}
def jV(N:Nat):(St->Ro)->St->Ro:=λa s=>run kV N mH (tD (run kV N) a) s
def gK(N:Nat)(c:gJ->Ro)(x:gJ):Ro:=
 let y:Bs:=x.1;let u:List aa:=x.2.1;let v:Int:=x.2.2.1;let q:Int:=x.2.2.2.1;let g:List (Bs×Int):=x.2.2.2.2.1;let e:List ab:=x.2.2.2.2.2.1;let b:Int:=x.2.2.2.2.2.2.1;let m:Int:=x.2.2.2.2.2.2.2.1;let i:Int:=x.2.2.2.2.2.2.2.2.1;let t:Bs:=x.2.2.2.2.2.2.2.2.2.1;let o:Bss:=x.2.2.2.2.2.2.2.2.2.2.1;let h:Int:=x.2.2.2.2.2.2.2.2.2.2.2.1;let d:Bss:=x.2.2.2.2.2.2.2.2.2.2.2.2.1;let r:Bool:=x.2.2.2.2.2.2.2.2.2.2.2.2.2.1;let f:Bs:=x.2.2.2.2.2.2.2.2.2.2.2.2.2.2.1;let k:Int:=x.2.2.2.2.2.2.2.2.2.2.2.2.2.2.2.1;let a:List aq:=x.2.2.2.2.2.2.2.2.2.2.2.2.2.2.2.2.1;let p:List Int:=x.2.2.2.2.2.2.2.2.2.2.2.2.2.2.2.2.2.1;let j:List (Bs×Bool):=x.2.2.2.2.2.2.2.2.2.2.2.2.2.2.2.2.2.2
 cond (decide (q<v)) (
  chk (ixl q u) (
   let A:=(Aq u (Ag q) (ao .jnode))
   cond (b==0) (
    ae (gj g e b m j (reJ A) y) (λw=>
     chk (decide ((Aa a+Aa ([(reF w.1)]:List aq))*136<=140737488355328)) (
      let z:=(a++([(reF w.1)]:List aq))
      let B:=(Ao .i64 (q+1))
      c (y,u,v,B,w.2.1,w.2.2.1,w.2.2.2.1,w.2.2.2.2.1,i,t,o,h,d,r,f,k,z,p,w.2.2.2.2.2)))) (
    let C:=(Ao .i64 (q+1))
    c (y,u,v,C,g,e,b,m,i,t,o,h,d,r,f,k,a,p,j)))) (
  some (.tup [],[some [.mp .sn g],some [.ul .atype e,.mr 0,.int .i64 b,.int .i64 m],some [.int .i64 i,.str t,.sl .str (.may false) o,.int .i64 h,.sl .str (.may false) d,.bool r,.str f,.int .i64 k,.sl .afield .own a,.sl (.num .i64) (.may false) p],some [.mp .sb j]]))
theorem sS(N:Nat):LB (jV N) fX (gK N):=λ_ _=>by kernel_rfl
def eM(N:Nat)(f:List (Bs×Int))(d:List ab)(c j h:Int)(p:Bs)(k:Bss)(g:Int)(a:Bss)(o:Bool)(e:Bs)(i:Int)(b:List aq)(m:List Int)(y:aa)(x:Bs)(v:gJ->Ro):Ro:=
 ae (b9 (reJ y) ([102,105,101,108,100,115]:Bs)) (λq=>
  ae (ag f d c j (!(q.1.kind==5)) 2) (λr=>
   let u:=(↑(Aa q.1.l):Int)
   ae (ag r.1 r.2.1 r.2.2.1 r.2.2.2 (decide (30<u)) 3) (λt=>
    let w:=(↑(Aa q.1.l):Int)
    v (x,q.1.l,w,0,t.1,t.2.1,t.2.2.1,t.2.2.2,h,p,k,g,a,o,e,i,b,m,([]:List (Bs×Bool))))))
def oG(N:Nat)(i:List (Bs×Int))(h:List ab)(g a o:Int)(k:Bs)(e:Bss)(m:Int)(b:Bss)(j:Bool)(p:Bs)(c:Int)(d:List aq)(f:List Int)(r:aa)(q:Bs):Ro:=eM N i h g a o k e m b j p c d f r q (λz=>b8 N (gK N) z)
theorem tE(N:Nat)(j:List (Bs×Int))(g:List ab)(d p m:Int)(w:Bs)(t:Bss)(k:Int)(a:Bss)(v:Bool)(i:Bs)(o:Int)(c:List aq)(u:List Int)(E:aa)(D:Bs)(h:Tot (oG N j g d p m w t k a v i o c u E D) (λz=>∃(Q:List (Bs×Int))(J:List ab)(H:Int)(I:Int)(M:Int)(L:Bs)(P:Bss)(F:Int)(O:Bss)(G:Bool)(y:Bs)(x:Int)(B:List aq)(A:List Int)(rest:List ah),z.1.dimR=.tup []∧z.2=some [.mp .sn Q]::some [.ul .atype J,.mr 0,.int .i64 H,.int .i64 I]::some [.int .i64 M,.str L,.sl .str (.may false) P,.int .i64 F,.sl .str (.may false) O,.bool G,.str y,.int .i64 x,.sl .afield .own B,.sl (.num .i64) (.may false) A]::rest∧jl j g d p m w t k a v i o c u E D (Q,J,H,I,M,L,P,F,O,G,y,x,B,A))):∃r,dP j g d p m w t k a v i o c u E D r:=FnK.finO (css:=[[.mp .sn j],[.ul .atype g,.mr 0,.int .i64 d,.int .i64 p],[.int .i64 m,.str w,.sl .str (.may false) t,.int .i64 k,.sl .str (.may false) a,.bool v,.str i,.int .i64 o,.sl .afield .own c,.sl (.num .i64) (.may false) u]]) uB (N:=N) ((gb _ (by kernel_rfl) rfl (λC=>eM N j g d p m w t k a v i o c u E D (λz=>C 1000000 (fX z))) (λC=>by kernel_rfl)).trans (BB (b:=eM N j g d p m w t k a v i o c u E D (λz=>bP N (jV N) (fX z))) (by kernel_rfl) (congrArg (eM N j g d p m w t k a v i o c u E D) (funext λz=>cL (fX) (jV N) (gK N) (sS N) N z)))) h λ_ ⟨Q,J,H,I,M,L,P,F,O,G,y,x,B,A,_,e,f,q⟩=>⟨(Q,J,H,I,M,L,P,F,O,G,y,x,B,A),e,⟨_,f⟩,q⟩
noncomputable def kw:am:=ge (P:=Tryd.prog) 2 [aW,lL] [] [] [] [ia,pT,nS]
def mo:IR:=Rs [Bi 49 .lss 48 47] (Sq (Cn 49 .skip (.exit 0)) (Sq (.block 1 (Rs [Mv 50 48,Ix 51 .str 46 48,Lq 52 51,Mv 8 50,Mv 9 52] (Rs [Mv 53 0,Mv 54 9,Ca 55 139 [54],Un 56 55,Ca 57 68 [53,56,kI 6]] (Rg [Mv 58 0,Mv 59 2,Nk 60 59,Fa 61 4 60,Lo 62 61,Mv 63 8,Pp (.subl 64 .str 62 none (some 63)),Mv 65 9,Ca 66 142 [64,65],Ca 67 68 [58,66,kI 5]])))) (Rg [Bc 68 .add 48 1,Mv 48 68])))
def lO:IR:=Rs [Ld 70 5 true 4,Ca 71 99 [70,kS [100,101,102,97,117,108,116]],Mv 69 71,Ex_ 72 0 69,Ex_ 73 1 69,Pp (.alr 10 5),Fz 10 5 72,Mv 11 73] (Rs [Mv 74 11] (Cn 74 (Rs [Mv 75 0,Fa 76 0 10,Lq 77 76,Bc 78 .neq 77 4,Ca 79 68 [75,78,kI 2]] (Sq (.reg [Mv 80 0,Mv 81 2,Nk 82 81,Fa 83 4 82,Fo [2] [] (.ld 84 1 false false 83),Fa 85 2 10,Lq 86 85,Ca 87 142 [84,86],Un 88 87,Fo [] [0,1] (.call 89 68 [80,88,kI 6])] [[],[],[1],[1,2],[1,2,3],[],[5],rg 1 6,rg 1 7,rg 0 8]) (.reg [Mv 90 2,Mv 91 2,Fa 92 2 10,Lq 93 92,Nk 94 90,Fa 95 5 94,Fo [] [2] (.st none 1 95 (kB true)),Nk 96 91,Fa 97 6 96,Fo [] [2] (.st none 1 97 93)] [[],[],[],[2],[0],[0,4],[0,4,5],rg 0 6,rg 0 7,rg 0 8]))) .skip))
def tF:IR:=Rs [Bx 4 1] (Rs [Ld 13 5 true 4,Ca 14 99 [13,kS [115,121,109,98,111,108,115]],Mv 12 14,Ex_ 15 0 12,Ex_ 16 1 12,Pp (.alr 6 5),Fz 6 5 15,Mv 7 16] (Rs [Mv 17 0,Mv 18 7,Un 19 18,Ca 20 68 [17,19,kI 2]] (Rs [Mv 21 2,Mv 22 0,Ld 23 5 true 6,Ca 24 140 [22,23],Nk 25 21,Fa 26 4 25,Sk 1 26 24] (Rs [Mv 27 0,Mv 28 2,Nk 29 28,Fa 30 4 29,Lo 31 30,Ll 32 31,Bc 33 .eql 32 0,Ca 34 68 [27,33,kI 6]] (Rs [Mv 35 0,Mv 36 2,Nk 37 36,Fa 38 4 37,Lo 39 38,Ll 40 39,Bc 41 .gtr 40 30,Ca 42 68 [35,41,kI 3]] (Sq (Rs [Mv 43 2,Nk 44 43,Fa 45 4 44,Lo 46 45,Ll 47 46,Mi 48 0] (.block 0 (.loop [0,2,4,46,47,48,1000000] 3 mo))) lO))))))
def nI:List RV:=[]
theorem tG:FnC Tryd.prog kw [68,140,2000068,2000140] 3 oz Tryd.f121 tF nI:=kR Tryd.func121
def sT(R:IR->(Ex->St->Ro)->St->Ro)(a:St->Ro):Ex->St->Ro:=(dv a [0,2,4,46,47,48,1000000] 3 (aQ 0 (cj (R lO) (fin nI))))
abbrev fY:Type:=(aa×Bss×Int×Int×List (Bs×Int)×List ab×Int×Int×Int×Bs×Bss×Int×Bss×Bool×Bs×Int×List aq×List Int)
def fg(x:fY):St:={env:=(.ptr 1 0::.undef::.ptr 2 0::.undef::.ea (enc .jnode x.1)::(U 41 (.sl .str (.may false) x.2.1::.int .i64 x.2.2.1::.int .i64 x.2.2.2.1::(U 49 [])))),hp:=[some [.mp .sn x.2.2.2.2.1],some [.ul .atype x.2.2.2.2.2.1,.mr 0,.int .i64 x.2.2.2.2.2.2.1,.int .i64 x.2.2.2.2.2.2.2.1],some [.int .i64 x.2.2.2.2.2.2.2.2.1,.str x.2.2.2.2.2.2.2.2.2.1,.sl .str (.may false) x.2.2.2.2.2.2.2.2.2.2.1,.int .i64 x.2.2.2.2.2.2.2.2.2.2.2.1,.sl .str (.may false) x.2.2.2.2.2.2.2.2.2.2.2.2.1,.bool x.2.2.2.2.2.2.2.2.2.2.2.2.2.1,.str x.2.2.2.2.2.2.2.2.2.2.2.2.2.2.1,.int .i64 x.2.2.2.2.2.2.2.2.2.2.2.2.2.2.2.1,.sl .afield .own x.2.2.2.2.2.2.2.2.2.2.2.2.2.2.2.2.1,.sl (.num .i64) (.may false) x.2.2.2.2.2.2.2.2.2.2.2.2.2.2.2.2.2]]}
def jo(N:Nat):(St->Ro)->St->Ro:=λa s=>run kw N mo (sT (run kw N) a) s
def fZ(N:Nat)(g:fY->Ro)(x:fY):Ro:=
 let D:aa:=x.1;let w:Bss:=x.2.1;let y:Int:=x.2.2.1;let b:Int:=x.2.2.2.1;let e:List (Bs×Int):=x.2.2.2.2.1;let d:List ab:=x.2.2.2.2.2.1;let c:Int:=x.2.2.2.2.2.2.1;let f:Int:=x.2.2.2.2.2.2.2.1;let p:Int:=x.2.2.2.2.2.2.2.2.1;let v:Bs:=x.2.2.2.2.2.2.2.2.2.1;let r:Bss:=x.2.2.2.2.2.2.2.2.2.2.1;let o:Int:=x.2.2.2.2.2.2.2.2.2.2.2.1;let a:Bss:=x.2.2.2.2.2.2.2.2.2.2.2.2.1;let u:Bool:=x.2.2.2.2.2.2.2.2.2.2.2.2.2.1;let m:Bs:=x.2.2.2.2.2.2.2.2.2.2.2.2.2.2.1;let q:Int:=x.2.2.2.2.2.2.2.2.2.2.2.2.2.2.2.1;let k:List aq:=x.2.2.2.2.2.2.2.2.2.2.2.2.2.2.2.2.1;let t:List Int:=x.2.2.2.2.2.2.2.2.2.2.2.2.2.2.2.2.2;let E:=λP H J Q F O=>(some (.tup [],[some [.mp .sn P],some [.ul .atype H,.mr 0,.int .i64 J,.int .i64 Q],some [.int .i64 p,.str v,.sl .str (.may false) r,.int .i64 o,.sl .str (.may false) a,.bool F,.str O,.int .i64 q,.sl .afield .own k,.sl (.num .i64) (.may false) t]]):Ro)
 cond (decide (b<y)) (
  chk (ixl b w) (
   let C:=Aq w (Ag b) (ao .str)
   ae (ix C) (λ(G:Bool)=>
    ae (ag e d c f (!G) 6) (λz=>
     chk ((decide (0<=b)&&decide (b<=(↑(Aa a):Int)))) (
      let L:=(A8 0 (A4 (Ag b) a))
      ae (bq L C) (λ(I:Bool)=>
       ae (ag z.1 z.2.1 z.2.2.1 z.2.2.2 I 5) (λA=>
        let M:=(Ao .i64 (b+1))
        g (D,w,y,M,A.1,A.2.1,A.2.2.1,A.2.2.2,p,v,r,o,a,u,m,q,k,t)))))))) (
  ae (b9 (reJ D) ([100,101,102,97,117,108,116]:Bs)) (λi=>
   cond i.2 (
    ae (ag e d c f (!(i.1.kind==4)) 2) (λj=>
     ae (bq a i.1.s) (λ(B:Bool)=>
      ae (ag j.1 j.2.1 j.2.2.1 j.2.2.2 (!B) 6) (λh=>
       E h.1 h.2.1 h.2.2.1 h.2.2.2 true i.1.s)))) (
    E e d c f u m)))
theorem se(N:Nat):LB (jo N) fg (fZ N):=λ_ _=>by kernel_rfl
def eg(N:Nat)(f:List (Bs×Int))(d:List ab)(c j h:Int)(p:Bs)(k:Bss)(g:Int)(u:Bss)(o:Bool)(e:Bs)(i:Int)(b:List aq)(m:List Int)(w:aa)(y:fY->Ro):Ro:=
 ae (b9 (reJ w) ([115,121,109,98,111,108,115]:Bs)) (λv=>
  ae (ag f d c j (!v.2) 2) (λr=>
   ae (dn r.1 r.2.1 r.2.2.1 r.2.2.2 (reJ v.1)) (λa=>
    let x:=(↑(Aa a.1):Int)
    ae (ag a.2.1 a.2.2.1 a.2.2.2.1 a.2.2.2.2 (x==0) 6) (λt=>
     let z:=(↑(Aa a.1):Int)
     ae (ag t.1 t.2.1 t.2.2.1 t.2.2.2 (decide (30<z)) 3) (λq=>
      let A:=(↑(Aa a.1):Int)
      y (w,a.1,A,0,q.1,q.2.1,q.2.2.1,q.2.2.2,h,p,k,g,a.1,o,e,i,b,m))))))
def nJ(N:Nat)(i:List (Bs×Int))(h:List ab)(g a o:Int)(k:Bs)(e:Bss)(m:Int)(b:Bss)(j:Bool)(p:Bs)(c:Int)(d:List aq)(f:List Int)(q:aa):Ro:=eg N i h g a o k e m b j p c d f q (λz=>b8 N (fZ N) z)
theorem sU(N:Nat)(j:List (Bs×Int))(g:List ab)(d p m:Int)(w:Bs)(t:Bss)(k:Int)(a:Bss)(v:Bool)(i:Bs)(o:Int)(c:List aq)(u:List Int)(D:aa)(h:Tot (nJ N j g d p m w t k a v i o c u D) (λz=>∃(P:List (Bs×Int))(I:List ab)(G:Int)(H:Int)(L:Int)(J:Bs)(O:Bss)(E:Int)(M:Bss)(F:Bool)(y:Bs)(x:Int)(B:List aq)(A:List Int)(rest:List ah),z.1.dimR=.tup []∧z.2=some [.mp .sn P]::some [.ul .atype I,.mr 0,.int .i64 G,.int .i64 H]::some [.int .i64 L,.str J,.sl .str (.may false) O,.int .i64 E,.sl .str (.may false) M,.bool F,.str y,.int .i64 x,.sl .afield .own B,.sl (.num .i64) (.may false) A]::rest∧mj j g d p m w t k a v i o c u D (P,I,G,H,L,J,O,E,M,F,y,x,B,A))):∃r,dB j g d p m w t k a v i o c u D r:=FnK.finO (css:=[[.mp .sn j],[.ul .atype g,.mr 0,.int .i64 d,.int .i64 p],[.int .i64 m,.str w,.sl .str (.may false) t,.int .i64 k,.sl .str (.may false) a,.bool v,.str i,.int .i64 o,.sl .afield .own c,.sl (.num .i64) (.may false) u]]) tG (N:=N) ((gb _ (by kernel_rfl) rfl (λC=>eg N j g d p m w t k a v i o c u D (λz=>C 1000000 (fg z))) (λC=>by kernel_rfl)).trans (BB (b:=eg N j g d p m w t k a v i o c u D (λz=>bP N (jo N) (fg z))) (by kernel_rfl) (congrArg (eg N j g d p m w t k a v i o c u D) (funext λz=>cL (fg) (jo N) (fZ N) (se N) N z)))) h λ_ ⟨P,I,G,H,L,J,O,E,M,F,y,x,B,A,_,e,f,q⟩=>⟨(P,I,G,H,L,J,O,E,M,F,y,x,B,A),e,⟨_,f⟩,q⟩
noncomputable def xE:am:=ge (P:=Tryd.prog) 2 [eR,aW,qS,kp] [] [] [] [ia,pT]
def vQ:IR:=Rs [Bx 4 0,Bx 5 1,Pp (.new 8 [vS,nl .str,vI 0,.bool false,vI 0,vI 0,vS,nl .jnode,nl .str])] (Rs [Lq 12 4,Fa 13 0 5,Lq 14 13,Bc 15 .neq 14 6,Ca 16 68 [12,15,kI 2]] (Rs [Lq 17 4,Ld 18 5 true 5,Ca 19 115 [17,18],Pp (.bld 20 [vS,nl .str,vI 0,.bool false,vI 0,vI 0,vS,nl .jnode,nl .str] [(0,1,19)]),Pp (.new 9 [vS,nl .str,vI 0,.bool false,vI 0,vI 0,vS,nl .jnode,nl .str]),Sv 9 9 20] (Sq (.reg [Lq 21 4,Fa 22 0 9,Fo [4] [] (.ld 23 1 false false 22),Ca 24 139 [23],Un 25 24,Fo [] [0,1] (.call 26 68 [21,25,kI 6])] [[],[],[1],[1,2],[1,2,3],rg 0 4]) (Rs [Lq 27 4,Mv 28 2,Fa 29 0 9,Lo 30 29,Pp (.mget 31 .sb false (.t 28) (.t 30)),Ca 32 68 [27,31,kI 5]] (Rs [Mv 33 2,Fa 34 0 9,Lo 35 34,Pp (.mput none .sb (.t 33) (.t 35) (.c (.bool true)))] (Rs [Ld 37 5 true 5,Ca 38 99 [37,kS [116,121,112,101]],Mv 36 38,Ex_ 39 0 36,Ex_ 40 1 36,Pp (.alr 10 5),Fz 10 5 39,Mv 11 40] (Rs [Lq 41 4,Mv 42 11,Un 43 42,Ca 44 68 [41,43,kI 2]] (Rs [Lq 45 4,Ld 46 5 true 10,Mv 47 3,Ca 48 35 [45,46,47],Fa 49 2 9,Sv 1 49 48] (Rs [Ld 51 5 true 5,Ca 52 99 [51,kS [100,101,102,97,117,108,116]],Mv 50 52,Ex_ 53 0 50,Ex_ 54 1 50,Fa 55 4 9,Sv 5 55 53,Fa 56 3 9,Sv 1 56 54] (Rs [Lq 57 4,Ld 58 5 true 5,Pp (.mkf 59 150 [.t 4]),Ca 60 118 [57,58,59],Fa 61 1 9,Sk 1 61 60] (Rs [Pp (.ld 62 9 true false 9),Sv 9 8 62] .ret)))))))))))
def vR:List RV:=[.cell 8 9 true]
theorem vU:FnC Tryd.prog xE [35,68,115,118,2000035,2000068,2000115,2000118] 3 p8 Tryd.f141 vQ vR:=kR Tryd.func141
def pi(N:Nat)(h:List (Bs×Int))(f:List ab)(g j:Int)(d:List (Bs×Bool))(i:aa)(v:Bs):Ro:=
 ae (ag h f g j (!(i.kind==6)) 2) (λm=>
  ae (eT m.1 m.2.1 m.2.2.1 m.2.2.2 (reJ i)) (λc=>
   ae (ix c.1) (λ(w:Bool)=>
    ae (ag c.2.1 c.2.2.1 c.2.2.2.1 c.2.2.2.2 (!w) 6) (λq=>
     let t:=(iy (k:=.sb) d c.1)
     ae (ag q.1 q.2.1 q.2.2.1 q.2.2.2 t 5) (λo=>
      let u:=(bz (k:=.sb) d c.1 true)
      ae (b9 (reJ i) ([116,121,112,101]:Bs)) (λr=>
       ae (ag o.1 o.2.1 o.2.2.1 o.2.2.2 (!r.2) 2) (λp=>
        ae (bJ p.1 p.2.1 p.2.2.1 p.2.2.2 (reJ r.1) v) (λe=>
         ae (b9 (reJ i) ([100,101,102,97,117,108,116]:Bs)) (λa=>
          ae (bg e.2.1 e.2.2.1 e.2.2.2.1 e.2.2.2.2 (reJ i)) (λb=>
           some (.agg [.str c.1,.sl .str (.may false) b.1,.int .i64 e.1,.bool a.2,.int .i64 a.1.kind,.int .i64 a.1.n,.str a.1.s,.sl .jnode (.may false) a.1.l,.sl .str (.may false) a.1.names],[some [.mp .sn b.2.1],some [.ul .atype b.2.2.1,.mr 0,.int .i64 b.2.2.2.1,.int .i64 b.2.2.2.2],some [.mp .sb u],some [.str c.1,.sl .str (.may false) b.1,.int .i64 e.1,.bool a.2,.int .i64 a.1.kind,.int .i64 a.1.n,.str a.1.s,.sl .jnode (.may false) a.1.l,.sl .str (.may false) a.1.names],some [.str c.1,.sl .str (.may false) b.1,.int .i64 e.1,.bool a.2,.int .i64 a.1.kind,.int .i64 a.1.n,.str a.1.s,.sl .jnode (.may false) a.1.l,.sl .str (.may false) a.1.names]])))))))))))
def pj(N:Nat)(d:List (Bs×Int))(b:List ab)(c a:Int)(e:List (Bs×Bool))(g:aa)(f:Bs):Ro:=pi N d b c a e g f
theorem uC(N:Nat)(d:List (Bs×Int))(b:List ab)(c a:Int)(g:List (Bs×Bool))(u:aa)(t:Bs)(h:Tot (pj N d b c a g u t) (λz=>∃(o:aq)(i:List (Bs×Int))(j:List ab)(p:Int)(k:Int)(m:List (Bs×Bool))(rest:List ah),z.1.dimR=.agg (enc .afield o)∧z.2=some [.mp .sn i]::some [.ul .atype j,.mr 0,.int .i64 p,.int .i64 k]::some [.mp .sb m]::rest∧nF d b c a g u t (o,i,j,p,k,m))):∃r,gj d b c a g u t r:=FnK.finO (css:=[[.mp .sn d],[.ul .atype b,.mr 0,.int .i64 c,.int .i64 a],[.mp .sb g]]) vU (N:=N) (by kernel_rfl) h λ_ ⟨o,i,j,p,k,m,_,e,f,q⟩=>⟨(o,i,j,p,k,m),e,⟨_,f⟩,q⟩
noncomputable def xF:am:=ge (P:=Tryd.prog) 2 [eR,aW,kn] [] [] [] [ia]
def vV:IR:=Rs [Bx 6 1,Mi 10 0] (Rs [Mv 15 0,Mv 16 2,Pp (.bld 17 [vI 0,vS,fu .str true,vI 0,fu .str true,.bool false,vS,vI 0,fu .afield true,fu (.num .i64) true] [(0,1,16)]),Ca 18 97 [15,17],Mv 11 18] (Rs [Ld 20 5 true 6,Mv 21 3,Ca 22 99 [20,21],Mv 19 22,Ex_ 23 0 19,Ex_ 24 1 19,Pp (.alr 12 5),Fz 12 5 23,Mv 13 24] (Rs [Mv 25 0,Mv 26 13,Un 27 26,Ca 28 68 [25,27,kI 2]] (Sq (Rs [Mv 29 0,Ld 30 5 true 12,Mv 31 4,Ca 32 35 [29,30,31],Mv 14 32] (Rs [Mv 33 0,Nk 34 33,Fa 35 2 34,Lo 36 35,Bc 37 .eql 36 0] (Cn 37 (.gh (.opn (.cell 1 0)) (.ghp (.cls (.cell 1 0)) (Rg [Mv 38 0,Nk 39 38,Fa 40 0 39,Fa 41 0 40,Lo 42 41,Mv 43 11,Mv 44 14,Pp (.ixw 45 .atype 42 43),Pp (.fdw 46 3 45),Pp (.stw none 1 46 44)]))) .skip))) (Rs [Mv 47 11,Mv 10 47] .ret)))))
def vW:List RV:=[.t 10]
theorem vX:FnC Tryd.prog xF [35,68,97,2000035,2000068,2000097] 2 p9 Tryd.f101 vV vW:=kR Tryd.func101
def pm(N:Nat)(g:List (Bs×Int))(f:List ab)(e d:Int)(k:aa)(o:Int)(p m:Bs):Ro:=
 ae (bS g f e d ⟨o,([]:Bs),([]:Bss),0,([]:Bss),false,([]:Bs),0,([]:List aq),([]:List Int)⟩) (λb=>
  ae (b9 (reJ k) p) (λi=>
   ae (ag b.2.1 b.2.2.1 b.2.2.2.1 b.2.2.2.2 (!i.2) 2) (λh=>
    ae (bJ h.1 h.2.1 h.2.2.1 h.2.2.2 (reJ i.1) m) (λa=>
     cond (a.2.2.2.1==0) (
      chk (decide (0<Aa a.2.2.1)) (
       chk ((decide (0<=b.1)&&decide (b.1<↑(Aa a.2.2.1)))) (
        chk (decide ((Ag b.1)<Aa a.2.2.1)) (
         let j:=(Bg a.2.2.1 (Ag b.1) (let c:=Aq a.2.2.1 (Ag b.1) (ao .atype);⟨c.kind,c.name,c.aliases,a.1,c.syms,c.hasdef,c.df,c.size,c.fields,c.branches⟩))
         chk (Av (Aa a.2.2.1) (Aa j)) (
          some (.int .i64 b.1,[some [.mp .sn a.2.1],some [.ul .atype j,.mr 0,.int .i64 a.2.2.2.1,.int .i64 a.2.2.2.2],none,none])))))) (
      some (.int .i64 b.1,[some [.mp .sn a.2.1],some [.ul .atype a.2.2.1,.mr 0,.int .i64 a.2.2.2.1,.int .i64 a.2.2.2.2]]))))))
def pn(N:Nat)(d:List (Bs×Int))(c:List ab)(b a:Int)(h:aa)(f:Int)(g e:Bs):Ro:=pm N d c b a h f g e
theorem uD(N:Nat)(d:List (Bs×Int))(b:List ab)(c a:Int)(u:aa)(p:Int)(t o:Bs)(h:Tot (pn N d b c a u p t o) (λz=>∃(k:Int)(g:List (Bs×Int))(i:List ab)(m:Int)(j:Int)(rest:List ah),z.1.dimR=.int .i64 k∧z.2=some [.mp .sn g]::some [.ul .atype i,.mr 0,.int .i64 m,.int .i64 j]::rest∧nE d b c a u p t o (k,g,i,m,j))):∃r,dl d b c a u p t o r:=FnK.finO (css:=[[.mp .sn d],[.ul .atype b,.mr 0,.int .i64 c,.int .i64 a]]) vX (N:=N) (by kernel_rfl) h λ_ ⟨k,g,i,m,j,_,e,f,q⟩=>⟨(k,g,i,m,j),e,⟨_,f⟩,q⟩
noncomputable def xG:am:=ge (P:=Tryd.prog) 2 [eR,aW,qR,aaa,xu] [] [] [] [rO,dA,ia]
def vY:IR:=Rs [Bx 4 1,Mi 6 0] (Rs [Ld 10 5 true 4,Ca 11 99 [10,kS [116,121,112,101]],Mv 9 11,Ex_ 12 0 9,Ex_ 13 1 9,Pp (.alr 7 5),Fz 7 5 12,Mv 8 13] (Rs [Mv 14 0,Mv 15 8,Un 16 15,Ca 17 68 [14,16,kI 2]] (Sq (Rs [Fa 18 0 7,Lq 19 18,Bc 20 .neq 19 4] (Cn 20 (Rs [Mv 21 0,Ld 22 5 true 7,Mv 23 2,Ca 24 35 [21,22,23],Mv 6 24] .ret) .skip)) (Sq (Rs [Fa 25 2 7,Lq 26 25] (.block 0 (Sq (Rs [Pp (.bin 28 .eql 26 (kS [114,101,99,111,114,100])),Mv 27 28] (Cn 27 .skip (Rs [Pp (.bin 29 .eql 26 (kS [101,110,117,109])),Mv 27 29] (Cn 27 .skip (Rg [Pp (.bin 30 .eql 26 (kS [102,105,120,101,100])),Mv 27 30]))))) (Cn 27 (Sq (.reg [Mv 31 0,Ld 32 5 true 4,Ca 33 74 [],Fa 34 2 7,Lq 35 34,Ca 36 96 [33,35],Mv 37 2,Fo [] [0,1] (.call 38 100 [31,32,36,37]),Mv 6 38] [[],[],[],[],[3],[2,3,4],[],rg 0 6,rg 0 7]) .ret) (Rs [Pp (.bin 40 .eql 26 (kS [97,114,114,97,121])),Mv 39 40] (Cn 39 (Rs [Mv 41 0,Ld 42 5 true 4,Mv 43 2,Ca 44 101 [41,42,kI 12,kS [105,116,101,109,115],43],Mv 6 44] .ret) (Rs [Pp (.bin 46 .eql 26 (kS [109,97,112])),Mv 45 46] (Cn 45 (Rs [Mv 47 0,Ld 48 5 true 4,Mv 49 2,Ca 50 101 [47,48,kI 13,kS [118,97,108,117,101,115],49],Mv 6 50] .ret) .skip)))))))) (Rs [Mv 51 0,Fa 52 2 7,Lq 53 52,Mv 54 2,Ca 55 69 [51,53,54],Mv 6 55] .ret)))))
def vZ:List RV:=[.t 6]
theorem wa:FnC Tryd.prog xG [35,68,69,100,101,2000035,2000068,2000069,2000100,2000101] 2 qc Tryd.f71 vY vZ:=kR Tryd.func71
def po(N:Nat)(o:List (Bs×Int))(k:List ab)(j q:Int)(i:aa)(g:Bs):Ro:=
 let h:=λG B D I z=>(some (.int .i64 G,[some [.mp .sn B],some [.ul .atype D,.mr 0,.int .i64 I,.int .i64 z]]):Ro)
 ae (b9 (reJ i) ([116,121,112,101]:Bs)) (λb=>
  ae (ag o k j q (!b.2) 2) (λa=>
   cond (!(b.1.kind==4)) (
    ae (bJ a.1 a.2.1 a.2.2.1 a.2.2.2 (reJ b.1) g) (λr=>
     h r.1 r.2.1 r.2.2.1 r.2.2.2.1 r.2.2.2.2)) (
    let v:=decide (b.1.s=([114,101,99,111,114,100]:Bs))
    cond v (
     ae (dR) (λ(H:Bss)=>
      ae (aE H b.1.s) (λ(x:Int)=>
       ae (dj a.1 a.2.1 a.2.2.1 a.2.2.2 (reJ i) x g) (λm=>
        h m.1 m.2.1 m.2.2.1 m.2.2.2.1 m.2.2.2.2)))) (
     let y:=decide (b.1.s=([101,110,117,109]:Bs))
     cond y (
      ae (dR) (λ(F:Bss)=>
       ae (aE F b.1.s) (λ(C:Int)=>
        ae (dj a.1 a.2.1 a.2.2.1 a.2.2.2 (reJ i) C g) (λp=>
         h p.1 p.2.1 p.2.2.1 p.2.2.2.1 p.2.2.2.2)))) (
      let A:=decide (b.1.s=([102,105,120,101,100]:Bs))
      cond A (
       ae (dR) (λ(t:Bss)=>
        ae (aE t b.1.s) (λ(u:Int)=>
         ae (dj a.1 a.2.1 a.2.2.1 a.2.2.2 (reJ i) u g) (λc=>
          h c.1 c.2.1 c.2.2.1 c.2.2.2.1 c.2.2.2.2)))) (
       let w:=decide (b.1.s=([97,114,114,97,121]:Bs))
       cond w (
        ae (dl a.1 a.2.1 a.2.2.1 a.2.2.2 (reJ i) 12 ([105,116,101,109,115]:Bs) g) (λd=>
         h d.1 d.2.1 d.2.2.1 d.2.2.2.1 d.2.2.2.2)) (
        let E:=decide (b.1.s=([109,97,112]:Bs))
        cond E (
         ae (dl a.1 a.2.1 a.2.2.1 a.2.2.2 (reJ i) 13 ([118,97,108,117,101,115]:Bs) g) (λe=>
          h e.1 e.2.1 e.2.2.1 e.2.2.2.1 e.2.2.2.2)) (
         ae (eS a.1 a.2.1 a.2.2.1 a.2.2.2 b.1.s g) (λf=>
          h f.1 f.2.1 f.2.2.1 f.2.2.2.1 f.2.2.2.2)))))))))
def pp(N:Nat)(d:List (Bs×Int))(b:List ab)(c a:Int)(f:aa)(e:Bs):Ro:=po N d b c a f e
theorem uE(N:Nat)(d:List (Bs×Int))(b:List ab)(c a:Int)(p:aa)(o:Bs)(h:Tot (pp N d b c a p o) (λz=>∃(k:Int)(g:List (Bs×Int))(i:List ab)(m:Int)(j:Int)(rest:List ah),z.1.dimR=.int .i64 k∧z.2=some [.mp .sn g]::some [.ul .atype i,.mr 0,.int .i64 m,.int .i64 j]::rest∧gI d b c a p o (k,g,i,m,j))):∃r,gi d b c a p o r:=FnK.finO (css:=[[.mp .sn d],[.ul .atype b,.mr 0,.int .i64 c,.int .i64 a]]) wa (N:=N) (by kernel_rfl) h λ_ ⟨k,g,i,m,j,_,e,f,q⟩=>⟨(k,g,i,m,j),e,⟨_,f⟩,q⟩
noncomputable def lP:am:=ge (P:=Tryd.prog) 2 [eR,aW,kn] [] [] [22] [aaP]
def mI:IR:=Rs [Bi 34 .lss 33 32] (Sq (Cn 34 .skip (.exit 0)) (Sq (.block 1 (Rs [Ix 35 .jnode 31 33,Ld 36 5 true 35,Pp (.alr 11 5),Fz 11 5 36] (Sq (Rs [Mv 37 0,Nk 38 37,Fa 39 2 38,Lo 40 39,Bc 41 .neq 40 0] (Cn 41 (.exit 0) .skip)) (Rs [Mv 42 0,Ld 43 5 true 11,Mv 44 2,Ca 45 35 [42,43,44],Mv 12 45] (Sq (Rs [Mv 46 0,Nk 47 46,Fa 48 2 47,Lo 49 48,Bc 50 .neq 49 0] (Cn 50 (.exit 0) .skip)) (Sq (.gh (.opn (.cell 1 0)) (.ghp (.cls (.cell 1 0)) (Rg [Mv 51 0,Nk 52 51,Fa 53 0 52,Pp (.ld 54 1 true false 53),Mv 55 12,Ca 56 22 [54,55],Mv 13 56]))) (Sq (.rgs [([],[Mv 57 0,Mv 58 0,Nk 59 58,Fa 60 0 59,Fa 61 0 60]),([.opn (.cell 1 0)],[Pp (.ld 62 1 false false (.t 61)),Mv 63 12,Pp (.ixw 64 .atype (.t 62) (.t 63)),Pp (.fdw 65 0 (.t 64)),Pp (.ldw 66 1 false (.t 65))]),([.cls (.cell 1 0)],[Bc 67 .eql 66 14,Mv 68 67,Pg (68,false) (.mov 69 (.t 8)),Pg (68,false) (.mov 70 (.t 13)),Pg (68,false) (.mget 71 .sb false (.t 69) (.t 70)),Po 72 68 71,Pp (.call (some 73) 68 [.t 57,.t 72,.c (.int .i64 6)])])]) (Rs [Mv 74 8,Mv 75 13,Pp (.mput none .sb (.t 74) (.t 75) (.c (.bool true)))] (Rg [Pp (.mov 76 (.tk 9)),Mv 77 12,Pp (.bsl 78 (.num .i64) [77] true),Pp (.app 79 (.num .i64) (.tk 76) 78),Pp (.mov 9 (.tk 79))]))))))))) (Rg [Bc 80 .add 33 1,Mv 33 80])))
def mJ:IR:=Sq (Rs [Mv 81 0,Nk 82 81,Fa 83 2 82,Lo 84 83,Bc 85 .eql 84 0] (Cn 85 (.gh (.opn (.cell 1 0)) (.ghp (.cls (.cell 1 0)) (Rg [Mv 86 0,Nk 87 86,Fa 88 0 87,Fa 89 0 88,Lo 90 89,Mv 91 7,Mv 92 9,Pp (.ixw 93 .atype 90 91),Pp (.fdw 94 9 93),Pp (.stw none 1 94 92)]))) .skip)) (Rs [Mv 95 7,Mv 6 95] .ret)
def wb:IR:=Rs [Bx 4 1,Mi 6 0] (Rs [Mv 14 0,Pp (.bld 15 [vI 0,vS,fu .str true,vI 0,fu .str true,.bool false,vS,vI 0,fu .afield true,fu (.num .i64) true] [(0,1,kI 14)]),Ca 16 97 [14,15],Mv 7 16] (Rs [Mv 17 0,Fa 18 3 4,Lq 19 18,Ll 20 19,Bc 21 .eql 20 0,Ca 22 68 [17,21,kI 6]] (Rs [Mv 23 0,Fa 24 3 4,Lq 25 24,Ll 26 25,Bc 27 .gtr 26 30,Ca 28 68 [23,27,kI 3]] (Rs [Pp (.mkm 29 .sb),Mv 8 29] (Rs [Pp (.mov 9 (.c (nl (.num .i64))))] (Sq (Rs [Fa 30 3 4,Lq 31 30,Ll 32 31,Mi 33 0] (.block 0 (.loop [0,2,7,8,9,31,32,33,1000000] 3 mI))) mJ))))))
def pr:List RV:=[.t 6]
theorem wc:FnC Tryd.prog lP [35,68,97,22,2000022,2000035,2000068,2000097] 2 qe Tryd.f70 wb pr:=kR Tryd.func70
def uF(R:IR->(Ex->St->Ro)->St->Ro)(a:St->Ro):Ex->St->Ro:=(dv a [0,2,7,8,9,31,32,33,1000000] 3 (aQ 0 (cj (R mJ) (fin pr))))
abbrev ij:Type:=(Bs×Int×List Int×List aa×Int×Int×List (Bs×Int)×List ab×Int×Int×List (Bs×Bool))
def gL(x:ij):St:={env:=(.ptr 1 0::.undef::.str x.1::(U 4 (.int .i64 x.2.1::.mr 2::.sl (.num .i64) .own x.2.2.1::(U 21 (.sl .jnode (.may false) x.2.2.2.1::.int .i64 x.2.2.2.2.1::.int .i64 x.2.2.2.2.2.1::(U 62 [])))))),hp:=[some [.mp .sn x.2.2.2.2.2.2.1],some [.ul .atype x.2.2.2.2.2.2.2.1,.mr 0,.int .i64 x.2.2.2.2.2.2.2.2.1,.int .i64 x.2.2.2.2.2.2.2.2.2.1],some [.mp .sb x.2.2.2.2.2.2.2.2.2.2]]}
def kz(N:Nat):(St->Ro)->St->Ro:=λa s=>run lP N mI (uF (run lP N) a) s
def ik(N:Nat)(i:ij->Ro)(x:ij):Ro:=
 let B:Bs:=x.1;let e:Int:=x.2.1;let p:List Int:=x.2.2.1;let m:List aa:=x.2.2.2.1;let o:Int:=x.2.2.2.2.1;let j:Int:=x.2.2.2.2.2.1;let f:List (Bs×Int):=x.2.2.2.2.2.2.1;let a:List ab:=x.2.2.2.2.2.2.2.1;let d:Int:=x.2.2.2.2.2.2.2.2.1;let h:Int:=x.2.2.2.2.2.2.2.2.2.1;let g:List (Bs×Bool):=x.2.2.2.2.2.2.2.2.2.2;let E:=λG A z H=>(some (.int .i64 e,[some [.mp .sn G],some [.ul .atype A,.mr 0,.int .i64 z,.int .i64 H],some [.mp .sb g],none,none]):Ro)
 let y:=λG A z H=>(some (.int .i64 e,[some [.mp .sn G],some [.ul .atype A,.mr 0,.int .i64 z,.int .i64 H],some [.mp .sb g]]):Ro)
 cond (decide (j<o)) (
  chk (ixl j m) (
   let L:=(Aq m (Ag j) (ao .jnode))
   cond (!(d==0)) (
    cond (d==0) (
     chk (decide (0<Aa a)) (
      chk ((decide (0<=e)&&decide (e<↑(Aa a)))) (
       chk (decide ((Ag e)<Aa a)) (
        let I:=(Bg a (Ag e) (let c:=Aq a (Ag e) (ao .atype);⟨c.kind,c.name,c.aliases,c.items,c.syms,c.hasdef,c.df,c.size,c.fields,p⟩))
        chk (Av (Aa a) (Aa I)) (
         E f I d h))))) (
     y f a d h)) (
    ae (bJ f a d h (reJ L) B) (λb=>
     cond (!(b.2.2.2.1==0)) (
      cond (b.2.2.2.1==0) (
       chk (decide (0<Aa b.2.2.1)) (
        chk ((decide (0<=e)&&decide (e<↑(Aa b.2.2.1)))) (
         chk (decide ((Ag e)<Aa b.2.2.1)) (
          let J:=(Bg b.2.2.1 (Ag e) (let c:=Aq b.2.2.1 (Ag e) (ao .atype);⟨c.kind,c.name,c.aliases,c.items,c.syms,c.hasdef,c.df,c.size,c.fields,p⟩))
          chk (Av (Aa b.2.2.1) (Aa J)) (
           E b.2.1 J b.2.2.2.1 b.2.2.2.2))))) (
       y b.2.1 b.2.2.1 b.2.2.2.1 b.2.2.2.2)) (
      chk (decide (0<Aa b.2.2.1)) (
       aiC (mc b.2.2.1 b.1) ((Av (Aa b.2.2.1) (Aa b.2.2.1)&&true)) (λ(v:Bs)=>
        chk (Av (Aa b.2.2.1) (Aa b.2.2.1)) (
         chk (decide (0<Aa b.2.2.1)) (
          chk ((decide (0<=b.1)&&decide (b.1<↑(Aa b.2.2.1)))) (
           chk (decide ((Ag b.1)<Aa b.2.2.1)) (
            let O:=(Aq b.2.2.1 (Ag b.1) (ao .atype)).kind
            chk (Av (Aa b.2.2.1) (Aa b.2.2.1)) (
             cond (O==14) (
              ae (ag b.2.1 b.2.2.1 b.2.2.2.1 b.2.2.2.2 true 6) (λr=>
               let M:=(bz (k:=.sb) g v true)
               chk (decide ((Aa p+Aa ([b.1]:List Int))*8<=140737488355328)) (
                let P:=(p++([b.1]:List Int))
                let u:=(Ao .i64 (j+1))
                i (B,e,P,m,o,u,r.1,r.2.1,r.2.2.1,r.2.2.2,M)))) (
              let C:=(iy (k:=.sb) g v)
              ae (ag b.2.1 b.2.2.1 b.2.2.2.1 b.2.2.2.2 C 6) (λt=>
               let w:=(bz (k:=.sb) g v true)
               chk (decide ((Aa p+Aa ([b.1]:List Int))*8<=140737488355328)) (
                let D:=(p++([b.1]:List Int))
                let F:=(Ao .i64 (j+1))
                i (B,e,D,m,o,F,t.1,t.2.1,t.2.2.1,t.2.2.2,w)))))))))))))))) (
  cond (d==0) (
   chk (decide (0<Aa a)) (
    chk ((decide (0<=e)&&decide (e<↑(Aa a)))) (
     chk (decide ((Ag e)<Aa a)) (
      let q:=(Bg a (Ag e) (let c:=Aq a (Ag e) (ao .atype);⟨c.kind,c.name,c.aliases,c.items,c.syms,c.hasdef,c.df,c.size,c.fields,p⟩))
      chk (Av (Aa a) (Aa q)) (
       E f q d h))))) (
   y f a d h))
theorem tH(N:Nat):LB (kz N) gL (ik N):=λ_ _=>by kernel_rfl
def fB(N:Nat)(d:List (Bs×Int))(b:List ab)(c a:Int)(g:aa)(j:Bs)(k:ij->Ro):Ro:=
 ae (bS d b c a ⟨14,([]:Bs),([]:Bss),0,([]:Bss),false,([]:Bs),0,([]:List aq),([]:List Int)⟩) (λe=>
  let i:=(↑(Aa g.l):Int)
  ae (ag e.2.1 e.2.2.1 e.2.2.2.1 e.2.2.2.2 (i==0) 6) (λf=>
   let o:=(↑(Aa g.l):Int)
   ae (ag f.1 f.2.1 f.2.2.1 f.2.2.2 (decide (30<o)) 3) (λh=>
    let m:=(↑(Aa g.l):Int)
    k (j,e.1,([]:List Int),g.l,m,0,h.1,h.2.1,h.2.2.1,h.2.2.2,([]:List (Bs×Bool))))))
def pt(N:Nat)(d:List (Bs×Int))(c:List ab)(b a:Int)(f:aa)(e:Bs):Ro:=fB N d c b a f e (λz=>b8 N (ik N) z)
theorem uG(N:Nat)(g:List (Bs×Int))(c:List ab)(d a:Int)(j:aa)(i:Bs)(h:Tot (pt N g c d a j i) (λz=>∃(p:Int)(k:List (Bs×Int))(m:List ab)(t:Int)(o:Int)(rest:List ah),z.1.dimR=.int .i64 p∧z.2=some [.mp .sn k]::some [.ul .atype m,.mr 0,.int .i64 t,.int .i64 o]::rest∧jL g c d a j i (p,k,m,t,o))):∃r,gg g c d a j i r:=FnK.finO (css:=[[.mp .sn g],[.ul .atype c,.mr 0,.int .i64 d,.int .i64 a]]) wc (N:=N) ((gb _ (by kernel_rfl) rfl (λC=>fB N g c d a j i (λz=>C 1000000 (gL z))) (λC=>by kernel_rfl)).trans (BB (b:=fB N g c d a j i (λz=>bP N (kz N) (gL z))) (by kernel_rfl) (congrArg (fB N g c d a j i) (funext λz=>cL (gL) (kz N) (ik N) (tH N) N z)))) h λ_ ⟨p,k,m,t,o,_,e,f,q⟩=>⟨(p,k,m,t,o),e,⟨_,f⟩,q⟩
noncomputable def yU:am:=ge (P:=Tryd.prog) 2 [aW,qR,xn,xp] [] [] [] []
def xH:IR:=Rs [Bx 3 0,Bx 4 1,Mi 6 0] (Sq (Rs [Lq 7 3,Nk 8 7,Fa 9 2 8,Lo 10 9,Bc 11 .neq 10 0] (Cn 11 (Rs [Mi 6 0] .ret) .skip)) (Rs [Lq 12 3,Nk 13 12,Fa 14 3 13,Lo 15 14,Bc 16 .add 15 1,Nk 17 12,Fa 18 3 17,Sv 1 18 16] (Rs [Pp (.mkf 19 67 [.t 3])] (.gh (.isf 19 67 [.ea [.ptr 1 0]]) (Sq (.reg [Lq 20 3,Lq 21 3,Nk 22 21,Fa 23 3 22,Fo [1] [] (.ld 24 1 false false 23),Bc 25 .gtr 24 20,Fo [] [0,1] (.call 26 68 [20,25,kI 3])] [[],[],[1],[1,2],[1,2,3],rg 1 4,rg 0 5]) (Sq (Rs [Lq 27 3,Nk 28 27,Fa 29 2 28,Lo 30 29,Bc 31 .neq 30 0] (Cn 31 (Rs [Mi 6 0] (.exit 1000000)) .skip)) (Sq (Rs [Fa 32 0 4,Lq 33 32] (.block 0 (Rs [Bc 35 .eql 33 4,Mv 34 35] (Cn 34 (Rs [Lq 36 3,Fa 37 2 4,Lq 38 37,Mv 39 2,Ca 40 69 [36,38,39],Mv 6 40] (.exit 1000000)) (Rs [Bc 42 .eql 33 5,Mv 41 42] (Cn 41 (Rs [Lq 43 3,Ld 44 5 true 4,Mv 45 2,Ca 46 70 [43,44,45],Mv 6 46] (.exit 1000000)) (Rs [Bc 48 .eql 33 6,Mv 47 48] (Cn 47 (Rs [Lq 49 3,Ld 50 5 true 4,Mv 51 2,Ca 52 71 [49,50,51],Mv 6 52] (.exit 1000000)) .skip)))))))) (Rs [Lq 53 3,Ca 54 68 [53,kB true,kI 2]] (Rs [Mi 6 0] (.exit 1000000))))))))))
def xI:List RV:=[.t 6]
def wd:IR:=(.reg [Ld 1 1 false 0,Nk 2 1,Fa 3 3 2,Pp (.ld 4 1 false false 3),Bc 5 .sub 4 1,Nk 6 1,Fa 7 3 6,Pp (.st none 1 7 5)] [])
theorem xJ:FnK Tryd.prog 2 qQ (λn vs hp=>adA (pL (tab (P:=Tryd.prog) [] [] [] []) 1 Tryd.f67.ntmps [] wd) [.ea [.ptr 1 0]] yU n Tryd.f35.ntmps xI xH vs hp):=ajN (imp:=[68,69,70,71,2000068,2000069,2000070,2000071]) Tryd.func35 Tryd.func67 (by simp[V.bare]) (λ_=>by kernel_rfl) (λ_=>by kernel_rfl)
def qi(N:Nat)(e:List (Bs×Int))(d:List ab)(b c:Int)(g:aa)(m:Bs):Ro:=
 let f:=λq p u r t=>(some (.int .i64 q,[some [.mp .sn p],some [.ul .atype u,.mr 0,.int .i64 r,.int .i64 t]]):Ro)
 cond (!(b==0)) (
  f 0 e d b c) (
  let o:=(Ao .i64 (c+1))
  ae (ag e d b o (decide (20<o)) 3) (λa=>
   cond (!(a.2.2.1==0)) (
    f 0 a.1 a.2.1 a.2.2.1 (Ao .i64 (a.2.2.2-1))) (
    cond (g.kind==4) (
     ae (eS a.1 a.2.1 a.2.2.1 a.2.2.2 g.s m) (λh=>
      f h.1 h.2.1 h.2.2.1 h.2.2.2.1 (Ao .i64 (h.2.2.2.2-1)))) (
     cond (g.kind==5) (
      ae (gg a.1 a.2.1 a.2.2.1 a.2.2.2 (reJ g) m) (λj=>
       f j.1 j.2.1 j.2.2.1 j.2.2.2.1 (Ao .i64 (j.2.2.2.2-1)))) (
      cond (g.kind==6) (
       ae (gi a.1 a.2.1 a.2.2.1 a.2.2.2 (reJ g) m) (λi=>
        f i.1 i.2.1 i.2.2.1 i.2.2.2.1 (Ao .i64 (i.2.2.2.2-1)))) (
       ae (ag a.1 a.2.1 a.2.2.1 a.2.2.2 true 2) (λk=>
        f 0 k.1 k.2.1 k.2.2.1 (Ao .i64 (k.2.2.2-1)))))))))
def qj(N:Nat)(d:List (Bs×Int))(b:List ab)(c a:Int)(f:aa)(e:Bs):Ro:=qi N d b c a f e
theorem we(N:Nat)(d:List (Bs×Int))(b:List ab)(c a:Int)(p:aa)(o:Bs)(h:Tot (qj N d b c a p o) (λz=>∃(k:Int)(g:List (Bs×Int))(i:List ab)(m:Int)(j:Int)(rest:List ah),z.1.dimR=.int .i64 k∧z.2=some [.mp .sn g]::some [.ul .atype i,.mr 0,.int .i64 m,.int .i64 j]::rest∧eG d b c a p o (k,g,i,m,j))):∃r,bJ d b c a p o r:=FnK.finO (css:=[[.mp .sn d],[.ul .atype b,.mr 0,.int .i64 c,.int .i64 a]]) xJ (N:=N) (by kernel_rfl) h λ_ ⟨k,g,i,m,j,_,e,f,q⟩=>⟨(k,g,i,m,j),e,⟨_,f⟩,q⟩
noncomputable def xK:am:=tab (P:=Tryd.prog) [] [] [] []
def wg:IR:=Rs [Mv 6 1,Mv 7 6,Gt 7 (.mov 8 0),Gt 7 (.nck 9 8),Gt 7 (.fad 10 2 9),Gt 7 (.ld 11 1 false false 10),Gt 7 (.bin 12 .eql 11 (kI 0)),Pa 13 7 12] (Cn 13 (Rg [Mv 14 0,Mv 15 2,Nk 16 14,Fa 17 2 16,Sv 1 17 15]) .skip)
def wh:List RV:=[]
theorem wi:FnC Tryd.prog xK [] 2 p7 Tryd.f68 wg wh:=fnC Tryd.func68
def pu(N:Nat)(d:List (Bs×Int))(c:List ab)(a b:Int)(h:Bool)(f:Int):Ro:=
 let e:=λg=>(some (.tup [],[some [.mp .sn d],some [.ul .atype c,.mr 0,.int .i64 g,.int .i64 b]]):Ro)
 cond h (
  cond (a==0) (
   e f) (
   e a)) (
  e a)
def pv(N:Nat)(d:List (Bs×Int))(b:List ab)(c a:Int)(f:Bool)(e:Int):Ro:=pu N d b c a f e
theorem uH(N:Nat)(d:List (Bs×Int))(b:List ab)(c a:Int)(o:Bool)(m:Int)(h:Tot (pv N d b c a o m) (λz=>∃(j:List (Bs×Int))(g:List ab)(i:Int)(k:Int)(rest:List ah),z.1.dimR=.tup []∧z.2=some [.mp .sn j]::some [.ul .atype g,.mr 0,.int .i64 i,.int .i64 k]::rest∧d5 d b c a o m (j,g,i,k))):∃r,ag d b c a o m r:=FnK.finO (css:=[[.mp .sn d],[.ul .atype b,.mr 0,.int .i64 c,.int .i64 a]]) wi (N:=N) (by kernel_rfl) h λ_ ⟨j,g,i,k,_,e,f,q⟩=>⟨(j,g,i,k),e,⟨_,f⟩,q⟩
noncomputable def aaf:am:=ge (P:=Tryd.prog) 2 [aW] [] [] [] []
def yV:IR:=Rs [Bx 3 1,Mi 4 0] (Rs [Mv 5 0,Mv 6 0,Nk 7 6,Fa 8 0 7,Fa 9 0 8,Lo 10 9,Pp (.lnw 11 10),Bc 12 .geq 11 60,Ca 13 68 [5,12,kI 3]] (Sq (Rs [Mv 14 0,Nk 15 14,Fa 16 2 15,Lo 17 16,Bc 18 .neq 17 0] (Cn 18 (Rs [Mi 4 0] .ret) .skip)) (Sq (.reg [Mv 19 0,Mv 20 0,Nk 21 20,Fa 22 0 21,Fa 23 0 22,Fo [] [1] (.ld 24 1 false true 23),Ld 25 10 true 3,Pp (.bsl 26 .atype [25] true),Pp (.apu 27 .atype (.tk 24) 26),Nk 28 19,Fa 29 0 28,Fa 30 0 29,Fo [] [1] (.st none 1 30 (.tk 27))] [[],[],[1],[1,2],[1,2,3],rg 1 4,[],[6],rg 1 7,rg 0 8,rg 0 9,rg 0 10,rg 0 11]) (Rs [Mv 31 0,Nk 32 31,Fa 33 0 32,Fa 34 0 33,Lo 35 34,Pp (.lnw 36 35),Bc 37 .sub 36 1,Mv 4 37] .ret))))
def yW:List RV:=[.t 4]
theorem yX:FnC Tryd.prog aaf [68,2000068] 2 rM Tryd.f97 yV yW:=kR Tryd.func97
def qX(N:Nat)(e:List (Bs×Int))(b:List ab)(d c:Int)(h:ab):Ro:=
 let j:=(↑(Aa b):Int)
 let f:=λo i r p q=>(some (.int .i64 o,[some [.mp .sn i],some [.ul .atype r,.mr 0,.int .i64 p,.int .i64 q]]):Ro)
 ae (ag e b d c (decide (60<=j)) 3) (λa=>
  cond (!(a.2.2.1==0)) (
   f 0 a.1 a.2.1 a.2.2.1 a.2.2.2) (
   chk (decide ((Aa a.2.1+Aa ([h]:List ab))*160<=140737488355328)) (
    let g:=(a.2.1++([h]:List ab))
    let m:=(↑(Aa g):Int)
    let k:=(Ao .i64 (m-1))
    f k a.1 g a.2.2.1 a.2.2.2)))
def qY(N:Nat)(d:List (Bs×Int))(b:List ab)(c a:Int)(e:ab):Ro:=qX N d b c a e
theorem xL(N:Nat)(d:List (Bs×Int))(b:List ab)(c a:Int)(o:ab)(h:Tot (qY N d b c a o) (λz=>∃(k:Int)(g:List (Bs×Int))(i:List ab)(m:Int)(j:Int)(rest:List ah),z.1.dimR=.int .i64 k∧z.2=some [.mp .sn g]::some [.ul .atype i,.mr 0,.int .i64 m,.int .i64 j]::rest∧iG d b c a o (k,g,i,m,j))):∃r,bS d b c a o r:=FnK.finO (css:=[[.mp .sn d],[.ul .atype b,.mr 0,.int .i64 c,.int .i64 a]]) yX (N:=N) (by kernel_rfl) h λ_ ⟨k,g,i,m,j,_,e,f,q⟩=>⟨(k,g,i,m,j),e,⟨_,f⟩,q⟩
noncomputable def lQ:am:=ge (P:=Tryd.prog) 2 [aW] [] [] [] []
def nK:IR:=Rs [Bi 17 .lss 16 15] (Sq (Cn 17 .skip (.exit 0)) (Sq (.block 1 (Rs [Ix 18 .jnode 14 16,Ld 19 5 true 18,Pp (.alr 7 5),Fz 7 5 19] (Rs [Mv 20 0,Fa 21 0 7,Lq 22 21,Bc 23 .neq 22 4,Ca 24 68 [20,23,kI 2]] (Rg [Pp (.mov 25 (.tk 5)),Fa 26 2 7,Lq 27 26,Pp (.bsl 28 .str [27] true),Pp (.app 29 .str (.tk 25) 28),Pp (.mov 5 (.tk 29))])))) (Rg [Bc 30 .add 16 1,Mv 16 30])))
def nL:IR:=Rs [Pp (.mov 31 (.tk 5)),Pp (.mov 4 (.tk 31))] .ret
def wj:IR:=Rs [Bx 3 1,Pp (.mov 4 (.c (nl .str)))] (Rs [Mv 8 0,Fa 9 0 3,Lq 10 9,Bc 11 .neq 10 5,Ca 12 68 [8,11,kI 2]] (Rs [Pp (.mov 5 (.c (nl .str)))] (Sq (Rs [Fa 13 3 3,Lq 14 13,Ll 15 14,Mi 16 0] (.block 0 (.loop [0,5,14,15,16,1000000] 2 nK))) nL)))
def pw:List RV:=[.t 4]
theorem wl:FnC Tryd.prog lQ [68,2000068] 2 qd Tryd.f140 wj pw:=kR Tryd.func140
def uI(R:IR->(Ex->St->Ro)->St->Ro)(a:St->Ro):Ex->St->Ro:=(dv a [0,5,14,15,16,1000000] 2 (aQ 0 (cj (R nL) (fin pw))))
abbrev il:Type:=(Bss×List aa×Int×Int×List (Bs×Int)×List ab×Int×Int)
def gM(x:il):St:={env:=(.ptr 1 0::(U 4 (.sl .str .own x.1::(U 8 (.sl .jnode (.may false) x.2.1::.int .i64 x.2.2.1::.int .i64 x.2.2.2.1::(U 15 [])))))),hp:=[some [.mp .sn x.2.2.2.2.1],some [.ul .atype x.2.2.2.2.2.1,.mr 0,.int .i64 x.2.2.2.2.2.2.1,.int .i64 x.2.2.2.2.2.2.2]]}
def kA(N:Nat):(St->Ro)->St->Ro:=λa s=>run lQ N nK (uI (run lQ N) a) s
def im(N:Nat)(b:il->Ro)(x:il):Ro:=
 let j:Bss:=x.1;let g:List aa:=x.2.1;let h:Int:=x.2.2.1;let a:Int:=x.2.2.2.1;let e:List (Bs×Int):=x.2.2.2.2.1;let d:List ab:=x.2.2.2.2.2.1;let f:Int:=x.2.2.2.2.2.2.1;let c:Int:=x.2.2.2.2.2.2.2
 cond (decide (a<h)) (
  chk (ixl a g) (
   let k:=(Aq g (Ag a) (ao .jnode))
   ae (ag e d f c (!(k.kind==4)) 2) (λi=>
    chk (decide ((Aa j+Aa ([k.s]:Bss))*16<=140737488355328)) (
     let o:=(j++([k.s]:Bss))
     let m:=(Ao .i64 (a+1))
     b (o,g,h,m,i.1,i.2.1,i.2.2.1,i.2.2.2))))) (
  some (.sl .str .own j,[some [.mp .sn e],some [.ul .atype d,.mr 0,.int .i64 f,.int .i64 c]]))
theorem tI(N:Nat):LB (kA N) gM (im N):=λ_ _=>by kernel_rfl
def fC(N:Nat)(d:List (Bs×Int))(c:List ab)(b a:Int)(f:aa)(h:il->Ro):Ro:=
 ae (ag d c b a (!(f.kind==5)) 2) (λe=>
  let g:=(↑(Aa f.l):Int)
  h (([]:Bss),f.l,g,0,e.1,e.2.1,e.2.2.1,e.2.2.2))
def px(N:Nat)(d:List (Bs×Int))(b:List ab)(c a:Int)(e:aa):Ro:=fC N d b c a e (λz=>b8 N (im N) z)
theorem uJ(N:Nat)(g:List (Bs×Int))(c:List ab)(d a:Int)(i:aa)(h:Tot (px N g c d a i) (λz=>∃(o:Bss)(j:List (Bs×Int))(k:List ab)(p:Int)(m:Int)(rest:List ah),z.1.dimR=.sl .str (.may false) o∧z.2=some [.mp .sn j]::some [.ul .atype k,.mr 0,.int .i64 p,.int .i64 m]::rest∧jK g c d a i (o,j,k,p,m))):∃r,dn g c d a i r:=FnK.finO (css:=[[.mp .sn g],[.ul .atype c,.mr 0,.int .i64 d,.int .i64 a]]) wl (N:=N) ((gb _ (by kernel_rfl) rfl (λC=>fC N g c d a i (λz=>C 1000000 (gM z))) (λC=>by kernel_rfl)).trans (BB (b:=fC N g c d a i (λz=>bP N (kA N) (gM z))) (by kernel_rfl) (congrArg (fC N g c d a i) (funext λz=>cL (gM) (kA N) (im N) (tI N) N z)))) h λ_ ⟨o,j,k,p,m,_,e,f,q⟩=>⟨(o,j,k,p,m),e,⟨_,f⟩,q⟩
noncomputable def yY:am:=ge (P:=Tryd.prog) 2 [aW] [] [] [] [ia]
def xM:IR:=Rs [Bx 3 1,Ms 4 []] (Rs [Ld 8 5 true 3,Ca 9 99 [8,kS [110,97,109,101]],Mv 7 9,Ex_ 10 0 7,Ex_ 11 1 7,Pp (.alr 5 5),Fz 5 5 10,Mv 6 11] (Rs [Mv 12 0,Fa 13 0 5,Lq 14 13,Bc 15 .neq 14 4,Ca 16 68 [12,15,kI 2]] (Rs [Fa 17 2 5,Lq 18 17,Mv 4 18] .ret)))
def xN:List RV:=[.t 4]
theorem xO:FnC Tryd.prog yY [68,2000068] 2 qO Tryd.f115 xM xN:=kR Tryd.func115
def qk(N:Nat)(d:List (Bs×Int))(b:List ab)(c a:Int)(g:aa):Ro:=
 ae (b9 (reJ g) ([110,97,109,101]:Bs)) (λf=>
  ae (ag d b c a (!(f.1.kind==4)) 2) (λe=>
   some (.str f.1.s,[some [.mp .sn e.1],some [.ul .atype e.2.1,.mr 0,.int .i64 e.2.2.1,.int .i64 e.2.2.2]])))
def ql(N:Nat)(d:List (Bs×Int))(b:List ab)(c a:Int)(e:aa):Ro:=qk N d b c a e
theorem wo(N:Nat)(d:List (Bs×Int))(b:List ab)(c a:Int)(o:aa)(h:Tot (ql N d b c a o) (λz=>∃(k:Bs)(g:List (Bs×Int))(i:List ab)(m:Int)(j:Int)(rest:List ah),z.1.dimR=.str k∧z.2=some [.mp .sn g]::some [.ul .atype i,.mr 0,.int .i64 m,.int .i64 j]::rest∧ou d b c a o (k,g,i,m,j))):∃r,eT d b c a o r:=FnK.finO (css:=[[.mp .sn d],[.ul .atype b,.mr 0,.int .i64 c,.int .i64 a]]) xO (N:=N) (by kernel_rfl) h λ_ ⟨k,g,i,m,j,_,e,f,q⟩=>⟨(k,g,i,m,j),e,⟨_,f⟩,q⟩
noncomputable def xP:am:=ge (P:=Tryd.prog) 2 [aW] [] [] [] [lK,fW,aaR]
def wq:IR:=Rs [Ms 6 []] (Sq (Rs [Mv 7 1,Ca 8 114 [7,kS [46]],Un 9 8,Mv 10 9,Gt 10 (.mov 11 2),Gt 10 (.bin 12 .neq 11 (kS [])),Pa 13 10 12] (Cn 13 (Rg [Mv 14 2,Pp (.bin 15 .add 14 (kS [46])),Mv 16 1,Bi 17 .add 15 16,Mv 1 17]) .skip)) (Rs [Mv 18 0,Mv 19 1,Ca 20 137 [19,kS [46]],Ca 21 136 [20,.c (.fn 138 [])],Ca 22 68 [18,21,kI 6]] (Rs [Mv 23 1,Mv 6 23] .ret)))
def ws:List RV:=[.t 6]
theorem wt:FnC Tryd.prog xP [68,2000068] 2 qg Tryd.f116 wq ws:=kR Tryd.func116
def py(N:Nat)(c:List (Bs×Int))(a:List ab)(b d:Int)(f i:Bs):Ro:=
 let k:=λy t v z q=>(some (.str y,[some [.mp .sn t],some [.ul .atype v,.mr 0,.int .i64 z,.int .i64 q]]):Ro)
 ae (d9 f ([46]:Bs)) (λ(o:Bool)=>
  cond (!o) (
   let m:=(!decide (i=([]:Bs)))
   cond m (
    chk (decide (Aa i+Aa ([46]:Bs)<=9223372036854775807)) (
     let j:=(i++([46]:Bs))
     chk (decide (Aa j+Aa f<=9223372036854775807)) (
      ae (eJ (j++f) ([46]:Bs)) (λ(x:Bss)=>
       ae (av x) (λ(A:Bool)=>
        ae (ag c a b d A 6) (λh=>
         k (j++f) h.1 h.2.1 h.2.2.1 h.2.2.2)))))) (
    ae (eJ f ([46]:Bs)) (λ(p:Bss)=>
     ae (av p) (λ(r:Bool)=>
      ae (ag c a b d r 6) (λg=>
       k f g.1 g.2.1 g.2.2.1 g.2.2.2))))) (
   ae (eJ f ([46]:Bs)) (λ(u:Bss)=>
    ae (av u) (λ(w:Bool)=>
     ae (ag c a b d w 6) (λe=>
      k f e.1 e.2.1 e.2.2.1 e.2.2.2)))))
def pz(N:Nat)(d:List (Bs×Int))(b:List ab)(c a:Int)(f e:Bs):Ro:=py N d b c a f e
theorem uK(N:Nat)(d:List (Bs×Int))(b:List ab)(c a:Int)(p o:Bs)(h:Tot (pz N d b c a p o) (λz=>∃(k:Bs)(g:List (Bs×Int))(i:List ab)(m:Int)(j:Int)(rest:List ah),z.1.dimR=.str k∧z.2=some [.mp .sn g]::some [.ul .atype i,.mr 0,.int .i64 m,.int .i64 j]::rest∧gH d b c a p o (k,g,i,m,j))):∃r,dm d b c a p o r:=FnK.finO (css:=[[.mp .sn d],[.ul .atype b,.mr 0,.int .i64 c,.int .i64 a]]) wt (N:=N) (by kernel_rfl) h λ_ ⟨k,g,i,m,j,_,e,f,q⟩=>⟨(k,g,i,m,j),e,⟨_,f⟩,q⟩
noncomputable def xQ:am:=ge (P:=Tryd.prog) 2 [aW] [] [] [] [lK]
def wu:IR:=Rs [Mi 6 0] (Sq (Rs [Mv 11 2,Pp (.bin 12 .neq 11 (kS [])),Mv 13 12,Gt 13 (.mov 14 1),Gt 13 (.call 15 114 [14,kS [46]]),Gt 13 (.un 16 .not 15),Pa 17 13 16] (Cn 17 (Rs [Mv 19 0,Nk 20 19,Fa 21 1 20,Lo 22 21,Mv 23 2,Pp (.bin 24 .add 23 (kS [46])),Mv 25 1,Bi 26 .add 24 25,Pp (.mget 27 .sn true (.t 22) (.t 26)),Mv 18 27,Ex_ 28 0 18,Ex_ 29 1 18,Mv 7 28,Mv 8 29] (Rs [Mv 30 8] (Cn 30 (Rs [Mv 31 7,Mv 6 31] .ret) .skip))) .skip)) (Rs [Mv 33 0,Nk 34 33,Fa 35 1 34,Lo 36 35,Mv 37 1,Pp (.mget 38 .sn true (.t 36) (.t 37)),Mv 32 38,Ex_ 39 0 32,Ex_ 40 1 32,Mv 9 39,Mv 10 40] (Rs [Mv 41 0,Mv 42 10,Un 43 42,Ca 44 68 [41,43,kI 4]] (Rs [Mv 45 9,Mv 6 45] .ret))))
def wv:List RV:=[.t 6]
theorem ww:FnC Tryd.prog xQ [68,2000068] 2 qb Tryd.f98 wu wv:=kR Tryd.func98
def pA(N:Nat)(a:List (Bs×Int))(c:List ab)(b d:Int)(e m:Bs):Ro:=
 let p:=(!decide (m=([]:Bs)))
 let f:=λB x z D t=>(some (.int .i64 B,[some [.mp .sn x],some [.ul .atype z,.mr 0,.int .i64 D,.int .i64 t]]):Ro)
 cond p (
  ae (d9 e ([46]:Bs)) (λ(r:Bool)=>
   cond (!r) (
    chk (decide (Aa m+Aa ([46]:Bs)<=9223372036854775807)) (
     let o:=(m++([46]:Bs))
     chk (decide (Aa o+Aa e<=9223372036854775807)) (
      let w:=(iy (k:=.sn) a (o++e))
      let q:=(CC (aU (k:=.sn) a (o++e)))
      cond q (
       f w a c b d) (
       let y:=(iy (k:=.sn) a e)
       let A:=(CC (aU (k:=.sn) a e))
       ae (ag a c b d (!A) 4) (λg=>
        f y g.1 g.2.1 g.2.2.1 g.2.2.2))))) (
    let v:=(iy (k:=.sn) a e)
    let u:=(CC (aU (k:=.sn) a e))
    ae (ag a c b d (!u) 4) (λi=>
     f v i.1 i.2.1 i.2.2.1 i.2.2.2)))) (
  let C:=(iy (k:=.sn) a e)
  let j:=(CC (aU (k:=.sn) a e))
  ae (ag a c b d (!j) 4) (λh=>
   f C h.1 h.2.1 h.2.2.1 h.2.2.2))
def pB(N:Nat)(d:List (Bs×Int))(b:List ab)(c a:Int)(f e:Bs):Ro:=pA N d b c a f e
theorem uL(N:Nat)(d:List (Bs×Int))(b:List ab)(c a:Int)(p o:Bs)(h:Tot (pB N d b c a p o) (λz=>∃(k:Int)(g:List (Bs×Int))(i:List ab)(m:Int)(j:Int)(rest:List ah),z.1.dimR=.int .i64 k∧z.2=some [.mp .sn g]::some [.ul .atype i,.mr 0,.int .i64 m,.int .i64 j]::rest∧d6 d b c a p o (k,g,i,m,j))):∃r,d8 d b c a p o r:=FnK.finO (css:=[[.mp .sn d],[.ul .atype b,.mr 0,.int .i64 c,.int .i64 a]]) ww (N:=N) (by kernel_rfl) h λ_ ⟨k,g,i,m,j,_,e,f,q⟩=>⟨(k,g,i,m,j),e,⟨_,f⟩,q⟩
noncomputable def yZ:am:=ge (P:=Tryd.prog) 2 [kn,xr] [] [] [] [rO,dA]
def xR:IR:=Rs [Mi 6 0] (Rs [Ca 8 74 [],Mv 9 1,Ca 10 96 [8,9],Mv 7 10] (Sq (Rs [Mv 11 7,Bc 12 .geq 11 1,Mv 13 12,Gt 13 (.mov 14 7),Gt 13 (.bin 15 .leq 14 (kI 8)),Pa 16 13 15] (Cn 16 (Rs [Mv 17 0,Mv 18 7,Pp (.bld 19 [vI 0,vS,fu .str true,vI 0,fu .str true,.bool false,vS,vI 0,fu .afield true,fu (.num .i64) true] [(0,1,18)]),Ca 20 97 [17,19],Mv 6 20] .ret) .skip)) (Rs [Mv 21 0,Mv 22 1,Mv 23 2,Ca 24 98 [21,22,23],Mv 6 24] .ret)))
def xS:List RV:=[.t 6]
theorem xT:FnC Tryd.prog yZ [97,98,2000097,2000098] 2 qP Tryd.f69 xR xS:=kR Tryd.func69
def qm(N:Nat)(d:List (Bs×Int))(b:List ab)(c a:Int)(j k:Bs):Ro:=
 let h:=λp m t q r=>(some (.int .i64 p,[some [.mp .sn m],some [.ul .atype t,.mr 0,.int .i64 q,.int .i64 r]]):Ro)
 ae (dR) (λ(o:Bss)=>
  ae (aE o j) (λ(i:Int)=>
   cond (decide (1<=i)) (
    cond (decide (i<=8)) (
     ae (bS d b c a ⟨i,([]:Bs),([]:Bss),0,([]:Bss),false,([]:Bs),0,([]:List aq),([]:List Int)⟩) (λg=>
      h g.1 g.2.1 g.2.2.1 g.2.2.2.1 g.2.2.2.2)) (
     ae (d8 d b c a j k) (λe=>
      h e.1 e.2.1 e.2.2.1 e.2.2.2.1 e.2.2.2.2))) (
    ae (d8 d b c a j k) (λf=>
     h f.1 f.2.1 f.2.2.1 f.2.2.2.1 f.2.2.2.2))))
def qn(N:Nat)(d:List (Bs×Int))(b:List ab)(c a:Int)(f e:Bs):Ro:=qm N d b c a f e
theorem wz(N:Nat)(d:List (Bs×Int))(b:List ab)(c a:Int)(p o:Bs)(h:Tot (qn N d b c a p o) (λz=>∃(k:Int)(g:List (Bs×Int))(i:List ab)(m:Int)(j:Int)(rest:List ah),z.1.dimR=.int .i64 k∧z.2=some [.mp .sn g]::some [.ul .atype i,.mr 0,.int .i64 m,.int .i64 j]::rest∧eF d b c a p o (k,g,i,m,j))):∃r,eS d b c a p o r:=FnK.finO (css:=[[.mp .sn d],[.ul .atype b,.mr 0,.int .i64 c,.int .i64 a]]) xT (N:=N) (by kernel_rfl) h λ_ ⟨k,g,i,m,j,_,e,f,q⟩=>⟨(k,g,i,m,j),e,⟨_,f⟩,q⟩
noncomputable def wA:am:=ge (P:=Tryd.prog) 2 [qh] [] [] [] []
def uM:IR:=Rs [Ms 4 []] (Rs [Lq 5 1,Mv 6 0,Lo 7 2,Ca 8 116 [5,6,7],Mv 4 8] .ret)
def uN:List RV:=[.t 4]
theorem uO:FnC Tryd.prog wA [116,2000116] 3 ph Tryd.f119 uM uN:=kR Tryd.func119
def oH(N:Nat)(e:List (Bs×Int))(c:List ab)(d b:Int)(a g:Bs):Ro:=
 ae (dm e c d b g a) (λf=>
  some (.str f.1,[some [.mp .sn f.2.1],some [.ul .atype f.2.2.1,.mr 0,.int .i64 f.2.2.2.1,.int .i64 f.2.2.2.2],some [.str a]]))
def oJ(N:Nat)(d:List (Bs×Int))(b:List ab)(c a:Int)(e f:Bs):Ro:=oH N d b c a e f
theorem tJ(N:Nat)(d:List (Bs×Int))(b:List ab)(c a:Int)(g t:Bs)(h:Tot (oJ N d b c a g t) (λz=>∃(o:Bs)(i:List (Bs×Int))(j:List ab)(p:Int)(k:Int)(m:Bs)(rest:List ah),z.1.dimR=.str o∧z.2=some [.mp .sn i]::some [.ul .atype j,.mr 0,.int .i64 p,.int .i64 k]::some [.str m]::rest∧mF d b c a g t (o,i,j,p,k,m))):∃r,fx d b c a g t r:=FnK.finO (css:=[[.mp .sn d],[.ul .atype b,.mr 0,.int .i64 c,.int .i64 a],[.str g]]) uO (N:=N) (by kernel_rfl) h λ_ ⟨o,i,j,p,k,m,_,e,f,q⟩=>⟨(o,i,j,p,k,m),e,⟨_,f⟩,q⟩
noncomputable def tK:am:=ge (P:=Tryd.prog) 2 [aW] [] [] [] [pT]
def sV:IR:=Rs [Ms 3 []] (Sq (.reg [Lq 4 1,Mv 5 0,Ca 6 139 [5],Un 7 6,Fo [] [0,1] (.call 8 68 [4,7,kI 6])] [[],[],[1],[1,2],rg 0 3]) (Rs [Mv 9 0,Mv 3 9] .ret))
def sW:List RV:=[.t 3]
theorem sX:FnC Tryd.prog tK [68,2000068] 2 nG Tryd.f150 sV sW:=kR Tryd.func150
def mK(N:Nat)(d:List (Bs×Int))(b:List ab)(c a:Int)(f:Bs):Ro:=
 ae (ix f) (λ(g:Bool)=>
  ae (ag d b c a (!g) 6) (λe=>
   some (.str f,[some [.mp .sn e.1],some [.ul .atype e.2.1,.mr 0,.int .i64 e.2.2.1,.int .i64 e.2.2.2]])))
def mL(N:Nat)(c:List (Bs×Int))(b:List ab)(d a:Int)(e:Bs):Ro:=mK N c b d a e
theorem sf(N:Nat)(d:List (Bs×Int))(b:List ab)(c a:Int)(o:Bs)(h:Tot (mL N d b c a o) (λz=>∃(k:Bs)(g:List (Bs×Int))(i:List ab)(m:Int)(j:Int)(rest:List ah),z.1.dimR=.str k∧z.2=some [.mp .sn g]::some [.ul .atype i,.mr 0,.int .i64 m,.int .i64 j]::rest∧lG d b c a o (k,g,i,m,j))):∃r,ec d b c a o r:=FnK.finO (css:=[[.mp .sn d],[.ul .atype b,.mr 0,.int .i64 c,.int .i64 a]]) sX (N:=N) (by kernel_rfl) h λ_ ⟨k,g,i,m,j,_,e,f,q⟩=>⟨(k,g,i,m,j),e,⟨_,f⟩,q⟩
noncomputable def adT:am:=tab (P:=Tryd.prog) [] [] [] []
def acF:IR:=Rs [Pp (.mov 0 (.c (nl .str)))] (Rs [Pp (.bsl 1 .str [kS [],kS [110,117,108,108],kS [98,111,111,108,101,97,110],kS [105,110,116],kS [108,111,110,103],kS [102,108,111,97,116],kS [100,111,117,98,108,101],kS [98,121,116,101,115],kS [115,116,114,105,110,103],kS [114,101,99,111,114,100],kS [101,110,117,109],kS [102,105,120,101,100],kS [97,114,114,97,121],kS [109,97,112],kS [117,110,105,111,110]] false),Pp (.mov 0 (.tk 1))] .ret)
def acG:List RV:=[.t 0]
theorem acH:FnC Tryd.prog adT [] 0 xj Tryd.f74 acF acG:=fnC Tryd.func74
def vp(N:Nat):Ro:=
 some (.sl .str .own ([([]:Bs),([110,117,108,108]:Bs),([98,111,111,108,101,97,110]:Bs),([105,110,116]:Bs),([108,111,110,103]:Bs),([102,108,111,97,116]:Bs),([100,111,117,98,108,101]:Bs),([98,121,116,101,115]:Bs),([115,116,114,105,110,103]:Bs),([114,101,99,111,114,100]:Bs),([101,110,117,109]:Bs),([102,105,120,101,100]:Bs),([97,114,114,97,121]:Bs),([109,97,112]:Bs),([117,110,105,111,110]:Bs)]:Bss),[])
def vq(N:Nat):Ro:=vp N
theorem abO(N:Nat)(h:Tot (vq N) (λz=>∃(a:Bss)(rest:List ah),z.1.dimR=.sl .str (.may false) a∧z.2=rest∧sB  (a))):∃r,dR  r:=acH.finP (N:=N) (by kernel_rfl) h λ_ ⟨a,_,e,_,q⟩=>⟨(a),e,q⟩
noncomputable def aeW:am:=tab (P:=Tryd.prog) [] [] [] [rO]
def adU:IR:=Rs [Ms 2 []] (Sq (Rs [Mv 3 0,Bc 4 .lss 3 1,Mv 5 4,Gf 5 (.mov 6 0),Gf 5 (.bin 7 .gtr 6 (kI 14)),Po 8 5 7] (Cn 8 (Rs [Ms 2 []] .ret) .skip)) (Rs [Ca 9 74 [],Mv 10 0,Ix 11 .str 9 10,Lq 12 11,Mv 2 12] .ret))
def adV:List RV:=[.t 2]
theorem adW:FnC Tryd.prog aeW [] 0 zn Tryd.f37 adU adV:=fnC Tryd.func37
def xU(N:Nat)(a:Int):Ro:=
 cond (decide (a<1)) (
  some (.str ([]:Bs),[])) (
  cond (decide (14<a)) (
   some (.str ([]:Bs),[])) (
   ae (dR) (λ(b:Bss)=>
    chk (ixl a b) (
     let c:=Aq b (Ag a) (ao .str)
     some (.str c,[])))))
def xV(N:Nat)(a:Int):Ro:=xU N a
theorem acI(N:Nat)(b:Int)(h:Tot (xV N b) (λz=>∃(a:Bs)(rest:List ah),z.1.dimR=.str a∧z.2=rest∧jH b (a))):∃r,mG b r:=adW.finP (N:=N) (by kernel_rfl) h λ_ ⟨a,_,e,_,q⟩=>⟨(a),e,q⟩
noncomputable def aeX:am:=tab (P:=Tryd.prog) [] [] [] [lK,abI]
def adX:IR:=Rs [Mb 2 false] (Rs [Mv 3 0,Pp (.bin 4 .neq 3 (kS [])),Mv 5 4,Gt 5 (.mov 6 0),Gt 5 (.call 7 149 [6,kS [65,66,67,68,69,70,71,72,73,74,75,76,77,78,79,80,81,82,83,84,85,86,87,88,89,90,97,98,99,100,101,102,103,104,105,106,107,108,109,110,111,112,113,114,115,116,117,118,119,120,121,122,95,48,49,50,51,52,53,54,55,56,57]]),Gt 5 (.bin 8 .eql 7 (kS [])),Pa 9 5 8,Mv 10 9,Gt 10 (.mov 11 0),Gt 10 (.subs 12 11 none (some (kI 1))),Gt 10 (.call 13 114 [kS [65,66,67,68,69,70,71,72,73,74,75,76,77,78,79,80,81,82,83,84,85,86,87,88,89,90,97,98,99,100,101,102,103,104,105,106,107,108,109,110,111,112,113,114,115,116,117,118,119,120,121,122,95],12]),Pa 14 10 13,Mv 2 14] .ret)
def adY:List RV:=[.t 2]
theorem adZ:FnC Tryd.prog aeX [] 0 zo Tryd.f139 adX adY:=fnC Tryd.func139
def xW(N:Nat)(a:Bs):Ro:=
 let c:=(!decide (a=([]:Bs)))
 cond c (
  ae (md a ([65,66,67,68,69,70,71,72,73,74,75,76,77,78,79,80,81,82,83,84,85,86,87,88,89,90,97,98,99,100,101,102,103,104,105,106,107,108,109,110,111,112,113,114,115,116,117,118,119,120,121,122,95,48,49,50,51,52,53,54,55,56,57]:Bs)) (λ(e:Bs)=>
   let f:=decide (e=([]:Bs))
   cond f (
    chk ((decide (0<=1)&&decide (1<=(↑(Aa a):Int)))) (
     let d:=(A8 0 (A4 (Ag 1) a))
     ae (d9 ([65,66,67,68,69,70,71,72,73,74,75,76,77,78,79,80,81,82,83,84,85,86,87,88,89,90,97,98,99,100,101,102,103,104,105,106,107,108,109,110,111,112,113,114,115,116,117,118,119,120,121,122,95]:Bs) d) (λ(b:Bool)=>
      some (.bool b,[])))) (
    some (.bool false,[])))) (
  some (.bool false,[]))
def xX(N:Nat)(a:Bs):Ro:=xW N a
theorem acJ(N:Nat)(b:Bs)(h:Tot (xX N b) (λz=>∃(a:Bool)(rest:List ah),z.1.dimR=.bool a∧z.2=rest∧tp b (a))):∃r,ix b r:=adZ.finP (N:=N) (by kernel_rfl) h λ_ ⟨a,_,e,_,q⟩=>⟨(a),e,q⟩
noncomputable def ad0:am:=tab (P:=Tryd.prog) [] [] [] [ml]
def acK:IR:=Rs [Ms 2 []] (Rs [Mv 3 0,Mv 4 0,Ca 5 66 [4,.c (.int .u8 46)],Pp (.mx 6 false 5 (kI 0)),Pp (.subs 7 3 none (some 6)),Mv 2 7] .ret)
def acL:List RV:=[.t 2]
theorem acM:FnC Tryd.prog ad0 [] 0 xi Tryd.f117 acK acL:=fnC Tryd.func117
def vr(N:Nat)(b:Bs):Ro:=
 ae (dI b 46) (λ(c:Int)=>
  let a:=(if c<0 then 0 else c)
  chk ((decide (0<=a)&&decide (a<=(↑(Aa b):Int)))) (
   let d:=(A8 0 (A4 (Ag a) b))
   some (.str d,[])))
def vt(N:Nat)(a:Bs):Ro:=vr N a
theorem abP(N:Nat)(b:Bs)(h:Tot (vt N b) (λz=>∃(a:Bs)(rest:List ah),z.1.dimR=.str a∧z.2=rest∧sC b (a))):∃r,jR b r:=acM.finP (N:=N) (by kernel_rfl) h λ_ ⟨a,_,e,_,q⟩=>⟨(a),e,q⟩
noncomputable def agr:am:=tab (P:=Tryd.prog) [] [] [] [aeU]
def aeY:IR:=Rs [Bx 2 0,Ms 4 []] (Sq (Rs [Mv 5 1,Bc 6 .lss 5 0,Mv 7 6,Gf 7 (.mov 8 1),Gf 7 (.fad 9 0 2),Gf 7 (.lde 10 1 false 9),Gf 7 (.lenl 11 10),Gf 7 (.bin 12 .geq 8 11),Po 13 7 12] (Cn 13 (Rs [Ms 4 []] .ret) .skip)) (Sq (Rs [Fa 14 0 2,Lq 15 14,Mv 16 1,Ix 17 .atype 15 16,Fa 18 1 17,Lo 19 18,Pp (.bin 20 .neq 19 (kS []))] (Cn 20 (Rs [Fa 21 0 2,Lq 22 21,Mv 23 1,Ix 24 .atype 22 23,Fa 25 1 24,Lo 26 25,Mv 4 26] .ret) .skip)) (Rs [Fa 27 0 2,Lq 28 27,Mv 29 1,Ix 30 .atype 28 29,Fa 31 0 30,Lo 32 31,Ca 33 37 [32],Mv 4 33] .ret)))
def aeZ:List RV:=[.t 4]
theorem ae0:FnC Tryd.prog agr [] 0 aaM Tryd.f22 aeY aeZ:=fnC Tryd.func22
def zq(N:Nat)(a:List ab)(b:Int):Ro:=
 cond (decide (b<0)) (
  some (.str ([]:Bs),[])) (
  let c:=(↑(Aa a):Int)
  cond (decide (c<=b)) (
   some (.str ([]:Bs),[])) (
   chk (ixl b a) (
    let g:=(Aq a (Ag b) (ao .atype))
    let e:=(!decide (g.name=([]:Bs)))
    cond e (
     chk (ixl b a) (
      let d:=(Aq a (Ag b) (ao .atype))
      some (.str d.name,[]))) (
     chk (ixl b a) (
      let h:=(Aq a (Ag b) (ao .atype))
      ae (mG h.kind) (λ(f:Bs)=>
       some (.str f,[])))))))
def zr(N:Nat)(a:List ab)(b:Int):Ro:=zq N a b
theorem ad1(N:Nat)(a:List ab)(c:Int)(h:Tot (zr N a c) (λz=>∃(b:Bs)(rest:List ah),z.1.dimR=.str b∧z.2=rest∧qE a c (b))):∃r,mc a c r:=ae0.finP (N:=N) (by kernel_rfl) h λ_ ⟨b,_,e,_,q⟩=>⟨(b),e,q⟩
noncomputable def ad2:am:=tab (P:=Tryd.prog) [] [] [] [ml]
def acN:IR:=Rs [Ms 2 []] (Rs [Mv 3 0,Mv 4 0,Ca 5 66 [4,.c (.int .u8 46)],Bc 6 .add 5 1,Pp (.subs 7 3 (some 6) none),Mv 2 7] .ret)
def acO:List RV:=[.t 2]
theorem acP:FnC Tryd.prog ad2 [] 0 xh Tryd.f34 acN acO:=fnC Tryd.func34
def vu(N:Nat)(a:Bs):Ro:=
 ae (dI a 46) (λ(d:Int)=>
  let b:=(Ao .i64 (d+1))
  chk ((decide (0<=b)&&decide (b<=(↑(Aa a):Int)))) (
   let c:=(A8 (Ag b) (A4 (Aa a) a))
   some (.str c,[])))
def vw(N:Nat)(a:Bs):Ro:=vu N a
theorem abQ(N:Nat)(b:Bs)(h:Tot (vw N b) (λz=>∃(a:Bs)(rest:List ah),z.1.dimR=.str a∧z.2=rest∧ot b (a))):∃r,lH b r:=acP.finP (N:=N) (by kernel_rfl) h λ_ ⟨a,_,e,_,q⟩=>⟨(a),e,q⟩
noncomputable def ags:am:=tab (P:=Tryd.prog) [] [] [] [dA]
def ae1:IR:=Rs [Bx 2 0,Pp (.new 4 [vI 0,vI 0,vS,nl .jnode,nl .str]),Mb 5 false] (Sq (Rs [Fa 7 0 2,Lq 8 7,Bc 9 .neq 8 6] (Cn 9 (Rs [Pp (.bld 10 [vI 0,vI 0,vS,fu .jnode true,fu .str true] []),Sv 5 4 10,Mb 5 false] .ret) .skip)) (Rs [Fa 11 4 2,Lq 12 11,Mv 13 1,Ca 14 96 [12,13],Mv 6 14] (Sq (Rs [Mv 15 6,Bc 16 .lss 15 0,Mv 17 16,Gf 17 (.mov 18 6),Gf 17 (.fad 19 3 2),Gf 17 (.lde 20 1 false 19),Gf 17 (.lenl 21 20),Gf 17 (.bin 22 .geq 18 21),Po 23 17 22] (Cn 23 (Rs [Pp (.bld 24 [vI 0,vI 0,vS,fu .jnode true,fu .str true] []),Sv 5 4 24,Mb 5 false] .ret) .skip)) (Rs [Fa 25 3 2,Lq 26 25,Mv 27 6,Ix 28 .jnode 26 27,Ld 29 5 true 28,Sv 5 4 29,Mb 5 true] .ret))))
def ae2:List RV:=[.cell 4 5 true,.t 5]
theorem ae3:FnC Tryd.prog ags [] 0 aaN Tryd.f99 ae1 ae2:=fnC Tryd.func99
def zt(N:Nat)(b:aa)(o:Bs):Ro:=
 let c:=λh f j e i g m=>(some (.tup [.agg [.int .i64 h,.int .i64 f,.str j,.sl .jnode (.may e) i,.sl .str (.may e) g],.bool m],[some [.int .i64 h,.int .i64 f,.str j,.sl .jnode (.may e) i,.sl .str (.may e) g]]):Ro)
 cond (!(b.kind==6)) (
  c 0 0 ([]:Bs) true ([]:List aa) ([]:Bss) false) (
  ae (aE b.names o) (λ(d:Int)=>
   cond (decide (d<0)) (
    c 0 0 ([]:Bs) true ([]:List aa) ([]:Bss) false) (
    let k:=(↑(Aa b.l):Int)
    cond (decide (k<=d)) (
     c 0 0 ([]:Bs) true ([]:List aa) ([]:Bss) false) (
     chk (ixl d b.l) (
      let a:=(Aq b.l (Ag d) (ao .jnode))
      c a.kind a.n a.s false a.l a.names true)))))
def zu(N:Nat)(b:aa)(a:Bs):Ro:=zt N b a
theorem ad3(N:Nat)(d:aa)(c:Bs)(h:Tot (zu N d c) (λz=>∃(b:aa)(a:Bool)(rest:List ah),z.1.dimR=.tup [.agg (enc .jnode b),.bool a]∧z.2=rest∧kF d c (b,a))):∃r,b9 d c r:=ae3.finP (N:=N) (by kernel_rfl) h λ_ ⟨b,a,_,e,_,q⟩=>⟨(b,a),e,q⟩
noncomputable def fM:am:=tab (P:=Tryd.prog) [] [] [] []
def iO:IR:=Rs [Bi 9 .lss 8 7] (Sq (Cn 9 .skip (.exit 0)) (Sq (.block 1 (Rs [Mv 10 8,Mv 5 10] (Rs [Mv 11 1,Mv 12 0,Mv 13 5,Ix 14 .str 12 13,Lq 15 14,Bi 16 .eql 11 15] (Cn 16 (Rs [Mv 17 5,Mv 4 17] .ret) .skip)))) (Rg [Bc 18 .add 8 1,Mv 8 18])))
def iP:IR:=Rs [Mi 4 (-1)] .ret
def o6:IR:=Rs [Mi 4 0] (Sq (Rs [Mv 6 0,Ll 7 6,Mi 8 0] (.block 0 (.loop [0,1,7,8,1000000] 0 iO))) iP)
def ju:List RV:=[.t 4]
theorem o7:FnC Tryd.prog fM [] 0 jP Tryd.f96 o6 ju:=fnC Tryd.func96
def oK(R:IR->(Ex->St->Ro)->St->Ro)(a:St->Ro):Ex->St->Ro:=(dv a [0,1,7,8,1000000] 0 (aQ 0 (cj (R iP) (fin ju))))
abbrev c9:Type:=(Bss×Bs×Int×Int)
def cX(x:c9):St:={env:=(.sl .str (.may false) x.1::.str x.2.1::(U 5 (.int .i64 x.2.2.1::.int .i64 x.2.2.2::(U 10 [])))),hp:=[]}
def eN(N:Nat):(St->Ro)->St->Ro:=λa s=>run fM N iO (oK (run fM N) a) s
def da(N:Nat)(a:c9->Ro)(x:c9):Ro:=
 let c:Bss:=x.1;let d:Bs:=x.2.1;let e:Int:=x.2.2.1;let b:Int:=x.2.2.2
 cond (decide (b<e)) (
  chk (ixl b c) (
   let g:=Aq c (Ag b) (ao .str)
   cond (decide (d=g)) (
    some (.int .i64 b,[])) (
    let f:=(Ao .i64 (b+1))
    a (c,d,e,f)))) (
  some (.int .i64 (-1),[]))
theorem nT(N:Nat):LB (eN N) cX (da N):=λ_ _=>by kernel_rfl
def ch(N:Nat)(a:Bss)(b:Bs)(c:c9->Ro):Ro:=
 let d:=(↑(Aa a):Int)
 c (a,b,d,0)
def jv(N:Nat)(b:Bss)(a:Bs):Ro:=ch N b a (λz=>b8 N (da N) z)
theorem oL(N:Nat)(c:Bss)(a:Bs)(h:Tot (jv N c a) (λz=>∃(d:Int)(rest:List ah),z.1.dimR=.int .i64 d∧z.2=rest∧ej c a (d))):∃r,aE c a r:=o7.finP (N:=N) ((gb _ (by kernel_rfl) rfl (λC=>ch N c a (λz=>C 1000000 (cX z))) (λC=>by kernel_rfl)).trans (BB (b:=ch N c a (λz=>bP N (eN N) (cX z))) (by kernel_rfl) (congrArg (ch N c a) (funext λz=>cL (cX) (eN N) (da N) (nT N) N z)))) h λ_ ⟨d,_,e,_,q⟩=>⟨(d),e,q⟩
noncomputable def nU:am:=tab (P:=Tryd.prog) [] [] [] [dA]
def nr:IR:=Rs [Mb 4 false] (Rs [Mv 5 0,Mv 6 1,Ca 7 96 [5,6],Bc 8 .geq 7 0,Mv 4 8] .ret)
def nu:List RV:=[.t 4]
theorem nv:FnC Tryd.prog nU [] 0 iN Tryd.f142 nr nu:=fnC Tryd.func142
def iA(N:Nat)(b:Bss)(a:Bs):Ro:=
 ae (aE b a) (λ(c:Int)=>
  some (.bool (decide (0<=c)),[]))
def iB(N:Nat)(b:Bss)(a:Bs):Ro:=iA N b a
theorem mM(N:Nat)(c:Bss)(b:Bs)(h:Tot (iB N c b) (λz=>∃(a:Bool)(rest:List ah),z.1.dimR=.bool a∧z.2=rest∧gZ c b (a))):∃r,bq c b r:=nv.finP (N:=N) (by kernel_rfl) h λ_ ⟨a,_,e,_,q⟩=>⟨(a),e,q⟩
noncomputable def tL:am:=tab (P:=Tryd.prog) [] [] [] [pT]
def sY:IR:=Rs [Mb 2 false] (Rs [Mv 3 0,Ca 4 139 [3],Un 5 4,Mv 2 5] .ret)
def sZ:List RV:=[.t 2]
theorem s0:FnC Tryd.prog tL [] 0 nH Tryd.f138 sY sZ:=fnC Tryd.func138
def mN(N:Nat)(a:Bs):Ro:=
 ae (ix a) (λ(b:Bool)=>
  some (.bool (!b),[]))
def mO(N:Nat)(a:Bs):Ro:=mN N a
theorem sg(N:Nat)(b:Bs)(h:Tot (mO N b) (λz=>∃(a:Bool)(rest:List ah),z.1.dimR=.bool a∧z.2=rest∧lF b (a))):∃r,eb b r:=s0.finP (N:=N) (by kernel_rfl) h λ_ ⟨a,_,e,_,q⟩=>⟨(a),e,q⟩
noncomputable def bG:am:=tab (P:=Tryd.prog) [] [] [] [tw]
def cD:IR:=Rs [Bi 9 .lss 8 7] (Sq (Cn 9 .skip (.exit 0)) (Sq (.block 1 (Rs [Mv 10 8,Mv 5 10] (Rs [Mv 11 1,Mv 12 0,Mv 13 5,Ix 14 .str 12 13,Lq 15 14,Pp (.dcall (some 16) 138 (.t 11) [.t 15])] (Cn 16 (Rs [Mv 17 5,Mv 4 17] .ret) .skip)))) (Rg [Bc 18 .add 8 1,Mv 8 18])))
def cE:IR:=Rs [Mi 4 (-1)] .ret
def gE:IR:=Rs [Mi 4 0] (Sq (Rs [Mv 6 0,Ll 7 6,Mi 8 0] (.block 0 (.loop [0,1,7,8,1000000] 0 cD))) cE)
def cP:List RV:=[.t 4]
theorem gF:FnC Tryd.prog bG [] 0 cU Tryd.f147 gE cP:=fnC Tryd.func147
def gv(R:IR->(Ex->St->Ro)->St->Ro)(a:St->Ro):Ex->St->Ro:=(dv a [0,1,7,8,1000000] 0 (aQ 0 (cj (R cE) (fin cP))))
abbrev aX:Type:=(Bss×Int×Int)
def aV(x:aX):St:={env:=(.sl .str (.may false) x.1::.fn 138 []::(U 5 (.int .i64 x.2.1::.int .i64 x.2.2::(U 10 [])))),hp:=[]}
def bv(N:Nat):(St->Ro)->St->Ro:=λa s=>run bG N cD (gv (run bG N) a) s
def aY(N:Nat)(a:aX->Ro)(x:aX):Ro:=
 let c:Bss:=x.1;let d:Int:=x.2.1;let b:Int:=x.2.2
 cond (decide (b<d)) (
  chk (ixl b c) (
   let g:=Aq c (Ag b) (ao .str)
   ae (eb g) (λ(f:Bool)=>
    cond f (
     some (.int .i64 b,[])) (
     let e:=(Ao .i64 (b+1))
     a (c,d,e))))) (
  some (.int .i64 (-1),[]))
theorem f4(N:Nat):LB (bv N) aV (aY N):=λ_ _=>by kernel_rfl
def aH(N:Nat)(a:Bss)(b:aX->Ro):Ro:=
 let c:=(↑(Aa a):Int)
 b (a,c,0)
def cQ(N:Nat)(a:Bss):Ro:=aH N a (λz=>b8 N (aY N) z)
theorem gw(N:Nat)(a:Bss)(h:Tot (cQ N a) (λz=>∃(c:Int)(rest:List ah),z.1.dimR=.int .i64 c∧z.2=rest∧cB a (c))):∃r,aJ a r:=gF.finP (N:=N) ((gb _ (by kernel_rfl) rfl (λC=>aH N a (λz=>C 1000000 (aV z))) (λC=>by kernel_rfl)).trans (BB (b:=aH N a (λz=>bP N (bv N) (aV z))) (by kernel_rfl) (congrArg (aH N a) (funext λz=>cL (aV) (bv N) (aY N) (f4 N) N z)))) h λ_ ⟨c,_,e,_,q⟩=>⟨(c),e,q⟩
noncomputable def f5:am:=tab (P:=Tryd.prog) [] [] [] [gX]
def fN:IR:=Rs [Mb 4 false] (Rs [Mv 5 0,Mv 6 1,Ca 7 147 [5,6],Bc 8 .geq 7 0,Mv 4 8] .ret)
def fO:List RV:=[.t 4]
theorem fP:FnC Tryd.prog f5 [] 0 cC Tryd.f136 fN fO:=fnC Tryd.func136
def ct(N:Nat)(a:Bss):Ro:=
 ae (aJ a) (λ(b:Int)=>
  some (.bool (decide (0<=b)),[]))
def cu(N:Nat)(a:Bss):Ro:=ct N a
theorem fD(N:Nat)(b:Bss)(h:Tot (cu N b) (λz=>∃(a:Bool)(rest:List ah),z.1.dimR=.bool a∧z.2=rest∧cf b (a))):∃r,av b r:=fP.finP (N:=N) (by kernel_rfl) h λ_ ⟨a,_,e,_,q⟩=>⟨(a),e,q⟩
end Go.Proofs.YtkinflmjagfapaaDoor
namespace Go.AM
def V.dull:V->Bool
 | .sl _ .own _=>false
 |v=>v.flat1
section
variable{I:Nat->Nat->Prop}{ρ ρ':Nat->Nat}{N N':Nat}{w:World}{P:Program}
theorem V.dull_flat1{v:V}(h:v.dull=true):v.flat1=true:=by
 unfold V.dull at h;split at h;·cases h
 ·exact h
theorem V.dull_own{v:V}(h:v.dull=true)(g:Gh)(w:World)(a:Occ)(cv:Value):ai g w a v cv:=by
 cases v with
 |sl k o xs=>cases o<;>first|(simp[V.dull] at h;done)|simp[ai]
 |raw n=>simp[V.dull,V.flat1] at h
 |ul k xs=>simp[V.dull,V.flat1] at h
 |_=>simp[ai]
theorem V.dull_nil{v:V}(h:v.dull=true)(cv:Value):cH v cv:=by
 cases v with
 |sl k o xs=>cases o<;>first|(simp[V.dull] at h;done)|simp[cH]
 |raw n=>simp[V.dull,V.flat1] at h
 |ul k xs=>simp[V.dull,V.flat1] at h
 |bn E n=>simp[V.dull,V.flat1] at h
 |_=>simp[cH]
theorem V.dull_row{cs:List V}(h:cs.all V.dull=true):b7 cs=false:=by
 unfold b7;split;·simp[V.dull,V.flat1] at h
 ·simp[V.dull,V.flat1] at h
 ·simp[V.dull,V.flat1] at h
 ·rfl
def aag(P:Program)(f:FuncId)(avs:List V)(css:List (List V))(k:EK)(xs:List (Ty k))(cs:List V)(css':List (List V)):Prop:=
 css'.length=css.length∧∃(id:Nat)(hp':List ah),eC P f avs (css.map some) (.agg (.sw k id xs.length::cs)) hp'∧css.length<=id∧hp'[id]? =some (some [.rw k xs])∧
  ∀(i:Nat) c,css'[i]? =some c->hp'[i]? =some (some c)
theorem aag.dim{f:FuncId}{avs us:List V}{css css':List (List V)}{k:EK}{xs:List (Ty k)}{cs:List V}(h:aag P f us css k xs cs css')(e:avs.map V.dim=us):aag P f avs css k xs cs css':=by obtain⟨b,id,hp',a,c⟩:=h;exact⟨b,id,hp',a.dim e,c⟩
theorem aag.frame{f:FuncId}{avs:List V}{css css':List (List V)}{k:EK}{xs:List (Ty k)}{cs:List V}(h:aag P f avs css k xs cs css')(ha:avs.all (V.flatP css.length)=true)(hv:cs.all V.dull=true)
  (S:css.all (λc=>c.all V.dull)=true) (ad:css'.all (λc=>c.all V.dull)=true) {hp hp':List ah} {σ:Nat->Nat}
  (el:∀k k',k<css.length->k'<css.length->σ k=σ k'->k=k')
  (h1:∀(k:Nat) cs,css[k]? =some cs->hp[σ k]? =some (some cs)) (h2:hp'.length=hp.length)
  (h3:∀(k:Nat) cs,css'[k]? =some cs->hp'[σ k]? =some (some cs))
  (h4:∀id,(∀k,k<css.length->σ k≠id)->hp'[id]? =hp[id]?):eC P f (avs.map (V.ren σ)) hp (.agg (.sw k hp.length xs.length::cs)) (hp'++[some [.rw k xs],none]):=by
 obtain⟨ew,J,e3,h,e0,X,a3⟩:=h;intro w g a4 ea D d1 b3 d0;have c4:∀(k:Nat) cs,css[k]? =some cs->cs.all V.dull=true:=λk cs m=>Ai.1 S cs (Af m)
 have bY:∀(k:Nat) cs,css'[k]? =some cs->cs.all V.dull=true:=λk cs m=>Ai.1 ad cs (Af m)
 have M:∀(k:Nat) cs,css[k]? =some cs->k<css.length:=λk cs m=>(Ad.1 m).1
 have v:∀(k:Nat) cs,(css.map some)[k]? =some (some cs)->css[k]? =some cs:=by
  intro k cs m;rw[Au] at m;cases hq:css[k]? with
  |none=>rw[hq] at m;simp at m
  |some x=>rw[hq] at m;simpa using m
 have sub:∀k,k<css.length->∃cs,css[k]? =some cs∧hp[σ k]? =some (some cs):=λk m=>⟨css[k],Ac m,h1 k _ (Ac m)⟩
 let g₀:Gh:={I:=g.I,ρ:=λk=>g.ρ (σ k),O:=λ_=>none,β:=g.β}
 have h0:HR g₀ (css.map some) w:=by
  refine⟨?_,?_,?_,λ_ _ _=>rfl,D.exI,by simp[g₀]⟩
  ·intro k c m;have m:=v k c m;refine(D.obj _ c (h1 k c m)).keep rfl λes e fz a1 C=>?_
   have hr:=V.dull_row (c4 k c m);have R:∀(j:Nat) A,(cellsOf c)[j]? =some A->A.dull=true:=λj A B=>Ai.1 (c4 k c m) A (Af (by rw[c7 hr] at B;exact B))
   refine⟨C.len,C.plain,by rw[fT hr];simp,C.cold,C.one,?_,?_,C.bn⟩;·intro j A cv B t;exact(C.rel j A cv B t).flat1 (V.dull_flat1 (R j A B))
   ·intro j A cv B t;exact V.dull_own (R j A B) _ _ _ _
  ·intro k k' c A m z L;have m:=v k c m;have z:=v k' A z;exact D.apart _ _ _ _ (h1 k c m) (h1 k' A z) λe=>L (el k k' (M k c m) (M k' A z) e)
  ·intro k c m;exact D.notI _ c (h1 k c (v k c m))
 have b2:∀(i:Nat) x cv,avs[i]? =some x->a4[i]? =some cv->VRel g₀.I g₀.ρ (css.map some).length w x cv:=by
  intro i x cv hx t;have hr:=d0 i (x.ren σ) cv (by rw[Au,hx];rfl) t;have a5:=Ai.1 ha x (Af hx);unfold V.flatP at a5;split at a5
  ·rename_i k;have m:k<css.length:=by simpa using a5
   simp only[V.ren] at hr;cases hr with
   |ptr _ _ _=>exact .ptr k 0 (by simpa using m)
  ·rw[V.ren_flat a5] at hr;exact hr.flat a5
 refine(h w g₀ a4 (ea.sub rfl (λh=>h) (λh=>by simp[g₀,h])) h0 (by rw[<-d1,Bm]) (by intro x hx;have:=b3 (x.ren σ) (CF hx);rw[V.ren_bare] at this;exact this) b2).mono ?_;rintro ex w' ⟨cv,g₁,rfl,q1,W,q3,q4⟩;have r0:∀k,k<css.length->g₁.ρ k=g.ρ (σ k):=λk m=>W.up.rho k (by simpa using m)
 have bx:∀b,(∀k,k<css.length->g.ρ (σ k)≠b)->∀(k:Nat) cs,(css.map some)[k]? =some (some cs)->g₀.ρ k≠b:=λb H k cs m=>H k (M k cs (v k cs m))
 have blk:∀b,b<w.heap.size->(∀k,k<css.length->g.ρ (σ k)≠b)->w'.heap[b]? =w.heap[b]?:=λb H L=>W.block b H (bx b L) rfl
 have c1:w.heap.size<=g₁.ρ J:=by
  rcases W.live J _ X with⟨_,hh⟩|⟨_,hh|hh|⟨i,c,a,ei⟩⟩
  ·have:=(Ad.1 hh).1;simp at this;omega
  ·exact hh
  ·simp[g₀] at hh
  ·exfalso;have a:=v i c a;have et:=M i c a;have c3:i<css'.length:=by omega
   have:=q1.apart i J _ _ (a3 i _ (Ac c3)) X (by omega);exact this (by rw[r0 i et];exact ei)
 let p:Gh:={I:=g₁.I,ρ:=λi=>if i=hp.length then g₁.ρ J else if i=hp.length+1 then g₁.ρ (J+1) else g.ρ i,β:=g.β,O:=λb=>if b<w.heap.size then g.O b else none}
 have q:∀i,i<hp.length->p.ρ i=g.ρ i:=by intro i a;simp only[p];rw[if_neg (by omega),if_neg (by omega)]
 have G:p.ρ hp.length=g₁.ρ J:=by simp[p]
 have Y:p.ρ (hp.length+1)=g₁.ρ (J+1):=by simp[p]
 have up:Up g.I g.ρ hp.length w p.I p.ρ (hp'++[some [V.rw k xs],none]).length w':=⟨W.up.mono,W.up.cell,q,by simp[h2]⟩
 have a0:∀(i:Nat) c,hp[i]? =some (some c)->g.ρ i<w.heap.size:=by intro i c a;obtain⟨ob,h1⟩:=(D.obj i c a).block;exact(AK.1 h1).1
 have F:∀(i:Nat) c,hp[i]? =some (some c)->i<hp.length:=λi c a=>(Ad.1 a).1
 have al:∀(i:Nat) c,hp'[i]? =some (some c)->(∃k d,k<css.length∧i=σ k∧css'[k]? =some c∧hp[i]? =some (some d))∨((∀k,k<css.length->σ k≠i)∧hp[i]? =some (some c)):=by
  intro i c a;by_cases m:∃k,k<css.length∧σ k=i
  ·obtain⟨k,m,rfl⟩:=m;obtain⟨d,_,r⟩:=sub k m;have z:k<css'.length:=by omega
   have:=h3 k _ (Ac z);rw[this] at a;exact .inl ⟨k,d,m,rfl,by rw[Ac z];simpa using a,r⟩
  ·have hn:∀k,k<css.length->σ k≠i:=λk z e=>m ⟨k,z,e⟩
   exact .inr ⟨hn,(h4 i hn).symm.trans a⟩
 have key:∀(i:Nat) c,(hp'++[some [V.rw k xs],none])[i]? =some (some c)->(i=hp.length∧c=[V.rw k xs])∨hp'[i]? =some (some c):=by
  intro i c hid;rcases AE i hp'.length with hl|hl;·rw[Ap hl] at hid;exact .inr hid
  ·rw[An hl] at hid;match hq:i-hp'.length,hid with
   |0,hid=>simp at hid;exact .inl ⟨by omega,hid.symm⟩
   |1,hid=>simp at hid
   |n+2,hid=>simp at hid
 have u:∀(i:Nat) c,hp'[i]? =some (some c)->∃d,hp[i]? =some (some d):=by
  intro i c a;rcases al i c a with⟨_,d,_,_,_,h⟩|⟨_,h⟩
  ·exact⟨d,h⟩
  ·exact⟨c,h⟩
 have Q:∀(i:Nat) c,(∀k,k<css.length->σ k≠i)->hp[i]? =some (some c)->∀k,k<css.length->g.ρ (σ k)≠g.ρ i:=by intro i c hn a k m;obtain⟨d,_,r⟩:=sub k m;exact D.apart _ _ _ _ r a (hn k m)
 have bs:∀b o,g.O b=some o->∀k,k<css.length->g.ρ (σ k)≠b:=by intro b o H k m e;obtain⟨d,_,r⟩:=sub k m;rw[<-e,D.notO _ d r] at H;cases H
 refine⟨cv,p,rfl,⟨?_,?_,?_,?_,q1.exI,?_⟩,⟨rfl,W.os,W.tape,W.output,W.size,?_,up,?_,?_,?_⟩,?_,by simp[ai]⟩
 ·intro i c a;rcases key i c a with⟨rfl,rfl⟩|a
  ·refine(q1.obj J _ X).keep (by rw[G]) λes e fz a1 C=>?_
   refine⟨C.len,C.plain,?_,C.cold,C.one,?_,?_,?_⟩;·intro k2 ys hz;obtain⟨t1,t2,t3,t4⟩:=C.typed k2 ys hz;refine⟨t1,?_,by simp[h2],λm=>(t4 m).trans W.beta⟩;rw[Y];exact t2
   ·intro j c cv S t;have ad:=S;simp only[cellsOf] at ad;obtain⟨y,hy,ad⟩:=bQ _ j _ ad;exact ny ad (C.rel j c cv S t)
   ·intro j c cv S t;have hm:=Af S;simp only[cellsOf,AC] at hm;obtain⟨y,_,hm⟩:=hm;exact eA (kf k y c hm) _ _ _ _
   ·intro j E n S;simp only[cellsOf] at S;obtain⟨y,_,S⟩:=bQ _ j _ S;exact absurd S (ni k y _ E n)
  ·rcases al i c a with⟨kk,d,m,rfl,z,hid⟩|⟨L,a⟩
   ·refine(q1.obj kk c (a3 kk c z)).keep (by rw[r0 kk m,q _ (F _ _ hid)]) λcy e' fz a1 C=>?_
    have hr:=V.dull_row (bY kk c z);have R:∀(j:Nat) A,(cellsOf c)[j]? =some A->A.dull=true:=λj A B=>Ai.1 (bY kk c z) A (Af (by rw[c7 hr] at B;exact B))
    refine⟨C.len,C.plain,by rw[fT hr];simp,C.cold,C.one,?_,?_,?_⟩;·intro j A cv B t;exact(C.rel j A cv B t).flat1 (V.dull_flat1 (R j A B))
    ·intro j A cv B t;exact V.dull_own (R j A B) _ _ _ _
    ·intro j E n B;have:=C.bn j E n B;rw[r0 kk m,<-q _ (F _ _ hid)] at this;exact this
   ·refine(D.obj i c a).keep (by rw[q i (F i c a)];exact blk _ (a0 i c a) (Q i c L a)) λcy e' fz a1 C=>?_
    refine⟨C.len,C.plain,C.typedUp rfl q up.num rfl,C.cold,C.one,λj c cv B t=>(C.rel j c cv B t).up up,?_,by rw[q i (F i c a)];exact C.bn⟩;intro j A cv B t;refine bd (C.own j A cv B t) rfl (λb j a=>⟨up.mono b j a,up.cell b j a⟩) ?_;intro b H;have ar:=D.oLt b _ H;have b0:=bs b _ H;exact⟨by simp[p,ar,H],blk b ar b0,λj B=>W.iSame b j ar (bx b b0) rfl B⟩
 ·intro i i' c A a Z L;rcases key i c a with⟨rfl,rfl⟩|a
  ·rcases key i' A Z with⟨rfl,rfl⟩|Z;·exact absurd rfl L
   ·obtain⟨cx,m2⟩:=u i' A Z;rw[G,q i' (F i' _ m2)];have:=a0 i' _ m2;omega
  ·obtain⟨d,m1⟩:=u i c a;rcases key i' A Z with⟨rfl,rfl⟩|Z;·rw[G,q i (F i _ m1)];have:=a0 i _ m1;omega
   ·obtain⟨cx,m2⟩:=u i' A Z;rw[q i (F i _ m1),q i' (F i' _ m2)];exact D.apart _ _ _ _ m1 m2 L
 ·intro i c a j B;rcases key i c a with⟨rfl,rfl⟩|a;·rw[G] at B;exact q1.notI J _ X j B
  ·rcases al i c a with⟨kk,d,m,rfl,z,hid⟩|⟨L,a⟩
   ·have:=q1.notI kk c (a3 kk c z) j;rw[r0 kk m,<-q _ (F _ _ hid)] at this;exact this B
   ·rw[q i (F i c a)] at B;exact D.notI i c a j (W.iSame _ j (a0 i c a) (bx _ (Q i c L a)) rfl B)
 ·intro i c a;rcases key i c a with⟨rfl,rfl⟩|a
  ·rw[G];have h2:¬g₁.ρ J<w.heap.size:=by omega
   simp[p,h2]
  ·obtain⟨d,m1⟩:=u i c a;rw[q i (F i _ m1)];have:=a0 i _ m1;simp[p,this,D.notO i _ m1]
 ·intro b o H;simp only[p] at H;split at H;·rename_i hq;exact Ax hq W.size
  ·simp at H
 ·intro b H ho hO;exact blk b H (λk m e=>by obtain⟨d,_,r⟩:=sub k m;exact ho _ d r e)
 ·intro b j H ho hO a;exact W.iSame b j H (bx b λk m e=>by obtain⟨d,_,r⟩:=sub k m;exact ho _ d r e) rfl a
 ·intro b H ho hO;simp[p,H,hO]
 ·intro i c a;rcases key i c a with⟨rfl,rfl⟩|a;·exact .inr ⟨Aj _,.inl (by rw[G];exact c1)⟩
  ·exact .inl (u i c a)
 ·cases q3 with
  |agg _ vs hl ho H dp=>
  refine .agg _ vs hl ?_ ?_ ?_
  ·intro c S;rcases AL.1 S with rfl|S;·rfl
   ·exact ho c (AS _ S)
  ·intro i c cv a t;cases i with
   |zero=>simp at a;subst a;simp[cH]
   |succ i=>simp only[AR] at a;exact V.dull_nil (Ai.1 hv c (Af a)) cv
  ·intro i c cv a t;cases i with
   |zero=>
    simp at a;subst a;have em:=dp 0 _ cv rfl t;cases em with
    |sw _ _ _ hN S hm=>
    have:=VRel.sw (I:=p.I) (ρ:=p.ρ) (N:=(hp'++[some [V.rw k xs],none]).length) (w:=w') k hp.length xs.length (by simp[h2]) (by rw[Y];exact S) (by rw[Y];exact hm);rw[Y,G] at this;exact this
   |succ i=>have:=dp (i+1) c cv a t;simp only[AR] at a;exact this.flat1 (V.dull_flat1 (Ai.1 hv c (Af a)))
theorem aag.laid{f:FuncId}{avs:List V}{css css':List (List V)}{k:EK}{xs:List (Ty k)}{cs:List V}(h:aag P f avs css k xs cs css')(hv:cs.all V.dull=true):aP P f avs css (.agg (.sl k (.may false) xs::cs)) css':=by
 obtain⟨y,b,hp',h,L,m,z⟩:=h;refine⟨y,(hp'.set b none).drop css'.length,?_⟩;have ad:b<hp'.length:=(Ad.1 m).1;have F:css'.map some++(hp'.set b none).drop css'.length=hp'.set b none:=by
  rw[<-List.take_append_drop css'.length (hp'.set b none)]
  congr 1
  ·apply CS;intro i;rw[Au,AJ];by_cases d:i<css'.length;·rw[if_pos d,AY (by omega),z i _ (Ac d),Ac d];rfl
   ·rw[if_neg d,AU (by omega)];rfl
  ·simp
 rw[F];intro w g o B G hl p u;refine(h w g o B G hl p u).mono ?_;rintro e w' ⟨cv,g₁,rfl,R,Y,Q,q4⟩;cases Q with
 |agg _ vs r Z hb q=>
 have H:0<vs.size:=by simp at r;omega
 have A:=q 0 _ vs[0] rfl (Am H);let s:St:={env:=[.sw k b xs.length],hp:=hp'}
 have hs:SR g₁ s w' {tmps:= #[vs[0]],defers:=[]}:=by
  refine⟨R,⟨rfl,?_,?_⟩⟩
  ·intro n v cv j a;match n,j,a with
   |0,j,a=>simp[s] at j a;subst j a;exact A
   |n+1,j,_=>simp[s] at j
  ·intro n v cv j a;match n,j,a with
   |0,j,a=>simp[s] at j;subst j;simp[ai]
   |n+1,j,_=>simp[s] at j
 have X:s.rowW b=some ⟨k,xs⟩:=by simp[St.rowW,s,Ah,m]
 have C:(dc.cls (.slot 0)).step s=some (true,{env:=[.ul k xs],hp:=hp'.set b none}):=by show (match s.rowW b with|some ⟨k',xs⟩=>_|none=>none)=_;rw[X];simp[s,St.put?,St.set]
 obtain⟨M,W,r2⟩:=acb hs C;have D:(dc.fz (.slot 0)).step ({env:=[.ul k xs],hp:=hp'.set b none}:St)=some (true,{env:=[.sl k .own xs],hp:=hp'.set b none}):=rfl;obtain⟨t,O,S⟩:=ade W D;have J:=r2.trans S;refine⟨_,t,rfl,O.hr,Y.trans J,?_,by simp[ai]⟩;refine .agg _ vs (by simpa using r) ?_ ?_ ?_
 ·intro c E;rcases AL.1 E with rfl|E;·rfl
  ·exact Z c (AS _ E)
 ·intro i c cv d a;cases i with
  |zero=>simp at d;subst d;simp[cH]
  |succ i=>simp only[AR] at d;exact V.dull_nil (Ai.1 hv c (Af d)) cv
 ·intro i c cv d a;cases i with
  |zero=>simp at d;subst d;have:=O.er.rel 0 (.sl k .own xs) vs[0] rfl rfl;rw[Am H] at a;cases a;exact this.own (by simp) (by simp)
  |succ i=>exact(q (i+1) c cv d a).up J.up
end
section
variable{P:Program}{Γ:am}{imp:List Nat}{k n:Nat}{f:FuncId}{fn:Func}{ir:IR}{rs:List RV}{vs:List V}{x:Ro}{call:Nat->List V->List ah->Ro}
end
end Go.AM
namespace Go.Proofs
open Go.AM
section
open Go.Shelf
def Tryd.lays160_ren:Go.Shelf.Ren:=⟨λ|160=>149|232=>157|231=>156|227=>158|234=>160|233=>159|236=>162|235=>161|228=>167|271=>169|151=>168|197=>165|120=>172|152=>171|260=>170|137=>89|119=>173|224=>152|225=>151|217=>110|266=>130|n=>n,λ|9=>9|4=>4|3=>3|5=>5|117=>178|116=>177|0=>0|124=>181|21=>21|105=>184|46=>103|119=>188|139=>191|138=>190|n=>n,λ|3=>4|4=>5|n=>n⟩
theorem Tryd.lays160:Go.Proofs.Lays.n160 Tryd.prog Tryd.lays160_ren:={
 mixed:=by kernel_rfl
 f119:=Tryd.func173.trans (congrArg some (by kernel_rfl))
 f120:=Tryd.func172.trans (congrArg some (by kernel_rfl))
 f137:=Tryd.func89.trans (congrArg some (by kernel_rfl))
 f151:=Tryd.func168.trans (congrArg some (by kernel_rfl))
 f152:=Tryd.func171.trans (congrArg some (by kernel_rfl))
 f160:=Tryd.func149.trans (congrArg some (by kernel_rfl))
 f197:=Tryd.func165.trans (congrArg some (by kernel_rfl))
 f217:=Tryd.func110.trans (congrArg some (by kernel_rfl))
 f224:=Tryd.func152.trans (congrArg some (by kernel_rfl))
 f225:=Tryd.func151.trans (congrArg some (by kernel_rfl))
 f227:=Tryd.func158.trans (congrArg some (by kernel_rfl))
 f228:=Tryd.func167.trans (congrArg some (by kernel_rfl))
 f231:=Tryd.func156.trans (congrArg some (by kernel_rfl))
 f232:=Tryd.func157.trans (congrArg some (by kernel_rfl))
 f233:=Tryd.func159.trans (congrArg some (by kernel_rfl))
 f234:=Tryd.func160.trans (congrArg some (by kernel_rfl))
 f235:=Tryd.func161.trans (congrArg some (by kernel_rfl))
 f236:=Tryd.func162.trans (congrArg some (by kernel_rfl))
 f260:=Tryd.func170.trans (congrArg some (by kernel_rfl))
 f266:=Tryd.func130.trans (congrArg some (by kernel_rfl))
 f271:=Tryd.func169.trans (congrArg some (by kernel_rfl))
 t0:=Tryd.underlying0
 a0:=Tryd.isAgg0
 z0:=Tryd.sizeOf0
 v0:=Tryd.zeroValue0
 t3:=Tryd.underlying3
 a3:=Tryd.isAgg3
 z3:=Tryd.sizeOf3
 v3:=Tryd.zeroValue3
 t4:=Tryd.underlying4
 a4:=Tryd.isAgg4
 z4:=Tryd.sizeOf4
 v4:=Tryd.zeroValue4
 t5:=Tryd.underlying5
 a5:=Tryd.isAgg5
 z5:=Tryd.sizeOf5
 v5:=Tryd.zeroValue5
 t9:=Tryd.underlying9
 a9:=Tryd.isAgg9
 z9:=Tryd.sizeOf9
 v9:=Tryd.zeroValue9
 t21:=Tryd.underlying21
 a21:=Tryd.isAgg21
 z21:=Tryd.sizeOf21
 v21:=Tryd.zeroValue21
 t46:=Tryd.underlying103
 a46:=Tryd.isAgg103
 z46:=Tryd.sizeOf103
 v46:=Tryd.zeroValue103
 t105:=Tryd.underlying184
 a105:=Tryd.isAgg184
 z105:=Tryd.sizeOf184
 v105:=Tryd.zeroValue184
 t116:=Tryd.underlying177
 a116:=Tryd.isAgg177
 z116:=Tryd.sizeOf177
 t117:=Tryd.underlying178
 a117:=Tryd.isAgg178
 z117:=Tryd.sizeOf178
 v117:=Tryd.zeroValue178
 t119:=Tryd.underlying188
 a119:=Tryd.isAgg188
 z119:=Tryd.sizeOf188
 t124:=Tryd.underlying181
 a124:=Tryd.isAgg181
 z124:=Tryd.sizeOf181
 v124:=Tryd.zeroValue181
 t138:=Tryd.underlying190
 a138:=Tryd.isAgg190
 z138:=Tryd.sizeOf190
 v138:=Tryd.zeroValue190
 t139:=Tryd.underlying191
 a139:=Tryd.isAgg191
 z139:=Tryd.sizeOf191
 v139:=Tryd.zeroValue191
 g3:=by kernel_rfl
 g4:=by kernel_rfl}
def Tryd.lays144_ren:Go.Shelf.Ren:=⟨λ|144=>114|143=>135|219=>146|217=>110|225=>151|224=>152|267=>153|266=>130|314=>163|n=>n,λ|9=>9|4=>4|3=>3|5=>5|46=>103|146=>182|51=>151|n=>n,λ|1=>0|n=>n⟩
theorem Tryd.lays144:Go.Proofs.Lays.n144 Tryd.prog Tryd.lays144_ren:={
 mixed:=by kernel_rfl
 f143:=Tryd.func135.trans (congrArg some (by kernel_rfl))
 f144:=Tryd.func114.trans (congrArg some (by kernel_rfl))
 f217:=Tryd.func110.trans (congrArg some (by kernel_rfl))
 f219:=Tryd.func146.trans (congrArg some (by kernel_rfl))
 f224:=Tryd.func152.trans (congrArg some (by kernel_rfl))
 f225:=Tryd.func151.trans (congrArg some (by kernel_rfl))
 f266:=Tryd.func130.trans (congrArg some (by kernel_rfl))
 f267:=Tryd.func153.trans (congrArg some (by kernel_rfl))
 f314:=Tryd.func163.trans (congrArg some (by kernel_rfl))
 t3:=Tryd.underlying3
 a3:=Tryd.isAgg3
 z3:=Tryd.sizeOf3
 v3:=Tryd.zeroValue3
 t4:=Tryd.underlying4
 a4:=Tryd.isAgg4
 z4:=Tryd.sizeOf4
 v4:=Tryd.zeroValue4
 t5:=Tryd.underlying5
 a5:=Tryd.isAgg5
 z5:=Tryd.sizeOf5
 v5:=Tryd.zeroValue5
 t9:=Tryd.underlying9
 a9:=Tryd.isAgg9
 z9:=Tryd.sizeOf9
 v9:=Tryd.zeroValue9
 t46:=Tryd.underlying103
 a46:=Tryd.isAgg103
 z46:=Tryd.sizeOf103
 v46:=Tryd.zeroValue103
 t51:=Tryd.underlying151
 a51:=Tryd.isAgg151
 z51:=Tryd.sizeOf151
 v51:=Tryd.zeroValue151
 t146:=Tryd.underlying182
 a146:=Tryd.isAgg182
 z146:=Tryd.sizeOf182
 v146:=Tryd.zeroValue182
 g1:=by kernel_rfl}
def Tryd.lays149_ren:Go.Shelf.Ren:=⟨λ|149=>66|222=>95|n=>n,λ|9=>9|5=>5|3=>3|4=>4|n=>n,λ|n=>n⟩
theorem Tryd.lays149:Go.Proofs.Lays.n149 Tryd.prog Tryd.lays149_ren:={
 mixed:=by kernel_rfl
 f149:=Tryd.func66.trans (congrArg some (by kernel_rfl))
 f222:=Tryd.func95.trans (congrArg some (by kernel_rfl))
 t3:=Tryd.underlying3
 a3:=Tryd.isAgg3
 z3:=Tryd.sizeOf3
 v3:=Tryd.zeroValue3
 t4:=Tryd.underlying4
 a4:=Tryd.isAgg4
 z4:=Tryd.sizeOf4
 v4:=Tryd.zeroValue4
 t5:=Tryd.underlying5
 a5:=Tryd.isAgg5
 z5:=Tryd.sizeOf5
 v5:=Tryd.zeroValue5
 t9:=Tryd.underlying9
 a9:=Tryd.isAgg9
 z9:=Tryd.sizeOf9
 v9:=Tryd.zeroValue9}
def Tryd.lays146_ren:Go.Shelf.Ren:=⟨λ|146=>137|221=>148|268=>154|138=>155|143=>135|195=>164|197=>165|218=>166|219=>146|260=>170|217=>110|225=>151|224=>152|267=>153|266=>130|314=>163|n=>n,λ|9=>9|31=>31|3=>3|4=>4|0=>0|105=>184|21=>21|5=>5|46=>103|119=>188|139=>191|138=>190|146=>182|51=>151|n=>n,λ|1=>0|3=>4|4=>5|n=>n⟩
theorem Tryd.lays146:Go.Proofs.Lays.n146 Tryd.prog Tryd.lays146_ren:={
 mixed:=by kernel_rfl
 f138:=Tryd.func155.trans (congrArg some (by kernel_rfl))
 f143:=Tryd.func135.trans (congrArg some (by kernel_rfl))
 f146:=Tryd.func137.trans (congrArg some (by kernel_rfl))
 f195:=Tryd.func164.trans (congrArg some (by kernel_rfl))
 f197:=Tryd.func165.trans (congrArg some (by kernel_rfl))
 f217:=Tryd.func110.trans (congrArg some (by kernel_rfl))
 f218:=Tryd.func166.trans (congrArg some (by kernel_rfl))
 f219:=Tryd.func146.trans (congrArg some (by kernel_rfl))
 f221:=Tryd.func148.trans (congrArg some (by kernel_rfl))
 f224:=Tryd.func152.trans (congrArg some (by kernel_rfl))
 f225:=Tryd.func151.trans (congrArg some (by kernel_rfl))
 f260:=Tryd.func170.trans (congrArg some (by kernel_rfl))
 f266:=Tryd.func130.trans (congrArg some (by kernel_rfl))
 f267:=Tryd.func153.trans (congrArg some (by kernel_rfl))
 f268:=Tryd.func154.trans (congrArg some (by kernel_rfl))
 f314:=Tryd.func163.trans (congrArg some (by kernel_rfl))
 t0:=Tryd.underlying0
 a0:=Tryd.isAgg0
 z0:=Tryd.sizeOf0
 v0:=Tryd.zeroValue0
 t3:=Tryd.underlying3
 a3:=Tryd.isAgg3
 z3:=Tryd.sizeOf3
 v3:=Tryd.zeroValue3
 t4:=Tryd.underlying4
 a4:=Tryd.isAgg4
 z4:=Tryd.sizeOf4
 v4:=Tryd.zeroValue4
 t5:=Tryd.underlying5
 a5:=Tryd.isAgg5
 z5:=Tryd.sizeOf5
 v5:=Tryd.zeroValue5
 t9:=Tryd.underlying9
 a9:=Tryd.isAgg9
 z9:=Tryd.sizeOf9
 v9:=Tryd.zeroValue9
 t21:=Tryd.underlying21
 a21:=Tryd.isAgg21
 z21:=Tryd.sizeOf21
 v21:=Tryd.zeroValue21
 t31:=Tryd.underlying31
 a31:=Tryd.isAgg31
 z31:=Tryd.sizeOf31
 v31:=Tryd.zeroValue31
 t46:=Tryd.underlying103
 a46:=Tryd.isAgg103
 z46:=Tryd.sizeOf103
 v46:=Tryd.zeroValue103
 t51:=Tryd.underlying151
 a51:=Tryd.isAgg151
 z51:=Tryd.sizeOf151
 v51:=Tryd.zeroValue151
 t105:=Tryd.underlying184
 a105:=Tryd.isAgg184
 z105:=Tryd.sizeOf184
 v105:=Tryd.zeroValue184
 t119:=Tryd.underlying188
 a119:=Tryd.isAgg188
 z119:=Tryd.sizeOf188
 t138:=Tryd.underlying190
 a138:=Tryd.isAgg190
 z138:=Tryd.sizeOf190
 v138:=Tryd.zeroValue190
 t139:=Tryd.underlying191
 a139:=Tryd.isAgg191
 z139:=Tryd.sizeOf191
 v139:=Tryd.zeroValue191
 t146:=Tryd.underlying182
 a146:=Tryd.isAgg182
 z146:=Tryd.sizeOf182
 v146:=Tryd.zeroValue182
 g1:=by kernel_rfl
 g3:=by kernel_rfl
 g4:=by kernel_rfl}
end
section
open Go.Shelf Go.RowKit Go.Lib
variable{P:Program}{ρ:Ren}
set_option maxHeartbeats 1000000 in
theorem Any.split1(L:Lays.n146 P ρ)(k:(P.info? (ρ.t 9)).map (λi=>(i.zero,i.size,i.bytes))=some (some (.string ByteArray.empty),1,16))(s:ByteArray)(b:UInt8)(w:World)(r:s.size<4294967281):
  Calls P (ρ.f 146) #[.string s,.string ⟨#[b]⟩] w λe w'=>
   e=.returned (.slice (some ⟨w.heap.size,0,none⟩) (Cz s ⟨#[b]⟩+1) (Cz s ⟨#[b]⟩+1))∧w'=w.alloc (.cells ((Lib.splitB ⟨#[b]⟩ 0 (Cz s ⟨#[b]⟩) s).map B5).toArray (ρ.t 9)):=by
 have j:1<=(⟨#[b]⟩:ByteArray).size:=Aj _;have z:=Lib.countB_le ⟨#[b]⟩ j s.size s (Aj _);have d:=Lib.splitB_all ⟨#[b]⟩ j 0 _ s rfl;have v:∀(x:ByteArray)(c:Array Value),x.size<=s.size->Calls P (ρ.f 143) #[.string x,.string ⟨#[b]⟩] (w.alloc (.cells c (ρ.t 9))) λe w'=>e=.returned (.int .i64 (Lib.indexB x ⟨#[b]⟩))∧w'=w.alloc (.cells c (ρ.t 9)):=λx c _=>by
  refine(Any.strings_Index_one {L with} x b _).mono λe w' ⟨h,g⟩=>⟨?_,g⟩
  rw[h];show _=Da (Value.int .i64 (Lib.index x.data.toList [b]));rw[Lib.index_one]
 have o:Calls P (ρ.f 138) #[.string s,.string ⟨#[b]⟩] w λe w'=>e=.returned (.int .i64 (Cz s ⟨#[b]⟩))∧w'=w:=by
  refine(Any.strings_Count_one {L with} s b w).mono λe w' ⟨h,g⟩=>⟨?_,g⟩
  rw[h];show _=Da (Value.int .i64 ((Lib.count s.data.toList [b]:Nat):Int));rw[Lib.count_one];rfl
 have c:=Any.strings_genSplit_core {L with} k s ⟨#[b]⟩ 0 (-1) (Cz s ⟨#[b]⟩+1) w r j (Bj _) v o (by decide) (by decide) (by rw[if_pos (by decide)];omega);rw[Nat.add_sub_cancel,d] at c;have p:Lib.cellsOf (Lib.splitB ⟨#[b]⟩ 0 (Cz s ⟨#[b]⟩) s) (Cz s ⟨#[b]⟩+1)=((Lib.splitB ⟨#[b]⟩ 0 (Cz s ⟨#[b]⟩) s).map B5).toArray:=by rw[<-d];exact Lib.cellsOf_full _
 rw[p] at c;have G:=L.t3;have C:=L.t9;have u:=L.t31;have I:=L.a3;have D:=L.a9;have A:=L.a31;have E:=L.z3;have F:=L.v3;have H:=L.z9;have B:=L.v9;have q:=L.z31;have y:=L.v31;have m:∀a w,(callFunc (ρ.f 221) a).run P w=.ok (.enter (ρ.f 221) a) w:=enters_of L.f221 (by kernel_rfl) rfl
 go_enter L.f146,Body.n146_ntmps ρ
 go_wp2_with (go_at_fn (ρ.f 221);refine c.mono ?_;rintro e w' ⟨rfl,g⟩;rw[g])
 go_ret
 exact⟨rfl,rfl⟩
end
end Go.Proofs
namespace Go.Proofs.YtkinflmjagfapaaDoor
open Go.AM
section
open Go.AM Go.RowKit
theorem qF{α:Type}(p:α->Bool):∀l:List α,(l.dropWhile p).length<=l.length
 | []=>Aj _
 |a::l=>by
  rw[List.dropWhile_cons];split;·exact Nat.le_succ_of_le (qF p l)
  ·exact Aj _
theorem ahl(l cs:List UInt8):(Go.Lib.trimS l cs).length<=l.length:=by unfold Go.Lib.trimS Go.Lib.trimLeftS Go.Lib.trimRightS;refine AF (qF _ _) ?_;rw[List.length_reverse];refine AF (qF _ _) ?_;rw[List.length_reverse];exact Aj _
theorem s5(s:List UInt8):-1<=ma s∧ma s<(s.length:Int):=by
 have:=Go.Lib.lastIndexByte_spec ⟨s.toArray⟩ 46;have e:(⟨s.toArray⟩:ByteArray).size=s.length:=by show s.toArray.size=_;simp
 unfold ma;rcases this with⟨h,_⟩|⟨i,a,h,_⟩
 ·rw[h];omega
 ·rw[h];omega
theorem xY{s:ByteArray}{l:List UInt8}(h:s.data.toList=l):s=⟨l.toArray⟩:=by subst h;simp
theorem xZ{P:Program}{f:FuncId}{vs:List V}{v:V}(h:∀(w:World)(I:Nat->Nat->Prop)(ρ:Nat->Nat)(a:Array Value),vs.length=a.size->
  (∀(i:Nat) x cv,vs[i]? =some x->a[i]? =some cv->VRel I ρ 0 w x cv)->Calls P f a w λe w'=>∃cv,e=.returned cv∧Below w.heap.size w w'∧(∀I ρ N w,VRel I ρ N w v cv)∧∀g w,ai g w .res v cv):aI P f vs v:=by
 refine⟨[],λw g a u q y m k=>(h w g.I g.ρ a y k).mono ?_⟩;rintro e w' ⟨cv,rfl,c,t,r⟩;have d:∀b j,g.I b j->w'.cell? ⟨b,j,none⟩=w.cell? ⟨b,j,none⟩:=by intro b j p;simp only[Bn,c.block b (q.exI b j p).lt]
 refine⟨_,g,rfl,⟨by simp,by simp,by simp,by simp,λb j p=>(q.exI b j p).blk (c.block b (q.exI b j p).lt),λb o m=>Ax (q.oLt b o m) c.size⟩,
  ⟨rfl,c.os,c.tape,c.output,c.size,λb m _ _=>c.block b m,⟨λ_ _ h=>h,d,λ_ _=>rfl,Aj _⟩,λ_ _ _ _ _ h=>h,λ_ _ _ h=>h,by simp⟩,t _ _ _ _,r _ _⟩
theorem abR{a b:List UInt8}{I:Nat->Nat->Prop}{ρ:Nat->Nat}{w:World}{c:Array Value}(m:[V.str a,V.str b].length=c.size)(d:∀(i:Nat) x cv,[V.str a,V.str b][i]? =some x->c[i]? =some cv->VRel I ρ 0 w x cv):c= #[.string ⟨a.toArray⟩,.string ⟨b.toArray⟩]:=by
 obtain⟨e,f,rfl⟩:∃e f,c= #[e,f]:=by
  rcases c with⟨l⟩
  match l,m with
  | [e,f],_=>exact⟨e,f,rfl⟩
 have k:=d 0 _ e rfl rfl;have h:=d 1 _ f rfl rfl;cases k with
 |str _ s j _=>
 cases h with
 |str _ s' g _=>rw[xY j,xY g]
theorem ahm(s:List UInt8)(g:s.length<=1000000):∃r,md s (jk++nD) r:=by refine⟨_,xZ (v:=.str (Go.Lib.trimS s (jk++nD))) (λw I ρ b f a=>?_),rfl⟩;obtain rfl:=abR f a;refine(Any.strings_Trim_laid Tryd.lays160 (by kernel_rfl) ⟨s.toArray⟩ ⟨(jk++nD).toArray⟩ w (by show s.toArray.size<=_;simp;omega) (by decide) (ascii_of_all (by decide))).mono ?_;rintro e w' ⟨d,c⟩;refine⟨_,d,c,λI ρ N w=>.str _ _ (by simp) ?_,by simp[ai]⟩;have:=ahl s (jk++nD);show (Go.Lib.trimS s (jk++nD)).toArray.size<=cR;simp only[Cr,cR];omega
theorem qG(s:List UInt8)(c:UInt8):∃r,d9 s [c] r:=by refine⟨_,xZ (v:=.bool (qC s c)) (λw I ρ b f a=>?_),rfl⟩;obtain rfl:=abR f a;refine(Any.strings_Contains_one Tryd.lays144 ⟨s.toArray⟩ c w).mono ?_;rintro e w' ⟨d,rfl⟩;exact⟨_,d,Below.refl _ _,λI ρ N w=>.bool _,by simp[ai]⟩
theorem ack(s:List UInt8)(k:s.length<=1000000):∃r,dI s 46 r:=by
 refine⟨_,xZ (v:=.int .i64 (ma s)) (λw I ρ a g b=>?_),rfl⟩;obtain⟨c,d,rfl⟩:∃c d,a= #[c,d]:=by
  rcases a with⟨l⟩
  match l,g with
  | [c,d],_=>exact⟨c,d,rfl⟩
 have i:=b 0 _ c rfl rfl;have h:=b 1 _ d rfl rfl;cases i with
 |str _ s' f _=>
 cases h with
 |int _ _ _=>
 obtain rfl:=xY f;refine(Any.strings_LastIndexByte Tryd.lays149 ⟨s.toArray⟩ 46 (by show s.toArray.size<_;simp;omega) w).mono ?_;rintro e w' ⟨j,rfl⟩;refine⟨_,j,Below.refl _ _,λI ρ N w=>.int _ _ ?_,by simp[ai]⟩;have:=s5 s;unfold ma at*
 simp only[Cm,B2,Bb,Br];simp only[if_true];omega
theorem ae4{P:Program}{f:FuncId}{vs:List V}{xs:List (List UInt8)}{ty:TypeId}(h:∀(w:World)(I:Nat->Nat->Prop)(ρ:Nat->Nat)(a:Array Value),vs.length=a.size->
  (∀(i:Nat) x cv,vs[i]? =some x->a[i]? =some cv->VRel I ρ 0 w x cv)->Calls P f a w λe w'=>e=.returned (.slice (some ⟨w.heap.size,0,none⟩) xs.length xs.length)∧w'=w.alloc (.cells (xs.map λx=>B5 ⟨x.toArray⟩).toArray ty))
  (J:xs.length<=1000000) (F:∀x∈xs,x.length<=1000000):aI P f vs (.sl .str (.may false) xs):=by
 refine⟨[],λw g a E A H z y=>(h w g.I g.ρ a H y).mono ?_⟩;rintro e w' ⟨rfl,rfl⟩;have blk:∀b,b<w.heap.size->(w.alloc (.cells (xs.map λx=>B5 ⟨x.toArray⟩).toArray ty)).heap[b]? =w.heap[b]?:=λb q=>Below.heap_alloc w _ b q
 have p:(w.alloc (.cells (xs.map λx=>B5 ⟨x.toArray⟩).toArray ty)).heap[w.heap.size]? =some (.cells (xs.map λx=>B5 ⟨x.toArray⟩).toArray ty):=by show (w.heap.push _)[w.heap.size]? =_;rw[CE,if_pos rfl]
 have C:(w.alloc (.cells (xs.map λx=>B5 ⟨x.toArray⟩).toArray ty)).heap.size=w.heap.size+1:=World.size_alloc ..;generalize m:w.alloc (.cells (xs.map λx=>B5 ⟨x.toArray⟩).toArray ty)=w' at*
 let D:Gh:={g with I:=λb j=>g.I b j∨(b=w.heap.size∧j<xs.length)}
 have t:∀b j,g.I b j->b<w.heap.size:=λb j c=>(A.exI b j c).lt
 have u:∀b j,g.I b j->w'.cell? ⟨b,j,none⟩=w.cell? ⟨b,j,none⟩:=λb j c=>by simp only[Bn,blk b (t b j c)]
 have k:∀(j:Nat) x,xs[j]? =some x->w'.cell? ⟨w.heap.size,j,none⟩=some (.string ⟨x.toArray⟩):=by intro j x d;simp[Bn,p,d]
 refine⟨_,D,rfl,⟨by simp,by simp,by simp,by simp,?_,?_⟩,⟨rfl,by rw[<-m];rfl,by rw[<-m];rfl,by rw[<-m];rfl,by omega,λb z _ _=>blk b z,⟨λ_ _ h=>.inl h,u,λ_ _=>rfl,Aj _⟩,?_,λ_ _ _ h=>h,by simp⟩,?_,by simp[ai]⟩
 ·rintro b j (c|⟨rfl,d⟩);·exact(A.exI b j c).blk (blk b (t b j c))
  ·exact kO.row p (by simpa using d) (λ_ B=>absurd B (by simp))
 ·intro b o z;have:=A.oLt b o z;omega
 ·rintro b j q _ _ (c|⟨rfl,d⟩);·exact c
  ·omega
 ·refine .sl .str (.may false) xs w.heap.size 0 xs.length xs.length rfl (Aj _) (by simp only[cR];omega) (by simp) (λi _=>.string ⟨(xs.getD i []).toArray⟩) ?_ ?_ ?_;·intro i x j c d;have r:j<1:=d;have G:i<xs.length:=(Ad.1 c).1;refine .inr ⟨rfl,?_⟩;show 0+i*1+j<_;omega
  ·intro i x j c d;have r:j<1:=d;rw[show 0+i*EK.sz .str+j=i from by show 0+i*1+j=i;omega,k i x c,Ah,c];rfl
  ·intro i x j v c d;have r:j<1:=(Ad.1 d).1;obtain rfl:j=0:=by omega
   obtain rfl:V.str x=v:=by simpa [enc] using d
   rw[Ah,c];refine .str _ _ (by simp) ?_;have:=F x (Af c);show x.toArray.size<=_;simp only[Cr,cR];omega
theorem uP:∀(k:Nat)(s:List UInt8),(∀x∈Go.Lib.splitK [46] 0 k s,x.length<=s.length)
 |0,s=>by simp[Go.Lib.splitK]
 |k+1,s=>by
  unfold Go.Lib.splitK;intro x a;split at a;·simp at a;subst a;exact Aj _
  ·rcases AL.1 a with rfl|h;·rw[Bv];omega
   ·have:=uP k _ x h;rw[BA] at this;omega
theorem agt(s:List UInt8)(m:s.length<=100000):∃r,eJ s [46] r:=by
 have k:(⟨s.toArray⟩:ByteArray).size=s.length:=by show s.toArray.size=_;simp
 have a:=Go.Lib.splitB_all ⟨#[46]⟩ (Aj _) 0 _ ⟨s.toArray⟩ rfl;have i:=Go.Lib.countB_le ⟨#[46]⟩ (Aj _) s.length ⟨s.toArray⟩ (by omega);have g:=Go.Lib.splitB_data ⟨#[46]⟩ 0 (Go.Lib.countB ⟨s.toArray⟩ ⟨#[46]⟩) ⟨s.toArray⟩;have d:Go.Lib.split s [46]=(Go.Lib.splitB ⟨#[46]⟩ 0 (Go.Lib.countB ⟨s.toArray⟩ ⟨#[46]⟩) ⟨s.toArray⟩).map (·.data.toList):=by rw[g];rfl
 refine⟨Go.Lib.split s [46],ae4 (ty:=Tryd.lays146_ren.t 9) (λw I ρ c j b=>?_) ?_ ?_,rfl⟩
 ·obtain rfl:=abR j b;refine(Any.split1 Tryd.lays146 (by kernel_rfl) ⟨s.toArray⟩ 46 w (by omega)).mono ?_;rintro e w' ⟨rfl,rfl⟩;have h:(Go.Lib.split s [46]).length=Go.Lib.countB ⟨s.toArray⟩ ⟨#[46]⟩+1:=by rw[d,Bm,a]
  refine⟨by rw[h],?_⟩;rw[d,B9]
  congr 3
 ·rw[d,Bm,a];omega
 ·intro x f;have:=uP _ s x f;omega
end
end Go.Proofs.YtkinflmjagfapaaDoor
end
