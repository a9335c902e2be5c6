import Derived.KernelRfl
import Derived.Test.YtkinflmjagfapaaDoorRows
import Derived.Test.YtkinflmjagfapaaDoorChecked
import Derived.Lib.LaidTab
import Derived.ChangeArms
import Derived.ChangeSlices
import Derived.WideShapes
import Derived.WideKeyArgs
import Derived.Test.YtkinflmjagfapaaDoorZ00
import Derived.Test.YtkinflmjagfapaaDoorZ02
import Derived.Test.YtkinflmjagfapaaDoorZ03
import Derived.Test.YtkinflmjagfapaaDoorZ04
import Derived.Test.YtkinflmjagfapaaDoorZ05
open Bool renaming or_false→Cl
open Eq renaming trans→A8
open Go.IntKind renaming wrap→Ae,signed→Bj,bits→BA,max→Cr,min→CF
open Go.Value renaming int→Dn
open Go.World renaming cell?→Bv
open Int renaming toNat→Ah,toNat_natCast→At,tmod→BG,tmod_eq_emod_of_nonneg→BJ,tdiv_eq_ediv_of_nonneg→BX,tdiv→Ck,tmod_nonneg→CX,mul_le_mul_of_nonneg_right→Du,tmod_lt_of_pos→DO
open List renaming length→Aa,getElem?_eq_getElem→Ab,getElem?_eq_some_iff→Ad,length_cons→Af,length_append→Aj,length_nil→Ak,getD_eq_getElem?_getD→Al,mem_of_getElem?→Am,getD→An,mem_singleton→Au,getElem?_append_right→Av,getElem?_append_left→Aw,mem_append→Az,mem_cons→AB,mem_map→AG,cons_append→AI,drop_eq_getElem_cons→AK,mem_cons_of_mem→AL,mem_append_left→AN,nil_append→AW,mem_range→AZ,not_mem_nil→A4,set→Bb,drop→Bd,getElem_mem→Bf,mem_of_mem_take→Bn,getElem?_cons_zero→Bq,take→Br,take_add_one→Bt,drop_length→By,map_append→BF,length_drop→BH,length_take→BI,take_length→BM,foldl_cons→BS,drop_eq_nil_of_le→BW,nodup_nil→BY,mem_append_right→B0,drop_zero→Cc,getD_cons_zero→Cw
open Nat renaming beq→AD,lt_or_ge→AH,zero_le→BB,xor_lt_two_pow→DP
open Option renaming getD_some→Bk,bind_eq_some_iff→BP
open Option.some renaming injEq→Ai,inj→Ax
open Prod.mk renaming injEq→Ao
open UInt8 renaming ofNat→AF,toNat→AJ,toNat_lt→DG,toNat_ofNat'→DM
set_option linter.all false
set_option maxRecDepth 100000
noncomputable section
namespace Go.Proofs.YtkinflmjagfapaaDoor
open Go.AM
def fo(sp s:List UInt8):List UInt8:=if dO s 46=false∧sp≠[] then sp++[46]++s else s
def zx(sp s:List UInt8)(e:Int):Int:=if (Go.Lib.split (fo sp s) [46]).all b9=true then e else aI e 6
theorem ag2(m:MS)(s sp:List UInt8):(bM m s sp).1 =fo sp s:=rfl
theorem qB(m:MS)(s sp:List UInt8):(bM m s sp).2.2.2.1 =zx sp s m.2.2.1:=ag1 m s sp
theorem wX{sp s:List UInt8}{e:Int}(h:e≠0):zx sp s e=e:=by unfold zx;rw[d9 h];simp
def kO(sp:List UInt8):List (List UInt8)->Int->Int
 | [],e=>e
 |s::a,e=>kO sp a (zx sp s e)
theorem ra(sp:List UInt8):∀(a:List (List UInt8)){e:Int},e≠0->kO sp a e=e
 | [],e,h=>rfl
 |s::a,e,h=>by rw[kO,wX h];exact ra sp a h
theorem aiB(sp:List UInt8):∀(a l:List (List UInt8))(m:MS),(gQ (cB sp) a l m).2.2.2.1 =kO sp a m.2.2.1∧((gQ (cB sp) a l m).2.2.2.1 =0->(gQ (cB sp) a l m).1 =l++a.map (fo sp))
 | [],l,m=>⟨rfl,λ_=>by simp[gQ]⟩
 |s::a,l,m=>by
  rw[gQ,kO];split;·have d:=aiB sp a (l++[(cB sp m s).1]) (cB sp m s).2;have e:(cB sp m s).2.2.2.1 =zx sp s m.2.2.1:=qB m s sp;rw[e] at d;refine⟨d.1,λh=>?_⟩;rw[d.2 h];show l++[fo sp s]++a.map (fo sp)=_;simp
  ·rename_i b;have d:=aiB sp a l m;rw[wX b];refine⟨d.1,λh=>?_⟩;rw[d.1,ra sp a b] at h;exact absurd h b
theorem asV{sp:List UInt8}{ts:List ac}{e:Int}{n:aa}{r:List (List UInt8)×Bool×RS}(h:cO ts e n [97,108,105,97,115,101,115] r)(m:MS)(j:m.2.2.1=e):
  (aB (cB sp) m n).2.2.2.1 =kO sp r.1 r.2.2.2∧(kO sp r.1 r.2.2.2=0->(aB (cB sp) m n).1 =r.1.map (fo sp)):=by
 obtain⟨-, -, -,p,o⟩:=h;simp only[aB];by_cases d:(aj n [97,108,105,97,115,101,115]).2 =true
 ·rw[if_pos d];obtain⟨f,g⟩:=o d m j;obtain⟨a,k⟩:=aiB sp (cu m (aj n [97,108,105,97,115,101,115]).1).1 [] (cu m (aj n [97,108,105,97,115,101,115]).1).2;rw[<-f] at a;by_cases b:r.2.2.2=0;·rw[<-g b] at a k ⊢;refine⟨a,λi=>?_⟩;rw[k (by rw[a];exact i)];simp
  ·rw[ra _ _ b] at a;rw[ra _ _ b];exact⟨a,λi=>absurd i b⟩
 ·rw[if_neg d];obtain⟨f,g⟩:=p (by simpa using d);rw[f,g];exact⟨j,λ_=>rfl⟩
theorem arG{ts:List ac}{e:Int}{n:aa}{name:List UInt8}{r:List (List UInt8)×Bool×RS}(h:cO ts e n name r)(b:e≠0):r.2.2.2=e:=by
 obtain⟨-, -, -,d,f⟩:=h;by_cases a:(aj n name).2 =true;·have:=(f a ([],[],e,0) rfl).1;rw[wh] at this;rw[this,d9 b];simp only[ite_self];exact tK _ b
 ·exact(d (by simpa using a)).2
theorem auO{m:MS}{t:ac}(h:m.2.2.1≠0):a7 m t=(0,ak m (decide (60<=m.2.1.length)) 3):=by unfold a7;rw[if_pos (.inl h)]
theorem arH(deep:Int)(hd:1<=deep∧deep<=20)(hT:ad3 (deep+1))(ts:List ac)(n:aa)(k:Int)(f:List UInt8)(gx:∃m,OfS ts 0 m)(h:ts.length<=60)(hn:bp n)(hk:9<=k∧k<=11)(hs:(f.length:Int)<=300*deep):∃r,cU ts 0 n k f deep r:=by
 obtain⟨N,hN⟩:∃N:Nat,N=100:=⟨_,rfl⟩
 apply zR N;have c0:n.names.length<=1000000:=by have:=hn.sizes;omega
 unfold rZ fK
 have fin:∀(x:Int)(t:List ac)(e:Int)(o:List ai),(∀m,OfS ts 0 m->m.2.2.2=deep->AgI (eo (aC deep) m n k f) (x,t,e))->Tot (some (.int .i64 x,some [.ul .atype t,.int .i64 e]::o):Ro) (λz=>∃(E:Int)(D:List ac)(F:Int)(rest:List ai),z.1.dimR=.int .i64 E∧z.2=some [.ul .atype D,.int .i64 F]::rest∧aU ts 0 n k f deep (E,D,F)):=
  λx t e o hx=>am ⟨_,_,_,_,rfl,rfl,λ_=>hx⟩
 dsimp only;rw[cn];refine ah (aaL _ _ _ _ _ c0) ?_;intro r1 gf;obtain⟨A,eB,gy,hB,hg,l2⟩:∃A eB,r1=(A,ts,eB)∧(∀m:MS,m.2.2.1=0->(dP m n).2.2.2.1 =eB)∧(eB=0->A=(aj n [110,97,109,101]).1.s)∧A.length<=100:=by
  have h6:r1=_:=gf.2;rw[if_neg (λhh=>by cases hh.2)] at h6;by_cases R:(aj n [110,97,109,101]).1.kind =4
  ·have X:(aj n [110,97,109,101]).2 ≠false:=λX=>by
    rw[acE X] at R;exact absurd R (by decide)
   rw[if_neg (λhh=>hh.elim X (λq=>q R))] at h6;refine⟨_,0,h6,λm y=>?_,λ_=>rfl,(kL hn).sizes.1⟩;show (ak m _ 2).2.2.1 =0;rw[bH,y,if_neg (by simp[R])]
  ·rw[if_pos (.inr R)] at h6;refine⟨_,aI 0 2,h6,λm y=>?_,λu=>absurd u (show aI 0 2≠0 by decide),by simp⟩;show (ak m _ 2).2.2.1 =_;rw[bH,y,if_pos (by simpa using R)]
 subst gy;clear gf;refine ah (ii n _ c0) ?_;rintro _ ⟨-,rfl⟩;dsimp only;have l6:=(kL (s:=[110,97,109,101,115,112,97,99,101]) hn).sizes.1;have g8:∀(m:MS)(w:List UInt8×MS),w.2.2.2.1≠0->(gH (aC deep) m n k w).2.2.2.1 =w.2.2.2.1:=by intro m w hw;have Z:=(ng (afJ (aG w.1)) w.2 n).trans (ay _ (aY (k:=.sn) (aB (cB (aG w.1)) w.2 n).2.1 w.1).isSome 5);have e1:=Z.stay hw;simp only[gH];have e2:=ah4 (ak (aB (cB (aG w.1)) w.2 n).2 (aY (k:=.sn) (aB (cB (aG w.1)) w.2 n).2.1 w.1).isSome 5) ⟨k,w.1,(aB (cB (aG w.1)) w.2 n).1,0,[],false,[],0,[],[]⟩ (by rw[e1];exact hw);rw[if_neg (by rw[e2,e1];exact hw)];exact e2.trans e1
 have ds:∀(g:List UInt8)(e1:Int),e1=0->g.length<=100+f.length->(∀m,OfS ts 0 m->m.2.2.2=deep->eo (aC deep) m n k f=gH (aC deep) m n k (bM m A g))->
   Tot (af (cA ts e1 A g) (λcx=>
       af (ey cx.1) (λ(hV:Bs)=>
        af (bJ cx.2.1 cx.2.2 n ([97,108,105,97,115,101,115]:Bs)) (λeD=>
         aK N (e8 N) (k,hV,deep,n,eD.1,0,eD.2.2.1,eD.2.2.2,k,cx.1,[],0,[],false,[],0,[],[]))))) (λz=>∃(E:Int)(D:List ac)(F:Int)(rest:List ai),z.1.dimR=.int .i64 E∧z.2=some [.ul .atype D,.int .i64 F]::rest∧aU ts 0 n k f deep (E,D,F)):=by
  rintro g e1 rfl j0 M;refine ah (aj6 _ _ _ _ (by omega) (by omega)) ?_;rintro⟨wn,ly,we⟩ ⟨-,hi,hD,eC⟩;dsimp only at hi hD eC ⊢;subst hi;have ha:we=zx g A 0:=by have:=(eC m0 rfl).1;rw[qB] at this;exact this
  have h4:we=0->wn=fo g A:=λu=>(eC m0 rfl).2 u
  refine ah (apU _ (by omega)) ?_;rintro _ ⟨-,rfl⟩;have ky:=asj wn;refine ah (yl _ _ _ _ hn) ?_;rintro⟨L,lo,gu,eT⟩ ⟨-,hX⟩;have ef:=hX;obtain⟨p1,p2,⟨p3,p4⟩, -, -⟩:=hX;dsimp only at p1 p2 p3 p4 ef ⊢;subst p1;have kt:(L.length:Int)<=8:=by omega
  have h5:we≠0->eT=we:=λu=>arG ef u
  have g5:∀m,OfS gu 0 m->(aB (cB (aG (fo g A))) (bM m A g).2 n).2.2.2.1 =kO (aG wn) L eT∧
    (kO (aG wn) L eT=0->(aB (cB (aG (fo g A))) (bM m A g).2 n).1 =L.map (fo (aG wn))∧(aB (cB (aG (fo g A))) (bM m A g).2 n).2 =m∧wn=fo g A∧we=0):=by
   intro m y;have b6:(bM m A g).2.2.2.1 =we:=by rw[qB,y.1,ha]
   by_cases j:we=0;·have h3:=h4 j;obtain⟨a1,a2⟩:=asV (sp:=aG (fo g A)) ef (bM m A g).2 b6;rw[<-h3] at a1 a2 ⊢;refine⟨a1,λu=>⟨a2 u,?_,rfl,j⟩⟩;have o1:=nh (afN (aG wn)) (bM m A g).2 n (a1.trans u);rw[o1];exact ya m A g (b6.trans j)
   ·rw[h5 j,ra _ _ j];refine⟨?_,λu=>absurd u j⟩;rw[<-b6];exact(ng (afJ _) _ _).stay (by rw[b6];exact j)
  refine ba (λx=>match x with|(k',sp,J,n',Y,i,v,H,B,C,W,f3,f4,f5,f6,f7,f8,f9)=>k'=k∧sp=aG wn∧J=deep∧n'=n∧Y=L∧v=gu∧(B=k∧C=wn∧f3=0∧f4=[]∧f5=false∧f6=[]∧f7=0∧f8=[]∧f9=[])∧(0<=i∧i<=(L.length:Int))∧(W.length:Int)<=i∧kO (aG wn) L eT=kO (aG wn) (L.drop i.toNat) H∧(H=0->W=(L.take i.toNat).map (fo (aG wn)))) (λx=>((L.length:Int)-x.2.2.2.2.2.1).toNat) ?_ _ _ ⟨rfl,rfl,rfl,rfl,rfl,rfl,⟨rfl,rfl,rfl,rfl,rfl,rfl,rfl,rfl,rfl⟩,⟨by simp,by simp⟩,by simp,by simp,λ_=>by simp⟩ (by simp;omega);rintro h7 ⟨k',sp,J,n',Y,i,v,H,B,C,W,f3,f4,f5,f6,f7,f8,f9⟩ ⟨rfl,rfl,rfl,rfl,rfl,rfl,⟨rfl,rfl,rfl,rfl,rfl,rfl,rfl,rfl,rfl⟩,⟨i1,i2⟩,i3,i4,i5⟩ ih;dsimp only at ih;unfold e8;dsimp only
  have a0:(H≠0∨i=(Y.length:Int))->∀m,OfS v 0 m->m.2.2.2=J->eo (aC J) m n' B f=gH (aC J) m n' B (bM m A g)∧
    (aB (cB (aG (fo g A))) (bM m A g).2 n').2.2.2.1 =H∧(H=0->(aB (cB (aG (fo g A))) (bM m A g).2 n').1 =W∧(aB (cB (aG (fo g A))) (bM m A g).2 n').2 =m∧C=fo g A):=by
   intro O m y p;have g6:kO (aG C) Y eT=H:=by
    rw[i4];rcases O with P|P;·exact ra _ _ P
    ·rw[P,At,By];rfl
   obtain⟨a1,a2⟩:=g5 m y;rw[g6] at a1 a2;refine⟨M m y p,a1,λu=>?_⟩;obtain⟨b1,b2,b3, -⟩:=a2 u;rcases O with P|P;·exact absurd u P
   ·refine⟨?_,b2,b3⟩;rw[b1,i5 u,P,At,BM]
  have fl:(H≠0∨i=(Y.length:Int))->H≠0->∀o,Tot (some (.int .i64 0,some [.ul .atype v,.int .i64 H]::o):Ro) (λz=>∃(E:Int)(D:List ac)(F:Int)(rest:List ai),z.1.dimR=.int .i64 E∧z.2=some [.ul .atype D,.int .i64 F]::rest∧aU v 0 n' B f J (E,D,F)):=by
   intro O he o;refine fin _ _ _ _ λm y p=>?_
   obtain⟨b1,b2, -⟩:=a0 O m y p;have Z:=(ay (aB (cB (aG (fo g A))) (bM m A g).2 n').2 (aY (k:=.sn) (aB (cB (aG (fo g A))) (bM m A g).2 n').2.1 (fo g A)).isSome 5)
   have e1:=Z.stay (by rw[b2];exact he);have e2:=ah4 (ak (aB (cB (aG (fo g A))) (bM m A g).2 n').2 (aY (k:=.sn) (aB (cB (aG (fo g A))) (bM m A g).2 n').2.1 (fo g A)).isSome 5) ⟨B,fo g A,(aB (cB (aG (fo g A))) (bM m A g).2 n').1,0,[],false,[],0,[],[]⟩ (by rw[e1,b2];exact he);have e3:=(e2.trans e1).trans b2;rw[b1];simp only[gH];rw[ag2,if_neg (by rw[e3];exact he)];exact⟨⟨h,e3.symm,λu=>absurd u he⟩,λu=>absurd u he⟩
  have eE:H=0->(H≠0∨i=(Y.length:Int))->∀S:Int×Bool×RS,cZ v 0 C S->S.2.1=true->∀o,Tot (some (.int .i64 0,some [.ul .atype v,.int .i64 (aI 0 5)]::o):Ro) (λz=>∃(E:Int)(D:List ac)(F:Int)(rest:List ai),z.1.dimR=.int .i64 E∧z.2=some [.ul .atype D,.int .i64 F]::rest∧aU v 0 n' B f J (E,D,F)):=by
   intro he O S h8 X o;refine fin _ _ _ _ λm y p=>?_
   obtain⟨b1,b2,b3⟩:=a0 O m y p;obtain⟨c1,c2,c3⟩:=b3 he;obtain⟨q1,q2,q3⟩:=y.z;have hf:=(wg (q3 rfl) (by rw[q1];exact h8)).1;rw[b1];simp only[gH];rw[ag2,c2,<-c3,<-hf,X,auO (by rw[bH,if_pos rfl,q2];decide)];have e4:(ak (ak m true 5) (decide (60<=(ak m true 5).2.1.length)) 3).2.2.1 =aI 0 5:=by
    have e5:(ak m true 5).2.2.1 =aI 0 5:=by rw[bH,if_pos rfl,q2]
    rw[<-e5];exact(ay _ _ 3).stay (by rw[e5];decide)
   rw[if_neg (by rw[e4];decide)];exact⟨⟨h,e4.symm,λu=>absurd u (show aI 0 5≠0 by decide)⟩,λu=>absurd u (show aI 0 5≠0 by decide)⟩
  have gN:H=0->(H≠0∨i=(Y.length:Int))->∀S:Int×Bool×RS,cZ v 0 C S->S.2.1=false->∀r:Int×RS,fy v 0 ⟨B,C,W,0,[],false,[],0,[],[]⟩ r->
    (∀m,OfS v 0 m->m.2.2.2=J->(r.2.2≠0->(eo (aC J) m n' B f).2.2.2.1 =r.2.2)∧(r.2.2=0->∃I,OfS r.2.1 0 I∧I.2.2.2=J∧r.2.1[r.1.toNat]? =some ⟨B,C,W,0,[],false,[],0,[],[]⟩∧(0<=r.1∧r.1<(r.2.1.length:Int))∧eo (aC J) m n' B f=(r.1,nU (aC J) I n' B (aG C) C W r.1)))∧r.2.1.length<=60:=by
   intro he O S h8 X r hr;have G:r.2.1.length<=60:=by obtain⟨m,y⟩:=gx;exact(agy y h hr).1.1
   refine⟨λm y p=>?_,G⟩;obtain⟨b1,b2,b3⟩:=a0 O m y p;obtain⟨c1,c2,c3⟩:=b3 he;obtain⟨q1,q2,q3⟩:=y.z;have hf:=(wg (q3 rfl) (by rw[q1];exact h8)).1;have b0:=agy y h hr;have hG:aY (k:=.sn) m.1 C=none:=by rw[X] at hf;simpa using hf.symm
   have eJ:gH (aC J) m n' B (bM m A g)=(if (a7 m ⟨B,C,W,0,[],false,[],0,[],[]⟩).2.2.2.1 =0 then ((a7 m ⟨B,C,W,0,[],false,[],0,[],[]⟩).1,nU (aC J) (cE (k:=.sn) (a7 m ⟨B,C,W,0,[],false,[],0,[],[]⟩).2.1 C (a7 m ⟨B,C,W,0,[],false,[],0,[],[]⟩).1,(a7 m ⟨B,C,W,0,[],false,[],0,[],[]⟩).2.2) n' B (aG C) C W (a7 m ⟨B,C,W,0,[],false,[],0,[],[]⟩).1) else (0,(a7 m ⟨B,C,W,0,[],false,[],0,[],[]⟩).2)):=by simp only[gH];rw[ag2,c2,<-c3,<-hf,X,fm];rw[<-c3] at c1;rw[c1]
   rw[b1,eJ];refine⟨λu=>?_,λu=>?_⟩;·rw[if_neg (by rw[<-b0.1.2.1];exact u)];exact b0.1.2.1.symm
   ·have j:(a7 m ⟨B,C,W,0,[],false,[],0,[],[]⟩).2.2.2.1 =0:=by rw[<-b0.1.2.1];exact u
    rw[if_pos j];obtain⟨z1,z2,z3⟩:=add_zero j;have t1:=b0.1.2.2 u;have t2:=b0.2 u;rw[z3] at t1 t2 ⊢;dsimp only at t1 t2 ⊢;have hR:we=0:=by
     by_cases P:we=0;·exact P
     ·have:=(g5 m y).2 (by
       rw[i4];rcases O with hh|hh;·exact absurd he hh
       ·rw[hh,At,By];exact he)
      exact this.2.2.2
    have hS:C≠[]:=by have:=ah5 (m:=m) (a:=A) (b:=g) (by rw[qB,q2,<-ha];exact hR);rw[ag2,<-c3] at this;exact this
    refine⟨(cE (k:=.sn) m.1 C (m.2.1.length:Int),m.2.1++[⟨B,C,W,0,[],false,[],0,[],[]⟩],0,m.2.2.2),⟨rfl,λ_=>⟨t1.symm,akw (q3 rfl) (t:=⟨B,C,W,0,[],false,[],0,[],[]⟩) hG hk hS rfl rfl rfl 0 m.2.2.2⟩⟩,p,?_,?_,by rw[t2]⟩;·rw[t1,t2,At];exact c8 _ _
    ·rw[t1,t2];simp only[Aj,Af,Ak];omega
  have fr:H=0->(H≠0∨i=(Y.length:Int))->∀S:Int×Bool×RS,cZ v 0 C S->S.2.1=false->∀r:Int×RS,fy v 0 ⟨B,C,W,0,[],false,[],0,[],[]⟩ r->∀o:ai,
    Tot (cond (B==9) (
       af (bD r.2.1 r.2.2 (reJ n') r.1 (aG C) J) (λbx=>
        (some (.int .i64 r.1,[some [.ul .atype bx.1,.int .i64 bx.2],o]):Ro))) (
       cond (B==10) (
        af (bw r.2.1 r.2.2 (reJ n') r.1) (λex=>
         (some (.int .i64 r.1,[some [.ul .atype ex.1,.int .i64 ex.2],o]):Ro))) (
        af (aR (reJ n') ([115,105,122,101]:Bs)) (λbs=>
         cond (!bs.2) (
          af (ag r.2.1 r.2.2 2) (λel=>
           (some (.int .i64 el.1,[some [.ul .atype el.2.1,.int .i64 el.2.2],o]):Ro))) (
          cond (!(bs.1.kind==3)) (
           af (ag r.2.1 r.2.2 2) (λar=>
            (some (.int .i64 ar.1,[some [.ul .atype ar.2.1,.int .i64 ar.2.2],o]):Ro))) (
           cond (decide (bs.1.n<0)) (
            af (ag r.2.1 r.2.2 6) (λea=>
             (some (.int .i64 ea.1,[some [.ul .atype ea.2.1,.int .i64 ea.2.2],o]):Ro))) (
            cond (decide (5000<bs.1.n)) (
             af (ag r.2.1 r.2.2 6) (λes=>
              (some (.int .i64 es.1,[some [.ul .atype es.2.1,.int .i64 es.2.2],o]):Ro))) (
             cond (r.2.2==0) (
              chk (decide (0<Aa r.2.1)) (
               chk ((decide (0<=r.1)&&decide (r.1<↑(Aa r.2.1)))) (
                chk (decide ((Ah r.1)<Aa r.2.1)) (
                 let ga:=(Bb r.2.1 (Ah r.1) (let e_:=An r.2.1 (Ah r.1) (ao .atype);⟨e_.kind,e_.name,e_.aliases,e_.items,e_.syms,e_.hasdef,e_.df,bs.1.n,e_.fields,e_.branches⟩))
                 chk (AD (Aa r.2.1) (Aa ga)) (
                  (some (.int .i64 r.1,[some [.ul .atype ga,.int .i64 r.2.2],o,none,none]):Ro)))))) (
              (some (.int .i64 r.1,[some [.ul .atype r.2.1,.int .i64 r.2.2],o]):Ro)))))))))) (λz=>∃(E:Int)(D:List ac)(F:Int)(rest:List ai),z.1.dimR=.int .i64 E∧z.2=some [.ul .atype D,.int .i64 F]::rest∧aU v 0 n' B f J (E,D,F)):=by
   intro he O S h8 X r hr o;obtain⟨mo,G⟩:=gN he O S h8 X r hr;obtain⟨w0,hC⟩:=gx;have hO:=mo (bZ w0 J) (hC.deep J) rfl;rw[cn];by_cases j:r.2.2=0
   ·obtain⟨gs,dj,ew,mk,a3, -⟩:=hO.2 j;rw[j];refine ab (λh9=>?_) (λh9=>?_)
    ·have h9:B=9:=by simpa using h9
     refine ah (apY J hd hT r.2.1 n' r.1 (aG C) ⟨gs,dj⟩ G a3 hn (by omega)) ?_;rintro bx ⟨-, -,a9⟩;have i7:=(a9 rfl gs dj ew).1;refine fin _ _ _ _ λm y p=>?_
     obtain⟨I,Z,k2,k3,k4,k5⟩:=(mo m y p).2 j;obtain⟨g1,g2,g3⟩:=a9 rfl I Z k2;rw[k5,nU,if_pos h9];dsimp only;refine⟨⟨g1,?_,λu=>?_⟩,λ_=>rfl⟩;·rw[g2];split<;>rfl
     ·have cd:(cl (aC J) I [] n' (aG C)).2.2.2.1 =0:=by rw[<-g2];exact u
      rw[if_pos cd];have hp:=(aja (aaM J) I [] n' (aG C)).2 r.1.toNat (by rw[(Z.2 rfl).1];omega);rw[(Z.2 rfl).1,k3] at hp;exact g3 u _ hp
    refine ab (λQ=>?_) (λQ=>?_)
    ·have Q:B=10:=by simpa using Q
     refine ah (apf r.2.1 n' r.1 hn a3) ?_;rintro ex ⟨-, -,hM⟩;obtain⟨g0,g1⟩:=hM rfl;refine fin _ _ _ _ λm y p=>?_
     obtain⟨I,Z,k2,k3,k4,k5⟩:=(mo m y p).2 j;obtain⟨g2,g3⟩:=g1 I Z.1;rw[k5,nU,if_neg (by omega),if_pos Q];dsimp only;refine⟨⟨by rw[g0];exact G,?_,λu=>?_⟩,λ_=>rfl⟩;·rw[g2];split<;>rfl
     ·have cd:(cY I n' false []).2.2.2.1 =0:=by rw[<-g2];exact u
      rw[if_pos cd,g3 u _ k3];show _=(cY I n' false []).2.2.1.set _ _;rw[yH I n' false [] cd,(Z.2 rfl).1]
    ·have h9:¬B=9:=by simpa using h9
     have Q:¬B=10:=by simpa using Q
     refine ah (ii n' _ c0) ?_;rintro _ ⟨-,rfl⟩;have e6:∀(e2:Int),e2≠0->(∀I:MS,I.2.2.1=0->(ak (ak I (!((aj n' [115,105,122,101]).1.kind ==3)) 2) (decide ((aj n' [115,105,122,101]).1.n <0)||decide (5000<(aj n' [115,105,122,101]).1.n)) 6).2.2.1 =e2)->∀(x:Int)(oo:List ai),Tot (some (.int .i64 x,some [.ul .atype r.2.1,.int .i64 e2]::oo):Ro) (λz=>∃(E:Int)(D:List ac)(F:Int)(rest:List ai),z.1.dimR=.int .i64 E∧z.2=some [.ul .atype D,.int .i64 F]::rest∧aU v 0 n' B f J (E,D,F)):=by
      intro e2 e0 d3 x oo;refine fin _ _ _ _ λm y p=>?_
      obtain⟨I,Z,k2,k3,k4,k5⟩:=(mo m y p).2 j;have fn:=d3 I Z.1;rw[k5,nU,if_neg h9,if_neg Q];dsimp only;rw[if_neg (by rw[fn];exact e0)];exact⟨⟨G,fn.symm,λu=>absurd u e0⟩,λu=>absurd u e0⟩
     have fs:(aj n' [115,105,122,101]).1.kind ≠3->∀(x:Int)(oo:List ai),Tot (some (.int .i64 x,some [.ul .atype r.2.1,.int .i64 (aI 0 2)]::oo):Ro) (λz=>∃(E:Int)(D:List ac)(F:Int)(rest:List ai),z.1.dimR=.int .i64 E∧z.2=some [.ul .atype D,.int .i64 F]::rest∧aU v 0 n' B f J (E,D,F)):=by
      intro al;refine e6 _ (by decide) λI bY=>?_
      have e5:(ak I (!((aj n' [115,105,122,101]).1.kind ==3)) 2).2.2.1 =aI 0 2:=by rw[bH,if_pos (by simpa using al),bY]
      rw[<-e5];exact(ay _ _ 6).stay (by rw[e5];decide)
     refine ab (λgd=>?_) (λgd=>?_);·refine ah (aV _ _ _) ?_;rintro _ ⟨-,rfl⟩;exact fs (by rw[acE (by simpa using gd)];show (0:Int)≠3;decide) _ _
     refine ab (λal=>?_) (λal=>?_);·refine ah (aV _ _ _) ?_;rintro _ ⟨-,rfl⟩;exact fs (by simpa using al) _ _
     have al:(aj n' [115,105,122,101]).1.kind =3:=by simpa using al
     have en:∀I:MS,ak I (!((aj n' [115,105,122,101]).1.kind ==3)) 2=I:=λI=>by rw[show (!((aj n' [115,105,122,101]).1.kind ==3))=false from by simp[al],fm]
     refine ab (λcy=>?_) (λcy=>?_);·refine ah (aV _ _ _) ?_;rintro _ ⟨-,rfl⟩;refine e6 _ (show aI 0 6≠0 by decide) (λI bY=>?_) _ _;rw[en,bH,cy,if_pos (by simp),bY]
     refine ab (λcv=>?_) (λcv=>?_);·refine ah (aV _ _ _) ?_;rintro _ ⟨-,rfl⟩;refine e6 _ (show aI 0 6≠0 by decide) (λI bY=>?_) _ _;rw[en,bH,cv,if_pos (by simp),bY]
     refine ab (λ_=>?_) (λP=>absurd P (by simp));refine vck ?_ (decide_eq_true (by omega));refine vck ?_ (by simp[a3.1,a3.2]);refine vck ?_ (decide_eq_true (by omega));refine vck ?_ (by simp);refine fin _ _ _ _ λm y p=>?_
     obtain⟨I,Z,k2,k3,k4,k5⟩:=(mo m y p).2 j;rw[k5,nU,if_neg h9,if_neg Q];dsimp only;rw[en,cy,cv,Cl,fm,if_pos Z.1,ad2 k3];have d3:ai1 (aj n' [115,105,122,101]).1.n =(aj n' [115,105,122,101]).1.n :=by unfold ai1;rw[if_neg (of_decide_eq_false cy),if_neg (of_decide_eq_false cv)]
     refine⟨⟨by simpa using G,Z.1.symm,λ_=>?_⟩,λ_=>rfl⟩;show _=I.2.1.set _ _;rw[(Z.2 rfl).1,d3]
   ·have a4:∀(x:Int)(t:List ac)(oo:List ai),t.length<=60->Tot (some (.int .i64 x,some [.ul .atype t,.int .i64 r.2.2]::oo):Ro) (λz=>∃(E:Int)(D:List ac)(F:Int)(rest:List ai),z.1.dimR=.int .i64 E∧z.2=some [.ul .atype D,.int .i64 F]::rest∧aU v 0 n' B f J (E,D,F)):=by
     intro x t oo ht;refine fin _ _ _ _ λm y p=>?_
     exact⟨⟨ht,((mo m y p).1 j).symm,λu=>absurd u j⟩,λu=>absurd u j⟩
    refine ab (λh9=>?_) (λh9=>?_);·refine ah (arF _ _ _ _ _ _ j hn) ?_;rintro bx ⟨-,a9, -⟩;rw[a9 j];exact a4 _ _ _ G
    refine ab (λQ=>?_) (λQ=>?_);·refine ah (apX _ _ _ _ j hn) ?_;rintro bx ⟨-,a9, -⟩;rw[a9 j];exact a4 _ _ _ G
    refine ah (ii n' _ c0) ?_;rintro _ ⟨-,rfl⟩;have ff:∀c,Tot (af (ag r.2.1 r.2.2 c) (λar=>(some (.int .i64 ar.1,[some [.ul .atype ar.2.1,.int .i64 ar.2.2],o]):Ro))) (λz=>∃(E:Int)(D:List ac)(F:Int)(rest:List ai),z.1.dimR=.int .i64 E∧z.2=some [.ul .atype D,.int .i64 F]::rest∧aU v 0 n' B f J (E,D,F)):=by intro c;refine ah (aV _ _ _) ?_;rintro _ ⟨-,rfl⟩;dsimp only;rw[d9 j];exact a4 _ _ _ G
    refine ab (λ_=>ff _) (λ_=>?_);refine ab (λ_=>ff _) (λ_=>?_);refine ab (λ_=>ff _) (λ_=>?_);refine ab (λ_=>ff _) (λ_=>?_);exact ab (λP=>absurd (by simpa using P) j) (λ_=>a4 _ _ _ G)
  have br:(H≠0∨i=(Y.length:Int))->∀(K:Int×Bool×RS->Ro),(∀S:Int×Bool×RS,cZ v H C S->S.2.2=(v,H)->Tot (K S) (λz=>∃(E:Int)(D:List ac)(F:Int)(rest:List ai),z.1.dimR=.int .i64 E∧z.2=some [.ul .atype D,.int .i64 F]::rest∧aU v 0 n' B f J (E,D,F)))->
    Tot (af (bO v H C) K) (λz=>∃(E:Int)(D:List ac)(F:Int)(rest:List ai),z.1.dimR=.int .i64 E∧z.2=some [.ul .atype D,.int .i64 F]::rest∧aU v 0 n' B f J (E,D,F)):=by
   intro O K hK;refine ah (agz _ _ _ h) ?_;rintro S ⟨-,h8⟩;exact hK S h8 h8.1
  refine ab (λhc=>?_) (λhc=>?_)
  ·have hc:=of_decide_eq_true hc;have ei:i.toNat<Y.length:=by omega
   refine ab (λj=>?_) (λj=>br (.inl (by simpa using j)) _ λS h8 c4=>?_)
   ·have j:H=0:=by simpa using j
    have hU:=tv (d:=(ao .str:List UInt8)) ⟨i1,hc⟩;have hF:Y.take (i+1).toNat=Y.take i.toNat++[Y.getD i.toNat (ao .str)]:=by rw[show (i+1).toNat=i.toNat+1 by omega,Bt,Ab ei,Al,Ab ei];rfl
    have k0:(Y.getD i.toNat (ao .str)).length<=100:=p4 _ (by rw[Al,Ab ei];exact Bf _);rw[hU,kO] at i4;refine vck ?_ (ixt ⟨i1,hc⟩);refine ah (aj6 _ _ _ _ (by omega) (by omega)) ?_;rintro⟨an,k7,ae⟩ ⟨-,gO,hA,d4⟩;dsimp only at gO hA d4 ⊢;subst gO;have hI:ae=zx (aG C) (Y.getD i.toNat (ao .str)) H:=by have:=(d4 ([],[],H,0) rfl).1;rw[qB] at this;exact this
    refine vck ?_ (decide_eq_true (by simp only[Af,Ak];omega));rw[ax (i+1) (by omega)];refine ih _ ⟨rfl,rfl,rfl,rfl,rfl,rfl,⟨rfl,rfl,rfl,rfl,rfl,rfl,rfl,rfl,rfl⟩,⟨by first|omega|(dsimp only;omega),by first|omega|(dsimp only;omega)⟩,by simp only[Aj,Af,Ak];omega,by rw[i4,hI],λu=>?_⟩ (by simp only;omega);rw[hF,BF,i5 j,(d4 ([],[],H,0) rfl).2 u];rfl
   ·have j:H≠0:=by simpa using j
    rw[c4];exact ab (λP=>absurd (by simpa using P) j) (λ_=>ab (λ_=>fl (.inl j) j _) (λP=>absurd (by simpa using P) j))
  ·have hc:=of_decide_eq_false hc;have cc:i=(Y.length:Int):=by omega
   refine br (.inr cc) _ λS h8 c4=>?_
   obtain⟨lx,l1,l4⟩:=S;dsimp only at c4 ⊢;subst c4;refine ab (λj=>?_) (λj=>?_)
   ·have j:H=0:=by simpa using j
    subst j;refine ab (λX=>?_) (λX=>?_);·refine ah (aV _ _ _) ?_;rintro _ ⟨-,rfl⟩;exact ab (λ_=>eE rfl (.inr cc) _ h8 X _) (λP=>absurd P (show ¬((!(aI 0 5==0))=false) by decide))
    ·refine ab (λP=>absurd P (by simp)) (λ_=>?_);refine ah (zv _ _ _ h) ?_;rintro r ⟨-,hr⟩;exact fr rfl (.inr cc) _ h8 X r hr _
   ·have j:H≠0:=by simpa using j
    exact ab (λ_=>fl (.inr cc) j _) (λP=>absurd (by simpa using P) j)
 have early:∀(e1:Int),e1≠0->(∀m,OfS ts 0 m->m.2.2.2=deep->∃w:List UInt8×MS,w.2.2.2.1=e1∧eo (aC deep) m n k f=gH (aC deep) m n k w)->Tot (some (.int .i64 0,[some [.ul .atype ts,.int .i64 e1]]):Ro) (λz=>∃(E:Int)(D:List ac)(F:Int)(rest:List ai),z.1.dimR=.int .i64 E∧z.2=some [.ul .atype D,.int .i64 F]::rest∧aU ts 0 n k f deep (E,D,F)):=by
  intro e1 ej hw;refine fin _ _ _ _ λm y p=>?_
  obtain⟨w,w1,w2⟩:=hw m y p;have hL:=g8 m w (by rw[w1];exact ej);rw[w2];exact⟨⟨h,by rw[hL,w1],λu=>absurd u ej⟩,λu=>absurd u ej⟩
 have gC:∀m,OfS ts 0 m->eB=0->(dP m n).2 =m:=λm y u=>(show gI m (dP m n).2 from a8 _ _ _) ((hB m y.1).trans u)
 refine ab (λX=>?_) (λX=>?_)
 ·have M:∀m,eo (aC deep) m n k f=gH (aC deep) m n k (bM (ak (dP m n).2 (!((aj n [110,97,109,101,115,112,97,99,101]).1.kind ==4)) 2) (dP m n).1 (aj n [110,97,109,101,115,112,97,99,101]).1.s):=by
   intro m;simp only[eo];rw[if_pos X]
  refine ab (λR=>?_) (λR=>?_)
  ·refine ah (aV _ _ _) ?_;rintro _ ⟨-,rfl⟩;refine ab (λ_=>early _ (cS (by decide)) λm y p=>⟨_,?_,M m⟩) (λP=>absurd (by simpa using P) (cS (by decide)));have e5:(ak (dP m n).2 (!((aj n [110,97,109,101,115,112,97,99,101]).1.kind ==4)) 2).2.2.1 =aI eB 2:=by rw[bH,if_pos R,hB m y.1]
   rw[qB,e5,wX (cS (by decide))]
  ·have gt:∀m:MS,ak (dP m n).2 (!((aj n [110,97,109,101,115,112,97,99,101]).1.kind ==4)) 2=(dP m n).2 :=λm=>by rw[R,fm]
   refine ab (λj=>early _ (by simpa using j) λm y p=>⟨_,?_,M m⟩) (λj=>?_);·rw[gt,qB,hB m y.1,wX (by simpa using j)]
   ·have j:eB=0:=by simpa using j
    refine ds _ eB j (by omega) λm y p=>?_
    rw[M,gt,gC m y j,hg j];rfl
 ·have M:∀m,eo (aC deep) m n k f=gH (aC deep) m n k (bM (dP m n).2 (dP m n).1 f):=by
   intro m;simp only[eo];rw[if_neg (by rw[X];decide)]
  refine ab (λj=>early _ (by simpa using j) λm y p=>⟨_,?_,M m⟩) (λj=>?_);·rw[qB,hB m y.1,wX (by simpa using j)]
  ·have j:eB=0:=by simpa using j
   refine ds _ eB j (by omega) λm y p=>?_
   rw[M,gC m y j,hg j];rfl
theorem aiC{d:Int}{m:MS}{n:aa}{a:List UInt8}(h:m.2.2.1≠0):(aC d m n a).2.2.2.1 =m.2.2.1:=(oD d m n a).stay h
theorem at2{deep:Int}(hd:1<=deep∧deep<=20){m:MS}(d:m.2.2.2=deep-1)(b:m.2.2.1=0)(n:aa)(a:List UInt8):
  aC (deep-1) m n a=((if n.kind=4 then dr (bZ m deep) n.s a else if n.kind=5 then dk (aC deep) (bZ m deep) n a else if n.kind=6 then cm (aC deep) (bZ m deep) n a else (0,ak (bZ m deep) true 2)).1,
   bZ (if n.kind=4 then dr (bZ m deep) n.s a else if n.kind=5 then dk (aC deep) (bZ m deep) n a else if n.kind=6 then cm (aC deep) (bZ m deep) n a else (0,ak (bZ m deep) true 2)).2 (deep-1)):=by
 have e:21-(deep-1).toNat=(21-deep.toNat)+1:=by omega
 have f:m.2.2.2+1=deep:=by omega
 unfold aC;rw[e,aL,if_neg (by simpa using b)];dsimp only;rw[f,show decide (20<deep)=false from decide_eq_false (by omega),fm,if_neg (by simpa [bZ] using b),d]
theorem arI{m:MS}(e:m.2.2.2=20)(b:m.2.2.1=0)(n:aa)(a:List UInt8):(aC 20 m n a).2.2.2.1 =aI 0 3:=by
 have d:(ak (bZ m (m.2.2.2+1)) (decide (20<m.2.2.2+1)) 3).2.2.1 =aI 0 3:=by rw[bH,if_pos (by rw[e];decide)];show aI m.2.2.1 3=_;rw[b]
 show (aL 1 m n a).2.2.2.1 =_;rw[aL,if_neg (by simpa using b)];dsimp only;rw[if_pos (by rw[d];decide)];exact d
theorem aj8(deep:Int)(hd:1<=deep∧deep<=21)(hT:deep<=20->ad3 (deep+1)):ad3 deep:=by
 intro ts e n b H h hn hs;apply abh 1;have bY:n.names.length<=1000000:=by have:=hn.sizes;omega
 unfold tA tz
 have fin:∀(x:Int)(t:List ac)(B:Int)(o:List ai),(∀m,OfS ts e m->m.2.2.2=deep-1->AgI (aC (deep-1) m n b) (x,t,B))->Tot (some (.int .i64 x,some [.ul .atype t,.int .i64 B]::o):Ro) (λz=>∃(E:Int)(D:List ac)(G:Int)(rest:List ai),z.1.dimR=.int .i64 E∧z.2=some [.ul .atype D,.int .i64 G]::rest∧c6 ts e n b deep (E,D,G)):=
  λx t B o hx=>am ⟨_,_,_,_,rfl,rfl,hx⟩
 dsimp only;refine ab (λw=>fin _ _ _ _ λm hm W=>?_) (λw=>?_)
 ·have w:e≠0:=by simpa using w
  have:=aiC (d:=deep-1) (n:=n) (a:=b) (m:=m) (by rw[hm.1];exact w);exact⟨⟨h,by rw[this,hm.1],λv=>absurd v w⟩,λv=>absurd v w⟩
 have w:e=0:=by simpa using w
 subst w;refine ab (λhc=>?_) (λhc=>?_)
 ·have hc:=of_decide_eq_true hc;have bx:deep=21:=by omega
  subst bx;refine ah (aV _ _ _) ?_;rintro _ ⟨-,rfl⟩;refine fin _ _ _ _ λm hm W=>?_
  have:=arI (m:=m) (by rw[W];decide) hm.1 n b;exact⟨⟨h,this.symm,λv=>absurd v (show aI 0 3≠0 by decide)⟩,λv=>absurd v (show aI 0 3≠0 by decide)⟩
 have hc:=of_decide_eq_false hc;have a3:1<=deep∧deep<=20:=by omega
 have hT:=hT (by omega);have H:=H rfl;have ed:IntKind.i64.wrap (deep+1)=deep+1:=ax (deep+1) (by omega);rw[ed];have F:∀(x:Int)(t:List ac)(B:Int)(o:List ai),(∀M,OfS ts 0 M->M.2.2.2=deep->AgI (if n.kind=4 then dr M n.s b else if n.kind=5 then dk (aC deep) M n b else if n.kind=6 then cm (aC deep) M n b else (0,ak M true 2)) (x,t,B))->Tot (some (.int .i64 x,some [.ul .atype t,.int .i64 B]::o):Ro) (λz=>∃(E:Int)(D:List ac)(G:Int)(rest:List ai),z.1.dimR=.int .i64 E∧z.2=some [.ul .atype D,.int .i64 G]::rest∧c6 ts 0 n b deep (E,D,G)):=by
  intro x t B o hx;refine fin x t B o λm hm W=>?_
  rw[at2 a3 W hm.1];exact hx (bZ m deep) (hm.deep deep) rfl
 refine ab (λR=>?_) (λR=>?_)
 ·have R:n.kind=4:=by simpa using R
  refine ah (amm _ _ _ h (by have:=hn.sizes;omega) (by omega)) ?_;rintro r ⟨-,S⟩;refine F _ _ _ _ λM p j=>?_
  rw[if_pos R];exact S rfl M p
 have R:¬n.kind=4:=by simpa using R
 refine ab (λk5=>?_) (λk5=>?_)
 ·have k5:n.kind=5:=by simpa using k5
  rw[cn];refine ah (arE deep a3 hT _ _ _ H h hn hs) ?_;rintro r ⟨-,S⟩;refine F _ _ _ _ λM p j=>?_
  rw[if_neg R,if_pos k5];exact S rfl M p j
 have k5:¬n.kind=5:=by simpa using k5
 refine ab (λk6=>?_) (λk6=>?_)
 rotate_left
 ·have k6:¬n.kind=6:=by simpa using k6
  refine ah (aV _ _ _) ?_;rintro _ ⟨-,rfl⟩;refine F _ _ _ _ λM p j=>?_
  rw[if_neg R,if_neg k5,if_neg k6];exact⟨⟨h,by rw[bH,if_pos rfl,p.1],λv=>absurd v (show aI 0 2≠0 by decide)⟩,λv=>absurd v (show aI 0 2≠0 by decide)⟩
 have k6:n.kind=6:=by simpa using k6
 have y:∀(x:Int)(t:List ac)(B:Int)(o:List ai),(∀M,OfS ts 0 M->M.2.2.2=deep->AgI (cm (aC deep) M n b) (x,t,B))->Tot (some (.int .i64 x,some [.ul .atype t,.int .i64 B]::o):Ro) (λz=>∃(E:Int)(D:List ac)(G:Int)(rest:List ai),z.1.dimR=.int .i64 E∧z.2=some [.ul .atype D,.int .i64 G]::rest∧c6 ts 0 n b deep (E,D,G)):=by
  intro x t B o hx;refine F x t B o λM p j=>?_
  rw[if_neg R,if_neg k5,if_pos k6];exact hx M p j
 rw[cn];refine ah (ii n _ bY) ?_;rintro _ ⟨-,rfl⟩;have b0:bp (aj n [116,121,112,101]).1 :=kL hn;have gs:=b0.sizes.1;refine ab (λX=>?_) (λX=>?_)
 ·have X:(aj n [116,121,112,101]).2 =false:=by simpa using X
  refine ah (aV _ _ _) ?_;rintro _ ⟨-,rfl⟩;refine y _ _ _ _ λM p j=>?_
  have e1:(ak M (!(aj n [116,121,112,101]).2) 2).2.2.1 =aI 0 2:=by rw[bH,if_pos (by rw[X];rfl),p.1]
  have ht:(cm (aC deep) M n b).2.2.2.1 =aI 0 2:=by simp only[cm];rw[if_pos (by rw[acE X];show (0:Int)≠4;decide),<-e1];exact aiC (by rw[e1];decide)
  exact⟨⟨h,ht.symm,λv=>absurd v (show aI 0 2≠0 by decide)⟩,λv=>absurd v (show aI 0 2≠0 by decide)⟩
 have X:(aj n [116,121,112,101]).2 =true:=by simpa using X
 have b2:∀M:MS,ak M (!(aj n [116,121,112,101]).2) 2=M:=λM=>by rw[X];exact fm _ _
 refine ab (λkt=>?_) (λkt=>?_)
 ·have kt:(aj n [116,121,112,101]).1.kind ≠4:=by simpa using kt
  rw[cn];refine ah (hT ts 0 _ _ (λ_=>H) h b0 (by omega)) ?_;rintro r ⟨-,S⟩;refine y _ _ _ _ λM p j=>?_
  have:=S M p (by omega);rw[show deep+1-1=deep by omega] at this;simp only[cm];rw[if_pos kt,b2];exact this
 have kt:(aj n [116,121,112,101]).1.kind =4:=by simpa using kt
 have tF:∀M,cm (aC deep) M n b=(if (aj n [116,121,112,101]).1.s =[114,101,99,111,114,100] then eo (aC deep) M n 9 b
 else if (aj n [116,121,112,101]).1.s =[101,110,117,109] then eo (aC deep) M n 10 b
 else if (aj n [116,121,112,101]).1.s =[102,105,120,101,100] then eo (aC deep) M n 11 b
 else if (aj n [116,121,112,101]).1.s =[97,114,114,97,121] then dF (aC deep) M n 12 [105,116,101,109,115] b
 else if (aj n [116,121,112,101]).1.s =[109,97,112] then dF (aC deep) M n 13 [118,97,108,117,101,115] b
 else dr M (aj n [116,121,112,101]).1.s b):=by intro M;simp only[cm];rw[if_neg (by simpa using kt),b2]
 have own:∀(s:List UInt8)(k:Int),nV s=k->9<=k∧k<=11->(aj n [116,121,112,101]).1.s =s->(∀M,cm (aC deep) M n b=eo (aC deep) M n k b)->
   Tot (af (dz (aj n [116,121,112,101]).1.s) (λ(r7:Int)=>af (cU ts 0 n r7 b deep) (λr8=>(some (.int .i64 r8.1,[some [.ul .atype r8.2.1,.int .i64 r8.2.2]]):Ro)))) (λz=>∃(E:Int)(D:List ac)(G:Int)(rest:List ai),z.1.dimR=.int .i64 E∧z.2=some [.ul .atype D,.int .i64 G]::rest∧c6 ts 0 n b deep (E,D,G)):=by
  intro s k hk h9 i hO;refine ah (aaF _) ?_;rintro _ ⟨-,rfl⟩;rw[i,hk];refine ah (arH deep a3 hT _ _ _ _ H h hn h9 hs) ?_;rintro r ⟨-,S⟩;refine y _ _ _ _ λM p j=>?_
  rw[hO];exact S rfl M p j
 have J:∀(k:Int)(u:List UInt8),k=12∨k=13->(∀M,cm (aC deep) M n b=dF (aC deep) M n k u b)->∀f:Int×RS,fy ts 0 ⟨k,[],[],0,[],false,[],0,[],[]⟩ f->
   Tot (af (aR n u) (λb3=>
       cond (!b3.2) (
        af (ag f.2.1 f.2.2 2) (λa1=>
         (some (.int .i64 a1.1,[some [.ul .atype a1.2.1,.int .i64 a1.2.2]]):Ro))) (
        af (bc f.2.1 f.2.2 (reJ b3.1) b (deep+1)) (λq=>
         cond (q.2.2==0) (
          chk (decide (0<Aa q.2.1)) (
           chk ((decide (0<=f.1)&&decide (f.1<↑(Aa q.2.1)))) (
            chk (decide ((Ah f.1)<Aa q.2.1)) (
             let bn:=(Bb q.2.1 (Ah f.1) (let Q:=An q.2.1 (Ah f.1) (ao .atype);⟨Q.kind,Q.name,Q.aliases,q.1,Q.syms,Q.hasdef,Q.df,Q.size,Q.fields,Q.branches⟩))
             chk (AD (Aa q.2.1) (Aa bn)) (
              (some (.int .i64 f.1,[some [.ul .atype bn,.int .i64 q.2.2],none,none]):Ro)))))) (
          (some (.int .i64 f.1,[some [.ul .atype q.2.1,.int .i64 q.2.2]]):Ro)))))) (λz=>∃(E:Int)(D:List ac)(G:Int)(rest:List ai),z.1.dimR=.int .i64 E∧z.2=some [.ul .atype D,.int .i64 G]::rest∧c6 ts 0 n b deep (E,D,G)):=by
  intro k u hk hI f O;have A:∀M,OfS ts 0 M->AgI (a7 M (aE k)) f:=λM p=>agy p h O
  have Y:∀M,OfS ts 0 M->OfS f.2.1 f.2.2 (a7 M (aE k)).2 :=λM p=>(A M p).1.of λv=>
   (vA (p.2 rfl).2 (by rw[<-(A M p).1.2.1];exact v) (by show 1<=k∧k<=14;omega) (by show ¬(9<=k∧k<=11);omega) rfl rfl rfl rfl).1
  obtain⟨Z,I⟩:=H;have ae:=(A Z I).1.1;refine ah (ii n _ bY) ?_;rintro _ ⟨-,rfl⟩;refine ab (λC=>?_) (λC=>?_)
  ·have C:(aj n u).2 =false:=by simpa using C
   refine ah (aV _ _ _) ?_;rintro _ ⟨-,rfl⟩;refine y _ _ _ _ λM p j=>?_
   have e1:(ak (a7 M (aE k)).2 (!(aj n u).2) 2).2.2.1 =aI f.2.2 2:=by rw[bH,if_pos (by rw[C];rfl),(A M p).1.2.1]
   have B:(aC deep (ak (a7 M (aE k)).2 (!(aj n u).2) 2) (aj n u).1 b).2.2.2.1 =aI f.2.2 2:=by rw[<-e1];exact aiC (by rw[e1];exact cS (by decide))
   have a0:aI f.2.2 2≠0:=cS (by decide);rw[hI];simp only[dF];rw[if_neg (by rw[B];exact a0)];exact⟨⟨ae,B.symm,λv=>absurd v a0⟩,λv=>absurd v a0⟩
  have C:(aj n u).2 =true:=by simpa using C
  have hA:∀M:MS,ak (a7 M (aE k)).2 (!(aj n u).2) 2=(a7 M (aE k)).2 :=λM=>by rw[C];exact fm _ _
  rw[cn];refine ah (hT _ _ _ _ (λv=>⟨_,by have:=Y Z I;rw[v] at this;exact this⟩) ae (kL hn) (by omega)) ?_;rintro q ⟨-,N⟩;have N:∀M,OfS ts 0 M->M.2.2.2=deep->AgI (aC deep (a7 M (aE k)).2 (aj n u).1 b) q:=by
   intro M p j;have:=N _ (Y M p) (by rw[(sR M (aE k)).dep,j];omega)
   rwa [show deep+1-1=deep by omega] at this
  have g0:=N (bZ Z deep) (I.deep deep) rfl;refine ab (λw=>?_) (λw=>?_)
  ·have w:q.2.2=0:=by simpa using w
   have b1:(aC deep (a7 (bZ Z deep) (aE k)).2 (aj n u).1 b).2.2.2.1 =0:=by rw[<-g0.1.2.1];exact w
   have P:=afL (m:=bZ Z deep) (t:=aE k) (oD deep (a7 (bZ Z deep) (aE k)).2 (aj n u).1 b) b1;have L:f.2.2=0:=by rw[(A (bZ Z deep) (I.deep deep)).1.2.1];exact(oD deep _ _ _).err b1
   rw[<-(A (bZ Z deep) (I.deep deep)).2 L,<-g0.1.2.2 w] at P;refine vck ?_ (decide_eq_true (by omega));refine vck ?_ (by simp[P.1,P.2]);refine vck ?_ (decide_eq_true (by omega));refine vck ?_ (by simp);refine y _ _ _ _ λM p j=>?_
   have g:=N M p j;rw[hI];simp only[dF];rw[hA,if_pos (by rw[<-g.1.2.1];exact w)];refine⟨⟨by simpa using g.1.1,g.1.2.1,λ_=>?_⟩,λ_=>(A M p).2 L⟩;show _=(aC deep (a7 M (aE k)).2 (aj n u).1 b).2.2.1.set _ _;rw[<-g.1.2.2 w,<-g.2 w,<-(A M p).2 L];rfl
  ·have w:q.2.2≠0:=by simpa using w
   refine y _ _ _ _ λM p j=>?_
   have g:=N M p j;rw[hI];simp only[dF];rw[hA,if_neg (by rw[<-g.1.2.1];exact w)];exact⟨⟨g.1.1,g.1.2.1,λv=>absurd v w⟩,λv=>absurd v w⟩
 refine ab (λi=>?_) (λi=>?_);·have i:=of_decide_eq_true i;exact own _ 9 (by decide) (by decide) i λM=>by rw[tF,if_pos i]
 have n1:=of_decide_eq_false i;refine ab (λi=>?_) (λi=>?_);·have i:=of_decide_eq_true i;exact own _ 10 (by decide) (by decide) i λM=>by rw[tF,if_neg n1,if_pos i]
 have n2:=of_decide_eq_false i;refine ab (λi=>?_) (λi=>?_);·have i:=of_decide_eq_true i;exact own _ 11 (by decide) (by decide) i λM=>by rw[tF,if_neg n1,if_neg n2,if_pos i]
 have n3:=of_decide_eq_false i;refine ab (λi=>?_) (λi=>?_)
 ·have i:=of_decide_eq_true i;refine ah (aaF _) ?_;rintro _ ⟨-,rfl⟩;have a2:nV (aj n [116,121,112,101]).1.s =12:=by rw[i];decide
  rw[a2];refine ah (zv _ _ _ h) ?_;rintro f ⟨-,O⟩;refine ab (λhq=>absurd (of_decide_eq_true hq) (by rw[i];decide)) (λ_=>?_);exact J 12 _ (.inl rfl) (λM=>by rw[tF,if_neg n1,if_neg n2,if_neg n3,if_pos i]) f O
 have n4:=of_decide_eq_false i;refine ab (λi=>?_) (λi=>?_)
 ·have i:=of_decide_eq_true i;refine ah (aaF _) ?_;rintro _ ⟨-,rfl⟩;have a2:nV (aj n [116,121,112,101]).1.s =13:=by rw[i];decide
  rw[a2];refine ah (zv _ _ _ h) ?_;rintro f ⟨-,O⟩;refine ab (λ_=>?_) (λhq=>absurd i (of_decide_eq_false hq));exact J 13 _ (.inr rfl) (λM=>by rw[tF,if_neg n1,if_neg n2,if_neg n3,if_neg n4,if_pos i]) f O
 have n5:=of_decide_eq_false i;refine ah (amm _ _ _ h (by omega) (by omega)) ?_;rintro r ⟨-,S⟩;refine y _ _ _ _ λM p j=>?_
 rw[tF,if_neg n1,if_neg n2,if_neg n3,if_neg n4,if_neg n5];exact S rfl M p
theorem amq:∀k:Nat,k<=20->ad3 (21-k)
 |0,_=>aj8 21 (by decide) (λh=>absurd h (by decide))
 |k+1,h=>aj8 _ (by omega) λ_=>by rw[show (21:Int)-((k+1:Nat):Int)+1=21-(k:Int) by omega];exact amq k (by omega)
theorem asW:OfS [] 0 m0:=⟨rfl,λ_=>⟨rfl,aso⟩⟩
theorem amr(n:aa)(f:bp n):∃r,kN n r:=by
 apply aiy 1;unfold aaJ aaI;dsimp only;rw[cn];have d:ad3 1:=by
  have:=amq 20 (by decide)
  rwa [show (21:Int)-((20:Nat):Int)=1 by decide] at this
 refine ah (d [] 0 n [] (λ_=>⟨m0,asW⟩) (by simp) f (by simp)) ?_;rintro r ⟨-,e⟩;have g:=e m0 asW (by decide);have b:lS n=(if (aC (1-1) m0 n []).2.2.2.1 =0 then ((aC (1-1) m0 n []).2.2.1,0) else ([],(aC (1-1) m0 n []).2.2.2.1)):=rfl;refine ab (λa=>am ⟨[],r.2.2,_,rfl,rfl,?_⟩) (λa=>am ⟨r.2.1,0,_,rfl,rfl,?_⟩)
 ·have a:r.2.2≠0:=by simpa using a
  show _=lS n;rw[b,if_neg (by rw[<-g.1.2.1];exact a),g.1.2.1]
 ·have a:r.2.2=0:=by simpa using a
  show _=lS n;rw[b,if_pos (by rw[<-g.1.2.1];exact a),g.1.2.2 a]
def xt:rG:=λf us css=>match f,us,css with
 |27,[.ptr 1 0,.int .i64 d],[[.mp .ib b],[.sl .atype (.may false) a,.mr 0]]=>some (can (av b a d),.agg [.int .i64 (((pick (av b a d)).1).kind),.int .i64 (((pick (av b a d)).1).n),.str (((pick (av b a d)).1).s),.sl .jnode (.may false) (((pick (av b a d)).1).l),.sl .str (.may false) (((pick (av b a d)).1).names)],[[.mp .ib ((pick (av b a d)).2.1)],[.sl .atype (.may false) ((pick (av b a d)).2.2),.mr 0]])
 |_,_,_=>none
noncomputable def zy:aq:=(pA 2 xt (su (aaR (P:=Tryd.prog) [afX])))
theorem aiD:cI zy [27,2000027]:=(adl (by intro f us css a;unfold xt;split<;>first|rfl|(simp at a)) (qF _ _))
theorem aj9:ca Tryd.prog zy:=by
 refine ah8 ?_ ?_
 ·intro f us css v css' h;unfold xt at h;split at h;·simp only[Ai,Ao] at h;obtain⟨a,rfl,rfl⟩:=h;exact((wC a).1).dim rfl
  ·simp at h
 exact ade _
def anm:IR:=Rs [Bx 1 0,Ms 2 []] (Sq (Rs [Fa 4 0 1,Lq 5 4,Ll 6 5,Bc 7 .eql 6 0] (Cn 7 (Rs [Ms 2 []] .ret) .skip)) (Rs [Ld 8 1 true 1,Pp (.mkm 9 .ib),Pp (.bld 10 [fu .atype true,.nilm] [(0,1,8),(1,1,9)]),Pp (.box 11 10),Mv 3 11] (Rs [Mv 12 3,Ca 13 27 [12,kI 0],Ca 14 26 [13],Mv 2 14] .ret)))
def ann:List RV:=[.t 2]
theorem ano:FnC Tryd.prog zy [27,2000027] 0 afU Tryd.f15 anm ann:=FnC.of aj9 aiD Tryd.func15 (by kernel_rfl) (by kernel_rfl) (by decide)
def aeJ(N:Nat)(a:List ac):Ro:=
 let d:=(↑(Aa a):Int)
 cond (d==0) (
  some (.str ([]:Bs),[])) (
  af (av ([]:List (Int×Bool)) a 0) (λb=>
   af (gV (reJ b.1)) (λ(e:Bs)=>
    some (.str e,[some [.mp .ib b.2.1],some [.sl .atype (.may false) b.2.2,.mr 0]]))))
def aeK(N:Nat)(a:List ac):Ro:=aeJ N a
theorem alt(N:Nat)(a:List ac)(h:Tot (aeK N a) (λz=>∃(b:Bs)(rest:List ai),z.1.dimR=.str b∧z.2=rest∧aah a (b))):∃r,gU a r:=ano.finP (N:=N) (by kernel_rfl) h λ_ ⟨b,_,e,_,q⟩=>⟨(b),e,q⟩
noncomputable def anp:aq:=tab (P:=Tryd.prog) [] [] [] [yJ,apM]
def alu:IR:=Rs [Bx 1 0,Pp (.mov 2 (kU 0))] (Rs [Ld 3 1 true 1,Ca 4 15 [3],Ca 5 28 [4],Mv 2 5] .ret)
def alv:List RV:=[.t 2]
theorem alw:FnC Tryd.prog anp [] 0 aeh Tryd.f16 alu alv:=fnC Tryd.func16
def acF(N:Nat)(a:List ac):Ro:=
 af (gU a) (λ(d:Bs)=>
  af (rN d) (λ(b:Int)=>
   some (.int .u64 b,[])))
def acG(N:Nat)(a:List ac):Ro:=acF N a
theorem aka(N:Nat)(a:List ac)(h:Tot (acG N a) (λz=>∃(b:Int)(rest:List ai),z.1.dimR=.int .u64 b∧z.2=rest∧yG a (b))):∃r,oJ a r:=alw.finP (N:=N) (by kernel_rfl) h λ_ ⟨b,_,e,_,q⟩=>⟨(b),e,q⟩
noncomputable def gL:aq:=tab (P:=Tryd.prog) [] [] [] []
def acH:IR:=Rs [Bc 18 .lss 17 8] (Sq (Cn 18 .skip (.exit 2)) (Sq (.block 3 (Rs [Mv 19 3,Pp (.bin 20 .and 19 (kU 1)),Mv 5 20] (Rg [Mv 21 3,Pp (.bin 22 .shr 21 (kU 1)),Mv 23 5,Pp (.un 24 .neg 23),Pp (.bin 25 .and (kU 13933329357911598997) 24),Bi 26 .xor 22 25,Mv 3 26]))) (Rg [Bc 27 .add 17 1,Mv 17 27])))
def acI:IR:=Rg [Bc 28 .add 8 1,Mv 8 28]
def pS:IR:=Rs [Bi 9 .lss 8 7] (Sq (Cn 9 .skip (.exit 0)) (Sq (.block 1 (Rs [Mv 10 8,Mv 4 10] (Rs [Mv 11 3,Mv 12 0,Mv 13 4,Pp (.idx 14 12 13),Pp (.cvi 15 .u64 14),Bi 16 .xor 11 15,Mv 3 16] (Rs [Mi 17 0] (.block 2 (.loop [0,3,7,8,17,1000000] 0 acH)))))) acI))
def uS:IR:=Rs [Mv 29 3,Mv 2 29] .ret
def apg:IR:=Rs [Pp (.mov 2 (kU 0))] (Rs [Pp (.mov 3 (kU 13933329357911598997))] (Sq (Rs [Mv 6 0,Pp (.lens 7 6),Mi 8 0] (.block 0 (.loop [0,3,7,8,1000001] 0 pS))) uS))
def zz:List RV:=[.t 2]
theorem aph:FnC Tryd.prog gL [] 0 ahE Tryd.f28 apg zz:=fnC Tryd.func28
def sF(R:IR->(Ex->St->Ro)->St->Ro)(a:St->Ro):Ex->St->Ro:=(b7 a [0,3,7,8,1000001] 0 (aJ 0 (kseq (R uS) (fin zz))))
abbrev iC:Type:=(Bs×Int×Int×Int)
def c9(x:iC):St:={env:=(.str x.1::.undef::.undef::.int .u64 x.2.1::(U 3 (.int .i64 x.2.2.1::.int .i64 x.2.2.2::(U 21 [])))),hp:=[]}
def anq(R:IR->(Ex->St->Ro)->St->Ro)(b a:St->Ro):Ex->St->Ro:=(b7 a [0,3,7,8,17,1000000] 0 (aJ 2 (aJ 1 (kseq (R acI) (sF R b)))))
abbrev sG:Type:=(Bs×Int×Int×Int×Int)
def nG(x:sG):St:={env:=(.str x.1::.undef::.undef::.int .u64 x.2.1::(U 3 (.int .i64 x.2.2.1::.int .i64 x.2.2.2.1::(U 8 (.int .i64 x.2.2.2.2::(U 12 [])))))),hp:=[]}
def sH(N:Nat)(b:St->Ro):(St->Ro)->St->Ro:=λa s=>run gL N acH (anq (run gL N) b a) s
def oX(N:Nat)(b:iC->Ro)(a:sG->Ro)(x:sG):Ro:=
 let g:Bs:=x.1;let e:Int:=x.2.1;let h:Int:=x.2.2.1;let f:Int:=x.2.2.2.1;let d:Int:=x.2.2.2.2
 cond (decide (d<8)) (
  let m:=(Ae .u64 (0-(de .and .u64 e 1)))
  let k:=(de .and .u64 13933329357911598997 m)
  let i:=(de .xor .u64 (tQ .u64 e 1) k)
  let j:=(Ae .i64 (d+1))
  a (g,i,h,f,j)) (
  let o:=(Ae .i64 (f+1))
  b (g,e,h,o))
theorem alx(N:Nat)(a:St->Ro):LB (sH N a) nG (oX N (λy=>a (c9 y))):=λ_ _=>by kernel_rfl
def sI(N:Nat):(St->Ro)->St->Ro:=λa s=>run gL N pS (sF (run gL N) a) s
def rc(N:Nat)(b:iC->Ro)(g:sG->Ro)(x:iC):Ro:=
 let d:Bs:=x.1;let e:Int:=x.2.1;let f:Int:=x.2.2.1;let a:Int:=x.2.2.2
 cond (decide (a<f)) (
  chk (ixl a d) (
   let h:=(↑(AJ (An d (Ah a) 0)):Int)
   let i:=(de .xor .u64 e (Ae .u64 h))
   g (d,i,f,a,0))) (
  some (.int .u64 e,[]))
def sJ(N:Nat)(a:iC->Ro)(x:iC):Ro:=rc N a (λz=>aK N (oX N a) z) x
def xu(N:Nat)(a:St->Ro):List (Nat×(St->Ro)):=(dv gL N pS (sF (run gL N) a)++(dv gL N uS (fin zz)++[]))
theorem aly(N:Nat):∀(a:St->Ro)(x:iC),sI N a (c9 x)=sJ N (λy=>a (c9 y)) x:=by
 intro a x;have d:∀C:Nat->St->Ro,cN C gL N pS (sF (cN C gL N) a) (c9 x)=rc N (λy=>a (c9 y)) (λz=>C 1000000 (nG z)) x:=by intro C;kernel_rfl
 have h:sI N a (c9 x)=rc N (λy=>a (c9 y)) (λz=>bi N (sH N a) (nG z)) x:=(fZ (C:=jV (xu N a)) (eq (bU (l:=(xu N a)) (by kernel_rfl))) (wD (nc (qI (eq (mO (bU (l:=(xu N a)) (by kernel_rfl)))) rfl))) _).trans ((d _).trans (by kernel_rfl));have b:(λz=>bi N (sH N a) (nG z))=(λz=>aK N (oX N (λy=>a (c9 y))) z):=funext λz=>bm (nG) (sH N a) (oX N (λy=>a (c9 y))) (alx N a) N z
 rw[h,b];rfl
def qC(N:Nat)(a:Bs)(d:iC->Ro):Ro:=
 let b:=(↑(Aa a):Int)
 d (a,13933329357911598997,b,0)
def agB(N:Nat)(a:Bs):Ro:=qC N a (λz=>aK N (sJ N) z)
theorem anr(N:Nat)(a:Bs)(h:Tot (agB N a) (λz=>∃(d:Int)(rest:List ai),z.1.dimR=.int .u64 d∧z.2=rest∧vz a (d))):∃r,rN a r:=aph.finP (N:=N) ((cz _ (by kernel_rfl) rfl (λC=>qC N a (λz=>C 1000001 (c9 z))) (λC=>by kernel_rfl)).trans (A8 (b:=qC N a (λz=>bi N (sI N) (c9 z))) (by kernel_rfl) (congrArg (qC N a) (funext λz=>bm (c9) (sI N) (sJ N) (aly N) N z)))) h λ_ ⟨d,_,e,_,q⟩=>⟨(d),e,q⟩
noncomputable def eK:aq:=tab (P:=Tryd.prog) [] [] [] []
def zA:IR:=Sq (Rs [Mv 18 5,Bc 19 .lss 18 8] (Cn 19 .skip (.exit 2))) (Sq (.block 3 (Rs [Mv 22 3,Pp (.bin 23 .rem 22 (kU 2)),Pp (.bin 24 .eql 23 (kU 1))] (Cn 24 (Rg [Mv 25 3,Pp (.bin 26 .quo 25 (kU 2)),Pp (.bin 27 .xor 26 (kU 13933329357911598997)),Mv 3 27]) (Rg [Mv 28 3,Pp (.bin 29 .quo 28 (kU 2)),Mv 3 29])))) (Rg [Mv 20 5,Bc 21 .add 20 1,Mv 5 21]))
def zB:IR:=Rg [Mv 10 4,Bc 11 .add 10 1,Mv 4 11]
def mU:IR:=Sq (Rs [Mv 6 4,Mv 7 0,Pp (.lens 8 7),Bi 9 .lss 6 8] (Cn 9 .skip (.exit 0))) (Sq (.block 1 (Rs [Mv 12 3,Mv 13 0,Mv 14 4,Pp (.idx 15 13 14),Pp (.cvi 16 .u64 15),Bi 17 .xor 12 16,Mv 3 17] (Rs [Mi 5 0] (.block 2 (.loop [0,3,4,5,1000000] 0 zA))))) zB)
def rC:IR:=Rs [Mv 30 3,Mv 2 30] .ret
def alz:IR:=Rs [Pp (.mov 2 (kU 0))] (Rs [Pp (.mov 3 (kU 13933329357911598997))] (Sq (Rs [Mi 4 0] (.block 0 (.loop [0,3,4,1000001] 0 mU))) rC))
def wi:List RV:=[.t 2]
theorem alA:FnC Tryd.prog eK [] 0 aek Tryd.f17 alz wi:=fnC Tryd.func17
def pT(R:IR->(Ex->St->Ro)->St->Ro)(a:St->Ro):Ex->St->Ro:=(b7 a [0,3,4,1000001] 0 (aJ 0 (kseq (R rC) (fin wi))))
abbrev fp:Type:=(Bs×Int×Int)
def cC(x:fp):St:={env:=(.str x.1::.undef::.undef::.int .u64 x.2.1::.int .i64 x.2.2::(U 26 [])),hp:=[]}
def akb(R:IR->(Ex->St->Ro)->St->Ro)(b a:St->Ro):Ex->St->Ro:=(b7 a [0,3,4,5,1000000] 0 (aJ 2 (aJ 1 (kseq (R zB) (pT R b)))))
abbrev pU:Type:=(Bs×Int×Int×Int)
def ln(x:pU):St:={env:=(.str x.1::.undef::.undef::.int .u64 x.2.1::.int .i64 x.2.2.1::.int .i64 x.2.2.2::(U 25 [])),hp:=[]}
def pV(N:Nat)(b:St->Ro):(St->Ro)->St->Ro:=λa s=>run eK N zA (akb (run eK N) b a) s
def mg(N:Nat)(b:fp->Ro)(a:pU->Ro)(x:pU):Ro:=
 let f:Bs:=x.1;let d:Int:=x.2.1;let e:Int:=x.2.2.1;let g:Int:=x.2.2.2
 cond (decide (g<8)) (
  cond ((BG d 2)==1) (
   let o:=(Ae .u64 (Ck d 2))
   let j:=(de .xor .u64 o 13933329357911598997)
   let h:=(Ae .i64 (g+1))
   a (f,j,e,h)) (
   let i:=(Ae .u64 (Ck d 2))
   let m:=(Ae .i64 (g+1))
   a (f,i,e,m))) (
  let k:=(Ae .i64 (e+1))
  b (f,d,k))
theorem aiE(N:Nat)(a:St->Ro):LB (pV N a) ln (mg N (λy=>a (cC y))):=λ_ _=>by kernel_rfl
def pW(N:Nat):(St->Ro)->St->Ro:=λa s=>run eK N mU (pT (run eK N) a) s
def oF(N:Nat)(d:fp->Ro)(f:pU->Ro)(x:fp):Ro:=
 let b:Bs:=x.1;let e:Int:=x.2.1;let a:Int:=x.2.2;let g:=(↑(Aa b):Int)
 cond (decide (a<g)) (
  chk (ixl a b) (
   let h:=(↑(AJ (An b (Ah a) 0)):Int)
   let i:=(de .xor .u64 e (Ae .u64 h))
   f (b,i,a,0))) (
  some (.int .u64 e,[]))
def pX(N:Nat)(a:fp->Ro)(x:fp):Ro:=oF N a (λz=>aK N (mg N a) z) x
def uT(N:Nat)(a:St->Ro):List (Nat×(St->Ro)):=(dv eK N mU (pT (run eK N) a)++(dv eK N rC (fin wi)++[]))
theorem aiF(N:Nat):∀(a:St->Ro)(x:fp),pW N a (cC x)=pX N (λy=>a (cC y)) x:=by
 intro a x;have d:∀C:Nat->St->Ro,cN C eK N mU (pT (cN C eK N) a) (cC x)=oF N (λy=>a (cC y)) (λz=>C 1000000 (ln z)) x:=by intro C;kernel_rfl
 have h:pW N a (cC x)=oF N (λy=>a (cC y)) (λz=>bi N (pV N a) (ln z)) x:=(fZ (C:=jV (uT N a)) (eq (bU (l:=(uT N a)) (by kernel_rfl))) (wD (nc (qI (eq (mO (bU (l:=(uT N a)) (by kernel_rfl)))) rfl))) _).trans ((d _).trans (by kernel_rfl));have b:(λz=>bi N (pV N a) (ln z))=(λz=>aK N (mg N (λy=>a (cC y))) z):=funext λz=>bm (ln) (pV N a) (mg N (λy=>a (cC y))) (aiE N a) N z
 rw[h,b];rfl
def nH(N:Nat)(a:Bs)(b:fp->Ro):Ro:=
 b (a,13933329357911598997,0)
def acJ(N:Nat)(a:Bs):Ro:=nH N a (λz=>aK N (pX N) z)
theorem akc(N:Nat)(a:Bs)(h:Tot (acJ N a) (λz=>∃(d:Int)(rest:List ai),z.1.dimR=.int .u64 d∧z.2=rest∧sO a (d))):∃r,oK a r:=alA.finP (N:=N) ((cz _ (by kernel_rfl) rfl (λC=>nH N a (λz=>C 1000001 (cC z))) (λC=>by kernel_rfl)).trans (A8 (b:=nH N a (λz=>bi N (pW N) (cC z))) (by kernel_rfl) (congrArg (nH N a) (funext λz=>bm (cC) (pW N) (pX N) (aiF N) N z)))) h λ_ ⟨d,_,e,_,q⟩=>⟨(d),e,q⟩
noncomputable def ans:aq:=tab (P:=Tryd.prog) [] [] [] [yJ,amF,amH]
def alB:IR:=Rs [Mb 0 false] (Rs [Pp (.bld 2 [vI 0,vS,fu .str true,vI 0,fu .str true,.bool false,vS,vI 0,fu .afield true,fu (.num .i64) true] [(0,1,kI 3)]),Pp (.bsl 3 .atype [2] true),Pp (.bld 4 [nl .atype] [(0,1,3)]),Pp (.alr 1 1),Fz 1 1 4] (Rs [Ld 5 1 true 1,Ca 6 15 [5],Pp (.bin 7 .eql 6 (kS [34,105,110,116,34])),Mv 8 7,Gt 8 (.lde 9 1 true 1),Gt 8 (.call 10 16 [9]),Gt 8 (.call 11 17 [kS [34,105,110,116,34]]),Gt 8 (.bin 12 .eql 10 11),Pa 13 8 12,Mv 0 13] .ret))
def alC:List RV:=[.t 0]
theorem alD:FnC Tryd.prog ans [] 0 aej Tryd.f9 alB alC:=fnC Tryd.func9
def acK(N:Nat):Ro:=
 af (gU ([⟨3,([]:Bs),([]:Bss),0,([]:Bss),false,([]:Bs),0,([]:List aZ),([]:List Int)⟩]:List ac)) (λ(d:Bs)=>
  let a:=decide (d=([34,105,110,116,34]:Bs))
  cond a (
   af (oJ ([⟨3,([]:Bs),([]:Bss),0,([]:Bss),false,([]:Bs),0,([]:List aZ),([]:List Int)⟩]:List ac)) (λ(e:Int)=>
    af (oK ([34,105,110,116,34]:Bs)) (λ(b:Int)=>
     some (.bool (e==b),[])))) (
   some (.bool false,[])))
def acL(N:Nat):Ro:=acK N
theorem akd(N:Nat)(h:Tot (acL N) (λz=>∃(a:Bool)(rest:List ai),z.1.dimR=.bool a∧z.2=rest∧sP  (a))):∃r,oH  r:=alD.finP (N:=N) (by kernel_rfl) h λ_ ⟨a,_,e,_,q⟩=>⟨(a),e,q⟩
theorem api(v:Nat)(h:v<2^64):ub v<2^64:=by
 unfold ub;split;·exact DP (by omega) (by decide)
 ·omega
theorem at3(a:Nat)(h:a<2^64):de .xor .u64 (tQ .u64 (a:Int) 1) (de .and .u64 13933329357911598997 (Ae .u64 (0-(de .and .u64 (a:Int) 1))))=(ub a:Int):=by
 have i:de .and .u64 (a:Int) 1=((a%2:Nat):Int):=by have:=ada .u64 rfl a 1 h (by decide);rw[Nat.and_one_is_mod] at this;exact this
 have j:tQ .u64 (a:Int) 1=((a / 2:Nat):Int):=by have:=an9 .u64 a 1 (by decide);simpa using this
 have g:a / 2<2^IntKind.u64.bits:=by show a / 2<2^64;omega
 rw[i,j];unfold ub;rcases Nat.mod_two_eq_zero_or_one a with d|d
 ·rw[d,if_neg (by decide)];have e:Ae .u64 (0-((0:Nat):Int))=((0:Nat):Int):=by decide
  have b:=ada .u64 rfl 13933329357911598997 0 (by decide) (by decide);have f:=ac9 .u64 rfl (a / 2) 0 g (by decide);rw[e,show (13933329357911598997:Int)=((13933329357911598997:Nat):Int) from rfl,b,Nat.and_zero,f,Nat.xor_zero]
 ·rw[d,if_pos rfl];have e:Ae .u64 (0-((1:Nat):Int))=((18446744073709551615:Nat):Int):=by decide
  have b:=ada .u64 rfl 13933329357911598997 18446744073709551615 (by decide) (by decide);have f:=ac9 .u64 rfl (a / 2) 13933329357911598997 g (by decide);rw[e,show (13933329357911598997:Int)=((13933329357911598997:Nat):Int) from rfl,b,show 13933329357911598997&&& 18446744073709551615=13933329357911598997 by decide,f];rfl
theorem ams(s:List UInt8)(i:Nat)(h:i<s.length)(v:Nat):(s.drop i).foldl rK v=(s.drop (i+1)).foldl rK (rK v (s.getD i 0)):=by rw[AK h,BS];simp[An,h]
theorem amt(a:Nat)(b:a<2^64)(c:UInt8):de .xor .u64 (a:Int) (Ae .u64 (c.toNat:Int))=((a ^^^c.toNat:Nat):Int)∧a ^^^c.toNat<2^64:=by have d:=c.toNat_lt;exact⟨by rw[o6 .u64 rfl _ (by show _<2^64;omega),ac9 .u64 rfl _ _ b (by show _<2^64;omega)],DP b (by omega)⟩
theorem avB(s:List UInt8)(I:s.length<=dc):∃r,rN s r:=by
 have L:(s.length:Int)<=9223372036854775807:=by unfold dc at I;omega
 apply anr (s.length+20);unfold agB qC;dsimp only;refine ba (λx=>match x with|(d,D,B,v)=>d=s∧B=(s.length:Int)∧∃a i:Nat,D=(a:Int)∧a<2^64∧v=(i:Int)∧i<=s.length∧(s.drop i).foldl rK a=aob s) (λx=>s.length-x.2.2.2.toNat) ?_ _ _ ⟨rfl,rfl,fpC,0,rfl,by decide,rfl,by omega,rfl⟩ (by simp only;omega);rintro p ⟨d,D,B,v⟩ ⟨rfl,rfl,a,i,rfl,H,rfl,M,h⟩ A;unfold sJ rc;dsimp only at A ⊢
 repeat' (first|(with_reducible refine ab ?_ ?_<;>(intro e;(try simp only[bnl] at e);(try revert e;intro _)))|with_reducible refine ct ?_ ?_|with_reducible refine am ?_|fail)
 ·first|(simp only[bnl,lnl];done)|(simp only[bnl,lnl];omega)
 ·have q:i<d.length:=by
                  have:(i:Int)<(d.length:Int):=by assumption
                  omega
  obtain⟨G,E⟩:=amt a H (d.getD i 0);simp only[At];rw[G];rw[ams _ _ q] at h;refine ba (λy=>match y with|(m,u,C,w,t)=>m=d∧C=(d.length:Int)∧w=(i:Int)∧∃b k:Nat,u=(b:Int)∧b<2^64∧t=(k:Int)∧k<=8∧ai0 (8-k) b=rK a (d.getD i 0)) (λy=>8-y.2.2.2.2.toNat) ?_ _ _ ⟨rfl,rfl,rfl,_,0,rfl,E,rfl,by omega,rfl⟩ (by simp only;omega);rintro g ⟨m,u,C,w,t⟩ ⟨rfl,rfl,rfl,b,k,rfl,e,rfl,J,j⟩ f;unfold oX;dsimp only at f ⊢;rw[at3 b e]
  repeat' (first|(with_reducible refine ab ?_ ?_<;>(intro e;(try simp only[bnl] at e);(try revert e;intro _)))|with_reducible refine ct ?_ ?_|with_reducible refine am ?_|fail)
  ·have F:k<8:=by
               have:(k:Int)<8:=by assumption
               omega
   have o:IntKind.i64.wrap ((k:Int)+1)=((k+1:Nat):Int):=by rw[ax _ (by omega)];rfl
   rw[o];refine f _ ⟨rfl,rfl,rfl,_,k+1,rfl,api b e,rfl,by omega,?_⟩ (by simp only[At];omega);rw[<-j,show 8-k=(8-(k+1))+1 by omega];rfl
  ·obtain rfl:k=8:=by
                have:¬(k:Int)<8:=by omega
                omega
   have o:IntKind.i64.wrap ((i:Int)+1)=((i+1:Nat):Int):=by rw[ax _ (by omega)];rfl
   rw[o];refine A _ ⟨rfl,rfl,b,i+1,rfl,e,rfl,by omega,?_⟩ (by simp only[At];omega);have j:b=rK a (m.getD i 0):=j;rw[j];exact h
 ·have:i=d.length:=by
                have:¬(i:Int)<(d.length:Int):=by omega
                omega
  subst this;rw[By] at h;exact⟨_,_,rfl,rfl,by simp only[vz];rw[<-h];rfl⟩
theorem auP(b:Nat)(e:b<2^64):(BG (b:Int) 2==1)=decide (b%2=1)∧Ae .u64 (Ck (b:Int) 2)=((b / 2:Nat):Int):=by
 have d:BG (b:Int) 2=((b%2:Nat):Int):=by rw[BJ (by omega)];omega
 have a:Ck (b:Int) 2=((b / 2:Nat):Int):=by rw[BX (by omega)];omega
 refine⟨?_,?_⟩
 ·rw[d];by_cases h:b%2=1;·simp[h]
  ·have:b%2=0:=by omega
   simp[this]
 ·rw[a,o6 .u64 rfl _ (by show _<2^64;omega)]
theorem arJ(s:List UInt8)(N:s.length<=dc):∃r,oK s r:=by
 have P:(s.length:Int)<=9223372036854775807:=by unfold dc at N;omega
 apply akc (s.length+20);unfold acJ nH;dsimp only;refine ba (λx=>match x with|(g,E,B)=>g=s∧∃a i:Nat,E=(a:Int)∧a<2^64∧B=(i:Int)∧i<=s.length∧(s.drop i).foldl rK a=aob s) (λx=>s.length-x.2.2.toNat) ?_ _ _ ⟨rfl,fpC,0,rfl,by decide,rfl,by omega,rfl⟩ (by simp only;omega);rintro u ⟨g,E,B⟩ ⟨rfl,a,i,rfl,M,rfl,Q,p⟩ D;unfold pX oF;dsimp only at D ⊢
 repeat' (first|(with_reducible refine ab ?_ ?_<;>(intro d;(try simp only[bnl] at d);(try revert d;intro _)))|with_reducible refine ct ?_ ?_|with_reducible refine am ?_|fail)
 ·first|(simp only[bnl,lnl];done)|(simp only[bnl,lnl];omega)
 ·have v:i<g.length:=by
                  have:(i:Int)<(g.length:Int):=by assumption
                  omega
  obtain⟨G,F⟩:=amt a M (g.getD i 0);simp only[At];rw[G];rw[ams _ _ v] at p;refine ba (λy=>match y with|(m,A,C,w)=>m=g∧C=(i:Int)∧∃b k:Nat,A=(b:Int)∧b<2^64∧w=(k:Int)∧k<=8∧ai0 (8-k) b=rK a (g.getD i 0)) (λy=>8-y.2.2.2.toNat) ?_ _ _ ⟨rfl,rfl,_,0,rfl,F,rfl,by omega,rfl⟩ (by simp only;omega);rintro f ⟨m,A,C,w⟩ ⟨rfl,rfl,b,k,rfl,d,rfl,O,t⟩ o;unfold mg;dsimp only at o ⊢;obtain⟨I,L⟩:=auP b d;have J:b / 2<2^IntKind.u64.bits:=by show b / 2<2^64;omega
  have H:=ac9 .u64 rfl (b / 2) 13933329357911598997 J (by decide);have q:k<8->IntKind.i64.wrap ((k:Int)+1)=((k+1:Nat):Int):=λh=>by rw[ax _ (by omega)];rfl
  have next:∀(j:k<8),Tot (f (m,(ub b:Int),(i:Int),((k+1:Nat):Int))) _:=λj=>o (m,(ub b:Int),(i:Int),((k+1:Nat):Int)) ⟨rfl,rfl,_,k+1,rfl,api b d,rfl,by omega,by rw[<-t,show 8-k=(8-(k+1))+1 by omega];rfl⟩ (by simp only[At];omega)
  rw[I,L]
  repeat' (first|(with_reducible refine ab ?_ ?_<;>(intro d;(try simp only[bnl] at d);(try revert d;intro _)))|with_reducible refine ct ?_ ?_|with_reducible refine am ?_|fail)
  ·have j:k<8:=by omega
   have hp:b%2=1:=by assumption
   have e:ub b=(b / 2) ^^^13933329357911598997:=by unfold ub;rw[if_pos hp];rfl
   have:=next j
   rw[e] at this;rw[q j,show (13933329357911598997:Int)=((13933329357911598997:Nat):Int) from rfl,H];exact this
  ·have j:k<8:=by omega
   have hp:¬b%2=1:=by assumption
   have e:ub b=b / 2:=by unfold ub;rw[if_neg hp]
   have:=next j
   rw[e] at this;rw[q j];exact this
  ·obtain rfl:k=8:=by omega
   have q:IntKind.i64.wrap ((i:Int)+1)=((i+1:Nat):Int):=by rw[ax _ (by omega)];rfl
   rw[q];refine D _ ⟨rfl,b,i+1,rfl,d,rfl,by omega,?_⟩ (by simp only[At];omega);have t:b=rK a (m.getD i 0):=t;rw[t];exact p
 ·have:i=g.length:=by omega
  subst this;rw[By] at p;exact⟨_,_,rfl,rfl,by simp only[sO];rw[<-p];rfl⟩
theorem ad4{ts:List ac}(a:vQ ts):∃r,gU ts r:=by
 have m:=a.1.1.1;have d:ts≠[]:=λe=>by subst e;simp at m
 obtain⟨b, -,k⟩:=a.2.2;apply alt 1;unfold aeK aeJ;dsimp only;have i:=al8 a ts.length [] 0 0 b ⟨BY,by simp⟩ (by simp) k
 repeat' (first|(with_reducible refine ab ?_ ?_<;>(intro f;(try simp only[bnl] at f);(try revert f;intro _)))|with_reducible refine ct ?_ ?_|with_reducible refine am ?_|fail)
 ·rename_i h;exfalso;omega
 refine ah (C:=av (eR []) ts 0) i ?_;intro r j;obtain⟨o,t,u,g⟩:=agZ j;obtain⟨p,q⟩:=g.tells a;rw[cn];refine ah (amc _ p q) ?_;rintro _ ⟨-,rfl⟩;exact am ⟨_,_,rfl,rfl,λh=>absurd h d,λ_=>⟨r.1,o,g,rfl⟩⟩
theorem sC.len{ts:List ac}(b:vQ ts){x:List UInt8}(h:sC ts x):x.length<=dc:=by
 have f:=b.1.1.1;have a:ts≠[]:=λe=>by subst e;simp at f
 obtain⟨j,g,d,rfl⟩:=h.2 a;have:=(d.tells b).2;unfold dc;simp only[arw] at this;omega
theorem arK{ts:List ac}(a:vQ ts):∃r,oJ ts r:=by apply aka 1;unfold acG acF;refine ah (ad4 a) ?_;rintro x ⟨-,b⟩;refine ah (avB x (sC.len a b)) ?_;rintro _ ⟨-,rfl⟩;exact am ⟨_,_,rfl,rfl,x,b,rfl⟩
theorem asX:∃r,oH r:=by
 have b:vQ [⟨3,[],[],0,[],false,[],0,[],[]⟩]:=by
  refine⟨⟨by simp,λt o=>?_⟩,λi t h=>?_,1,by decide,.leaf 0 _ (by omega) rfl (by decide)⟩;·obtain rfl:=Au.1 o;exact⟨by simp,by simp,by simp,by simp,by simp,by simp,by simp⟩
  ·have:=Am h;obtain rfl:=Au.1 this;intro f m;simp at m
 have d:∀x,sC [⟨3,[],[],0,[],false,[],0,[],[]⟩] x->x=[34,105,110,116,34]:=by
  intro x h;obtain⟨j,L,e,rfl⟩:=h.2 (by simp);have p:(tyA [⟨3,[],[],0,[],false,[],0,[],[]⟩] 0).kind=3:=rfl;cases e with
  |prim=>rfl
  |_=>exfalso;omega
 apply akd 1;unfold acL acK;dsimp only;refine ah (ad4 b) ?_;rintro x ⟨-,g⟩;obtain rfl:=d x g
 repeat' (first|(with_reducible refine ab ?_ ?_<;>(intro a;(try simp only[bnl] at a);(try revert a;intro _)))|with_reducible refine ct ?_ ?_|with_reducible refine am ?_|fail)
 ·refine ah (arK b) ?_;rintro r ⟨-,y,k,rfl⟩;obtain rfl:=d y k;refine ah (arJ _ (by decide)) ?_;rintro _ ⟨-,rfl⟩;exact am ⟨_,_,rfl,rfl,by simp[sP]⟩
 ·rename_i h;exact absurd trivial h
noncomputable abbrev tb_:= @tab Tryd.prog
def co:aq:=tb_ [] [vc,nY,rz,ag7,afR] [] [afQ,ws]
def kC:IR:=Cn 62 (Sq (.reg [Mv 72 2,Nk 73 72,Fo [1] [] (.ld 74 1 false false 73),Mv 75 0,Mv 76 2,Nk 77 76,Fo [1] [] (.ld 78 1 false false 77),Ll 79 78,Fo [] [0] (.call 80 45 [75,79]),Ix 81 .str 74 80,Lq 82 81,Ca 83 48 [82],Fo [] [2] (.st none 5 6 83)] [[],[0],[0,1],[],[],[4],[4,5],[4,5,6],rg 3 7,rg 0 8,rg 0 9,rg 0 10,rg 0 11]) .ret) .skip
def tL:IR:=Rs [Mv 84 2,Nk 85 84,Lo 86 85,Ll 87 86,Bc 88 .rem 87 26,Pp (.bin 89 .add (kI 97) 88),Pp (.cvi 90 .u8 89),Pp (.bsl 91 .u8 [90] true),Pp (.b2s 92 91),Pp (.bin 93 .add (kS [78]) 92),Mv 9 93] (Rs [Mv 94 2,Mv 95 2,Nk 96 95,Pp (.ld 97 1 false true 96),Mv 98 9,Pp (.bsl 99 .str [98] true),Pp (.app 100 .str (.tk 97) 99),Nk 101 94,Sk 1 101 100] (Sq (.block 1 (Rs [Mv 103 7,Bc 104 .eql 103 15,Mv 102 104] (Cn 102 (Rs [Pp (.bsl 105 .str [kS [116,121,112,101],kS [110,97,109,101],kS [115,105,122,101]] true),Ca 106 48 [kS [102,105,120,101,100]],Mv 107 9,Ca 108 48 [107],Mv 109 0,Ca 110 45 [109,kI 4],Pp (.bld 111 [vI 0,vI 0,vS,fu .jnode true,fu .str true] [(0,1,kI 3),(1,1,110)]),Pp (.bsl 112 .jnode [106,108,111] true),Ca 113 47 [105,112],Sv 5 6 113] .ret) (Rs [Mv 115 7,Bc 116 .eql 115 16,Mv 114 116] (Cn 114 (Rs [Ca 117 48 [kS [88]],Ca 118 48 [kS [89]],Ca 119 48 [kS [90]],Pp (.bsl 120 .jnode [117,118,119] true),Mv 121 0,Ca 122 45 [121,kI 3],Pp (.bin 123 .add (kI 1) 122),Pp (.subl 124 .jnode 120 none (some 123)),Mv 10 124] (Rs [Pp (.bsl 125 .str [kS [116,121,112,101],kS [110,97,109,101],kS [115,121,109,98,111,108,115]] true),Ca 126 48 [kS [101,110,117,109]],Mv 127 9,Ca 128 48 [127],Mv 129 10,Pp (.bld 130 [vI 0,vI 0,vS,fu .jnode true,fu .str true] [(0,1,kI 5),(3,1,129)]),Pp (.bsl 131 .jnode [126,128,130] true),Ca 132 47 [125,131],Pp (.new 11 [vI 0,vI 0,vS,nl .jnode,nl .str]),Sv 5 11 132] (Sq (Rs [Mv 133 0,Ca 134 45 [133,kI 2],Bc 135 .eql 134 0] (Cn 135 (.reg [Fa 136 4 11,Fo [3] [] (.ld 137 1 false false 136),Pp (.bsl 138 .str [kS [100,101,102,97,117,108,116]] true),Pp (.app 139 .str (.tk 137) 138),Fa 140 3 11,Fo [3] [] (.ld 141 1 false false 140),Ca 142 48 [kS [88]],Pp (.bsl 143 .jnode [142] true),Pp (.app 144 .jnode (.tk 141) 143),Fa 145 4 11,Fo [] [3] (.st none 1 145 (.tk 139)),Fa 146 3 11,Fo [] [3] (.st none 1 146 (.tk 144))] [[],[0],[],[0,1,2],[],[4],rg 0 3,[0,1,2,3,6],rg 0 7,rg 0 5,rg 0 9,rg 0 10,rg 0 11]) .skip)) (Rs [Pp (.ld 147 5 true false 11),Sv 5 6 147] .ret)))) .skip))))) (Rs [Mv 148 0,Mv 149 9,Mv 150 1,Mv 151 2,Ca 152 24 [148,149,150,151],Sv 5 6 152] .ret)))
def nI:IR:=.cut [0,1,2,6,7,1000001] 3 tL
def j9:IR:=Rs [Pp (.bsl 22 .str [kS [105,110,116],kS [108,111,110,103],kS [115,116,114,105,110,103],kS [98,121,116,101,115],kS [98,111,111,108,101,97,110],kS [110,117,108,108],kS [102,108,111,97,116],kS [100,111,117,98,108,101]] true),Mv 8 22] (Sq (.block 0 (Rs [Mv 24 7,Bc 25 .lss 24 8,Mv 23 25] (Cn 23 (Rs [Mv 26 8,Mv 27 7,Ix 28 .str 26 27,Lq 29 28,Ca 30 48 [29],Sv 5 6 30] .ret) (Rs [Mv 32 7,Bc 33 .lss 32 10,Mv 31 33] (Cn 31 (Rs [Pp (.bsl 34 .str [kS [116,121,112,101],kS [105,116,101,109,115]] true),Ca 35 48 [kS [97,114,114,97,121]],Mv 36 0,Mv 37 1,Bc 38 .add 37 1,Mv 39 2,Ca 40 46 [36,38,39],Pp (.bsl 41 .jnode [35,40] true),Ca 42 47 [34,41],Sv 5 6 42] .ret) (Rs [Mv 44 7,Bc 45 .eql 44 10,Mv 43 45] (Cn 43 (Rs [Pp (.bsl 46 .str [kS [116,121,112,101],kS [118,97,108,117,101,115]] true),Ca 47 48 [kS [109,97,112]],Mv 48 0,Mv 49 1,Bc 50 .add 49 1,Mv 51 2,Ca 52 46 [48,50,51],Pp (.bsl 53 .jnode [47,52] true),Ca 54 47 [46,53],Sv 5 6 54] .ret) (Rs [Mv 56 7,Bc 57 .lss 56 14,Mv 55 57] (Cn 55 (Rs [Mv 58 0,Mv 59 1,Mv 60 2,Ca 61 84 [58,59,60],Sv 5 6 61] .ret) (Rs [Mv 63 7,Bc 64 .eql 63 14,Mv 65 64,Gt 65 (.mov 66 2),Gt 65 (.nck 67 66),Gt 65 (.ld 68 1 false false 67),Gt 65 (.lenl 69 68),Gt 65 (.bin 70 .gtr 69 (kI 0)),Pa 71 65 70,Mv 62 71] (.cut [0,1,2,6,7,62,1000000] 3 kC))))))))))) nI)
def agC:IR:=Rs [Pp (.new 6 [vI 0,vI 0,vS,nl .jnode,nl .str])] (Rs [Mv 12 0,Ca 13 45 [12,kI 20],Mv 7 13] (Sq (Rs [Mv 14 1,Bc 15 .gtr 14 3,Mv 16 15,Gf 16 (.mov 17 0),Gf 16 (.call 18 83 [17]),Po 19 16 18] (Cn 19 (Rg [Mv 20 7,Bc 21 .rem 20 8,Mv 7 21]) .skip)) (.cut [0,1,2,6,7,1000002] 3 j9)))
def dG:List RV:=[.cell 6 5 true]
theorem agD:FnC Tryd.prog co [24,45,46,83,84,2000024,2000045,2000046,2000083,2000084] 2 46 Tryd.f46 agC dG:=fnC Tryd.func46
abbrev dn:Type:=(Int×Int×Bs×Int×Bss×Int×Int×Bs×List aa×Bss)
def ix:dn->St:=λ(a,b,c,d,e,f,g,h,i,j)=>{env:=(.ptr 0 0::vI a::.ptr 1 0::(U 3 (.ptr 2 0::vI b::(U 145 [])))),hp:=[some [vF .u8 c,vI d],some [vO .str e],some [vI f,vI g,vT h,vO .jnode i,vO .str j]]}
abbrev jl:Type:=(Int×Int×Bool×Bs×Int×Bss×Int×Int×Bs×List aa×Bss)
def eW:jl->St:=λ(b,c,d,e,f,g,h,i,j,k,a)=>{env:=(.ptr 0 0::vI b::.ptr 1 0::(U 3 (.ptr 2 0::vI c::(U 54 (vB d::(U 90 [])))))),hp:=[some [vF .u8 e,vI f],some [vO .str g],some [vI h,vI i,vT j,vO .jnode k,vO .str a]]}
def pm(R:TRr):TE:=(aJ 0 (kseq (R nI) (fin dG)))
def kD:dn->St:=λ(a,b,c,d,e,f,g,h,i,j)=>{env:=(.ptr 0 0::vI a::.ptr 1 0::(U 3 (.ptr 2 0::vI b::(U 145 [])))),hp:=[some [vF .u8 c,vI d],some [vO .str e],some [vI f,vI g,vT h,vO .jnode i,vO .str j]]}
def pn(N:Nat):TS:=λs=>run co N tL (fin dG) s
def jm(N:Nat):dn->Ro:=λ(M,x,h,i,j,_,_,_,_,_)=>let H:=(↑(Aa j):Int);let y:=(Ae .i64 (97+(BG H 26)));let z:=λF D A C G B E I L J=>(some (.agg [vI F,vI D,vT A,.sl .jnode (.may C) G,.sl .str (.may B) E],[some [vF .u8 I,vI L],some [vO .str J],some [vI F,vI D,vT A,.sl .jnode (.may C) G,.sl .str (.may B) E]]):Ro);chk (decide (Aa ([78]:Bs)+Aa ([(AF (Ah (Ae .u8 y)))]:Bs)<=9223372036854775807)) (let v:=([78]++([(AF (Ah (Ae .u8 y)))]:Bs));chk (decide ((Aa j+Aa ([v]:Bss))*16<=140737488355328)) (let p:=(j++([v]:Bss));cond (x==15) (af (bB [102,105,120,101,100]) (λk=>af (bB v) (λl=>af (bk h i 4) (λq=>af (fA true [([116,121,112,101]:Bs),([110,97,109,101]:Bs),([115,105,122,101]:Bs)] true ([⟨k.1,k.2.1,k.2.2.1,k.2.2.2.1,k.2.2.2.2⟩,⟨l.1,l.2.1,l.2.2.1,l.2.2.2.1,l.2.2.2.2⟩,⟨3,q.1,([]:Bs),([]:List aa),([]:Bss)⟩]:List aa)) (λg=>z g.1 g.2.1 g.2.2.1 g.2.2.2.1 g.2.2.2.2.1 g.2.2.2.2.2.1 g.2.2.2.2.2.2 q.2.1 q.2.2 p))))) (cond (x==16) (af (bB [88]) (λc=>af (bB [89]) (λd=>af (bB [90]) (λe=>af (bk h i 3) (λr=>let s:=(Ae .i64 (1+r.1));chk (decide (0<=s)&&decide (s<=(↑(Aa ([⟨c.1,c.2.1,c.2.2.1,c.2.2.2.1,c.2.2.2.2⟩,⟨d.1,d.2.1,d.2.2.1,d.2.2.2.1,d.2.2.2.2⟩,⟨e.1,e.2.1,e.2.2.1,e.2.2.2.1,e.2.2.2.2⟩]:List aa)):Int))) (let w:=(Bd 0 (Br (Ah s) ([⟨c.1,c.2.1,c.2.2.1,c.2.2.2.1,c.2.2.2.2⟩,⟨d.1,d.2.1,d.2.2.1,d.2.2.2.1,d.2.2.2.2⟩,⟨e.1,e.2.1,e.2.2.1,e.2.2.2.1,e.2.2.2.2⟩]:List aa)));af (bB [101,110,117,109]) (λm=>af (bB v) (λn=>af (fA true [([116,121,112,101]:Bs),([110,97,109,101]:Bs),([115,121,109,98,111,108,115]:Bs)] true ([⟨m.1,m.2.1,m.2.2.1,m.2.2.2.1,m.2.2.2.2⟩,⟨n.1,n.2.1,n.2.2.1,n.2.2.2.1,n.2.2.2.2⟩,⟨5,0,([]:Bs),w,([]:Bss)⟩]:List aa)) (λa=>af (bk r.2.1 r.2.2 2) (λo=>cond (o.1==0) (chk ((a.2.2.2.2.2.1&&decide (0<Aa ([([100,101,102,97,117,108,116]:Bs)]:Bss)))&&decide ((Aa a.2.2.2.2.2.2+Aa ([([100,101,102,97,117,108,116]:Bs)]:Bss))*16<=140737488355328)) (let t:=(a.2.2.2.2.2.2++([([100,101,102,97,117,108,116]:Bs)]:Bss));af (bB [88]) (λb=>chk ((a.2.2.2.1&&decide (0<Aa ([⟨b.1,b.2.1,b.2.2.1,b.2.2.2.1,b.2.2.2.2⟩]:List aa)))&&decide ((Aa a.2.2.2.2.1+Aa ([⟨b.1,b.2.1,b.2.2.1,b.2.2.2.1,b.2.2.2.2⟩]:List aa))*80<=140737488355328)) (let u:=(a.2.2.2.2.1++([⟨b.1,b.2.1,b.2.2.1,b.2.2.2.1,b.2.2.2.2⟩]:List aa));some (.agg [vI a.1,vI a.2.1,vT a.2.2.1,vF .jnode u,vF .str t],[some [vF .u8 o.2.1,vI o.2.2],some [vO .str p],some [vI a.1,vI a.2.1,vT a.2.2.1,vF .jnode u,vF .str t],some [vI a.1,vI a.2.1,vT a.2.2.1,vO .jnode u,vO .str t]]))))) (some (.agg [vI a.1,vI a.2.1,vT a.2.2.1,.sl .jnode (.may a.2.2.2.1) a.2.2.2.2.1,.sl .str (.may a.2.2.2.2.2.1) a.2.2.2.2.2.2],[some [vF .u8 o.2.1,vI o.2.2],some [vO .str p],some [vI a.1,vI a.2.1,vT a.2.2.1,.sl .jnode (.may a.2.2.2.1) a.2.2.2.2.1,.sl .str (.may a.2.2.2.2.2.1) a.2.2.2.2.2.2],some [vI a.1,vI a.2.1,vT a.2.2.1,.sl .jnode (.may a.2.2.2.1) a.2.2.2.2.1,.sl .str (.may a.2.2.2.2.2.1) a.2.2.2.2.2.2]])))))))))))) (af (jf h i p v M) (λf=>z f.1 f.2.1 f.2.2.1 false f.2.2.2.1 false f.2.2.2.2.1 f.2.2.2.2.2.1 f.2.2.2.2.2.2.1 f.2.2.2.2.2.2.2)))))
theorem ad5(N:Nat):LJ (pn N) kD (jm N):=λ_=>by kernel_rfl
def lC(N:Nat):TS:=λs=>run co N kC (pm (run co N)) s
def kE(N:Nat)(l:dn->Ro):jl->Ro:=λ(m,n,k,d,e,b,f,g,h,i,j)=>cond k (let o:=(↑(Aa b):Int);af (bk d e o) (λc=>chk (ixl c.1 b) (let p:=An b (Ah c.1) (ao .str);af (bB p) (λa=>some (.agg [vI a.1,vI a.2.1,vT a.2.2.1,vF .jnode a.2.2.2.1,vF .str a.2.2.2.2],[some [vF .u8 c.2.1,vI c.2.2],some [vO .str b],some [vI a.1,vI a.2.1,vT a.2.2.1,vF .jnode a.2.2.2.1,vF .str a.2.2.2.2]]))))) (l (m,n,d,e,b,f,g,h,i,j))
def jn(N:Nat)(x:jl):Ro:=kE N (λz=>jm N z) x
def po(N:Nat):List (Nat×(TS)):=(dv co N kC (pm (run co N))++(dv co N nI (fin dG)++[]))
theorem ad6(N:Nat):∀(x:jl),lC N (eW x)=jn N x:=by
 intro x;have b:∀C:Nat->TS,cN C co N kC (pm (cN C co N)) (eW x)=kE N (λz=>C 1000001 (kD z)) x:=by intro C;kernel_rfl
 have h:lC N (eW x)=kE N (λz=>pn N (kD z)) x:=(fZ (C:=jV (po N)) (eq (bU (l:=(po N)) (by kernel_rfl))) (nc (qI (eq (mO (bU (l:=(po N)) (by kernel_rfl)))) rfl)) _).trans ((b _).trans (by kernel_rfl));have a:(λz=>pn N (kD z))=(λz=>jm N z):=funext λz=>ad5 N z
 rw[h,a];rfl
def pp(N:Nat):TS:=λs=>run co N j9 (fin dG) s
def kF(N:Nat)(B:jl->Ro):dn->Ro:=λ(r,d,b,c,a,j,k,l,m,n)=>let s:=λt u v w x y z C G E=>(some (.agg [vI t,vI u,vT v,.sl .jnode (.may w) x,.sl .str (.may y) z],[some [vF .u8 C,vI G],some [vO .str E],some [vI t,vI u,vT v,.sl .jnode (.may w) x,.sl .str (.may y) z]]):Ro);let A:=λt=>B (r,d,t,b,c,a,j,k,l,m,n);cond (decide (d<8)) (chk (ixl d [([105,110,116]:Bs),([108,111,110,103]:Bs),([115,116,114,105,110,103]:Bs),([98,121,116,101,115]:Bs),([98,111,111,108,101,97,110]:Bs),([110,117,108,108]:Bs),([102,108,111,97,116]:Bs),([100,111,117,98,108,101]:Bs)]) (let D:=An [([105,110,116]:Bs),([108,111,110,103]:Bs),([115,116,114,105,110,103]:Bs),([98,121,116,101,115]:Bs),([98,111,111,108,101,97,110]:Bs),([110,117,108,108]:Bs),([102,108,111,97,116]:Bs),([100,111,117,98,108,101]:Bs)] (Ah d) (ao .str);af (bB D) (λo=>s o.1 o.2.1 o.2.2.1 false o.2.2.2.1 false o.2.2.2.2 b c a))) (cond (decide (d<10)) (af (bB [97,114,114,97,121]) (λp=>let F:=(Ae .i64 (r+1));af (du b c a F) (λe=>af (fA true [([116,121,112,101]:Bs),([105,116,101,109,115]:Bs)] true ([⟨p.1,p.2.1,p.2.2.1,p.2.2.2.1,p.2.2.2.2⟩,⟨e.1,e.2.1,e.2.2.1,e.2.2.2.1,e.2.2.2.2.1⟩]:List aa)) (λh=>s h.1 h.2.1 h.2.2.1 h.2.2.2.1 h.2.2.2.2.1 h.2.2.2.2.2.1 h.2.2.2.2.2.2 e.2.2.2.2.2.1 e.2.2.2.2.2.2.1 e.2.2.2.2.2.2.2)))) (cond (d==10) (af (bB [109,97,112]) (λq=>let I:=(Ae .i64 (r+1));af (du b c a I) (λf=>af (fA true [([116,121,112,101]:Bs),([118,97,108,117,101,115]:Bs)] true ([⟨q.1,q.2.1,q.2.2.1,q.2.2.2.1,q.2.2.2.2⟩,⟨f.1,f.2.1,f.2.2.1,f.2.2.2.1,f.2.2.2.2.1⟩]:List aa)) (λi=>s i.1 i.2.1 i.2.2.1 i.2.2.2.1 i.2.2.2.2.1 i.2.2.2.2.2.1 i.2.2.2.2.2.2 f.2.2.2.2.2.1 f.2.2.2.2.2.2.1 f.2.2.2.2.2.2.2)))) (cond (decide (d<14)) (af (lU b c a r) (λg=>s g.1 g.2.1 g.2.2.1 false g.2.2.2.1 false g.2.2.2.2.1 g.2.2.2.2.2.1 g.2.2.2.2.2.2.1 g.2.2.2.2.2.2.2)) (cond (d==14) (let H:=(↑(Aa a):Int);A (decide (0<H))) (A false)))))
def lD(N:Nat)(x:dn):Ro:=kF N (λz=>jn N z) x
def vu(N:Nat):List (Nat×(TS)):=(dv co N j9 (fin dG)++[])
theorem ad7(N:Nat):∀(x:dn),pp N (ix x)=lD N x:=by
 intro x;have b:∀C:Nat->TS,cN C co N j9 (fin dG) (ix x)=kF N (λz=>C 1000000 (eW z)) x:=by intro C;kernel_rfl
 have h:pp N (ix x)=kF N (λz=>lC N (eW z)) x:=(fZ (C:=jV (vu N)) (eq (bU (l:=(vu N)) (by kernel_rfl))) rfl _).trans ((b _).trans (by kernel_rfl));have a:(λz=>lC N (eW z))=(λz=>jn N z):=funext λz=>ad6 N z
 rw[h,a];rfl
def jT(N:Nat)(c:Bs)(d:Int)(e:Bss)(g:Int)(h:dn->Ro):Ro:=let f:=λi j k=>h (g,i,j,k,e,0,0,[],[],[]);af (bk c d 20) (λb=>cond (decide (3<g)) (f (BG b.1 8) b.2.1 b.2.2) (af (mP b.2.1 b.2.2) (λa=>cond a.1 (f (BG b.1 8) a.2.1 a.2.2) (f b.1 a.2.1 a.2.2))))
def wY(N:Nat)(a:Bs)(b:Int)(c:Bss)(d:Int):Ro:=jT N a b c d (λz=>lD N z)
theorem aff(N:Nat)(a:Bs)(c:Int)(d:Bss)(g:Int)(h:Tot (wY N a c d g) (λz=>∃i j k l m n o p rest,z.1.dimR=.agg [vI i,vI j,vT k,vF .jnode l,vF .str m]∧z.2=some [vF .u8 n,vI o]::some [vO .str p]::rest∧eP a c d g (i,j,k,l,m,n,o,p))):∃r,du a c d g r:=FnK.finO (css:=[[vF .u8 a,vI c],[vO .str d]]) agD (N:=N) ((cz _ (by kernel_rfl) rfl (λC=>jT N a c d g (λz=>C 1000002 (ix z))) (λC=>by kernel_rfl)).trans (A8 (b:=jT N a c d g (λz=>pp N (ix z))) (by kernel_rfl) (congrArg (jT N a c d g) (funext λz=>ad7 N z)))) h λ_ ⟨i,j,k,l,m,n,o,p,_,e,f,q⟩=>⟨(i,j,k,l,m,n,o,p),e,⟨_,f⟩,q⟩
def agE:aq:=tb_ [] [nY,rz] [] [ws]
def afg:IR:=Rs [Pp (.new 6 [vI 0,vI 0,vS,nl .jnode,nl .str])] (Rs [Ca 9 48 [kS [110,117,108,108]],Pp (.bsl 10 .jnode [9] true),Pp (.bld 11 [vI 0,vI 0,vS,nl .jnode,nl .str] [(0,1,kI 5),(3,1,10)]),Pp (.new 7 [vI 0,vI 0,vS,nl .jnode,nl .str]),Sv 5 7 11] (Sq (Rs [Mv 12 0,Ca 13 45 [12,kI 2],Bc 14 .eql 13 0] (Cn 14 (.reg [Fa 15 3 7,Fo [3] [] (.ld 16 1 false false 15),Pp (.bsl 17 .str [kS [105,110,116],kS [115,116,114,105,110,103]] true),Mv 18 0,Fo [] [0] (.call 19 45 [18,kI 2]),Ix 20 .str 17 19,Lq 21 20,Ca 22 48 [21],Pp (.bsl 23 .jnode [22] true),Pp (.app 24 .jnode (.tk 16) 23),Fa 25 3 7,Fo [] [3] (.st none 1 25 (.tk 24))] [[],[0],[],[],[3],[2,3,4],rg 2 5,rg 2 6,rg 2 7,rg 0 8,rg 0 9,rg 0 10]) .skip)) (Rs [Mv 26 0,Mv 27 1,Bc 28 .add 27 1,Mv 29 2,Ca 30 46 [26,28,29],Pp (.alr 8 5),Fz 8 5 30] (Sq (Rs [Fa 31 0 8,Lq 32 31,Bc 33 .eql 32 6] (Cn 33 (Rg [Fa 34 3 7,Pp (.ld 35 1 false true 34),Ld 36 5 true 8,Pp (.bsl 37 .jnode [36] true),Pp (.app 38 .jnode (.tk 35) 37),Fa 39 3 7,Sk 1 39 38]) .skip)) (Rs [Pp (.ld 40 5 true false 7),Sv 5 6 40] .ret)))))
theorem afh:FnC Tryd.prog agE [45,46,2000045,2000046] 2 84 Tryd.f84 afg dG:=fnC Tryd.func84
def vv(N:Nat)(f:Bs)(g:Int)(e:Bss)(l:Int):Ro:=let i:=λm n q r s t=>(some (.agg [vI 5,vI 0,vT [],.sl .jnode (.may m) n,vF .str []],[some [vF .u8 q,vI r],some [vO .str s],some [vI 5,vI 0,vT [],.sl .jnode (.may m) n,vF .str []],some [vI 5,vI 0,vT [],t,vO .str []]]):Ro);af (bB [110,117,108,108]) (λa=>af (bk f g 2) (λh=>cond (h.1==0) (af (bk h.2.1 h.2.2 2) (λj=>chk (ixl j.1 [([105,110,116]:Bs),([115,116,114,105,110,103]:Bs)]) (let u:=An [([105,110,116]:Bs),([115,116,114,105,110,103]:Bs)] (Ah j.1) (ao .str);af (bB u) (λd=>chk ((true&&decide (0<Aa ([⟨d.1,d.2.1,d.2.2.1,d.2.2.2.1,d.2.2.2.2⟩]:List aa)))&&decide ((Aa ([⟨a.1,a.2.1,a.2.2.1,a.2.2.2.1,a.2.2.2.2⟩]:List aa)+Aa ([⟨d.1,d.2.1,d.2.2.1,d.2.2.2.1,d.2.2.2.2⟩]:List aa))*80<=140737488355328)) (let k:=(([⟨a.1,a.2.1,a.2.2.1,a.2.2.2.1,a.2.2.2.2⟩]:List aa)++([⟨d.1,d.2.1,d.2.2.1,d.2.2.2.1,d.2.2.2.2⟩]:List aa));let v:=(Ae .i64 (l+1));af (du j.2.1 j.2.2 e v) (λc=>cond (c.1==6) (chk (decide ((Aa k+Aa ([⟨c.1,c.2.1,c.2.2.1,c.2.2.2.1,c.2.2.2.2.1⟩]:List aa))*80<=140737488355328)) (let o:=(k++([⟨c.1,c.2.1,c.2.2.1,c.2.2.2.1,c.2.2.2.2.1⟩]:List aa));i false o c.2.2.2.2.2.1 c.2.2.2.2.2.2.1 c.2.2.2.2.2.2.2 (vO .jnode o))) (i false k c.2.2.2.2.2.1 c.2.2.2.2.2.2.1 c.2.2.2.2.2.2.2 (vO .jnode k)))))))) (let w:=(Ae .i64 (l+1));af (du h.2.1 h.2.2 e w) (λb=>cond (b.1==6) (chk ((true&&decide (0<Aa ([⟨b.1,b.2.1,b.2.2.1,b.2.2.2.1,b.2.2.2.2.1⟩]:List aa)))&&decide ((Aa ([⟨a.1,a.2.1,a.2.2.1,a.2.2.2.1,a.2.2.2.2⟩]:List aa)+Aa ([⟨b.1,b.2.1,b.2.2.1,b.2.2.2.1,b.2.2.2.2.1⟩]:List aa))*80<=140737488355328)) (let p:=(([⟨a.1,a.2.1,a.2.2.1,a.2.2.2.1,a.2.2.2.2⟩]:List aa)++([⟨b.1,b.2.1,b.2.2.1,b.2.2.2.1,b.2.2.2.2.1⟩]:List aa));i false p b.2.2.2.2.2.1 b.2.2.2.2.2.2.1 b.2.2.2.2.2.2.2 (vO .jnode p))) (i true ([⟨a.1,a.2.1,a.2.2.1,a.2.2.2.1,a.2.2.2.2⟩]:List aa) b.2.2.2.2.2.1 b.2.2.2.2.2.2.1 b.2.2.2.2.2.2.2 (.sl .jnode (.may true) ([⟨a.1,a.2.1,a.2.2.1,a.2.2.2.1,a.2.2.2.2⟩]:List aa)))))))
def vw(N:Nat)(a:Bs)(b:Int)(c:Bss)(d:Int):Ro:=vv N a b c d
theorem ad8(N:Nat)(a:Bs)(b:Int)(c:Bss)(o:Int)(h:Tot (vw N a b c o) (λz=>∃d g i j k l m n rest,z.1.dimR=.agg [vI d,vI g,vT i,vF .jnode j,vF .str k]∧z.2=some [vF .u8 l,vI m]::some [vO .str n]::rest∧s9 a b c o (d,g,i,j,k,l,m,n))):∃r,lU a b c o r:=FnK.finO (css:=[[vF .u8 a,vI b],[vO .str c]]) afh (N:=N) (by kernel_rfl) h λ_ ⟨d,g,i,j,k,l,m,n,_,e,f,q⟩=>⟨(d,g,i,j,k,l,m,n),e,⟨_,f⟩,q⟩
def pr:aq:=tb_ [] [nY,rz,adk] [] [afQ,ws]
def si:IR:=Sq (Rs [Mv 17 10,Mv 18 11,Bi 19 .lss 17 18] (Cn 19 .skip (.exit 0))) (Sq (.block 1 (Rs [Mv 22 0,Mv 23 2,Bc 24 .add 23 1,Mv 25 3,Ca 26 46 [22,24,25],Pp (.alr 12 5),Fz 12 5 26] (Sq (.reg [Pp (.bsl 27 .str [kS [110,97,109,101],kS [116,121,112,101]] true),Mv 28 10,Pp (.bin 29 .add (kI 97) 28),Pp (.cvi 30 .u8 29),Pp (.bsl 31 .u8 [30] true),Pp (.b2s 32 31),Pp (.bin 33 .add (kS [102]) 32),Ca 34 48 [33],Ld 35 5 true 12,Pp (.bsl 36 .jnode [34,35] true),Ca 37 47 [27,36],Pp (.new 13 [vI 0,vI 0,vS,nl .jnode,nl .str]),Fo [] [4] (.st none 5 13 37)] [[],[],[1],[1,2],[1,2,3],rg 1 4,rg 1 5,rg 1 6,[],rg 1 8,rg 0 9,[],rg 0 11]) (Sq (Rs [Mv 38 0,Ca 39 45 [38,kI 3],Bc 40 .eql 39 0] (Cn 40 (.reg [Fa 41 4 13,Fo [4] [] (.ld 42 1 false false 41),Pp (.bsl 43 .str [kS [100,101,102,97,117,108,116]] true),Pp (.app 44 .str (.tk 42) 43),Fa 45 3 13,Fo [4] [] (.ld 46 1 false false 45),Mv 47 0,Ld 48 5 true 12,Fo [] [0] (.call 49 49 [47,48]),Pp (.bsl 50 .jnode [49] true),Pp (.app 51 .jnode (.tk 46) 50),Fa 52 4 13,Fo [] [4] (.st none 1 52 (.tk 44)),Fa 53 3 13,Fo [] [4] (.st none 1 53 (.tk 51))] [[],[0],[],[0,1,2],[],[4],[],[],[0,1,2,3,6,7],[0,1,2,3,6,7,8],rg 0 9,rg 0 5,rg 0 11,rg 0 12,rg 0 13]) .skip)) (Rg [Fa 54 3 9,Pp (.ld 55 1 false true 54),Pp (.ld 56 5 true false 13),Pp (.bsl 57 .jnode [56] true),Pp (.app 58 .jnode (.tk 55) 57),Fa 59 3 9,Sk 1 59 58]))))) (Rg [Mv 20 10,Bc 21 .add 20 1,Mv 10 21]))
def rv:IR:=Sq (.reg [Pp (.bsl 60 .str [kS [116,121,112,101],kS [110,97,109,101],kS [110,97,109,101,115,112,97,99,101],kS [102,105,101,108,100,115]] true),Ca 61 48 [kS [114,101,99,111,114,100]],Mv 62 1,Ca 63 48 [62],Ca 64 48 [kS [115]],Fo [3] [] (.ld 65 5 true false 9),Pp (.bsl 66 .jnode [61,63,64,65] true),Ca 67 47 [60,66],Fo [] [2] (.st none 5 8 67)] [[],[],[],[1,2],[1,2,3],[],rg 1 5,rg 0 6,rg 0 7]) .ret
def ad9:IR:=Rs [Pp (.new 8 [vI 0,vI 0,vS,nl .jnode,nl .str])] (Rs [Pp (.bld 14 [vI 0,vI 0,vS,nl .jnode,nl .str] [(0,1,kI 5)]),Pp (.new 9 [vI 0,vI 0,vS,nl .jnode,nl .str]),Sv 5 9 14] (Sq (Rs [Mv 15 0,Ca 16 45 [15,kI 5],Mi 10 0,Mv 11 16] (.block 0 (.loop [0,1,2,3,8,9,10,11,1000000] 4 si))) rv))
def uU:List RV:=[.cell 8 5 true]
theorem aea:FnC Tryd.prog pr [45,46,49,2000045,2000046,2000049] 2 24 Tryd.f24 ad9 uU:=fnC Tryd.func24
def acM(R:TRr)(a:TS):TE:=(b7 a [0,1,2,3,8,9,10,11,1000000] 4 (aJ 0 (kseq (R rv) (fin uU))))
abbrev ka:Type:=(Bs×Int×Int×Int×Bs×Int×Bss×Int×Int×Bs×List aa×Bss×Int×Int×Bs×List aa×Bss)
def jN:ka->St:=λ(h,i,j,k,l,m,n,o,p,q,a,b,c,d,e,f,g)=>{env:=(.ptr 0 0::vT h::vI i::.ptr 1 0::(U 4 (.ptr 2 0::.ptr 3 0::vI j::vI k::(U 56 [])))),hp:=[some [vF .u8 l,vI m],some [vO .str n],some [vI o,vI p,vT q,vO .jnode a,vO .str b],some [vI c,vI d,vT e,vO .jnode f,vO .str g]]}
def nJ(N:Nat):TS->TS:=λa s=>run pr N si (acM (run pr N) a) s
def kb(N:Nat)(j:ka->Ro):ka->Ro:=λ(z,D,k,o,l,m,n,p,q,r,s,t,f,g,h,c,i)=>let A:=λG M O I Q=>j (z,D,G,o,M,O,I,p,q,r,s,t,f,g,h,Q,i);cond (decide (k<o)) (let P:=(Ae .i64 (D+1));af (du l m n P) (λe=>let C:=(Ae .i64 (97+k));chk (decide (Aa ([102]:Bs)+Aa ([(AF (Ah (Ae .u8 C)))]:Bs)<=9223372036854775807)) (let H:=([102]++([(AF (Ah (Ae .u8 C)))]:Bs));af (bB H) (λu=>af (fA true [([110,97,109,101]:Bs),([116,121,112,101]:Bs)] true ([⟨u.1,u.2.1,u.2.2.1,u.2.2.2.1,u.2.2.2.2⟩,⟨e.1,e.2.1,e.2.2.1,e.2.2.2.1,e.2.2.2.2.1⟩]:List aa)) (λb=>af (bk e.2.2.2.2.2.1 e.2.2.2.2.2.2.1 3) (λv=>cond (v.1==0) (chk ((b.2.2.2.2.2.1&&decide (0<Aa ([([100,101,102,97,117,108,116]:Bs)]:Bss)))&&decide ((Aa b.2.2.2.2.2.2+Aa ([([100,101,102,97,117,108,116]:Bs)]:Bss))*16<=140737488355328)) (let E:=(b.2.2.2.2.2.2++([([100,101,102,97,117,108,116]:Bs)]:Bss));af (kn v.2.1 v.2.2 e.1 e.2.1 e.2.2.1 e.2.2.2.1 e.2.2.2.2.1) (λd=>chk ((b.2.2.2.1&&decide (0<Aa ([⟨d.1,d.2.1,d.2.2.1,d.2.2.2.1,d.2.2.2.2.1⟩]:List aa)))&&decide ((Aa b.2.2.2.2.1+Aa ([⟨d.1,d.2.1,d.2.2.1,d.2.2.2.1,d.2.2.2.2.1⟩]:List aa))*80<=140737488355328)) (let B:=(b.2.2.2.2.1++([⟨d.1,d.2.1,d.2.2.1,d.2.2.2.1,d.2.2.2.2.1⟩]:List aa));chk (decide ((Aa c+Aa ([⟨b.1,b.2.1,b.2.2.1,B,E⟩]:List aa))*80<=140737488355328)) (let J:=(c++([⟨b.1,b.2.1,b.2.2.1,B,E⟩]:List aa));let L:=(Ae .i64 (k+1));A L d.2.2.2.2.2.1 d.2.2.2.2.2.2 e.2.2.2.2.2.2.2 J))))) (chk (decide ((Aa c+Aa ([⟨b.1,b.2.1,b.2.2.1,b.2.2.2.2.1,b.2.2.2.2.2.2⟩]:List aa))*80<=140737488355328)) (let R:=(c++([⟨b.1,b.2.1,b.2.2.1,b.2.2.2.2.1,b.2.2.2.2.2.2⟩]:List aa));let F:=(Ae .i64 (k+1));A F v.2.1 v.2.2 e.2.2.2.2.2.2.2 R)))))))) (af (bB [114,101,99,111,114,100]) (λw=>af (bB z) (λx=>af (bB [115]) (λy=>af (fA true [([116,121,112,101]:Bs),([110,97,109,101]:Bs),([110,97,109,101,115,112,97,99,101]:Bs),([102,105,101,108,100,115]:Bs)] true ([⟨w.1,w.2.1,w.2.2.1,w.2.2.2.1,w.2.2.2.2⟩,⟨x.1,x.2.1,x.2.2.1,x.2.2.2.1,x.2.2.2.2⟩,⟨y.1,y.2.1,y.2.2.1,y.2.2.2.1,y.2.2.2.2⟩,⟨f,g,h,c,i⟩]:List aa)) (λa=>some (.agg [vI a.1,vI a.2.1,vT a.2.2.1,.sl .jnode (.may a.2.2.2.1) a.2.2.2.2.1,.sl .str (.may a.2.2.2.2.2.1) a.2.2.2.2.2.2],[some [vF .u8 l,vI m],some [vO .str n],some [vI a.1,vI a.2.1,vT a.2.2.1,.sl .jnode (.may a.2.2.2.1) a.2.2.2.2.1,.sl .str (.may a.2.2.2.2.2.1) a.2.2.2.2.2.2],some [vI f,vI g,vT h,vO .jnode c,vO .str i]]))))))
theorem abw(N:Nat):LB (nJ N) jN (kb N):=λ_ _=>by kernel_rfl
def iy(N:Nat)(a:Bs)(b:Int)(c:Bss)(e:Bs)(f:Int)(g:ka->Ro):Ro:=af (bk a b 5) (λd=>g (e,f,0,d.1,d.2.1,d.2.2,c,0,0,[],[],[],5,0,[],[],[]))
def uV(N:Nat)(a:Bs)(b:Int)(c:Bss)(d:Bs)(e:Int):Ro:=iy N a b c d e (λz=>aK N (kb N) z)
theorem acN(N:Nat)(a:Bs)(c:Int)(d:Bss)(g:Bs)(i:Int)(h:Tot (uV N a c d g i) (λz=>∃j k l m n o p s rest,z.1.dimR=.agg [vI j,vI k,vT l,vF .jnode m,vF .str n]∧z.2=some [vF .u8 o,vI p]::some [vO .str s]::rest∧rI a c d g i (j,k,l,m,n,o,p,s))):∃r,jf a c d g i r:=FnK.finO (css:=[[vF .u8 a,vI c],[vO .str d]]) aea (N:=N) ((cz _ (by kernel_rfl) rfl (λC=>iy N a c d g i (λz=>C 1000000 (jN z))) (λC=>by kernel_rfl)).trans (A8 (b:=iy N a c d g i (λz=>bi N (nJ N) (jN z))) (by kernel_rfl) (congrArg (iy N a c d g i) (funext λz=>bm (jN) (nJ N) (kb N) (abw N) N z)))) h λ_ ⟨j,k,l,m,n,o,p,s,_,e,f,q⟩=>⟨(j,k,l,m,n,o,p,s),e,⟨_,f⟩,q⟩
def cr:aq:=tb_ [] [nY] [] [ws,arc]
def iz:IR:=Cn 12 (Rs [Mv 17 0,Ca 18 45 [17,kI 200],Bc 19 .sub 18 50,Pp (.bld 20 [vI 0,vI 0,vS,nl .jnode,nl .str] [(0,1,kI 3),(1,1,19)]),Sv 5 4 20] .ret) (Sq (Rs [Pp (.bin 22 .eql 11 (kS [115,116,114,105,110,103])),Mv 21 22] (Cn 21 .skip (Rg [Pp (.bin 23 .eql 11 (kS [98,121,116,101,115])),Mv 21 23]))) (Cn 21 (Rs [Pp (.bsl 24 .str [kS [],kS [100],kS [195,164]] true),Mv 25 0,Ca 26 45 [25,kI 3],Ix 27 .str 24 26,Lq 28 27,Ca 29 48 [28],Sv 5 4 29] .ret) (Rs [Pp (.bin 31 .eql 11 (kS [98,111,111,108,101,97,110])),Mv 30 31] (Cn 30 (Rs [Mv 32 0,Ca 33 45 [32,kI 2],Pp (.bld 34 [vI 0,vI 0,vS,nl .jnode,nl .str] [(0,1,kI 2),(1,1,33)]),Sv 5 4 34] .ret) (Rs [Pp (.bin 36 .eql 11 (kS [110,117,108,108])),Mv 35 36] (Cn 35 (Rs [Pp (.bld 37 [vI 0,vI 0,vS,nl .jnode,nl .str] [(0,1,kI 1)]),Sv 5 4 37] .ret) .skip))))))
def lp:IR:=Sq (Rs [Fa 38 0 3,Lq 39 38,Bc 40 .eql 39 5] (Cn 40 (Rs [Pp (.bld 41 [vI 0,vI 0,vS,nl .jnode,nl .str] [(0,1,kI 1)]),Sv 5 4 41] .ret) .skip)) (Rs [Ld 43 5 true 3,Ca 44 85 [43,kS [116,121,112,101]],Mv 42 44,Ex_ 45 0 42,Ex_ 46 1 42,Pp (.alr 5 5),Fz 5 5 45,Mv 6 46] (Sq (Rs [Fa 47 2 5,Lq 48 47] (.block 1 (Rs [Pp (.bin 50 .eql 48 (kS [97,114,114,97,121])),Mv 49 50] (Cn 49 (Rs [Pp (.bld 51 [vI 0,vI 0,vS,nl .jnode,nl .str] [(0,1,kI 5)]),Sv 5 4 51] .ret) (Rs [Pp (.bin 53 .eql 48 (kS [101,110,117,109])),Mv 52 53] (Cn 52 (Rs [Ca 54 48 [kS [88]],Sv 5 4 54] .ret) .skip)))))) (Rs [Pp (.bld 55 [vI 0,vI 0,vS,nl .jnode,nl .str] [(0,1,kI 6)]),Sv 5 4 55] .ret)))
def lq:IR:=.cut [3,4,1000001] 2 lp
def acO:IR:=Rs [Bx 3 1,Pp (.new 4 [vI 0,vI 0,vS,nl .jnode,nl .str])] (Sq (Rs [Fa 7 0 3,Lq 8 7,Bc 9 .eql 8 4] (Cn 9 (Rs [Fa 10 2 3,Lq 11 10] (.block 0 (Sq (Rs [Pp (.bin 13 .eql 11 (kS [105,110,116])),Mv 12 13] (Cn 12 .skip (Rs [Pp (.bin 14 .eql 11 (kS [108,111,110,103])),Mv 12 14] (Cn 12 .skip (Rs [Pp (.bin 15 .eql 11 (kS [102,108,111,97,116])),Mv 12 15] (Cn 12 .skip (Rg [Pp (.bin 16 .eql 11 (kS [100,111,117,98,108,101])),Mv 12 16]))))))) (.cut [0,3,4,11,12,1000000] 2 iz)))) .skip)) lq)
def dD:List RV:=[.cell 4 5 true]
theorem acP:FnC Tryd.prog cr [45,2000045] 1 49 Tryd.f49 acO dD:=fnC Tryd.func49
abbrev fP:Type:=(Int×Int×Bs×List aa×Bss×Bs×Bool×Bs×Int×Int×Int×Bs×List aa×Bss)
def fc:fP->St:=λ(e,f,g,h,i,j,k,l,m,n,a,b,c,d)=>{env:=(.ptr 0 0::.undef::.undef::.ea [vI e,vI f,vT g,vF .jnode h,vF .str i]::.ptr 1 0::(U 6 (vT j::vB k::(U 43 [])))),hp:=[some [vF .u8 l,vI m],some [vI n,vI a,vT b,vO .jnode c,vO .str d]]}
def mH(R:TRr):TE:=(aJ 0 (kseq (R lq) (fin dD)))
abbrev d7:Type:=(Int×Int×Bs×List aa×Bss×Bs×Int×Int×Int×Bs×List aa×Bss)
def jb:d7->St:=λ(c,d,e,f,g,h,i,j,k,l,a,b)=>{env:=(U 3 (.ea [vI c,vI d,vT e,vF .jnode f,vF .str g]::.ptr 1 0::(U 51 []))),hp:=[some [vF .u8 h,vI i],some [vI j,vI k,vT l,vO .jnode a,vO .str b]]}
def mI(N:Nat):TS:=λs=>run cr N lp (fin dD) s
def fQ(N:Nat):d7->Ro:=λ(a,c,d,e,f,g,h,_,_,_,_,_)=>let i:=λk l m o p q r=>(some (.agg [vI k,vI l,vT m,vF .jnode o,vF .str p],[some [vF .u8 g,vI h],some [vI k,vI l,vT m,q,r]]):Ro);cond (a==5) (i 1 0 [] [] [] (vO .jnode []) (vO .str [])) (af (uh a c d e f [116,121,112,101]) (λn=>let s:=decide (n.2.2.1=[97,114,114,97,121]);cond s (i 5 0 [] [] [] (vO .jnode []) (vO .str [])) (let j:=decide (n.2.2.1=[101,110,117,109]);cond j (af (bB [88]) (λb=>i b.1 b.2.1 b.2.2.1 b.2.2.2.1 b.2.2.2.2 (vF .jnode b.2.2.2.1) (vF .str b.2.2.2.2))) (i 6 0 [] [] [] (vO .jnode []) (vO .str [])))))
theorem z8(N:Nat):LJ (mI N) jb (fQ N):=λ_=>by kernel_rfl
def mJ(N:Nat):TS:=λs=>run cr N iz (mH (run cr N)) s
def jc(N:Nat)(y:d7->Ro):fP->Ro:=λ(f,g,h,i,j,c,s,a,b,k,l,m,n,o)=>let p:=λv w x z I E F C H=>(some (.agg [vI v,vI w,vT x,vF .jnode z,vF .str I],[some [vF .u8 E,vI F],some [vI v,vI w,vT x,C,H]]):Ro);cond s (af (bk a b 200) (λt=>let G:=(Ae .i64 (t.1-50));p 3 G [] [] [] t.2.1 t.2.2 (vO .jnode []) (vO .str []))) (let L:=decide (c=[115,116,114,105,110,103]);cond L (af (bk a b 3) (λq=>chk (ixl q.1 [([]:Bs),([100]:Bs),([195,164]:Bs)]) (let J:=An [([]:Bs),([100]:Bs),([195,164]:Bs)] (Ah q.1) (ao .str);af (bB J) (λd=>p d.1 d.2.1 d.2.2.1 d.2.2.2.1 d.2.2.2.2 q.2.1 q.2.2 (vF .jnode d.2.2.2.1) (vF .str d.2.2.2.2))))) (let D:=decide (c=[98,121,116,101,115]);cond D (af (bk a b 3) (λr=>chk (ixl r.1 [([]:Bs),([100]:Bs),([195,164]:Bs)]) (let A:=An [([]:Bs),([100]:Bs),([195,164]:Bs)] (Ah r.1) (ao .str);af (bB A) (λe=>p e.1 e.2.1 e.2.2.1 e.2.2.2.1 e.2.2.2.2 r.2.1 r.2.2 (vF .jnode e.2.2.2.1) (vF .str e.2.2.2.2))))) (let B:=decide (c=[98,111,111,108,101,97,110]);cond B (af (bk a b 2) (λu=>p 2 u.1 [] [] [] u.2.1 u.2.2 (vO .jnode []) (vO .str []))) (let M:=decide (c=[110,117,108,108]);cond M (p 1 0 [] [] [] a b (vO .jnode []) (vO .str [])) (y (f,g,h,i,j,a,b,k,l,m,n,o))))))
def jO(N:Nat)(x:fP):Ro:=jc N (λz=>fQ N z) x
def mK(N:Nat):List (Nat×(TS)):=(dv cr N iz (mH (run cr N))++(dv cr N lq (fin dD)++[]))
theorem aaa(N:Nat):∀(x:fP),mJ N (fc x)=jO N x:=by
 intro x;have b:∀C:Nat->TS,cN C cr N iz (mH (cN C cr N)) (fc x)=jc N (λz=>C 1000001 (jb z)) x:=by intro C;kernel_rfl
 have h:mJ N (fc x)=jc N (λz=>mI N (jb z)) x:=(fZ (C:=jV (mK N)) (eq (bU (l:=(mK N)) (by kernel_rfl))) (nc (qI (eq (mO (bU (l:=(mK N)) (by kernel_rfl)))) rfl)) _).trans ((b _).trans (by kernel_rfl));have a:(λz=>mI N (jb z))=(λz=>fQ N z):=funext λz=>z8 N z
 rw[h,a];rfl
def lK:d7->St:=λ(c,d,e,f,g,h,i,j,k,l,a,b)=>{env:=(U 3 (.ea [vI c,vI d,vT e,vF .jnode f,vF .str g]::.ptr 1 0::(U 51 []))),hp:=[some [vF .u8 h,vI i],some [vI j,vI k,vT l,vO .jnode a,vO .str b]]}
def sj(N:Nat):TS:=λs=>run cr N lp (fin dD) s
def jP(N:Nat):d7->Ro:=λ(b,c,d,e,f,g,h,_,_,_,_,_)=>let i:=λl m n p q r s=>(some (.agg [vI l,vI m,vT n,vF .jnode p,vF .str q],[some [vF .u8 g,vI h],some [vI l,vI m,vT n,r,s]]):Ro);cond (b==5) (i 1 0 [] [] [] (vO .jnode []) (vO .str [])) (af (uh b c d e f [116,121,112,101]) (λo=>let j:=decide (o.2.2.1=[97,114,114,97,121]);cond j (i 5 0 [] [] [] (vO .jnode []) (vO .str [])) (let k:=decide (o.2.2.1=[101,110,117,109]);cond k (af (bB [88]) (λa=>i a.1 a.2.1 a.2.2.1 a.2.2.2.1 a.2.2.2.2 (vF .jnode a.2.2.2.1) (vF .str a.2.2.2.2))) (i 6 0 [] [] [] (vO .jnode []) (vO .str [])))))
theorem aab(N:Nat):LJ (sj N) lK (jP N):=λ_=>by kernel_rfl
def gv(N:Nat)(c:Bs)(d b e:Int)(a:Bs)(f:List aa)(g:Bss)(l:fP->Ro)(m:d7->Ro):Ro:=let h:=λn=>l (b,e,a,f,g,a,n,c,d,0,0,[],[],[]);cond (b==4) (let o:=decide (a=[105,110,116]);cond o (h true) (let i:=decide (a=[108,111,110,103]);cond i (h true) (let j:=decide (a=[102,108,111,97,116]);cond j (h true) (let k:=decide (a=[100,111,117,98,108,101]);h k)))) (m (b,e,a,f,g,c,d,0,0,[],[],[]))
def tM(N:Nat)(a:Bs)(b c d:Int)(e:Bs)(f:List aa)(g:Bss):Ro:=gv N a b c d e f g (λz=>jO N z) (λz=>jP N z)
theorem abx(N:Nat)(a:Bs)(c d g:Int)(i:Bs)(j:List aa)(k:Bss)(h:Tot (tM N a c d g i j k) (λz=>∃l m n o p s t rest,z.1.dimR=.agg [vI l,vI m,vT n,vF .jnode o,vF .str p]∧z.2=some [vF .u8 s,vI t]::rest∧eX a c d g i j k (l,m,n,o,p,s,t))):∃r,kn a c d g i j k r:=FnK.finO (css:=[[vF .u8 a,vI c]]) acP (N:=N) ((cz _ (by kernel_rfl) rfl (λC=>gv N a c d g i j k (λz=>C 1000000 (fc z)) (λz=>C 1000001 (lK z))) (λC=>by kernel_rfl)).trans (A8 (b:=gv N a c d g i j k (λz=>mJ N (fc z)) (λz=>sj N (lK z))) (by kernel_rfl) (congr (congrArg (gv N a c d g i j k) (funext λz=>aaa N z)) (funext λz=>aab N z)))) h λ_ ⟨l,m,n,o,p,s,t,_,e,f,q⟩=>⟨(l,m,n,o,p,s,t),e,⟨_,f⟩,q⟩
def aiG:aq:=tb_ [] [] [] []
def ahm:IR:=Rs [Mi 4 0] (Sq (Sq (.reg [Mv 5 0,Nk 6 5,Fa 7 1 6,Fo [0] [] (.ld 8 1 false false 7),Mv 9 0,Nk 10 9,Fa 11 0 10,Fo [0] [] (.ld 12 1 false false 11),Ll 13 12,Bi 14 .geq 8 13] [[],[0],[0,1],[0,1,2],[],[4],[4,5],[4,5,6],rg 4 7,rg 0 8]) (Cn 14 (Rs [Mi 4 0] .ret) .skip)) (Rs [Mv 15 0,Nk 16 15,Fa 17 1 16,Lo 18 17,Bc 19 .add 18 1,Nk 20 15,Fa 21 1 20,Sv 1 21 19] (Sq (.reg [Mv 22 0,Nk 23 22,Fa 24 0 23,Fo [0] [] (.ld 25 1 false false 24),Mv 26 0,Nk 27 26,Fa 28 1 27,Fo [0] [] (.ld 29 1 false false 28),Bc 30 .sub 29 1,Ix 31 .u8 25 30,Lq 32 31,Pp (.cvi 33 .i64 32),Mv 34 1,Bi 35 .rem 33 34,Mv 4 35] [[],[0],[0,1],[0,1,2],[],[4],[4,5],[4,5,6],rg 4 7,rg 0 8,rg 0 9,rg 0 10,[],rg 0 12,rg 0 13]) .ret)))
def ahn:List RV:=[.t 4]
theorem aho:FnC Tryd.prog aiG [] 1 45 Tryd.f45 ahm ahn:=fnC Tryd.func45
def xQ(N:Nat)(a:Bs)(b c:Int):Ro:=let g:=(↑(Aa a):Int);let d:=λh i=>(some (vI h,[some [vF .u8 a,vI i]]):Ro);cond (decide (g<=b)) (d 0 b) (let e:=(Ae .i64 (b+1));let f:=(Ae .i64 (e-1));chk (ixl f a) (let j:=(An a (Ah f) (ao .u8)).toNat;chk (!(c==0)) (let k:=(BG (Ae .i64 j) c);d k e)))
def xR(N:Nat)(a:Bs)(b c:Int):Ro:=xQ N a b c
theorem agF(N:Nat)(a:Bs)(b i:Int)(h:Tot (xR N a b i) (λz=>∃c d g rest,z.1.dimR=vI c∧z.2=some [vF .u8 d,vI g]::rest∧u9 a b i (c,d,g))):∃r,bk a b i r:=FnK.finO (css:=[[vF .u8 a,vI b]]) aho (N:=N) (by kernel_rfl) h λ_ ⟨c,d,g,_,e,f,q⟩=>⟨(c,d,g),e,⟨_,f⟩,q⟩
def ahp:aq:=tb_ [] [] [] []
def agG:IR:=Rs [Mb 2 false] (Sq (.reg [Mv 3 0,Nk 4 3,Fa 5 1 4,Fo [0] [] (.ld 6 1 false false 5),Mv 7 0,Nk 8 7,Fa 9 0 8,Fo [0] [] (.ld 10 1 false false 9),Ll 11 10,Bi 12 .geq 6 11,Mv 2 12] [[],[0],[0,1],[0,1,2],[],[4],[4,5],[4,5,6],rg 4 7,rg 0 8,rg 0 9]) .ret)
def qD:List RV:=[.t 2]
theorem agH:FnC Tryd.prog ahp [] 1 83 Tryd.f83 agG qD:=fnC Tryd.func83
def wZ(N:Nat)(a:Bs)(b:Int):Ro:=let c:=(↑(Aa a):Int);some (vB (decide (c<=b)),[some [vF .u8 a,vI b]])
def w9(N:Nat)(a:Bs)(b:Int):Ro:=wZ N a b
theorem afi(N:Nat)(a:Bs)(b:Int)(h:Tot (w9 N a b) (λz=>∃c d g rest,z.1.dimR=vB c∧z.2=some [vF .u8 d,vI g]::rest∧ua a b (c,d,g))):∃r,mP a b r:=FnK.finO (css:=[[vF .u8 a,vI b]]) agH (N:=N) (by kernel_rfl) h λ_ ⟨c,d,g,_,e,f,q⟩=>⟨(c,d,g),e,⟨_,f⟩,q⟩
def ahL:aq:=tb_ [] [] [] []
def agI:IR:=Rs [Pp (.mov 2 (.c .nilp))] (Rs [Mv 3 0,Pp (.bld 4 [fu .u8 true,vI 0] [(0,1,3)]),Pp (.box 5 4),Mv 2 5] .ret)
theorem apj:FnC Tryd.prog ahL [] 0 12 Tryd.f12 agI qD:=fnC Tryd.func12
def agJ(N:Nat)(a:Bs):Ro:=some (.ptr 0 0,[some [vF .u8 a,vI 0]])
def zC(N:Nat)(a:Bs):Ro:=agJ N a
theorem ant(N:Nat)(a:Bs):callF ahL N 6 qD agI [.sl .u8 (.may false) a] []=zC N a:=by kernel_rfl
theorem anu(N:Nat)(a:Bs)(h:Tot (zC N a) (λz=>∃(b c:_)(rest:List ai),z=(.ptr 0 0,[some [vF .u8 b,vI c]])∧abF a (b,c))):∃r,wq a r:=by obtain⟨z,d,b,c,rest,rfl,e⟩:=h;exact⟨(b,c),apj.newFn (ant N a) d,e⟩
def apZ:aq:=tb_ [] [] [] []
def apk:IR:=Rs [Pp (.new 2 [vI 0,vI 0,vS,nl .jnode,nl .str])] (Rs [Mv 3 0,Pp (.bld 4 [vI 0,vI 0,vS,nl .jnode,nl .str] [(0,1,kI 4),(2,1,3)]),Sv 5 2 4] .ret)
def agK:List RV:=[.cell 2 5 true]
theorem apl:FnC Tryd.prog apZ [] 0 48 Tryd.f48 apk agK:=fnC Tryd.func48
def agL(N:Nat)(a:Bs):Ro:=some (.agg [vI 4,vI 0,vT a,vF .jnode [],vF .str []],[some [vI 4,vI 0,vT a,vO .jnode [],vO .str []]])
def agM(N:Nat)(a:Bs):Ro:=agL N a
theorem anv(N:Nat)(g:Bs)(h:Tot (agM N g) (λz=>∃a b c d f rest,z.1.dimR=.agg [vI a,vI b,vT c,vF .jnode d,vF .str f]∧z.2=rest∧abG g (a,b,c,d,f))):∃r,bB g r:=apl.finP (N:=N) (by kernel_rfl) h λ_ ⟨a,b,c,d,f,_,e,_,q⟩=>⟨(a,b,c,d,f),e,q⟩
def agN:aq:=tb_ [] [] [] []
def aeL:IR:=Rs [Pp (.new 4 [vI 0,vI 0,vS,nl .jnode,nl .str])] (Rs [Mv 5 0,Mv 6 1,Pp (.bld 7 [vI 0,vI 0,vS,nl .jnode,nl .str] [(0,1,kI 6),(4,1,5),(3,1,6)]),Sv 5 4 7] .ret)
theorem anw:FnC Tryd.prog agN [] 0 47 Tryd.f47 aeL dD:=fnC Tryd.func47
def aeM(N:Nat)(a:Bool)(c:Bss)(b:Bool)(d:List aa):Ro:=some (.agg [vI 6,vI 0,vT [],.sl .jnode (.may b) d,.sl .str (.may a) c],[some [vI 6,vI 0,vT [],.sl .jnode (.may b) d,.sl .str (.may a) c]])
def xv(N:Nat)(a:Bool)(c:Bss)(b:Bool)(d:List aa):Ro:=aeM N a c b d
theorem alE(N:Nat)(a:Bool)(c:Bss)(b:Bool)(d:List aa):callF agN N 8 dD aeL [.sl .str (.may a) c,.sl .jnode (.may b) d] []=xv N a c b d:=by kernel_rfl
theorem alF(N:Nat)(a:Bool)(c:Bss)(b:Bool)(d:List aa)(h:Tot (xv N a c b d) (λz=>∃e f g i j k l rest,z.1=.agg [vI e,vI f,vT g,.sl .jnode (.may i) j,.sl .str (.may k) l]∧z.2=rest∧aaf a c b d (e,f,g,i,j,k,l))):∃r,fA a c b d r:=by obtain⟨⟨v,hp⟩,p,e,f,g,i,j,k,l,rest,m,o,q⟩:=h;simp only at m o;subst o;subst m;exact⟨(e,f,g,i,j,k,l),anw.pure (alE N a c b d) p,q⟩
def aeb:aq:=tb_ [] [] [] []
def aeN:IR:=Sq (Rs [Mv 7 6,Fa 8 4 2,Lq 9 8,Ll 10 9,Bi 11 .lss 7 10] (Cn 11 .skip (.exit 0))) (Sq (.block 1 (Rs [Fa 14 4 2,Lq 15 14,Mv 16 6,Ix 17 .str 15 16,Lq 18 17,Mv 19 1,Bi 20 .eql 18 19] (Cn 20 (Rs [Fa 21 3 2,Lq 22 21,Mv 23 6,Ix 24 .jnode 22 23,Ld 25 5 true 24,Sv 5 4 25,Mb 5 true] .ret) .skip))) (Rg [Mv 12 6,Bc 13 .add 12 1,Mv 6 13]))
def aeO:IR:=Rs [Pp (.bld 26 [vI 0,vI 0,vS,nl .jnode,nl .str] []),Sv 5 4 26,Mb 5 false] .ret
def ap0:IR:=Rs [Bx 2 0,Pp (.new 4 [vI 0,vI 0,vS,nl .jnode,nl .str]),Mb 5 false] (Sq (Rs [Mi 6 0] (.block 0 (.loop [1,2,4,6,1000000] 1 aeN))) aeO)
def ahM:List RV:=[.cell 4 5 true,.t 5]
theorem ap1:FnC Tryd.prog aeb [] 0 85 Tryd.f85 ap0 ahM:=fnC Tryd.func85
def apm(R:TRr)(a:TS):TE:=(b7 a [1,2,4,6,1000000] 1 (aJ 0 (kseq (R aeO) (fin ahM))))
abbrev uW:Type:=(Bs×Int×Int×Bs×List aa×Bss×Int×Int×Int×Bs×List aa×Bss)
def sK:uW->St:=λ(c,d,e,f,g,h,i,j,k,l,a,b)=>{env:=(.undef::vT c::.ea [vI d,vI e,vT f,vF .jnode g,vF .str h]::.undef::.ptr 0 0::.undef::vI i::(U 20 [])),hp:=[some [vI j,vI k,vT l,vO .jnode a,vO .str b]]}
def zD(N:Nat):TS->TS:=λa s=>run aeb N aeN (apm (run aeb N) a) s
def uX(N:Nat)(c:uW->Ro):uW->Ro:=λ(p,f,g,h,b,a,e,i,j,k,m,o)=>let v:=(↑(Aa a):Int);let q:=λr t u w x y z A=>(some (.tup [.agg [vI r,vI t,vT u,vF .jnode w,vF .str x],vB y],[some [vI r,vI t,vT u,z,A]]):Ro);cond (decide (e<v)) (chk (ixl e a) (let B:=An a (Ah e) (ao .str);cond (decide (B=p)) (chk (ixl e b) (let d:=(An b (Ah e) (ao .jnode));q d.kind d.n d.s d.l d.names true (vF .jnode d.l) (vF .str d.names))) (let C:=(Ae .i64 (e+1));c (p,f,g,h,b,a,C,i,j,k,m,o)))) (q 0 0 [] [] [] false (vO .jnode []) (vO .str []))
theorem anx(N:Nat):LB (zD N) sK (uX N):=λ_ _=>by kernel_rfl
def sm(N:Nat)(a b:Int)(c:Bs)(d:List aa)(e:Bss)(f:Bs)(g:uW->Ro):Ro:=g (f,a,b,c,d,e,0,0,0,[],[],[])
def ahN(N:Nat)(a b:Int)(c:Bs)(d:List aa)(e:Bss)(f:Bs):Ro:=sm N a b c d e f (λz=>aK N (uX N) z)
theorem apn(N:Nat)(a c:Int)(d:Bs)(f:List aa)(g:Bss)(i:Bs)(h:Tot (ahN N a c d f g i) (λz=>∃j k l m n o rest,z.1.dimR=.tup [.agg [vI j,vI k,vT l,vF .jnode m,vF .str n],vB o]∧z.2=rest∧sB a c d f g i (j,k,l,m,n,o))):∃r,uh a c d f g i r:=ap1.finP (N:=N) ((cz _ (by kernel_rfl) rfl (λC=>sm N a c d f g i (λz=>C 1000000 (sK z))) (λC=>by kernel_rfl)).trans (A8 (b:=sm N a c d f g i (λz=>bi N (zD N) (sK z))) (by kernel_rfl) (congrArg (sm N a c d f g i) (funext λz=>bm (sK) (zD N) (uX N) (anx N) N z)))) h λ_ ⟨j,k,l,m,n,o,_,e,_,q⟩=>⟨(j,k,l,m,n,o),e,q⟩
def afj:aq:=tb_ [] [vc] [] []
def aec:IR:=Rs [Pp (.new 2 [vI 0,vI 0,vS,nl .jnode,nl .str])] (Rs [Pp (.bsl 4 .str [kS [84,111,112]] false),Pp (.new 3 [nl .str]),Sk 1 3 4] (Rs [Mv 5 0,Ca 6 24 [5,kS [84,111,112],kI 0,3],Sv 5 2 6] .ret))
theorem aed:FnC Tryd.prog afj [24,2000024] 1 13 Tryd.f13 aec agK:=fnC Tryd.func13
def uY(N:Nat)(b:Bs)(c:Int):Ro:=af (jf b c [([84,111,112]:Bs)] [84,111,112] 0) (λa=>some (.agg [vI a.1,vI a.2.1,vT a.2.2.1,vF .jnode a.2.2.2.1,vF .str a.2.2.2.2.1],[some [vF .u8 a.2.2.2.2.2.1,vI a.2.2.2.2.2.2.1],some [vI a.1,vI a.2.1,vT a.2.2.1,vF .jnode a.2.2.2.1,vF .str a.2.2.2.2.1],some [vO .str a.2.2.2.2.2.2.2]]))
def uZ(N:Nat)(a:Bs)(b:Int):Ro:=uY N a b
theorem acQ(N:Nat)(a:Bs)(b:Int)(h:Tot (uZ N a b) (λz=>∃c d g i j k l rest,z.1.dimR=.agg [vI c,vI d,vT g,vF .jnode i,vF .str j]∧z.2=some [vF .u8 k,vI l]::rest∧rJ a b (c,d,g,i,j,k,l))):∃r,lu a b r:=FnK.finO (css:=[[vF .u8 a,vI b]]) aed (N:=N) (by kernel_rfl) h λ_ ⟨c,d,g,i,j,k,l,_,e,f,q⟩=>⟨(c,d,g,i,j,k,l),e,⟨_,f⟩,q⟩
theorem apq(l:List UInt8)(n m:Int)(h:pa l n)(b:0<m):∃r,bk l n m r:=by
 obtain⟨e,f,d⟩:=h;apply agF 1;unfold xR xQ;dsimp only
 repeat' (first|(with_reducible refine ab ?_ ?_<;>(intro a;(try simp only[bnl] at a);(try revert a;intro _)))|with_reducible refine ct ?_ ?_|with_reducible refine am ?_|fail)
 ·exact⟨_,_,_,_,rfl,rfl,by simp,by simpa using b,rfl,e,f,d⟩
 ·simp(disch:=omega) only[mN,bnl]
 ·simp only[bnl];omega
 ·refine⟨_,_,_,_,rfl,rfl,?_,?_,rfl,?_,?_,d⟩;·simp only;have:=DG (l.getD (IntKind.i64.wrap (IntKind.i64.wrap (n+1)-1)).toNat (ao .u8));rw[ax _ (by omega)];exact CX _ (by omega)
  ·simp only;exact DO _ b
  ·simp only;rw[ax _ (by omega)];omega
  ·simp only;rw[ax _ (by omega)];omega
theorem re(l:List UInt8)(n m:Int)(h:pa l n)(a:0<m)(b:m<=1000):∃r,bk l n m r:=apq l n m h a
theorem at4(l:List UInt8)(n:Int):∃r,mP l n r:=by
 apply afi 1;unfold w9 wZ;dsimp only
 repeat' (first|(with_reducible refine ab ?_ ?_<;>(intro a;(try simp only[bnl] at a);(try revert a;intro _)))|with_reducible refine ct ?_ ?_|with_reducible refine am ?_|fail)
 exact⟨_,_,_,_,rfl,rfl,rfl,rfl⟩
theorem at5(l:List UInt8):∃r,wq l r:=by
 apply anu 1;unfold zC agJ
 repeat' (first|(with_reducible refine ab ?_ ?_<;>(intro a;(try simp only[bnl] at a);(try revert a;intro _)))|with_reducible refine ct ?_ ?_|with_reducible refine am ?_|fail)
 exact⟨_,_,[],rfl,rfl⟩
theorem dE(s:List UInt8):∃r,bB s r:=by
 apply anv 1;unfold agM agL
 repeat' (first|(with_reducible refine ab ?_ ?_<;>(intro a;(try simp only[bnl] at a);(try revert a;intro _)))|with_reducible refine ct ?_ ?_|with_reducible refine am ?_|fail)
 exact⟨_,_,_,_,_,_,rfl,rfl,rfl⟩
theorem xc(d:Bool)(names:List (List UInt8))(b:Bool)(l:List aa):∃r,fA d names b l r:=by
 apply alF 1;unfold xv aeM
 repeat' (first|(with_reducible refine ab ?_ ?_<;>(intro a;(try simp only[bnl] at a);(try revert a;intro _)))|with_reducible refine ct ?_ ?_|with_reducible refine am ?_|fail)
 exact⟨_,_,_,_,_,_,_,_,rfl,rfl,rfl⟩
theorem alG:∀(names:List (List UInt8))(l:List aa)(name:List UInt8)(i:Nat),(∀j,j<i->names.getD j []≠name)->cb names l name=cb (names.drop i) (l.drop i) name
 |names,l,name,0,_=>rfl
 | [],l,name,i+1,h=>by simp[cb]
 |x::a,[],name,i+1,h=>by
  have:∀a:List (List UInt8),cb a [] name=none:=λa=>by cases a<;>rfl
  simp[cb,this]
 |x::a,c::l,name,i+1,h=>by have b:=h 0 (by omega);simp only[Cw] at b;simp only[cb,if_neg b,List.drop_succ_cons];exact alG a l name i λj d=>by simpa using h (j+1) (by omega)
theorem at6{names:List (List UInt8)}{l:List aa}{name:List UInt8}{i:Nat}(b:i<names.length)(d:i<l.length)(h:∀j,j<i->names.getD j []≠name)(a:names.getD i []=name):
  cb names l name=some (l.getD i (ao .jnode)):=by
 rw[alG names l name i h,AK b,AK d];simp only[cb];rw[Al,Ab b,Bk] at a;rw[if_pos a,Al,Ab d,Bk]
theorem asY{names:List (List UInt8)}{l:List aa}{name:List UInt8}{i:Nat}(h:∀j,j<i->names.getD j []≠name)(a:names.length<=i∨l.length<=i):cb names l name=none:=by
 rw[alG names l name i h];rcases a with a|a;·rw[BW a];rfl
 ·rw[List.drop_of_length_le (l:=l) a];cases names.drop i<;>rfl
theorem aqv(k n:Int)(s:List UInt8)(l:List aa)(names:List (List UInt8))(name:List UInt8)(h:names.length<=l.length)(q:names.length<=1000):∃r,uh k n s l names name r:=by
 apply apn 2000;unfold ahN sm
 refine ba (λx=>x.1=name∧x.2.2.2.2.1=l∧x.2.2.2.2.2.1=names∧0<=x.2.2.2.2.2.2.1∧x.2.2.2.2.2.2.1<=(names.length:Int)∧∀j:Nat,(j:Int)<x.2.2.2.2.2.2.1->names.getD j []≠name)
  (λx=>((names.length:Int)-x.2.2.2.2.2.2.1).toNat) ?_ _ _ ⟨rfl,rfl,rfl,by simp,by simp,λj d=>by simp at d;omega⟩ (by simp;omega)
 rintro m ⟨t,A,y,B,v,p,i,F,C,D,E,G⟩ ⟨rfl,rfl,rfl,u,w,f⟩ o;simp only at u w f o h q ⊢;unfold uX;dsimp only
 repeat' (first|(with_reducible refine ab ?_ ?_<;>(intro b;(try simp only[bnl] at b);(try revert b;intro _)))|with_reducible refine ct ?_ ?_|with_reducible refine am ?_|fail)
 ·simp only[bnl];omega
 ·simp only[bnl];omega
 ·rename_i b a;have e:=at6 (names:=p) (l:=v) (name:=t) (i:=i.toNat) (by omega) (by omega) (λj d=>f j (by omega)) a;refine⟨_,_,_,_,_,_,_,rfl,rfl,?_⟩;simp only[sB];rw[e];rfl
 ·rename_i b a;have g:=ax (i+1) (by omega);refine o _ ⟨rfl,rfl,rfl,?_,?_,?_⟩ ?_;·simp only[g];omega
  ·simp only[g];omega
  ·simp only[g];intro j d;by_cases e:(j:Int)=i
   ·have:i.toNat=j:=by omega
    rw[this] at a;exact a
   ·exact f j (by omega)
  ·simp only[g];omega
 ·rename_i b;refine⟨_,_,_,_,_,_,_,rfl,rfl,?_⟩;simp only[sB];rw[asY (i:=i.toNat) (λj d=>f j (by omega)) (.inl (by omega))];rfl
theorem arL{l:List (List UInt8)}(h:dg l)(i:Nat):(l.getD i (ao .str)).length<=100:=by
 rw[Al];cases a:l[i]? with
 |none=>exact BB _
 |some x=>exact h x (Am a)
theorem dY(k n:Int)(s:List UInt8)(h:s.length<=100):pw (.mk k n s [] []):=.mk _ _ _ _ _ h (by simp) (by simp) (by simp) (by simp) (by simp) trivial
theorem acR(k n:Int)(l:List aa)(h:l.length<=7)(a:∀c∈l,pw c)(b:k≠6):pw (.mk k n [] l []):=.mk _ _ _ _ _ (by simp) h (by simp) (by simp) (λh=>absurd h b) a trivial
theorem aee(k n:Int)(l:List aa)(names:List (List UInt8))(b:names.length=l.length)(h:l.length<=7)(d:dg names)(a:∀c∈l,pw c)
  (e:qd qJ names l):pw (.mk k n [] l names):=.mk _ _ _ _ _ (by simp) h (by omega) d (λ_=>b) a e
theorem auk(x:UInt8)(b:x≠46)(c:Int)(d:97<=c∧c<=122):adf ([x]++[AF (Ah (Ae .u8 (Ae .i64 c)))]):=by
 obtain⟨n,rfl⟩:∃n:Nat,c=(n:Int):=⟨c.toNat,by omega⟩
 rw[ax _ (by omega),o6 .u8 rfl _ (by show n<2^8;omega)];refine⟨by simp,λh=>?_⟩;simp only[AI,AW,AB,A4,or_false,At] at h;rcases h with h|h;·exact b h.symm
 ·have:=congrArg AJ h;rw[DM] at this;have a:(46:UInt8).toNat=46:=rfl;omega
theorem iD{x:List UInt8}{c:aa}(h:x≠[115,105,122,101]∧x≠[110,97,109,101]∧x≠wE∧x≠[102,105,101,108,100,115]∧x≠[115,121,109,98,111,108,115]:=by decide):qJ x c:=
 ⟨λe=>absurd e h.1,λe=>absurd e h.2.1,λe=>absurd e h.2.2.1,λe=>absurd e h.2.2.2.1,λe=>absurd e h.2.2.2.2⟩
theorem tN{c:aa}(h:adf c.s):qJ [110,97,109,101] c:=⟨λe=>absurd e (by decide),λ_=>h,λe=>absurd e (by decide),λe=>absurd e (by decide),λe=>absurd e (by decide)⟩
theorem asZ{c:aa}(h:c.n<=att):qJ [115,105,122,101] c:=⟨λ_=>h,λe=>absurd e (by decide),λe=>absurd e (by decide),λe=>absurd e (by decide),λe=>absurd e (by decide)⟩
theorem arM{c:aa}(h:c.s=[115]):qJ wE c:=⟨λe=>absurd e (by decide),λe=>absurd e (by decide),λ_=>h,λe=>absurd e (by decide),λe=>absurd e (by decide)⟩
theorem ap2{c:aa}(h:c.l.length<=4):qJ [102,105,101,108,100,115] c:=⟨λe=>absurd e (by decide),λe=>absurd e (by decide),λe=>absurd e (by decide),λ_=>h,λe=>absurd e (by decide)⟩
theorem amu{c:aa}(h:∀y∈c.l,y.s.length<=10):qJ [115,121,109,98,111,108,115] c:=⟨λe=>absurd e (by decide),λe=>absurd e (by decide),λe=>absurd e (by decide),λe=>absurd e (by decide),λ_=>h⟩
theorem ap3{s:List UInt8}(h:adf s){k n:Int}{l:List aa}{a:List (List UInt8)}{c:aa}:qd qJ [[110,97,109,101],[116,121,112,101]] [.mk k n s l a,c]:=⟨tN h,iD,trivial⟩
theorem apr{s:List UInt8}(h:adf s){k n:Int}{l:List aa}{a:List (List UInt8)}{c d:aa}:qd qJ [[110,97,109,101],[116,121,112,101],[100,101,102,97,117,108,116]] [.mk k n s l a,c,d]:=⟨tN h,iD,iD,trivial⟩
theorem iA:∀l m:List aa,dJL (l++m)=max (dJL l) (dJL m)
 | [],m=>by simp[dJL]
 |c::l,m=>by simp only[AI,dJL,iA l m];omega
theorem as0(l:List aa)(n:Nat):dJL (Bd 0 (Br n l))<=dJL l:=by rw[Cc];have:=iA (l.take n) (l.drop n);rw[List.take_append_drop] at this;omega
theorem ag3{l:List (List UInt8)}(h:dg l)(i:Nat):(l.getD i (ao .str)).length<=100:=arL h i
theorem ap4(a:List UInt8)(n o t:Int)(e:List UInt8)(p:List aa)(k:List (List UInt8))(hp:pa a n)(F:pw (.mk o t e p k)):∃r,kn a n o t e p k r:=by
 obtain⟨J,N,E,O,M,L⟩:=F.kids;apply abx 1;unfold tM gv;dsimp only;have one:∀(n' A y:Int)(x:List UInt8)(v:List aa)(B:List (List UInt8)),pa a n'->Tot (fQ 1 (o,t,e,p,k,a,n',A,y,x,v,B)) (λz=>∃(j g:Int)(q:List UInt8)(i:List aa)(f:List (List UInt8))(h:List UInt8)(u:Int)(rest:List ai),z.1.dimR=.agg [.int .i64 j,.int .i64 g,.str q,.sl .jnode (.may false) i,.sl .str (.may false) f]∧z.2=some [.sl .u8 (.may false) h,.int .i64 u]::rest∧eX a n o t e p k (j,g,q,i,f,h,u)):=by
  intro n' A y x v B hp';unfold fQ;dsimp only
  repeat' (first|(with_reducible refine ab ?_ ?_<;>(intro d;(try simp only[bnl] at d);(try revert d;intro _)))|with_reducible refine ct ?_ ?_|with_reducible refine am ?_|(refine ah (aqv _ _ _ _ _ _ E (by omega)) ?_;rintro r ⟨-,D⟩;clear D)|(refine ah (dE _) ?_;rintro _ ⟨-,rfl⟩;dsimp only)|fail)
  all_goals exact⟨_,_,_,_,_,_,_,_,rfl,rfl,dY _ _ _ (by simp),rfl,rfl,hp'⟩
 have w:∀(n' A y:Int)(x:List UInt8)(v:List aa)(B:List (List UInt8)),pa a n'->Tot (jP 1 (o,t,e,p,k,a,n',A,y,x,v,B)) (λz=>∃(j g:Int)(q:List UInt8)(i:List aa)(f:List (List UInt8))(h:List UInt8)(u:Int)(rest:List ai),z.1.dimR=.agg [.int .i64 j,.int .i64 g,.str q,.sl .jnode (.may false) i,.sl .str (.may false) f]∧z.2=some [.sl .u8 (.may false) h,.int .i64 u]::rest∧eX a n o t e p k (j,g,q,i,f,h,u)):=by
  intro n' A y x v B hp';unfold jP;dsimp only
  repeat' (first|(with_reducible refine ab ?_ ?_<;>(intro d;(try simp only[bnl] at d);(try revert d;intro _)))|with_reducible refine ct ?_ ?_|with_reducible refine am ?_|(refine ah (aqv _ _ _ _ _ _ E (by omega)) ?_;rintro r ⟨-,D⟩;clear D)|(refine ah (dE _) ?_;rintro _ ⟨-,rfl⟩;dsimp only)|fail)
  all_goals exact⟨_,_,_,_,_,_,_,_,rfl,rfl,dY _ _ _ (by simp),rfl,rfl,hp'⟩
 have zero:∀(b:Bool),Tot (jO 1 (o,t,e,p,k,e,b,a,n,0,0,[],[],[])) (λz=>∃(j g:Int)(q:List UInt8)(i:List aa)(f:List (List UInt8))(h:List UInt8)(u:Int)(rest:List ai),z.1.dimR=.agg [.int .i64 j,.int .i64 g,.str q,.sl .jnode (.may false) i,.sl .str (.may false) f]∧z.2=some [.sl .u8 (.may false) h,.int .i64 u]::rest∧eX a n o t e p k (j,g,q,i,f,h,u)):=by
  intro b;unfold jO jc;dsimp only;have I:dg ([([]:List UInt8),([100]:List UInt8),([195,164]:List UInt8)]:List (List UInt8)):=by simp[dg]
  repeat' (first|(with_reducible refine ab ?_ ?_<;>(intro d;(try simp only[bnl] at d);(try revert d;intro _)))|with_reducible refine ct ?_ ?_|with_reducible refine am ?_|(refine ah (re _ _ _ hp (by omega) (by omega)) ?_;rintro⟨m,a',n'⟩ ⟨-,H,G,rfl,C⟩;dsimp only at H G C ⊢)|(refine ah (dE _) ?_;rintro _ ⟨-,rfl⟩;dsimp only)|fail)
  all_goals first|exact⟨_,_,_,_,_,_,_,_,rfl,rfl,dY _ _ _ (BB _),rfl,rfl,hp⟩|exact⟨_,_,_,_,_,_,_,_,rfl,rfl,dY _ _ _ (BB _),rfl,rfl,C⟩|exact⟨_,_,_,_,_,_,_,_,rfl,rfl,dY _ _ _ (ag3 I _),rfl,rfl,C⟩|exact one _ _ _ _ _ _ hp|exact w _ _ _ _ _ _ hp|(first|(simp only[bnl,lnl];done)|(simp only[bnl,lnl];omega))|skip
 repeat' (first|(with_reducible refine ab ?_ ?_<;>(intro d;(try simp only[bnl] at d);(try revert d;intro _)))|with_reducible refine ct ?_ ?_|with_reducible refine am ?_|fail)
 all_goals first|exact zero _|exact w _ _ _ _ _ _ hp
def ake(deep:Int):Prop:=∀(a:List UInt8)(n:Int)(b:List (List UInt8)),pa a n->dg b->b.length+qf (5-deep.toNat)<=100000->∃r,du a n b deep r
theorem aby{deep:Int}(h:0<=deep∧deep<=4):qf (5-deep.toNat)=1+4*qf (5-(deep+1).toNat):=by
 have:5-deep.toNat=(5-(deep+1).toNat)+1:=by omega
 rw[this];rfl
theorem ag4{deep:Int}(h:0<=deep∧deep<=3):dT (5-deep.toNat)=dT (5-(deep+1).toNat)+3∧1<=dT (5-(deep+1).toNat):=by simp only[dT];omega
theorem avC{deep:Int}(h:0<=deep∧deep<=4):1<=dT (5-deep.toNat):=by simp only[dT];omega
theorem arN(deep:Int)(hd:0<=deep∧deep<=3)(x:ake (deep+1))(a:List UInt8)(n:Int)(o:List (List UInt8))(hp:pa a n)(k:dg o)(N:o.length+qf (5-deep.toNat)<=100000):∃r,lU a n o deep r:=by
 have P:=aby (deep:=deep) (by omega);have ⟨O,C⟩:=ag4 hd;have y:IntKind.i64.wrap (deep+1)=deep+1:=ax (deep+1) (by omega);apply ad8 1;unfold vw vv;dsimp only;have M:dg ([([105,110,116]:List UInt8),([115,116,114,105,110,103]:List UInt8)]:List (List UInt8)):=by simp[dg]
 refine ah (dE _) ?_;rintro _ ⟨-,rfl⟩;refine ah (re _ _ _ hp (by omega) (by omega)) ?_;rintro⟨m,a',n'⟩ ⟨-,G,F,rfl,w⟩;dsimp only at G F w ⊢;refine ab (λ_=>?_) (λ_=>?_)
 ·refine ah (re _ _ _ w (by omega) (by omega)) ?_;rintro⟨D,a',H⟩ ⟨-,t,q,rfl,j⟩;dsimp only at t q j ⊢;refine vck ?_;refine ah (dE _) ?_;rintro _ ⟨-,rfl⟩;dsimp only;refine vck ?_;rw[y];refine ah (x _ _ _ j k (by omega)) ?_;rintro⟨J,B,I,E,A,p,L,u⟩ ⟨-,⟨i,e⟩,rfl,g,f,v⟩;dsimp only at i e g f v ⊢;rw[cT] at e;have d:∀c∈([aa.mk 4 0 [110,117,108,108] [] []]++[aa.mk 4 0 (An ([([105,110,116]:List UInt8),([115,116,114,105,110,103]:List UInt8)]:List (List UInt8)) (Ah D) (ao .str)) [] []]),pw c:=by
   intro c b;simp only[AI,AW,AB,A4,or_false] at b;rcases b with rfl|rfl;·exact dY _ _ _ (by simp)
   ·exact dY _ _ _ (ag3 M _)
  repeat' (first|(with_reducible refine ab ?_ ?_<;>(intro h;(try simp only[bnl] at h);(try revert h;intro _)))|with_reducible refine ct ?_ ?_|with_reducible refine am ?_|fail)
  ·first|(simp only[bnl,lnl];done)|(simp only[bnl,lnl];omega)
  ·refine⟨_,_,_,_,_,_,_,_,_,rfl,rfl,⟨acR _ _ _ (by simp) ?_ (by simp),by simp only[cT,iA,dJL];omega⟩,rfl,g,f,by simp only;omega⟩;intro c b;rcases Az.1 b with b|b;·exact d c b
   ·simp only[Au] at b;subst b;exact i
  ·exact⟨_,_,_,_,_,_,_,_,_,rfl,rfl,⟨acR _ _ _ (by simp) d (by simp),by simp only[cT,iA,dJL];omega⟩,rfl,g,f,by simp only;omega⟩
 ·rw[y];refine ah (x _ _ _ w k (by omega)) ?_;rintro⟨J,B,I,E,A,p,L,u⟩ ⟨-,⟨i,e⟩,rfl,g,f,v⟩;dsimp only at i e g f v ⊢;rw[cT] at e
  repeat' (first|(with_reducible refine ab ?_ ?_<;>(intro h;(try simp only[bnl] at h);(try revert h;intro _)))|with_reducible refine ct ?_ ?_|with_reducible refine am ?_|fail)
  ·first|(simp only[bnl,lnl];done)|(simp only[bnl,lnl];omega)
  ·refine⟨_,_,_,_,_,_,_,_,_,rfl,rfl,⟨acR _ _ _ (by simp) ?_ (by simp),by simp only[cT,iA,dJL];omega⟩,rfl,g,f,by simp only;omega⟩;intro c b;simp only[AI,AW,AB,A4,or_false] at b;rcases b with rfl|rfl;·exact dY _ _ _ (by simp)
   ·exact i
  ·refine⟨_,_,_,_,_,_,_,_,_,rfl,rfl,⟨acR _ _ _ (by simp) ?_ (by simp),by simp only[cT,iA,dJL];omega⟩,rfl,g,f,by simp only;omega⟩;intro c b;simp only[Au] at b;subst b;exact dY _ _ _ (by simp)
theorem ahO(deep:Int)(hd:0<=deep∧deep<=3)(hT:ake (deep+1))(a:List UInt8)(n:Int)(y:List (List UInt8))(name:List UInt8)(hp:pa a n)(H:dg y)(v:name.length<=100∧adf name)(hl:y.length+qf (5-deep.toNat)<=100001):∃r,jf a n y name deep r:=by
 have hN:=aby (deep:=deep) (by omega);have ⟨hM,b5⟩:=ag4 hd;have ed:IntKind.i64.wrap (deep+1)=deep+1:=ax (deep+1) (by omega);apply acN 100;unfold uV iy;refine ah (re _ _ _ hp (by omega) (by omega)) ?_;rintro⟨m,a',n'⟩ ⟨-,m1,m2,rfl,Z⟩;dsimp only at m1 m2 Z ⊢
 refine ba (λx=>match x with|(A,f,i,o,P,Y,e,J,C,I,D,E,k0,k1,Q,l,k4)=>A=name∧f=deep∧0<=i∧i<=m∧o=m∧P=a'∧pa a' Y∧dg e∧(e.length:Int)<=y.length+i*qf (5-(deep+1).toNat)∧k0=5∧k1=0∧Q=[]∧k4=[]∧(l.length:Int)=i∧(∀c∈l,pw c)∧dJL l<=dT (5-(deep+1).toNat)+1) (λx=>(m-x.2.2.1).toNat) ?_ _ _
  ⟨rfl,rfl,by simp,m1,rfl,rfl,Z,H,by simp,rfl,rfl,rfl,rfl,rfl,by simp,by simp[dJL]⟩ (by simp only;omega)
 rintro k ⟨A,f,i,o,P,Y,e,J,C,I,D,E,k0,k1,Q,l,k4⟩ ⟨rfl,rfl,i1,i2,rfl,rfl,i3,N,i5,rfl,rfl,rfl,rfl,i6,i7,i8⟩ O;dsimp only at O;have ei:i<o->IntKind.i64.wrap (i+1)=i+1:=λh=>ax (i+1) (by omega)
 generalize hq:qf (5-(f+1).toNat)=q at*
 generalize L:dT (5-(f+1).toNat)=q3 at*
 generalize br:dT (5-f.toNat)=q4 at*
 have b2:i*(q:Int)<=4*q:=Du (by omega) (by omega);have S:dg ([]:List (List UInt8)):=by simp[dg]
 unfold kb;dsimp only;refine ab (λh=>?_) (λh=>?_)
 ·have h:=of_decide_eq_true h;rw[ed];have bY:(i+1)*(q:Int)<=4*q:=Du (by omega) (by omega);have b6:(i+1)*(q:Int)=i*q+q:=by rw[Int.add_mul,Int.one_mul]
  refine ah (hT _ _ _ i3 N (by rw[hq];omega)) ?_;rintro⟨t0,t1,t2,t3,t4,b0,n3,u⟩ ⟨-,⟨w,g⟩,rfl,h3,W,h5⟩;dsimp only at w g h3 W h5 ⊢;rw[cT] at g;rw[hq] at h5;rw[L] at g;refine vck ?_;refine ah (dE _) ?_;rintro _ ⟨-,rfl⟩;refine ah (xc _ _ _ _) ?_;rintro _ ⟨-,rfl⟩;dsimp only;refine ah (re _ _ _ h3 (by omega) (by omega)) ?_;rintro⟨mm,M,n4⟩ ⟨-,G,F,rfl,j⟩;dsimp only at G F j ⊢
  have next:∀(p:Int)(c:aa),pa M p->pw c->dJ c<=q3+1->Tot (k (A,f,IntKind.i64.wrap (i+1),o,M,p,u,J,C,I,D,E,5,0,[],l++[c],[])) _:=λp c B b b3=>O (A,f,IntKind.i64.wrap (i+1),o,M,p,u,J,C,I,D,E,5,0,[],l++[c],[])
   (by
    simp only[ei h,Aj,Af,Ak];refine⟨trivial,trivial,by omega,by omega,trivial,trivial,B,W,by omega,trivial,trivial,trivial,trivial,by omega,?_,by rw[iA];simp only[dJL];omega⟩;intro d hd;rcases Az.1 hd with hd|hd;·exact i7 d hd
    ·simp only[Au] at hd;subst hd;exact b) (by simp only[ei h];omega)
  have t:=auk 102 (by decide) (97+i) (by omega);have R:pw (.mk 4 0 ([102]++[AF (Ah (Ae .u8 (Ae .i64 (97+i))))]) [] []):=dY _ _ _ (by simp);refine ab (λ_=>?_) (λ_=>?_)
  ·refine vck ?_;refine ah (ap4 _ _ _ _ _ _ _ j w) ?_;rintro⟨d0,d1,d2,d3,d4,a4,p⟩ ⟨-,q1,X,rfl,q5⟩;dsimp only at q1 X q5 ⊢;rw[cT] at X;refine vck ?_;refine vck ?_;refine next _ _ q5 (aee _ _ _ _ (by simp) (by simp) (by simp[dg]) ?_ (apr t)) (by simp only[cT,iA,dJL];omega)
   intro c b;simp only[AI,AW,AB,A4,or_false] at b;rcases b with rfl|rfl|rfl;·exact R
   ·exact w
   ·exact q1
  ·refine vck ?_;refine next _ _ j (aee _ _ _ _ (by simp) (by simp) (by simp[dg]) ?_ (ap3 t)) (by simp only[cT,iA,dJL];omega)
   intro c b;simp only[AB,A4,or_false] at b;rcases b with rfl|rfl;·exact R
   ·exact w
 ·refine ah (dE _) ?_;rintro _ ⟨-,rfl⟩;refine ah (dE _) ?_;rintro _ ⟨-,rfl⟩;refine ah (dE _) ?_;rintro _ ⟨-,rfl⟩;refine ah (xc _ _ _ _) ?_;rintro _ ⟨-,rfl⟩;dsimp only;refine am ⟨_,_,_,_,_,_,_,_,_,rfl,rfl,⟨⟨aee _ _ _ _ (by simp) (by simp) (by simp[dg]) ?_ ⟨iD,tN v.2,arM rfl,ap2 (by show l.length<=4;omega),trivial⟩,by simp only[cT,iA,dJL];omega⟩,rfl,i3,N,by simp only;omega⟩,by simp only;omega,_,_,rfl⟩;intro c b;simp only[AB,A4,or_false] at b;rcases b with rfl|rfl|rfl|rfl;·exact dY _ _ _ (by simp)
  ·exact dY _ _ _ v.1
  ·exact dY _ _ _ (by simp)
  ·exact acR _ _ _ (by omega) i7 (by decide)
theorem akf(deep:Int)(hd:0<=deep∧deep<=4)(X:deep<=3->ake (deep+1)):ake deep:=by
 intro a n i hp t hl;have hN:=aby (deep:=deep) (by omega);have hM:=avC hd;have ed:IntKind.i64.wrap (deep+1)=deep+1:=ax (deep+1) (by omega);apply aff 1;unfold wY jT;dsimp only;have w8:dg ([([105,110,116]:List UInt8),([108,111,110,103]:List UInt8),([115,116,114,105,110,103]:List UInt8),([98,121,116,101,115]:List UInt8),([98,111,111,108,101,97,110]:List UInt8),([110,117,108,108]:List UInt8),([102,108,111,97,116]:List UInt8),([100,111,117,98,108,101]:List UInt8)]:List (List UInt8)):=by simp[dg]
 have bY:∀(k n':Int),deep<=3->pa a n'->Tot (jm 1 (deep,k,a,n',i,0,0,[],[],[])) (λz=>∃(C B:Int)(J:List UInt8)(u:List aa)(H:List (List UInt8))(w:List UInt8)(v:Int)(F:List (List UInt8))(rest:List ai),z.1.dimR=.agg [.int .i64 C,.int .i64 B,.str J,.sl .jnode (.may false) u,.sl .str (.may false) H]∧z.2=some [.sl .u8 (.may false) w,.int .i64 v]::some [.sl .str .own F]::rest∧eP a n i deep (C,B,J,u,H,w,v,F)):=by
  intro k n' f hp';have X:=X f;have ⟨b4,b5⟩:=ag4 ⟨hd.1,f⟩;unfold jm;dsimp only;refine vck ?_;refine vck ?_;have a9:=auk 78 (by decide) (97+(BG (↑(Aa i):Int) 26)) (by have:=CX (26:Int) (Int.natCast_nonneg i.length);have:=DO (i.length:Int) (show (0:Int)<26 by decide);omega);generalize ad:([78]:List UInt8)++[(AF (Ah (Ae .u8 (Ae .i64 (97+(BG (↑(Aa i):Int) 26))))))]=P;have A:P.length<=100:=by subst ad;simp
  have O:adf P:=by subst ad;exact a9
  have q:dg (i++[P]):=by
   intro x M;rcases Az.1 M with M|M;·exact t x M
   ·simp only[Au] at M;subst M;exact A
  have j:(i++[P]).length=i.length+1:=by simp
  refine ab (λ_=>?_) (λ_=>ab (λ_=>?_) (λ_=>?_))
  ·refine ah (dE _) ?_;rintro _ ⟨-,rfl⟩;refine ah (dE _) ?_;rintro _ ⟨-,rfl⟩;refine ah (re _ _ _ hp' (by omega) (by omega)) ?_;rintro⟨L,a3,n4⟩ ⟨-,E,D,rfl,o⟩;dsimp only at E D o ⊢;refine ah (xc _ _ _ _) ?_;rintro _ ⟨-,rfl⟩;dsimp only;refine am ⟨_,_,_,_,_,_,_,_,_,rfl,rfl,⟨aee _ _ _ _ (by simp) (by simp) (by simp[dg]) ?_ ⟨iD,tN O,asZ (by show _<=(255:Int);simp only[aa.n];omega),trivial⟩,by simp only[cT,iA,dJL];omega⟩,rfl,o,q,by simp only[j];omega⟩;intro c g;simp only[AB,A4,or_false] at g;rcases g with rfl|rfl|rfl;·exact dY _ _ _ (by simp)
   ·exact dY _ _ _ A
   ·exact dY _ _ _ (by simp)
  ·refine ah (dE _) ?_;rintro _ ⟨-,rfl⟩;refine ah (dE _) ?_;rintro _ ⟨-,rfl⟩;refine ah (dE _) ?_;rintro _ ⟨-,rfl⟩;refine ah (re _ _ _ hp' (by omega) (by omega)) ?_;rintro⟨L,a3,n4⟩ ⟨-,E,D,rfl,o⟩;dsimp only at E D o ⊢;have em:IntKind.i64.wrap (1+L)=1+L:=ax (1+L) (by omega);rw[em];refine vck ?_;refine ah (dE _) ?_;rintro _ ⟨-,rfl⟩;refine ah (dE _) ?_;rintro _ ⟨-,rfl⟩;refine ah (xc _ _ _ _) ?_;rintro _ ⟨-,rfl⟩;dsimp only;refine ah (re _ _ _ o (by omega) (by omega)) ?_;rintro⟨m5,a5,n5⟩ ⟨-,b2,bs,rfl,S⟩;dsimp only at b2 bs S ⊢;have a0:∀c∈(Bd 0 (Br (Ah (1+L)) ([aa.mk 4 0 [88] [] [],aa.mk 4 0 [89] [] [],aa.mk 4 0 [90] [] []]:List aa))),pw c:=by
    intro c g;rw[Cc] at g;have g:=Bn g;simp only[AB,A4,or_false] at g;rcases g with rfl|rfl|rfl<;>exact dY _ _ _ (by simp)
   have b0:(Bd 0 (Br (Ah (1+L)) ([aa.mk 4 0 [88] [] [],aa.mk 4 0 [89] [] [],aa.mk 4 0 [90] [] []]:List aa))).length<=7:=by simp only[BH,BI,Af,Ak];omega
   have bl:=acR 5 0 _ b0 a0 (by decide);have R:∀y∈(aa.mk 5 0 [] (Bd 0 (Br (Ah (1+L)) ([aa.mk 4 0 [88] [] [],aa.mk 4 0 [89] [] [],aa.mk 4 0 [90] [] []]:List aa))) []).l,y.s.length<=10:=by intro y Z;have Z:y∈Bd 0 (Br (Ah (1+L)) ([aa.mk 4 0 [88] [] [],aa.mk 4 0 [89] [] [],aa.mk 4 0 [90] [] []]:List aa)):=Z;rw[Cc] at Z;have Z:=Bn Z;simp only[AB,A4,or_false] at Z;rcases Z with rfl|rfl|rfl<;>decide
   have W:=as0 ([aa.mk 4 0 [88] [] [],aa.mk 4 0 [89] [] [],aa.mk 4 0 [90] [] []]:List aa) (Ah (1+L));simp only[dJL,cT] at W;refine ab (λ_=>?_) (λ_=>?_)
   ·refine vck ?_;refine ah (dE _) ?_;rintro _ ⟨-,rfl⟩;dsimp only;refine vck ?_;refine am ⟨_,_,_,_,_,_,_,_,_,rfl,rfl,⟨aee _ _ _ _ (by simp) (by simp) (by simp[dg]) ?_ ⟨iD,tN O,amu R,iD,trivial⟩,by simp only[cT,iA,dJL];have:=W;omega⟩,rfl,S,q,by simp only[j];omega⟩;intro c g;simp only[AI,AW,AB,A4,or_false] at g;rcases g with rfl|rfl|rfl|rfl;·exact dY _ _ _ (by simp)
    ·exact dY _ _ _ A
    ·exact bl
    ·exact dY _ _ _ (by simp)
   ·refine am ⟨_,_,_,_,_,_,_,_,_,rfl,rfl,⟨aee _ _ _ _ (by simp) (by simp) (by simp[dg]) ?_ ⟨iD,tN O,amu R,trivial⟩,by simp only[cT,iA,dJL];have:=W;omega⟩,rfl,S,q,by simp only[j];omega⟩;intro c g;simp only[AB,A4,or_false] at g;rcases g with rfl|rfl|rfl;·exact dY _ _ _ (by simp)
    ·exact dY _ _ _ A
    ·exact bl
  ·refine ah (ahO deep (by omega) X _ _ _ _ hp' q ⟨A,O⟩ ?_) ?_;·rw[j];omega
   rintro⟨t0,t1,t2,t3,t4,ar,n3,an⟩ ⟨-,⟨⟨e,G⟩,rfl,h3,Y,h5⟩,h6, -⟩;dsimp only at e G h3 Y h5 h6 ⊢;rw[j] at h6;exact am ⟨_,_,_,_,_,_,_,_,_,rfl,rfl,⟨e,G⟩,rfl,h3,Y,by simp only;omega⟩
 have one:∀(k n':Int)(b:Bool),deep<=3->pa a n'->(b=true->0<i.length)->Tot (jn 1 (deep,k,b,a,n',i,0,0,[],[],[])) (λz=>∃(C B:Int)(J:List UInt8)(u:List aa)(H:List (List UInt8))(w:List UInt8)(v:Int)(F:List (List UInt8))(rest:List ai),z.1.dimR=.agg [.int .i64 C,.int .i64 B,.str J,.sl .jnode (.may false) u,.sl .str (.may false) H]∧z.2=some [.sl .u8 (.may false) w,.int .i64 v]::some [.sl .str .own F]::rest∧eP a n i deep (C,B,J,u,H,w,v,F)):=by intro k n' b f hp' hb;unfold jn kE;dsimp only;refine ab (λe=>?_) (λe=>bY _ _ f hp');have hb:=hb e;have N:∃r,bk a n' (i.length:Int) r:=apq _ _ _ hp' (by omega);refine ah N ?_;rintro⟨L,a3,n4⟩ ⟨-,E,D,rfl,o⟩;dsimp only at E D o ⊢;refine vck ?_;refine ah (dE _) ?_;rintro _ ⟨-,rfl⟩;exact am ⟨_,_,_,_,_,_,_,_,_,rfl,rfl,⟨dY _ _ _ (ag3 t _),by simp only[cT,iA,dJL];omega⟩,rfl,o,t,by simp only;omega⟩
 have zero:∀(k n':Int),0<=k->(8<=k->deep<=3)->pa a n'->Tot (lD 1 (deep,k,a,n',i,0,0,[],[],[])) (λz=>∃(C B:Int)(J:List UInt8)(u:List aa)(H:List (List UInt8))(w:List UInt8)(v:Int)(F:List (List UInt8))(rest:List ai),z.1.dimR=.agg [.int .i64 C,.int .i64 B,.str J,.sl .jnode (.may false) u,.sl .str (.may false) H]∧z.2=some [.sl .u8 (.may false) w,.int .i64 v]::some [.sl .str .own F]::rest∧eP a n i deep (C,B,J,u,H,w,v,F)):=by
  intro k n' hk bx hp';unfold lD kF;dsimp only;refine ab (λe=>?_) (λe=>?_);·have e:=of_decide_eq_true e;refine vck ?_;refine ah (dE _) ?_;rintro _ ⟨-,rfl⟩;exact am ⟨_,_,_,_,_,_,_,_,_,rfl,rfl,⟨dY _ _ _ (ag3 w8 _),by simp only[cT,iA,dJL];omega⟩,rfl,hp',t,by simp only;omega⟩
  have f:=bx (by have:=of_decide_eq_false e;omega);have X:=X f;have ⟨b4,b5⟩:=ag4 ⟨hd.1,f⟩;rw[ed]
  have tab:∀(I w2:List UInt8),I.length<=100->w2.length<=100->∀(P:List UInt8),P.length<=100->(∀c d,qd qJ [P,w2] [c,d])->Tot (af (bB I) (λr3=>af (du a n' i (deep+1)) (λQ=>
     af (fA true ([P,w2]:List (List UInt8)) true ([⟨r3.1,r3.2.1,r3.2.2.1,r3.2.2.2.1,r3.2.2.2.2⟩,⟨Q.1,Q.2.1,Q.2.2.1,Q.2.2.2.1,Q.2.2.2.2.1⟩]:List aa)) (λp=>
      some (V.agg [.int .i64 p.1,.int .i64 p.2.1,.str p.2.2.1,.sl .jnode (.may p.2.2.2.1) p.2.2.2.2.1,.sl .str (.may p.2.2.2.2.2.1) p.2.2.2.2.2.2],([some [.sl .u8 (.may false) Q.2.2.2.2.2.1,.int .i64 Q.2.2.2.2.2.2.1],some [.sl .str .own Q.2.2.2.2.2.2.2],some [.int .i64 p.1,.int .i64 p.2.1,.str p.2.2.1,.sl .jnode (.may p.2.2.2.1) p.2.2.2.2.1,.sl .str (.may p.2.2.2.2.2.1) p.2.2.2.2.2.2]]:List ai)))))) (λz=>∃(C B:Int)(J:List UInt8)(u:List aa)(H:List (List UInt8))(w:List UInt8)(v:Int)(F:List (List UInt8))(rest:List ai),z.1.dimR=.agg [.int .i64 C,.int .i64 B,.str J,.sl .jnode (.may false) u,.sl .str (.may false) H]∧z.2=some [.sl .u8 (.may false) w,.int .i64 v]::some [.sl .str .own F]::rest∧eP a n i deep (C,B,J,u,H,w,v,F)):=by
   intro I w2 hw c2 P ad b1;refine ah (dE _) ?_;rintro _ ⟨-,rfl⟩;refine ah (X _ _ _ hp' t (by omega)) ?_;rintro⟨t0,t1,t2,t3,t4,ar,n3,an⟩ ⟨-,⟨e,G⟩,rfl,h3,Y,h5⟩;dsimp only at e G h3 Y h5 ⊢;rw[cT] at G;refine ah (xc _ _ _ _) ?_;rintro _ ⟨-,rfl⟩;dsimp only;refine am ⟨_,_,_,_,_,_,_,_,_,rfl,rfl,⟨aee _ _ _ _ (by simp) (by simp) ?_ ?_ (b1 _ _),by simp only[cT,iA,dJL];omega⟩,rfl,h3,Y,by simp only;omega⟩;·intro x M;simp only[AB,A4,or_false] at M;rcases M with rfl|rfl<;>assumption
   ·intro c g;simp only[AB,A4,or_false] at g;rcases g with rfl|rfl;·exact dY _ _ _ hw
    ·exact e
  refine ab (λ_=>?_) (λ_=>ab (λ_=>?_) (λ_=>ab (λ_=>?_) (λ_=>ab (λ_=>one _ _ _ f hp' λhb=>?_) (λ_=>one _ _ _ f hp' λhb=>by cases hb))));·exact tab _ _ (by simp) (by simp) _ (by simp) λ_ _=>⟨iD,iD,trivial⟩
  ·exact tab _ _ (by simp) (by simp) _ (by simp) λ_ _=>⟨iD,iD,trivial⟩
  ·refine ah (arN deep (by omega) X _ _ _ hp' t hl) ?_;rintro⟨t0,t1,t2,t3,t4,ar,n3,an⟩ ⟨-,e,rfl,h3,Y,h5⟩;exact am ⟨_,_,_,_,_,_,_,_,_,rfl,rfl,e,rfl,h3,Y,h5⟩
  ·have:=of_decide_eq_true hb;omega
 refine ah (re _ _ _ hp (by omega) (by omega)) ?_;rintro⟨m,a',n'⟩ ⟨-,m1,m2,rfl,m3⟩;dsimp only at m1 m2 m3 ⊢;have t8:0<=BG m 8∧BG m 8<8:=⟨CX _ m1,DO _ (by omega)⟩
 refine ab (λe=>zero _ _ t8.1 (λh=>by omega) m3) (λe=>?_);have e:=of_decide_eq_false e;refine ah (at4 _ _) ?_;rintro⟨b,a2,n2⟩ ⟨-,rfl,rfl⟩;dsimp only;exact ab (λ_=>zero _ _ t8.1 (λh=>by omega) m3) (λ_=>zero _ _ m1 (λ_=>by omega) m3)
theorem amv:∀(k:Nat)(deep:Int),deep+k=4->0<=deep->ake deep
 |0,deep,h,a=>akf deep (by omega) (λb=>by omega)
 |k+1,deep,h,a=>akf deep (by omega) (λ_=>amv k (deep+1) (by omega) (by omega))
theorem arO(a:List UInt8)(n:Int)(hp:pa a n):∃r,lu a n r:=by apply acQ 1;unfold uZ uY;refine ah (ahO 0 (by omega) (amv 3 1 (by omega) (by omega)) _ _ _ _ hp (by simp[dg]) ⟨by simp,by decide⟩ (by simp[qf])) ?_;rintro⟨o,j,k,q,h,d,p,b⟩ ⟨-,⟨f,rfl,e,i,m⟩,t,g⟩;exact am ⟨_,_,_,_,_,_,_,_,rfl,rfl,⟨f,rfl,e⟩,g⟩
theorem anz(p:List UInt8):∃r,xG p r:=by
 apply aeZ 1;unfold wP wO;dsimp only;refine ah asX ?_;rintro _ ⟨-,rfl⟩;refine ab (λh=>absurd h (by simp)) (λ_=>?_);refine ab (λ_=>am ⟨_,_,rfl,rfl,rfl⟩) (λa=>?_);have a:=of_decide_eq_false a;refine ah (at5 p) ?_;rintro _ ⟨-,rfl⟩;refine ah (arO p 0 ⟨by omega,by omega,by omega⟩) ?_;rintro⟨R,B,Q,E,w,a',n'⟩ ⟨-,⟨⟨o,m⟩, -, -⟩,u⟩;dsimp only at o m u ⊢;generalize S:aa.mk R B Q E w=N at*
 have t:sE N:=o.up (by decide);refine ah (amr N t.any) ?_;rintro I ⟨-,H⟩;obtain rfl:I=lS N:=H;refine ab (λ_=>am ⟨_,_,rfl,rfl,rfl⟩) (λJ=>?_);have C:(lS N).2 =0:=by simpa using J
 obtain⟨j,L,g,A,f,D,d,b⟩:=atZ t u C;have hd:dJ N<=13:=m;generalize lS N=F at*
 have k:F.1≠[]:=λe=>by have:=g.1.1.1;rw[e] at this;simp at this
 have i:sC F.1 (aw j):=⟨λe=>absurd e k,λ_=>⟨j,L,A,rfl⟩⟩
 refine ah (ad4 g) ?_;rintro x ⟨-,q⟩;obtain rfl:x=aw j:=sC.same (Sim.refl F.1) Iff.rfl q i;refine ah (asL f (by omega) d) ?_;rintro W ⟨-,G⟩;obtain rfl:=asM f G;have P:aa.mk j.kind j.n j.s j.l j.names=j:=by cases j;rfl
 dsimp only;rw[P];refine ah (amr j f.node) ?_;rintro v ⟨-,M⟩;obtain rfl:v=(F.1.map gp,0):=(show v=lS j from M).trans b;refine ab (λ_=>?_) (λh=>absurd h (show ¬(((0:Int)==0)=false) by decide));refine ab (λ_=>?_) (λh=>absurd h (show ¬(((0:Int)==0)=false) by decide));refine ab (λh=>absurd h (show ¬((!((0:Int)==0))=true) by decide)) (λ_=>?_);refine ah (ad4 g.strip) ?_;rintro y ⟨-,O⟩;obtain rfl:aw j=y:=sC.same (Sim.strip F.1) (by simp) q O;refine ab (λ_=>?_) (λh=>absurd (of_decide_eq_false h) (by simp));refine ab (λ_=>?_) (λh=>absurd h (by simp));refine ah (asN f d) ?_;rintro _ ⟨-,rfl⟩;exact am ⟨_,_,rfl,rfl,by simp[nX]⟩
theorem alH(p:List UInt8):aF Tryd.prog rA [.sl .u8 (.may false) p] (.bool true):=by obtain⟨r,a,rfl⟩:=anz p;exact a
theorem aps{P:Program}{w:World}:∀{l:List (String×DataW Unit)}{f:List MemPlace},DataW.LaidVars P w l f->∀n d,(n,d)∈l->
  ∃g t cs a p,P.globalNamed n=some g∧(P.globals[g]?).map (·.type)=some t∧w.var? P n=some cs∧DataW.trod (λ_=>()) P w 0 (λ_=>true) false a t cs.toList=some (d,p)∧∀x∈MemPlace.row ⟨g,0,none⟩ cs.size,x∈f
 | [],_,_,_,_,b=>by cases b
 |(n',D)::r,f,h,n,d,b=>by
  obtain⟨g,t,cs,a,p,q,v,y,o,j,m,rfl⟩:=h;rcases AB.1 b with e|e;·cases e;exact⟨g,t,cs,a,p,v,y,o,j,λx i=>AN _ (AN _ i)⟩
  ·obtain⟨g,t,cs,a,p,u,A,C,B,k⟩:=aps m n d e;exact⟨g,t,cs,a,p,u,A,C,B,λx i=>B0 _ (k x i)⟩
theorem arP{P:Program}{w:World}{l:List (String×DataW Unit)}(h:laidMet P l w){name:String}{k:IntKind}{zs:List Int}(B:(name,Go.Lib.tabData k zs)∈l)(H:0<zs.length){g:Nat}{t e:TypeId}{n:Nat}
  (o:P.globalNamed name=some g) (i:(P.globals[g]?).map (·.type)=some t) (u:P.underlying t=some (.array n e)) (y:P.underlying e=some (.int k)) (f:P.cellsOf e=1) (d:P.cellsOf t=n):
  ∃t,w.heap[g]? =some (.cells ((zs.map λz=>Dn k z).toArray) t (0,0)):=by
 obtain⟨I,F,_,x⟩:=h;obtain⟨G,t',cs,j,p,q,A,b,C,v⟩:=aps F _ _ B;obtain rfl:=Ax (o.symm.trans q);obtain rfl:=Ax (i.symm.trans A);have a:=Go.Lib.cells_of_tab u y f d C;have E:cs.size=zs.length:=by have:=congrArg Aa a;simpa using this
 obtain⟨⟨c,D,m⟩,_⟩:=x g 0 (v _ (AG.2 ⟨0,AZ.2 (by omega),rfl⟩));unfold World.var? at b;rw[o] at b;simp only[Option.bind_some,m,Ai] at b;subst b;exact⟨D,by rw[m,<-a]⟩
theorem avD{W:World}(h:laidMet Tryd.prog Rows.canonBackRow.laid W):∃t,W.heap[tR]? =some (.cells nR.toArray t (0,0)):=
 arP h (name:="internal/strconv.uint64pow10") (k:=.u64) (zs:=Go.Lib.pow10Tab) (t:=150) (e:=39) (n:=20) (AL _ (AL _ (Au.2 rfl))) (by decide) (by kernel_rfl) (by kernel_rfl) (by kernel_rfl) (by kernel_rfl) (by kernel_rfl) (by kernel_rfl)
section
open Go.ChangeShapes Go.WideShapes Go.AM
theorem aqw{α:Type}{p:Nat->α->Prop}:∀n,(∀i,i<n->∃x,p i x)->∃l:List α,l.length=n∧∀i x,l[i]? =some x->p i x
 |0,_=>⟨[],rfl,by simp⟩
 |n+1,h=>by
  obtain⟨l,d,f⟩:=aqw n λi b=>h i (by omega)
  obtain⟨x,g⟩:=h n (by omega);refine⟨l++[x],by simp[d],λi y a=>?_⟩;rcases AH i l.length with b|b;·rw[Aw b] at a;exact f i y a
  ·rw[Av b] at a;have e:i=n:=by
    have:=(Ad.1 a).1;simp at this;omega
   subst e;have:x=y:=by simpa [d] using a
   exact this▸g
section
variable{H:Type}{enc:TypeId×Value->H}{w:World}{base:Nat}{held:Bool}
theorem auQ(k:EK){t e:TypeId}(Y:Tryd.prog.underlying t=some (.slice e))(hc:Tryd.prog.cellsOf e=k.sz){n:Nat}{cs:List Value}{x:DataW H×List MemPlace}
  (F:∀m,m+1=n->∀es y,DataW.trod enc Tryd.prog w base (λ_=>true) held m e es=some y->∃x:Ty k,∀(j:Nat) v u,(AM.enc k x)[j]? =some v->es[j]? =some u->VRel (na w).I id 0 w v u)
  (h:DataW.trod enc Tryd.prog w base (λ_=>true) held n t cs=some x):∃(xs:List (Ty k))(cv:Value),cs=[cv]∧VRel (na w).I id 0 w (.sl k (.may false) xs) cv:=by
 have M:0<k.sz:=by cases k<;>simp[EK.sz]
 rcases DataW.trod_slice Y h with⟨rfl, -⟩|⟨a,len,cap,C,rest,m,rfl,rfl, -,hb,hl,P,N,A,J, -⟩
 ·exact⟨[],_,rfl,.sln _ _⟩
 obtain⟨ae,Q⟩:=J rfl;rw[hc] at A Q;by_cases W:cap=0
 ·subst W;obtain rfl:len=0:=by omega
  exact⟨[],_,rfl,.sle _ _ a (by simp)⟩
 have first:∃es y,w.cells? base (a.add (0*k.sz)) k.sz=some es∧DataW.trod enc Tryd.prog w base (λ_=>true) held m e es=some y:=by
  by_cases G:len=0
  ·have d:=Q 0 (by omega);rw[G] at d;have g:0<rest.length:=by omega
   rw[Ab g,BP] at d;obtain⟨es,f,q⟩:=d;exact⟨es,_,f,q⟩
  ·have d:=A 0 (by omega);have g:0<C.length:=by omega
   rw[Ab g,BP] at d;obtain⟨es,f,q⟩:=d;exact⟨es,_,f,q⟩
 have o:a.spot=none:=by
  obtain⟨es,y,d, -⟩:=first
  obtain⟨g,f,q⟩:=World.cells?_some d;have E:=q 0 M;rw[Ab (by omega)] at E;simp only[Nat.zero_mul,Addr.add,if_true,Bv] at E;split at E
  ·cases hs:a.spot with
   |none=>rfl
   |some s=>simp[hs] at E
  ·cases E
 obtain⟨b,D,R⟩:=a;simp only at o;subst o;obtain⟨xs,L,B⟩:=aqw (α:=Ty k) (p:=λi x=>∀j v,(AM.enc k x)[j]? =some v->∃u,w.cell? ⟨b,D+i*k.sz+j,none⟩=some u∧VRel (na w).I id 0 w v u) len (by
  intro i hi;have d:=A i hi;rw[Ab (by omega),BP] at d;obtain⟨es,g,f⟩:=d;obtain⟨x,Z⟩:=F m rfl es _ f;obtain⟨q,E,X⟩:=World.cells?_some g;refine⟨x,λj v S=>?_⟩;have hj:j<k.sz:=by
   have:=(Ad.1 S).1
   rwa [bT] at this
  have O:=X j hj;rw[Ab (by omega),add_plain,add_plain] at O;exact⟨_,O,Z j v _ S (Ab (by omega))⟩)
 refine⟨xs,_,rfl,.sl k (.may false) xs b D len cap L (by omega) (by unfold maxLen at P;unfold dc;exact P) (by simp) (λi j=>(w.cell? ⟨b,D+i*k.sz+j,none⟩).getD undef) ?_ ?_ ?_⟩;·intro i x j d g;obtain⟨u,f, -⟩:=B i x d j _ (Ab g);show (w.cell? _).isSome=true;rw[f];rfl
 ·intro i x j d g;obtain⟨u,f, -⟩:=B i x d j _ (Ab g);rw[f];rfl
 ·intro i x j v d g;obtain⟨u,f,q⟩:=B i x d j v g;rw[f];exact q
theorem arQ{n:Nat}{cs:List Value}{x:DataW H×List MemPlace}(h:DataW.trod enc Tryd.prog w base (λ_=>true) held n 22 cs=some x):
  ∃(xs:List UInt8)(cv:Value),cs=[cv]∧VRel (na w).I id 0 w (.sl .u8 (.may false) xs) cv:=
 auQ .u8 Tryd.underlying22 (by kernel_rfl) (λm f es y e=>by
  obtain⟨c,rfl, -,b⟩:=DataW.trod_int Tryd.underlying5 e;have g:0<=c∧c<=255:=by simpa [Lit.wf,CF,Cr,Bj,BA] using b
  refine⟨AF c.toNat,λj v u d a=>?_⟩;obtain rfl:j=0:=by have:=(Ad.1 a).1;simpa using this
  simp only[AM.enc,Bq,Ai] at d a;subst d a;have:((AF c.toNat).toNat:Int)=c:=by rw[DM];omega
  rw[this];exact .int _ _ (by simpa [Lit.wf] using b)) h
theorem arR{r:Reach}{g:Nat}{v:Value}{d:DataW H}{p:List MemPlace}(i:Value.okWide Tryd.prog w r g 22 v)(h:DataW.Trod enc Tryd.prog w base (λ_=>true) held 22 v d p):
  ∃xs:List UInt8,VRel (na w).I id 0 w (.sl .u8 (.may false) xs) v:=by
 obtain⟨a,len,cap,rfl⟩:=okWide_slice Tryd.underlying22 i;obtain⟨b,j⟩:=h;obtain⟨xs,cv,e,f⟩:=arQ j;have e:[Value.slice a len cap]=[cv]:=e;cases e;exact⟨xs,f⟩
end
end
end Go.Proofs.YtkinflmjagfapaaDoor
end
