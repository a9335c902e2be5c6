import Derived.KernelRfl
import Derived.Test.YtkinflmjagfapaaDoorZ03
import Derived.Test.YtkinflmjagfapaaDoorZ04
open Bool renaming or_eq_true→A7,false_or→B8,eq_iff_iff→Ch,or_false→Cl,or_eq_false_iff→CP
open Eq renaming trans→A8
open Go.IntKind renaming wrap→Ae
open Int renaming toNat→Ah,toNat_natCast→At
open List renaming length→Aa,getElem?_eq_getElem→Ab,getElem?_eq_some_iff→Ad,length_cons→Af,length_append→Aj,length_nil→Ak,getD_eq_getElem?_getD→Al,mem_of_getElem?→Am,getD→An,all_eq_true→Ap,mem_singleton→Au,mem_append→Az,getElem?_map→AA,mem_cons→AB,mem_map→AG,cons_append→AI,mem_append_left→AN,nil_append→AW,mem_iff_getElem→A0,map_cons→A2,not_mem_nil→A4,length_map→A6,set→Bb,getElem_mem→Bf,map_congr_left→Bh,take_of_length_le→Bl,take_add_one→Bt,getElem?_set_self→Bw,drop_length→By,map_append→BF,take_length→BM,getElem?_of_mem→BO,map_map→Cg,length_singleton→CL,nodup_cons→CV,set_set→Dp
open List.cons renaming inj→AV
open Nat renaming le_refl→Ar,beq→AD,add_mul→AP,zero_le→BB,one_mul→B4,beq_refl→Do
open Ne renaming symm→Ci
open Option.some renaming inj→Ax
open UInt8 renaming toNat→AJ,toNat_inj→BR
set_option linter.all false
set_option maxRecDepth 100000
noncomputable section
namespace Go.Proofs.YtkinflmjagfapaaDoor
open Go.AM
abbrev pl(a:Int)(w:List UInt8)(als:List (List UInt8)):ac:=⟨a,w,als,0,[],false,[],0,[],[]⟩
theorem asR{a:List UInt8}(h:46 ∉ a)(hp:(Go.Lib.split (aO a) [46]).any (λs=> !b9 s)=false):b9 a=true:=by
 rw[aik] at hp;have e:ec [] (aO a)=[[115],a]:=by show ec [] (115::46::a)=_;rw[ec,if_neg (by decide),ec,if_pos rfl,amj a [] h];rfl
 rw[e] at hp;have hp:b9 [115]=true∧b9 a=true:=by simpa using hp
 exact hp.2
theorem arC{b:List UInt8}(h:b9 b=true):dR (aO b):=by
 intro c a;simp only[aO,AI,AW,AB] at a;rcases a with rfl|rfl|a;·decide
 ·decide
 ·exact adR h c a
theorem zl(a:List UInt8):(46:UInt8)∈aO a:=by simp[aO]
theorem auM{m:MS}{b:Int}{a X:List UInt8}{y:aa}{T:TF}{als:List (List UInt8)}{d:Int}{a':List UInt8}(o:b=9∨b=10∨b=11)(D:X≠bX∧X≠bb∧X≠wE∧X≠[97,108,105,97,115,101,115])(i:46 ∉ a)
  (hp:(Go.Lib.split (aO a) [46]).any (λs=> !b9 s)=false) (G:aY (k:=.sn) m.1 (aO a)=none) (v:m.2.1.length<60):
  q9 T (bu m d) (bK [bX,bb,X] [aA (aO a),aA (bE b),y]) a'=
   ((m.2.1.length:Int),nU T (bu (cE (k:=.sn) m.1 (aO a) (m.2.1.length:Int),m.2.1++[pl b (aO a) als],0,m.2.2.2) d) (bK [bX,bb,X] [aA (aO a),aA (bE b),y]) b [115] (aO a) [] (m.2.1.length:Int)):=by
 obtain⟨I,H,u,F⟩:=D;generalize f:bK [bX,bb,X] [aA (aO a),aA (bE b),y]=j;have g:j.kind=6:=by rw[<-f];rfl
 have q:aj j bX=(aA (aO a),true):=by rw[<-f];exact oA (by simp[cb])
 have A:aj j bb=(aA (bE b),true):=by rw[<-f];exact oA (by simp[cb])
 have C:aj j wE=(.mk 0 0 [] [] [],false):=by rw[<-f];exact zj (by simp[cb,u])
 have w:aj j [97,108,105,97,115,101,115]=(.mk 0 0 [] [] [],false):=by rw[<-f];exact zj (by simp[cb,F])
 have e:eo T (bu m d) j b a'=((m.2.1.length:Int),nU T (bu (cE (k:=.sn) m.1 (aO a) (m.2.1.length:Int),m.2.1++[pl b (aO a) als],0,m.2.2.2) d) j b [115] (aO a) [] (m.2.1.length:Int)):=by
  simp only[eo];rw[show ([110,97,109,101,115,112,97,99,101]:List UInt8)=wE from rfl,C,if_neg (by decide)];have x:dP (bu m d) j=(aO a,bu m d):=by unfold dP;rw[show ([110,97,109,101]:List UInt8)=bX from rfl,q];exact congrArg (Prod.mk _) (cG _ 2)
  have p:bM (bu m d) (aO a) a'=(aO a,bu m d):=by unfold bM;rw[if_neg (λh=>by rw[(sW _ 46).2 (zl a)] at h;exact absurd h.1 (by decide))];dsimp only;rw[hp];exact congrArg (Prod.mk _) (cG _ 6)
  rw[x];dsimp only;rw[p];simp only[gH];have B:∀(E:MS->List UInt8->List UInt8×MS)(M:MS),aB E M j=([],M):=λE M=>by simp only[aB];rw[w];rfl
  rw[B,ajY i];dsimp only;rw[show aY (k:=.sn) (bu m d).1 (aO a)=none from G,show ak (bu m d) (none:Option Int).isSome 5=bu m d from cG _ 5];rw[ag0 (t:=pl b (aO a) als) (t':=pl b (aO a) []) v d rfl 0 m.2.2.2,if_pos rfl]
 unfold q9;rw[if_neg (by rw[g];decide),if_neg (by rw[g];decide),if_pos g];simp only[cm];rw[show ([116,121,112,101]:List UInt8)=bb from rfl,A];dsimp only;rw[show ak (bu m d) (!true) 2=bu m d from cG _ _,if_neg (show ¬((aA (bE b)).kind≠4) from λh=>h rfl)];rcases o with rfl|rfl|rfl;·rw[if_pos (show (aA (bE 9)).s=[114,101,99,111,114,100] from rfl)];exact e
 ·rw[if_neg (by decide),if_pos (show (aA (bE 10)).s=[101,110,117,109] from rfl)];exact e
 ·rw[if_neg (by decide),if_neg (by decide),if_pos (show (aA (bE 11)).s=[102,105,120,101,100] from rfl)];exact e
theorem apd:∀(b a:List (List UInt8))(m:MS),(lr a b m).2.2.1 =0->(∀s∈b,b9 s=true)∧∀M:MS,lr a b M=M
 | [],a,m,_=>⟨by simp,λM=>rfl⟩
 |s::b,a,m,h=>by
  have f:∀M:MS,lr a (s::b) M=lr (a++[s]) b (ak (ak M (!b9 s) 6) (decide (0<=bV a s)) 5):=λ_=>rfl
  rw[f] at h;obtain⟨o,k⟩:=apd b _ _ h;have g:=(xZ b _ _).err h;obtain⟨j,i⟩:=aS g;obtain⟨e, -⟩:=aS (i▸g);refine⟨λx d=>?_,λM=>?_⟩
  ·rcases AB.1 d with rfl|d;·simpa using e
   ·exact o x d
  ·rw[f,j,e,cG,cG,k]
theorem asS(a:List (List UInt8))(M:MS):cu M (cJ (a.map aA))=(a,M):=by
 have h:∀(l:List (List UInt8))(M:MS),uc (l.map aA) M=M:=by
  intro l;induction l with
  |nil=>intro M;rfl
  |cons x l b=>intro M;exact(b _).trans (cG _ 2)
 unfold cu;have e:(cJ (a.map aA)).l.map aa.s=a:=by show (a.map aA).map aa.s=a;rw[Cg];exact(Bh λx _=>rfl).trans (List.map_id a)
 rw[e];exact congrArg (Prod.mk a) ((h a _).trans (cG _ 2))
theorem alp{k:Nat}{m:MS}{n:aa}{a:List UInt8}{p:Int}(ih:agx k)(hm:MI m)(a5:m.2.2.2<=20)(hn:sE n)(ha:a=[115]∨adg n)(cx:p=9∨p=10∨p=11)(g9:2<=dJ n)
  (o:(eo (aL k) m n p a).2.2.2.1 =0):abd k m (eo (aL k) m n p a) (dJ n):=by
 have ex:9<=p∧p<=11:=by omega
 have a2:∀(i:List UInt8)(w:List UInt8×MS),adf i->w.1=aO i->(w.2.2.2.1=0->w.2=m∧(Go.Lib.split (aO i) [46]).any (λs=> !b9 s)=false)->(gH (aL k) m n p w).2.2.2.1 =0->abd k m (gH (aL k) m n p w) (dJ n):=by
  intro i w G e4 hw o;simp only[gH] at o ⊢;rw[e4,ajY G.2] at o ⊢;split at o
  rotate_left
  ·rename_i j;exact absurd o j
  rename_i j;rw[if_pos j];obtain⟨z1,z2,z3⟩:=add_zero j;have f1:=aS z1;have al:=nh (afN [115]) w.2 n (f1.2▸z1);have d2:w.2.2.2.1=0:=by rw[<-al];exact f1.2▸z1
  obtain⟨wm,wp⟩:=hw d2;have fr:aY (k:=.sn) m.1 (aO i)=none:=by have:=f1.1;rw[al,wm] at this;simpa using this
  have ek:=asR G.2 wp;generalize gO:(aB (cB [115]) w.2 n).1 =als at o z3 ⊢;rw[z3] at o ⊢;rw[f1.2,al,wm] at o z2 ⊢;dsimp only at o ⊢;have i1:=akw hm.inv (t:=pl p (aO i) als) fr ex (by simp[aO]) rfl rfl rfl 0 m.2.2.2;have ae:(aO i).length<=5:=by have:=G.1;simp only[aO,Aj,Af,Ak];omega
  have I:=arC ek;have ew:adS (pl p (aO i) als):=λ_=>⟨I,ae,zl i⟩
  have A:∀(X:List UInt8)(y:aa),(X≠bX∧X≠bb∧X≠wE∧X≠[97,108,105,97,115,101,115])->∀(k':Nat)(d:Int)(a':List UInt8),_:=λX y hX k' d a'=>auM (m:=m) (T:=aL k') (als:=als) (d:=d) (a':=a') (y:=y) cx hX G.2 wp fr z2
  generalize hM:((cE (k:=.sn) m.1 (aO i) (m.2.1.length:Int),m.2.1++[pl p (aO i) als],0,m.2.2.2):MS)=M at o i1 A ⊢;have C:M.2.1=m.2.1++[pl p (aO i) als]:=by rw[<-hM]
  have g0:M.2.2.2=m.2.2.2:=by rw[<-hM]
  have mi:MI M:=⟨i1,by rw[C];simp;omega,λv hv=>by
   rw[C] at hv;rcases Az.1 hv with hv|hv;·exact hm.nmx v hv
   ·rw[Au.1 hv];exact ew,by rw[<-hM]⟩
  have Q:d8 (m.2.1++[pl p (aO i) als]) M.2.1 (.row []) [] 0 0:=by rw[C];exact d8.rnil _ _ _
  have gx:(aX (aO i)).length<=7:=by rw[dd I];simp only[Af,Aj,Ak];omega
  have O:(m.2.1.length:Int) ∉ nmL m.2.1:=auK _;have q1:(aX bX).length=6:=rfl;have q2:(aX bb).length=6:=rfl;have q3:(aX (bE p)).length<=8:=by rcases cx with rfl|rfl|rfl<;>decide
  have R:∀(X:List UInt8)(y:aa)(D:Nat),X≠bX∧X≠bb->dR X->X.length<=100->PJ y->dJ y<=D->1<=D->PJ (bK [bX,bb,X] [aA (aO i),aA (bE p),y])∧dJ (bK [bX,bb,X] [aA (aO i),aA (bE p),y])<=D+1:=by
   intro X y D hX hp hl hy g7 hD;refine⟨.tab _ _ rfl (by simp) ?_ ?_ ?_ (by simp),?_⟩;·rw[CV,CV];refine⟨?_,by simpa using Ci hX.2,by simp⟩;simp only[AB,A4,or_false,not_or];exact⟨by decide,Ci hX.1⟩
   ·intro x H;simp only[AB,A4,or_false] at H;rcases H with rfl|rfl|rfl;·decide
    ·decide
    ·exact⟨hp,hl⟩
   ·intro c j;simp only[AB,A4,or_false] at j;rcases j with rfl|rfl|rfl;·exact .txt _ I (by omega)
    ·exact .txt _ (ajZ p) (by have:=vU p;omega)
    ·exact hy
   ·simp only[cT,dJL];omega
  simp only[nU] at o ⊢;split at o
  ·
   rename_i k9;subst k9;rw[if_pos rfl];split at o
   rotate_left
   ·rename_i B;exact absurd o B
   rename_i B;rw[if_pos B];have hf:=B;simp only[cl] at hf;have W:=(gR (dl k) [115] _ _ _ _).err hf;have Z:=aS W;have c3:=aS (Z.2▸W);have eE:cl (aL k) M [] n [115]=bP (aL k) [115] (aj n [102,105,101,108,100,115]).1.l [] [] M:=by simp only[cl];rw[Z.2,c3.2]
   rw[eE] at B ⊢;have gl:(aj n [102,105,101,108,100,115]).2 =true:=by
    have:=c3.1;cases L:(aj n [102,105,101,108,100,115]).2 with
    |true=>rfl
    |false=>
     exfalso;have e0:(aj n [102,105,101,108,100,115]).1.kind =0:=by
      unfold aj at L ⊢;cases j:(if n.kind=6 then cb n.names n.l [102,105,101,108,100,115] else none) with
      |none=>rfl
      |some c=>rw[j] at L;cases L
     rw[e0] at this;exact absurd this (by decide)
   obtain⟨g1,g2,g3⟩:=abe hn gl;have g4:=g3.2.2.2.1 rfl;generalize (aj n [102,105,101,108,100,115]).1 =g at*
   have el:dJ g=dJL g.l+1:=by rw[<-ai3 g,cT]
   obtain⟨J,fs,l1,l2,nf,e1,ht,hr⟩:=ahJ ih rfl (D:=dJL g.l-1) g.l [] [] M (λx H=>⟨(dq.eta.2 g1).kids.2.2.2.2.2 x H,by have:=abH _ _ H;omega⟩) mi B;have hK:=gR (dl k) [115] g.l [] [] M;have ga:=hK.cap mi.cap;generalize hU:bP (aL k) [115] g.l [] [] M=U at*
   rw[AW] at e1;rw[C] at ht;have hv:U.2.2.1[m.2.1.length]? =some (pl 9 (aO i) als):=by rw[ht.pre.2 m.2.1.length (by simp),c8]
   have E:∀f:ac->ac,(atT U.2 (m.2.1.length:Int) f).2.1 =U.2.2.1.set m.2.1.length (f (pl 9 (aO i) als)):=λf=>by show U.2.2.1.set _ _=_;rw[At,show U.2.2.1.getD m.2.1.length (ao .atype)=pl 9 (aO i) als from o9 hv]
   refine⟨bK [bX,bb,[102,105,101,108,100,115]] [aA (aO i),aA (bE 9),cJ J],?_,.inl rfl,.of a5 λk' d a' a3 b5=>?_⟩
   ·show d8 m.2.1 (atT U.2 (m.2.1.length:Int) _).2.1 _ _ _ _;rw[E,e1];refine ht.node (u':=⟨9,aO i,als,0,[],false,[],0,fs,[]⟩) rfl rfl ⟨by show fs.length<=8;omega,λf hf=>by have:=nf f hf;omega,by simp,by simp,by simp,by show (aO i).length<=5000;omega,by simp⟩ (λ_=>⟨I,ae,zl i⟩) (λts H f hf=>?_) (λts u ad=>?_) (λhp=>?_) ?_ (λts d P H=>⟨1,by omega,.leaf _ _ (by omega) (by rw[At];exact P) (show (9:Int)<=11 by decide)⟩);·obtain⟨b,b1,b2⟩:=H f hf;exact⟨b,by simp only[xg];omega,ge.low (n:=m.2.1.length+1) (n':=m.2.1.length) (by omega) b2⟩
    ·rw[alo _ _ (show 9<=(9:Int)∧(9:Int)<=11 by decide)] at ad;have:=TR.rcd (ts:=ts) (m.2.1.length:Int) (nmL m.2.1) J (nmL U.2.2.1) (by rw[u]) ⟨by omega,O⟩ (by rw[u];exact ad);rw[u] at this;exact this
    ·have hj:dJL J<=dJL g.l:=by
      cases J with
      |nil=>exact BB _
      |cons c J=>
       have an:0<g.l.length:=by rw[<-l1];simp
       have h1:1<=dJL g.l:=by
        cases bn:g.l with
        |nil=>rw[bn] at an;simp at an
        |cons c l=>have:=acp c;simp only[dJL];omega
       exact aj0 λx H=>by have:=(hp x H).2;omega
     obtain⟨t1,t2⟩:=R [102,105,101,108,100,115] (cJ J) (dJL g.l+1) (by decide) (by decide) (by decide) (.lst _ (λc j=>(hp c j).1) (by omega)) (by rw[cT];omega) (by omega);exact⟨t1,by omega⟩
    ·have q4:(aX [102,105,101,108,100,115]).length=8:=rfl;have eC:=yt J;rw[vR,ep,ep,q1,q2,q4];omega
   ·rw[A _ _ (by decide)];have gf:aj (bK [bX,bb,[102,105,101,108,100,115]] [aA (aO i),aA (bE 9),cJ J]) [102,105,101,108,100,115]=(cJ J,true):=oA (by simp[cb]);simp only[nU];rw[if_pos trivial];have ef:cl (aL k') (bu M d) [] (bK [bX,bb,[102,105,101,108,100,115]] [aA (aO i),aA (bE 9),cJ J]) [115]=(fs.map uN,bu U.2 d):=by
     simp only[cl];rw[gf];dsimp only;have e6:(cJ J).l=J:=rfl;rw[e6,l1,Z.1,show ((cJ J).kind==5)=true from rfl,show ak (ak (bu M d) (!true) 2) false 3=bu M d from (cG _ 3).trans (cG _ 2)];have:=hr k' d [115] a3 (by omega);rw[List.map_nil,AW] at this;exact this
    rw[ef];dsimp only;rw[if_pos (show (bu U.2 d).2.2.1 =0 from rfl)];rw[agw (f:=λ_=>⟨9,aO i,als,0,[],false,[],0,U.1,[]⟩) _ _ _ λt=>by rw[e1];rfl]
  ·rename_i k9;rw[if_neg k9];split at o
   ·
    rename_i bl;subst bl;rw[if_pos rfl];split at o
    rotate_left
    ·rename_i B;exact absurd o B
    rename_i B;rw[if_pos B,yH M n false [] B];have fd:∃(df:List UInt8)(hd:Bool),(cY M n false []).1 =((aj n [115,121,109,98,111,108,115]).1.l.map aa.s,hd,df):=by
     simp only[cY];split;·exact⟨_,_,rfl⟩
     ·exact⟨_,_,rfl⟩
    have b4:(lr [] (cu (ak M (!(aj n [115,121,109,98,111,108,115]).2) 2) (aj n [115,121,109,98,111,108,115]).1).1 (ak (ak (cu (ak M (!(aj n [115,121,109,98,111,108,115]).2) 2) (aj n [115,121,109,98,111,108,115]).1).2 (decide ((cu (ak M (!(aj n [115,121,109,98,111,108,115]).2) 2) (aj n [115,121,109,98,111,108,115]).1).1.length =0)) 6) (decide (30<(cu (ak M (!(aj n [115,121,109,98,111,108,115]).2) 2) (aj n [115,121,109,98,111,108,115]).1).1.length)) 3)).2.2.1 =0:=by
     have ar:=B;simp only[cY] at ar;split at ar;·exact(ay _ _ 2).err ((ay _ _ 6).err ar)
     ·exact ar
    obtain⟨s1,s2⟩:=apd _ _ _ b4;have W:=(xZ _ _ _).err b4;have Z:=aS W;have c3:=aS (Z.2▸W);have c4:=(adi _ (aj n [115,121,109,98,111,108,115]).1).err (c3.2▸Z.2▸W);have c5:=aS c4;have gl:(aj n [115,121,109,98,111,108,115]).2 =true:=by simpa using c5.1
    obtain⟨g1,g2,g3⟩:=abe hn gl;have g4:=g3.2.2.2.2 rfl;have es:∀X:MS,(cu X (aj n [115,121,109,98,111,108,115]).1).1 =(aj n [115,121,109,98,111,108,115]).1.l.map aa.s:=λX=>rfl
    rw[es] at s1 s2;have cd:=Z.1;have a0:=c3.1;rw[es] at cd a0;generalize (aj n [115,121,109,98,111,108,115]).1 =g at*
    have el:dJ g=dJL g.l+1:=by rw[<-ai3 g,cT]
    have b6:∀s∈g.l.map aa.s,s.length<=10:=λs N=>by obtain⟨c,j,rfl⟩:=AG.1 N;exact g4 c j
    have ed:(g.l.map aa.s).length<=8:=by rw[A6];exact(dq.eta.2 g1).kids.2.1
    have an:g.l.map aa.s≠[]:=λe=>by rw[e] at a0;exact absurd a0 (by decide)
    generalize hS:g.l.map aa.s=S at*
    obtain⟨df,b3,ea⟩:=fd;rw[ea];dsimp only;have E:∀f:ac->ac,(atT M (m.2.1.length:Int) f).2.1 =M.2.1.set m.2.1.length (f (pl 10 (aO i) als)):=λf=>by show M.2.1.set _ _=_;rw[At,C,show (m.2.1++[pl 10 (aO i) als]).getD m.2.1.length (ao .atype)=pl 10 (aO i) als from o9 (c8 _ _)]
    have a9:∀s∈S,dR s∧s.length<=10:=λs N=>⟨adR (s1 s N),b6 s N⟩
    have f7:c7 (S.map aA)<=S.length*13:=by
     have:∀l:List (List UInt8),(∀s∈l,dR s∧s.length<=10)->c7 (l.map aA)<=l.length*13:=by
      intro l;induction l with
      |nil=>intro _;simp[c7]
      |cons x l e3=>
       intro h;obtain⟨p1,p2⟩:=h x (by simp);have:=e3 λs N=>h s (by simp[N])
       have q:(aX x).length=x.length+2:=by rw[dd p1];simp
       simp only[A2,c7,ep,q,Af,AP,B4];omega
     exact this S a9
    refine⟨bK [bX,bb,[115,121,109,98,111,108,115]] [aA (aO i),aA (bE 10),cJ (S.map aA)],?_,.inl rfl,.of a5 λk' d a' a3 b5=>?_⟩
    ·show d8 m.2.1 (atT M (m.2.1.length:Int) _).2.1 _ _ _ _;rw[E];refine Q.node (u':=⟨10,aO i,als,0,S,b3,df,0,[],[]⟩) rfl rfl ⟨by simp,by simp,by simp,by show S.length<=100;omega,by simp,by show (aO i).length<=5000;omega,λs N=>by have:=b6 s N;omega⟩ (λ_=>⟨I,ae,zl i⟩) (λts _=>zk rfl) (λts u ad=>?_) (λhp=>?_) ?_ (λts d P H=>⟨1,by omega,.leaf _ _ (by omega) (by rw[At];exact P) (show (10:Int)<=11 by decide)⟩);·have:=TR.enum (ts:=ts) (m.2.1.length:Int) (nmL m.2.1) (by rw[u]) ⟨by omega,O⟩;rw[u] at this;rw[C,alo _ _ (show 9<=(10:Int)∧(10:Int)<=11 by decide)];exact this
     ·have em:PJ (cJ (S.map aA)):=.lst _ (λc j=>by
       obtain⟨s,N,rfl⟩:=AG.1 j;exact .txt s (a9 s N).1 (by have:=(a9 s N).2;omega)) (by rw[A6];exact ed)
      have h1:1<=dJL g.l:=by
       cases bn:g.l with
       |nil=>rw[bn] at hS;exact absurd hS.symm an
       |cons c l=>have:=acp c;simp only[dJL];omega
      have gN:dJL (S.map aA)<=1:=aj0 λx H=>by obtain⟨s,N,rfl⟩:=AG.1 H;exact Ar _
      obtain⟨t1,t2⟩:=R [115,121,109,98,111,108,115] (cJ (S.map aA)) 2 (by decide) (by decide) (by decide) em (by rw[cT];omega) (by omega);exact⟨t1,by omega⟩
     ·have q4:(aX [115,121,109,98,111,108,115]).length=9:=rfl;have eC:=yt (S.map aA);rw[vR,ep,ep,q1,q2,q4];simp only[c7,Ak];omega
    ·rw[A _ _ (by decide)];have gf:aj (bK [bX,bb,[115,121,109,98,111,108,115]] [aA (aO i),aA (bE 10),cJ (S.map aA)]) [115,121,109,98,111,108,115]=(cJ (S.map aA),true):=oA (by simp[cb]);have gd:aj (bK [bX,bb,[115,121,109,98,111,108,115]] [aA (aO i),aA (bE 10),cJ (S.map aA)]) [100,101,102,97,117,108,116]=(.mk 0 0 [] [] [],false):=zj (by simp[cb]);simp only[nU];rw[if_neg (by decide),if_pos trivial];have ef:cY (bu M d) (bK [bX,bb,[115,121,109,98,111,108,115]] [aA (aO i),aA (bE 10),cJ (S.map aA)]) false []=((S,false,[]),bu M d):=by
      simp only[cY];rw[gf,gd,asS];dsimp only;rw[cd,a0,show ak (ak (ak (bu M d) (!true) 2) false 6) false 3=bu M d from ((cG _ 3).trans (cG _ 6)).trans (cG _ 2),s2];rfl
     rw[ef];dsimp only;rw[if_pos (show (bu M d).2.2.1 =0 from rfl)];rw[agw (f:=λ_=>⟨10,aO i,als,0,S,b3,df,0,[],[]⟩) _ _ _ λt=>rfl]
   ·
    rename_i bl;have en:p=11:=by omega
    subst en;rw[if_neg bl];split at o
    rotate_left
    ·rename_i B;exact absurd o B
    rename_i B;rw[if_pos B];have W:=aS B;have Z:=aS (W.2▸B);rw[W.2,Z.2];have Y:0<=(aj n [115,105,122,101]).1.n ∧(aj n [115,105,122,101]).1.n <=5000:=by have:=W.1;simp only[CP,decide_eq_false_iff_not] at this;omega
    have gl:(aj n [115,105,122,101]).2 =true:=by
     have:=Z.1;cases L:(aj n [115,105,122,101]).2 with
     |true=>rfl
     |false=>
      exfalso;have e0:(aj n [115,105,122,101]).1.kind =0:=by
       unfold aj at L ⊢;cases j:(if n.kind=6 then cb n.names n.l [115,105,122,101] else none) with
       |none=>rfl
       |some c=>rw[j] at L;cases L
      rw[e0] at this;exact absurd this (by decide)
    obtain⟨g1,g2,g3⟩:=abe hn gl;have g4:(aj n [115,105,122,101]).1.n <=255:=g3.1 rfl;have ej:=W.1;generalize (aj n [115,105,122,101]).1 =g at*
    have cs:ai1 g.n=g.n:=by unfold ai1;rw[if_neg (by omega),if_neg (by omega)]
    rw[cs];have E:∀f:ac->ac,(atT M (m.2.1.length:Int) f).2.1 =M.2.1.set m.2.1.length (f (pl 11 (aO i) als)):=λf=>by show M.2.1.set _ _=_;rw[At,C,show (m.2.1++[pl 11 (aO i) als]).getD m.2.1.length (ao .atype)=pl 11 (aO i) als from o9 (c8 _ _)]
    refine⟨bK [bX,bb,[115,105,122,101]] [aA (aO i),aA (bE 11),.mk 3 g.n [] [] []],?_,.inl rfl,.of a5 λk' d a' a3 b5=>?_⟩
    ·show d8 m.2.1 (atT M (m.2.1.length:Int) _).2.1 _ _ _ _;rw[E];refine Q.node (u':=⟨11,aO i,als,0,[],false,[],g.n,[],[]⟩) rfl rfl ⟨by simp,by simp,by simp,by simp,⟨Y.1,g4⟩,by show (aO i).length<=5000;omega,by simp⟩ (λ_=>⟨I,ae,zl i⟩) (λts _=>zk rfl) (λts u ad=>?_) (λhp=>?_) ?_ (λts d P H=>⟨1,by omega,.leaf _ _ (by omega) (by rw[At];exact P) (show (11:Int)<=11 by decide)⟩);·have:=TR.fix (ts:=ts) (m.2.1.length:Int) (nmL m.2.1) (by rw[u]) ⟨by omega,O⟩;rw[u] at this;rw[C,alo _ _ (show 9<=(11:Int)∧(11:Int)<=11 by decide)];exact this
     ·obtain⟨t1,t2⟩:=R [115,105,122,101] (.mk 3 g.n [] [] []) 1 (by decide) (by decide) (by decide) (.num _ ⟨Y.1,g4⟩) (by rw[cT];exact Ar _) (by omega);exact⟨t1,by omega⟩
     ·have q4:(aX [115,105,122,101]).length=6:=rfl;have q5:=agq (show 0<=g.n∧g.n<=255 from ⟨Y.1,g4⟩);rw[vR,ep,ep,q1,q2,q4,om];simp only[c7,Ak];omega
    ·rw[A _ _ (by decide)];have gf:aj (bK [bX,bb,[115,105,122,101]] [aA (aO i),aA (bE 11),.mk 3 g.n [] [] []]) [115,105,122,101]=(.mk 3 g.n [] [] [],true):=oA (by simp[cb]);simp only[nU];rw[if_neg (by decide),if_neg (by decide),gf];dsimp only;rw[show (aa.mk 3 g.n [] [] []).n=g.n from rfl,show ((aa.mk 3 g.n [] [] []).kind==3)=true from rfl,ej,show ak (ak (bu M d) (!true) 2) false 6=bu M d from (cG _ 6).trans (cG _ 2)];rw[if_pos (show (bu M d).2.2.1 =0 from rfl),cs];rw[agw (f:=λ_=>⟨11,aO i,als,0,[],false,[],g.n,[],[]⟩) _ _ _ λt=>rfl]
 have F:adf (aj n [110,97,109,101]).1.s :=by
  cases L:(aj n [110,97,109,101]).2 with
  |true=>exact(abe hn L).2.2.2.1 rfl
  |false=>
   have:(aj n [110,97,109,101]).1.s =[]:=by
    unfold aj at L ⊢;cases j:(if n.kind=6 then cb n.names n.l [110,97,109,101] else none) with
    |none=>rfl
    |some c=>rw[j] at L;cases L
   rw[this];decide
 have dj:∀(M:MS),(M.2.2.1=0->M=m)->(bM M (aj n [110,97,109,101]).1.s [115]).1 =aO (aj n [110,97,109,101]).1.s ∧((bM M (aj n [110,97,109,101]).1.s [115]).2.2.2.1 =0->(bM M (aj n [110,97,109,101]).1.s [115]).2 =m∧(Go.Lib.split (aO (aj n [110,97,109,101]).1.s) [46]).any (λs=> !b9 s)=false):=by
  intro M dw;have eT:dO (aj n [110,97,109,101]).1.s 46=false:=by
   rw[Bool.eq_false_iff]
   exactλh=>F.2 ((sW _ _).1 h)
  have e:(if dO (aj n [110,97,109,101]).1.s 46=false∧([115]:List UInt8)≠[] then [115]++[46]++(aj n [110,97,109,101]).1.s else (aj n [110,97,109,101]).1.s)=aO (aj n [110,97,109,101]).1.s :=if_pos ⟨eT,by decide⟩;unfold bM;rw[e];refine⟨rfl,λhz=>?_⟩;obtain⟨f1,f2⟩:=aS hz;have eJ:M.2.2.1=0:=f2▸hz;exact⟨f2.trans (dw eJ),f1⟩
 simp only[eo] at o ⊢;have G:gI m (dP m n).2 :=a8 _ _ _;split at o;·rename_i j;rw[if_pos j];have e:(aj n [110,97,109,101,115,112,97,99,101]).1.s =[115]:=(abe hn j).2.2.2.2.1 rfl;rw[e] at o ⊢;obtain⟨w1,w2⟩:=dj (ak (dP m n).2 (!((aj n [110,97,109,101,115,112,97,99,101]).1.kind ==4)) 2) (G.trans (a8 _ _ 2));exact a2 _ _ F w1 w2 o
 ·rename_i j;rw[if_neg j];rcases ha with rfl|a4;·obtain⟨w1,w2⟩:=dj (dP m n).2 G;exact a2 _ _ F w1 w2 o
  ·exfalso;obtain⟨x,y,rfl⟩:=a4;exact j rfl
abbrev adT(f:aZ):List UInt8×Int:=(f.name,f.typ)
structure avS(a b:ac):Prop where
 kind:a.kind=b.kind
 name:a.name=b.name
 items:a.items=b.items
 syms:a.syms=b.syms
 size:a.size=b.size
 branches:a.branches=b.branches
def Sim(A:Int->Prop)(ts us:List ac):Prop:=∀t,avS (tyA ts t) (tyA us t)∧(0<=t->¬A t->(tyA ts t).fields.map adT=(tyA us t).fields.map adT)
def uO:Tk->Tk->Prop
 | .node t,.node t'=>t=t'
 | .row d,.row b=>d=b
 | .flds fs,.flds a=>fs.map adT=a.map adT
 |_,_=>False
theorem uO.n(t:Int):uO (.node t) (.node t):=rfl
theorem uO.r(a:List Int):uO (.row a) (.row a):=rfl
theorem TR.same{A:Int->Prop}{ts us:List ac}(F:Sim A ts us){O:Tk}{L B:List Int}{C:List aa}(h:TR ts O L C B):(∀a,A a->a∈L)->∀d g p,uO O d->TR us d L g p->C=g∧B=p:=by
 have J:∀{L x:List Int},(∀a,A a->a∈L)->(∀a,A a->a∈L++x):=λh a N=>AN _ (h a N)
 have D:∀{vs:List ac}{O:Tk}{L B:List Int}{C:List aa},TR vs O L C B->∀a,a∈L->a∈B:=by
  intro vs O L B C h;induction h with
  |arr t L j B q h u=>exact u
  |map t L j B q h u=>exact u
  |uni t L C B q h u=>exact u
  |told t L q v=>exactλa h=>h
  |fix t L q v=>exactλa h=>AN _ h
  |enum t L q v=>exactλa h=>AN _ h
  |rcd t L C B q v h u=>exactλa h=>u a (AN _ h)
  |prim t L q=>exactλa h=>h
  |rnil L=>exactλa h=>h
  |fnil L=>exactλa h=>h
  |rcons b P L j S C p h W w y=>exactλa h=>y a (w a h)
  |fcons f fs L j S C p h W w y=>exactλa h=>y a (w a h)
 induction h with
 |arr t L j B q h u=>
  intro m d g p e i;cases d with
  |node t'=>
   obtain rfl:t=t':=e;obtain⟨s, -⟩:=F t;have H:=s.kind;cases i with
   |arr _ _ Q _ o i=>rw[<-s.items] at i;obtain⟨E,G⟩:=u m _ _ _ (uO.n _) i;cases E;exact⟨rfl,G⟩
   |_=>exfalso;omega
  |_=>cases e
 |map t L j B q h u=>
  intro m d g p e i;cases d with
  |node t'=>
   obtain rfl:t=t':=e;obtain⟨s, -⟩:=F t;have H:=s.kind;cases i with
   |map _ _ Q _ o i=>rw[<-s.items] at i;obtain⟨E,G⟩:=u m _ _ _ (uO.n _) i;cases E;exact⟨rfl,G⟩
   |_=>exfalso;omega
  |_=>cases e
 |uni t L C B q h u=>
  intro m d g p e i;cases d with
  |node t'=>
   obtain rfl:t=t':=e;obtain⟨s, -⟩:=F t;have H:=s.kind;cases i with
   |uni _ _ Q _ o i=>rw[<-s.branches] at i;obtain⟨E,G⟩:=u m _ _ _ (uO.r _) i;cases E;exact⟨rfl,G⟩
   |_=>exfalso;omega
  |_=>cases e
 |told t L q v=>
  intro m d g p e i;cases d with
  |node t'=>
   obtain rfl:t=t':=e;obtain⟨s, -⟩:=F t;have H:=s.kind;cases i with
   |told=>exact⟨by rw[s.name],rfl⟩
   |fix _ _ o k=>exact absurd v k.2
   |enum _ _ o k=>exact absurd v k.2
   |rcd _ _ _ _ o k _=>exact absurd v k.2
   |_=>exfalso;omega
  |_=>cases e
 |fix t L q v=>
  intro m d g p e i;cases d with
  |node t'=>
   obtain rfl:t=t':=e;obtain⟨s, -⟩:=F t;have H:=s.kind;cases i with
   |fix=>exact⟨by rw[s.name,s.size],rfl⟩
   |told _ _ o k=>exact absurd k v.2
   |_=>exfalso;omega
  |_=>cases e
 |enum t L q v=>
  intro m d g p e i;cases d with
  |node t'=>
   obtain rfl:t=t':=e;obtain⟨s, -⟩:=F t;have H:=s.kind;cases i with
   |enum=>exact⟨by rw[s.name,s.syms],rfl⟩
   |told _ _ o k=>exact absurd k v.2
   |_=>exfalso;omega
  |_=>cases e
 |rcd t L C B q v h u=>
  intro m d g p e i;cases d with
  |node t'=>
   obtain rfl:t=t':=e;obtain⟨s,sf⟩:=F t;have H:=s.kind;cases i with
   |rcd _ _ g _ o k i=>obtain⟨E,G⟩:=u (J m) _ _ _ (show uO (.flds _) (.flds _) from sf v.1 λN=>v.2 (m t N)) i;exact⟨by rw[s.name,E],G⟩
   |told _ _ o k=>exact absurd k v.2
   |_=>exfalso;omega
  |_=>cases e
 |prim t L q=>
  intro m d g p e i;cases d with
  |node t'=>
   obtain rfl:t=t':=e;obtain⟨s, -⟩:=F t;have H:=s.kind;cases i with
   |prim=>exact⟨by rw[s.kind],rfl⟩
   |_=>exfalso;omega
  |_=>cases e
 |rnil L=>
  intro m d g p e i;cases d with
  |row P=>obtain rfl:[]=P:=e;cases i;exact⟨rfl,rfl⟩
  |_=>cases e
 |fnil L=>
  intro m d g p e i;cases d with
  |flds fs=>
   cases fs with
   |nil=>cases i;exact⟨rfl,rfl⟩
   |cons f fs=>cases e
  |_=>cases e
 |rcons b P L j S C p h W w y=>
  intro m d g L3 e i;cases d with
  |row X=>
   obtain rfl:b::P=X:=e;cases i with
   |rcons _ _ _ Q M g _ R Y=>obtain⟨E,rfl⟩:=w m _ _ _ (uO.n _) R;cases E;obtain⟨rfl,rfl⟩:=y (λa N=>D h a (m a N)) _ _ _ (uO.r _) Y;exact⟨rfl,rfl⟩
  |_=>cases e
 |fcons f fs L j S C p h W w y=>
  intro m d g L3 e i;cases d with
  |flds I=>
   cases I with
   |nil=>cases e
   |cons f' I=>
    have e:adT f::fs.map adT=adT f'::I.map adT:=e;obtain⟨Z,k2⟩:=AV e;obtain⟨k3,k4⟩:=Prod.mk.inj Z;cases i with
    |fcons _ _ _ Q M g _ R Y=>rw[<-k4] at R;obtain⟨E,rfl⟩:=w m _ _ _ (uO.n _) R;cases E;obtain⟨rfl,rfl⟩:=y (λa N=>D h a (m a N)) _ _ _ (show uO (.flds _) (.flds _) from k2) Y;exact⟨by rw[k3],rfl⟩
  |_=>cases e
theorem sC.same{ts us:List ac}(m:Sim (λ_=>False) ts us)(b:ts=[]↔us=[]){x y:List UInt8}(d:sC ts x)(f:sC us y):x=y:=by
 by_cases h:ts=[]
 ·rw[d.1 h,f.1 (b.1 h)]
 ·obtain⟨j,L,g,rfl⟩:=d.2 h;obtain⟨o,p,i,rfl⟩:=f.2 λe=>h (b.2 e)
  obtain⟨e, -⟩:=g.same m (λa k=>k.elim) _ _ _ (uO.n 0) i;cases e;rfl
theorem Sim.refl(ts:List ac):Sim (λ_=>False) ts ts:=λt=>⟨⟨rfl,rfl,rfl,rfl,rfl,rfl⟩,λ_ _=>rfl⟩
def aj2(a b:List UInt8):Prop:=∃p x y e d,x≠y∧a=p++x::e∧b=p++y::d
theorem aj2.ne{a b:List UInt8}(h:aj2 a b):a≠b:=by obtain⟨p,x,y,g,f,d,rfl,rfl⟩:=h;intro e;have:=List.append_cancel_left e;exact d (AV this).1
theorem aj2.mid{a b:List UInt8}(h:aj2 a b)(p e f:List UInt8):aj2 (p++(a++e)) (p++(b++f)):=by obtain⟨g,x,y,i,j,d,rfl,rfl⟩:=h;exact⟨p++g,x,y,i++e,j++f,d,by simp,by simp⟩
theorem abd.up{k:Nat}{m:MS}{r:Int×MS}{D a:Nat}(h:abd k m r D)(d:D<=a):abd k m r a:=by obtain⟨j,e,f,b⟩:=h;exact⟨j,e.up d,f,b⟩
theorem aml{n:aa}(h:adg n):n.kind=6∧(aj n [116,121,112,101]).1.kind =4:=by obtain⟨x,y,rfl⟩:=h;exact⟨rfl,rfl⟩
theorem asT{k:Nat}{m:MS}{n:aa}{a:List UInt8}(t:agx k)(q:MI m)(e:m.2.2.2<=20)(p:sE n)(g:a=[115]∨adg n)(b:(cm (aL k) m n a).2.2.2.1 =0):abd k m (cm (aL k) m n a) (dJ n):=by
 simp only[cm] at b ⊢;split at b
 ·rename_i o;rw[if_pos o];have P:=(dl k _ _ _).err b;obtain⟨i,I⟩:=aS P;rw[I] at b ⊢;obtain⟨C,M, -⟩:=abe p (show (aj n [116,121,112,101]).2 =true by simpa using i);have g:a=[115]:=by
   rcases g with h|h;·exact h
   ·exact absurd (aml h).2 o
  obtain⟨j,J,G,H⟩:=t m _ a C q (.inl g) b;exact⟨j,J.up (by omega),G,λk' d a' N hd=>H (k'+1) d a' (by omega) (by omega)⟩
 ·rename_i o;rw[if_neg o];have o:(aj n [116,121,112,101]).1.kind =4:=Classical.not_not.1 o;have i:(aj n [116,121,112,101]).2 =true:=by
   cases i:(aj n [116,121,112,101]).2 with
   |true=>rfl
   |false=>
    exfalso;have E:(aj n [116,121,112,101]).1.kind =0:=by
     unfold aj at i ⊢;cases F:(if n.kind=6 then cb n.names n.l [116,121,112,101] else none) with
     |none=>rfl
     |some c=>rw[F] at i;cases i
    rw[E] at o;exact absurd o (by decide)
  have L:ak m (!(aj n [116,121,112,101]).2) 2=m:=by rw[i];exact cG _ _
  rw[L] at b ⊢;obtain⟨C,M, -⟩:=abe p i;have D:=acp (aj n [116,121,112,101]).1;have f:¬(aj n [116,121,112,101]).1.s =[114,101,99,111,114,100]->a=[115]:=λO=>by
   rcases g with h|h;·exact h
   ·obtain⟨x,y,rfl⟩:=h;exact absurd rfl O
  split at b;·rename_i u;rw[if_pos u];exact alp t q e p g (.inl rfl) (by omega) b
  ·rename_i u;rw[if_neg u];have g:=f u;split at b;·rename_i B;rw[if_pos B];exact alp t q e p (.inl g) (.inr (.inl rfl)) (by omega) b
   ·rename_i B;rw[if_neg B];split at b;·rename_i A;rw[if_pos A];exact alp t q e p (.inl g) (.inr (.inr rfl)) (by omega) b
    ·rename_i A;rw[if_neg A];split at b;·rename_i w;rw[if_pos w];exact amk t q e p g (.inl ⟨rfl,rfl,rfl⟩) b
     ·rename_i w;rw[if_neg w];split at b;·rename_i v;rw[if_pos v];exact amk t q e p g (.inr ⟨rfl,rfl,rfl⟩) b
      ·rename_i v;rw[if_neg v];exact apc q e b (by omega)
theorem aqs:∀k,agx k
 |0=>λm n a u i v f=>by exact absurd (aS (m:=m) (b:=true) (c:=3) f).1 (by decide)
 |k+1=>λm n a u i v f=>by
  have A:=aqs k;have q:=acp n;have p:aL (k+1) m n a=(let r:=q9 (aL k) (bZ m (m.2.2.2+1)) n a;(r.1,bZ r.2 m.2.2.2))∧m.2.2.2+1<=20:=by
   unfold aL at f ⊢;rw[if_neg (show ¬(m.2.2.1≠0) from λh=>h i.e)] at f ⊢;dsimp only at f ⊢;split at f;·rename_i t;exact absurd f t
   ·rename_i t;have t:(ak (bZ m (m.2.2.2+1)) (decide (20<m.2.2.2+1)) 3).2.2.1 =0:=Classical.not_not.1 t;obtain⟨H,L⟩:=aS t;have hd:=of_decide_eq_false H;rw[L,if_neg (λh=>h i.e)];exact⟨rfl,by omega⟩
  obtain⟨e,hd⟩:=p;rw[e] at f ⊢;dsimp only at f ⊢;have w:MI (bZ m (m.2.2.2+1)):=⟨⟨i.inv.tok,i.inv.nm,i.inv.map,i.inv.mn⟩,i.cap,i.nmx,i.e⟩
  have f:(q9 (aL k) (bZ m (m.2.2.2+1)) n a).2.2.2.1 =0:=f;have C:abd k (bZ m (m.2.2.2+1)) (q9 (aL k) (bZ m (m.2.2.2+1)) n a) (dJ n):=by
   unfold q9 at f ⊢;have g:¬n.kind=6->a=[115]:=λJ=>by
    rcases v with h|h;·exact h
    ·exact absurd (aml h).1 J
   by_cases B:n.kind=4;·rw[if_pos B] at f ⊢;exact apc w hd f q
   ·rw[if_neg B] at f ⊢;by_cases y:n.kind=5;·rw[if_pos y] at f ⊢;exact asP A w hd u (g (by omega)) f
    ·rw[if_neg y] at f ⊢;by_cases x:n.kind=6;·rw[if_pos x] at f ⊢;exact asT A w hd u v f
     ·rw[if_neg x] at f;exact absurd (aS f).1 (by decide)
  generalize q9 (aL k) (bZ m (m.2.2.2+1)) n a=r at*
  obtain⟨j,G,D,F⟩:=C;refine⟨j,G,D,λk' d a' I E=>?_⟩;obtain⟨o,rfl⟩:∃o,k'=o+1:=⟨k'-1,by omega⟩
  exact F o d a' (by omega) (by show d+1<=m.2.2.2+1;omega)
theorem ge.strip{ts:List ac}{n:Nat}{i:Int}{b:Nat}(h:ge ts n i b):ge (ts.map gp) n i b:=by
 have a:∀(i:Nat) t,ts[i]? =some t->(ts.map gp)[i]? =some (gp t):=λi t h=>by rw[AA,h];rfl
 induction h with
 |leaf i t d h e=>exact .leaf i (gp t) d (a _ _ h) e
 |arr i t b d g h e _ f=>exact .arr i (gp t) b d g (a _ _ h) e f
 |uni i t w d g h e _ f=>exact .uni i (gp t) w d g (a _ _ h) e f
theorem vQ.strip{ts:List ac}(h:vQ ts):vQ (ts.map gp):=by
 obtain⟨⟨v,w⟩,p,b,m,o⟩:=h;refine⟨⟨by simpa using v,λt a=>?_⟩,λi t a f j=>?_,b,m,o.strip⟩;·obtain⟨u,d,rfl⟩:=AG.1 a;have k:=w u d;exact⟨by show (u.fields.map uN).length<=8;rw[A6];exact k.nf,λf j=>by obtain⟨g,e,rfl⟩:=AG.1 j;exact k.fn g e,k.nb,k.ns,k.size,k.nl,k.sl⟩
 ·rw[AA] at a;cases d:ts[i]? with
  |none=>rw[d] at a;cases a
  |some u=>rw[d] at a;cases a;obtain⟨g,e,rfl⟩:=AG.1 j;obtain⟨b,q,x⟩:=p i u d g e;exact⟨b,q,x.strip⟩
theorem Sim.strip(ts:List ac):Sim (λ_=>False) ts (ts.map gp):=λt=>by have e:tyA (ts.map gp) t=gp (tyA ts t):=yf ts t.toNat;rw[e];refine⟨⟨rfl,rfl,rfl,rfl,rfl,rfl⟩,λ_ _=>?_⟩;show _=((tyA ts t).fields.map uN).map adT;rw[Cg];rfl
theorem atZ{n:aa}(y:sE n)(D:adg n)(k:(lS n).2 =0):∃j A,vQ (lS n).1 ∧TR (lS n).1 (.node 0) [] [j] A∧PJ j∧dJ j<=dJ n∧(aw j).length<=10000∧lS j=((lS n).1.map gp,0):=by
 have v:(aL 21 m0 n []).2.2.2.1 =0:=by
  unfold lS at k;dsimp only at k;split at k;·assumption
  ·rename_i u;exact absurd k u
 have E:(lS n).1 =(aL 21 m0 n []).2.2.1 :=by have e:lS n=(if (aL 21 m0 n []).2.2.2.1 =0 then ((aL 21 m0 n []).2.2.1,0) else ([],(aL 21 m0 n []).2.2.2.1)):=rfl;rw[e,if_pos v]
 rw[E];have F:MI m0:=⟨aso,by simp[m0],by simp[m0],rfl⟩
 obtain⟨j,d,B,w⟩:=aqs 21 m0 n [] y F (.inr D) v;have g:=(dl 21 m0 n []).cap (by simp[m0]);generalize aL 21 m0 n []=r at*
 have p:r.1=0:=by
  rcases B with h|h;·exact h
  ·simp[m0,nmK] at h
 rw[p] at d w;have a:lE 0 r.2.2.1 r.2.2.1:=lE.refl _ _;obtain⟨b,C,x⟩:=d.ext r.2.2.1 a;have f:0<r.2.2.1.length:=(Ad.1 x.at).1;have q:=d.sz;have o:m0.2.1.length=0:=rfl;simp only[c7,Af,Ak,o] at q C;refine⟨j,_,⟨⟨⟨f,g⟩,λt m=>?_⟩,λi t m=>(d.new i t (BB _) m).2.2 _ a,b,by simp only[xg];omega,x⟩,d.tr r.2.2.1 a,(d.pj j (by simp)).1,(d.pj j (by simp)).2,by omega,?_⟩;·obtain⟨i,p,rfl⟩:=A0.1 m;exact(d.new i _ (BB _) (Ab p)).1
 ·have:=w 21 0 [] (Ar _) (by decide);unfold lS;dsimp only;rw[show (([],[],0,0):MS)=bu m0 0 from rfl,this];rfl
theorem PJ.node{j:aa}(h:PJ j):bp j:=by
 induction h with
 |txt s h a=>exact .mk _ _ _ _ _ a (by simp) (by simp) (by simp) (by simp) (by simp) trivial
 |num n h=>exact .mk _ _ _ _ _ (by simp) (by simp) (by simp) (by simp) (by simp) (by simp) trivial
 |lst l h a b=>exact .mk _ _ _ _ _ (by simp) a (by simp) (by simp) (λh=>absurd h (by decide)) b (xY (λ_ _=>trivial) _ _)
 |tab names l d f hd hp h a b=>exact .mk _ _ _ _ _ (by simp) a (by omega) (λx e=>(hp x e).2) (λ_=>d) b (xY (λ_ _=>trivial) _ _)
noncomputable def nD:aq:=tab (P:=Tryd.prog) [] [cp,lz,uz,n7,abZ,nr,aa4,zG] [] [lb,aie]
def qq:IR:=Sq (Rs [Mv 59 17,Mv 60 15,Ll 61 60,Bi 62 .lss 59 61,Mv 63 62,Gt 63 (.mov 64 0),Gt 63 (.nck 65 64),Gt 63 (.fad 66 1 65),Gt 63 (.ld 67 1 false false 66),Gt 63 (.bin 68 .eql 67 (kI 0)),Pa 69 63 68] (Cn 69 .skip (.exit 0))) (Sq (.block 1 (.reg [Fa 72 2 14,Fo [] [1] (.ld 73 1 false true 72),Mv 74 0,Mv 75 15,Mv 76 17,Ix 77 .str 75 76,Lq 78 77,Mv 79 3,Fo [] [0] (.call 80 78 [74,78,79]),Pp (.bsl 81 .str [80] true),Pp (.app 82 .str (.tk 73) 81),Fa 83 2 14,Fo [] [1] (.st none 1 83 (.tk 82))] [[],[0],[],[],[],[3,4],[3,4,5],[],rg 2 7,rg 2 8,rg 0 9,rg 0 10,rg 0 11])) (Rg [Mv 70 17,Bc 71 .add 70 1,Mv 17 71]))
def pM:IR:=Rs [Mv 85 0,Fa 86 1 14,Lo 87 86,Ca 88 75 [85,87],Mv 84 88,Ex_ 89 0 84,Ex_ 90 1 84,Mv 18 89,Mv 19 90] (Sq (Rs [Mv 91 0,Nk 92 91,Fa 93 1 92,Lo 94 93,Bc 95 .eql 94 0,Mv 96 95,Gt 96 (.mov 97 19),Pa 98 96 97] (Cn 98 (Rg [Mv 99 0,Ca 100 38 [99,kI 5]]) .skip)) (Sq (Rs [Mv 101 0,Nk 102 101,Fa 103 1 102,Lo 104 103,Bc 105 .neq 104 0] (Cn 105 (Rs [Mi 10 0] .ret) .skip)) (Rs [Mv 106 0,Pp (.ld 107 10 true false 14),Ca 108 44 [106,107],Mv 20 108] (Sq (Rs [Mv 109 2] (.block 2 (Rs [Bc 150 .eql 109 9,Mv 149 150] (Cn 149 (Rg [Mv 151 0,Ld 152 5 true 6,Mv 153 20,Mv 154 3,Mv 155 4,Ca 156 81 [151,152,153,154,155]]) (Rs [Bc 158 .eql 109 10,Mv 157 158] (Cn 157 (Rg [Mv 159 0,Ld 160 5 true 6,Mv 161 20,Ca 162 82 [159,160,161]]) (Rs [Ld 111 5 true 6,Ca 112 41 [111,kS [115,105,122,101]],Mv 110 112,Ex_ 113 0 110,Ex_ 114 1 110,Pp (.alr 21 5),Fz 21 5 113,Mv 22 114] (Sq (Rs [Mv 115 22,Un 116 115,Mv 117 116,Gf 117 (.fad 118 0 21),Gf 117 (.lde 119 1 false 118),Gf 117 (.bin 120 .neq 119 (kI 3)),Po 121 117 120] (Cn 121 (Rs [Mv 122 0,Ca 123 38 [122,kI 2],Mv 10 123] .ret) .skip)) (Sq (Rs [Fa 124 1 21,Lq 125 124,Bc 126 .lss 125 0,Mv 127 126,Gf 127 (.fad 128 1 21),Gf 127 (.lde 129 1 false 128),Gf 127 (.bin 130 .gtr 129 (kI 5000)),Po 131 127 130] (Cn 131 (Rs [Mv 132 0,Ca 133 38 [132,kI 6],Mv 10 133] .ret) .skip)) (Rs [Mv 134 0,Nk 135 134,Fa 136 1 135,Lo 137 136,Bc 138 .eql 137 0] (Cn 138 (.gh (.opn (.cell 0 0)) (.ghp (.cls (.cell 0 0)) (.reg [Mv 139 0,Nk 140 139,Fa 141 0 140,Fa 142 0 141,Fo [0] [] (.ld 143 1 false false 142),Mv 144 20,Fa 145 1 21,Lq 146 145,Pp (.ixw 147 .atype 143 144),Pp (.fdw 148 7 147),Fo [] [2] (.stw none 1 148 146)] [[],[0],[0,1],[0,1,2],rg 0 3,[],[],[6],rg 0 7,rg 0 8,rg 0 9]))) .skip))))))))))) (Rs [Mv 163 20,Mv 10 163] .ret)))))
def abf:IR:=Rs [Bx 6 1,Mi 10 0] (Rs [Mv 23 0,Ld 24 5 true 6,Ca 25 77 [23,24,kS [110,97,109,101],kB true],Mv 11 25] (Rs [Ld 27 5 true 6,Ca 28 41 [27,kS [110,97,109,101,115,112,97,99,101]],Mv 26 28,Ex_ 29 0 26,Ex_ 30 1 26,Pp (.alr 12 5),Fz 12 5 29,Mv 13 30] (Sq (Rs [Mv 31 13] (Cn 31 (Sq (Rs [Fa 32 0 12,Lq 33 32,Bc 34 .neq 33 4] (Cn 34 (Rg [Mv 35 0,Ca 36 38 [35,kI 2]]) .skip)) (Rg [Fa 37 2 12,Lq 38 37,Mv 3 38])) .skip)) (Sq (Rs [Mv 39 0,Nk 40 39,Fa 41 1 40,Lo 42 41,Bc 43 .neq 42 0] (Cn 43 (Rs [Mi 10 0] .ret) .skip)) (Rs [Mv 44 2,Mv 45 0,Mv 46 11,Mv 47 3,Ca 48 78 [45,46,47],Pp (.bld 49 [vI 0,vS,nl .str,vI 0,nl .str,.bool false,vS,vI 0,nl .afield,nl (.num .i64)] [(0,1,44),(1,1,48)]),Pp (.new 14 [vI 0,vS,nl .str,vI 0,nl .str,.bool false,vS,vI 0,nl .afield,nl (.num .i64)]),Sv 10 14 49] (Rs [Fa 50 1 14,Lo 51 50,Ca 52 79 [51],Mv 3 52] (Rs [Mv 54 0,Ld 55 5 true 6,Ca 56 80 [54,55,kS [97,108,105,97,115,101,115]],Mv 53 56,Ex_ 57 0 53,Ex_ 58 1 53,Mv 15 57,Mv 16 58] (Sq (Rs [Mi 17 0] (.block 0 (.loop [0,2,3,4,6,14,15,17,1000000] 2 qq))) pM))))))))
def rY:List RV:=[.t 10]
theorem abg:FnC Tryd.prog nD [38,44,75,77,78,80,81,82,2000038,2000044,2000075,2000077,2000078,2000080,2000081,2000082] 1 tf Tryd.f42 abf rY:=fnC Tryd.func42
def zQ(R:IR->(Ex->St->Ro)->St->Ro)(a:St->Ro):Ex->St->Ro:=(b7 a [0,2,3,4,6,14,15,17,1000000] 2 (aJ 0 (kseq (R pM) (fin rY))))
abbrev iP:Type:=(Int×Bs×Int×aa×Bss×Int×List ac×Int×Int×Bs×Bss×Int×Bss×Bool×Bs×Int×List aZ×List Int)
def ij(x:iP):St:={env:=(.ptr 0 0::.undef::.int .i64 x.1::.str x.2.1::.int .i64 x.2.2.1::.undef::.ea (enc .jnode x.2.2.2.1)::(U 7 (.ptr 1 0::.sl .str (.may false) x.2.2.2.2.1::.undef::.int .i64 x.2.2.2.2.2.1::(U 146 [])))),hp:=[some [.ul .atype x.2.2.2.2.2.2.1,.int .i64 x.2.2.2.2.2.2.2.1],some [.int .i64 x.2.2.2.2.2.2.2.2.1,.str x.2.2.2.2.2.2.2.2.2.1,.sl .str .own x.2.2.2.2.2.2.2.2.2.2.1,.int .i64 x.2.2.2.2.2.2.2.2.2.2.2.1,.sl .str .own x.2.2.2.2.2.2.2.2.2.2.2.2.1,.bool x.2.2.2.2.2.2.2.2.2.2.2.2.2.1,.str x.2.2.2.2.2.2.2.2.2.2.2.2.2.2.1,.int .i64 x.2.2.2.2.2.2.2.2.2.2.2.2.2.2.2.1,.sl .afield .own x.2.2.2.2.2.2.2.2.2.2.2.2.2.2.2.2.1,.sl (.num .i64) .own x.2.2.2.2.2.2.2.2.2.2.2.2.2.2.2.2.2]]}
def lF(N:Nat):(St->Ro)->St->Ro:=λa s=>run nD N qq (zQ (run nD N) a) s
def e8(N:Nat)(O:iP->Ro)(x:iP):Ro:=
 let D:Int:=x.1;let R:Bs:=x.2.1;let Y:Int:=x.2.2.1;let A:aa:=x.2.2.2.1;let Q:Bss:=x.2.2.2.2.1;let P:Int:=x.2.2.2.2.2.1;let F:List ac:=x.2.2.2.2.2.2.1;let B:Int:=x.2.2.2.2.2.2.2.1;let v:Int:=x.2.2.2.2.2.2.2.2.1;let j:Bs:=x.2.2.2.2.2.2.2.2.2.1;let k:Bss:=x.2.2.2.2.2.2.2.2.2.2.1;let q:Int:=x.2.2.2.2.2.2.2.2.2.2.2.1;let w:Bss:=x.2.2.2.2.2.2.2.2.2.2.2.2.1;let u:Bool:=x.2.2.2.2.2.2.2.2.2.2.2.2.2.1;let m:Bs:=x.2.2.2.2.2.2.2.2.2.2.2.2.2.2.1;let p:Int:=x.2.2.2.2.2.2.2.2.2.2.2.2.2.2.2.1;let y:List aZ:=x.2.2.2.2.2.2.2.2.2.2.2.2.2.2.2.2.1;let t:List Int:=x.2.2.2.2.2.2.2.2.2.2.2.2.2.2.2.2.2;let x1:=(↑(Aa Q):Int)
 let i:=λg0 g1 g2=>(some (.int .i64 g0,[some [.ul .atype g1,.int .i64 g2],some [.int .i64 v,.str j,.sl .str .own k,.int .i64 q,.sl .str .own w,.bool u,.str m,.int .i64 p,.sl .afield .own y,.sl (.num .i64) .own t]]):Ro)
 let z1:=λg0 g1 g2=>(some (.int .i64 g0,[some [.ul .atype g1,.int .i64 g2],some [.int .i64 v,.str j,.sl .str .own k,.int .i64 q,.sl .str .own w,.bool u,.str m,.int .i64 p,.sl .afield .own y,.sl (.num .i64) .own t],none,none]):Ro)
 cond (decide (P<x1)) (
  cond (B==0) (
   chk (ixl P Q) (
    let x2:=An Q (Ah P) (ao .str)
    af (cA F B x2 R) (λr7=>
     chk (decide ((Aa k+Aa ([r7.1]:Bss))*16<=140737488355328)) (
      let x3:=(k++([r7.1]:Bss))
      let x4:=(Ae .i64 (P+1))
      O (D,R,Y,A,Q,x4,r7.2.1,r7.2.2,v,j,x3,q,w,u,m,p,y,t))))) (
   af (bO F B j) (λC=>
    cond (C.2.2.2==0) (
     cond C.2.1 (
      af (ag C.2.2.1 C.2.2.2 5) (λr9=>
       cond (!(r9.2.2==0)) (
        i 0 r9.2.1 r9.2.2) (
        af (bF r9.2.1 r9.2.2 ⟨v,j,k,q,w,u,m,p,y,t⟩) (λb=>
         cond (D==9) (
          af (bD b.2.1 b.2.2 (reJ A) b.1 R Y) (λb6=>
           i b.1 b6.1 b6.2)) (
          cond (D==10) (
           af (bw b.2.1 b.2.2 (reJ A) b.1) (λcx=>
            i b.1 cx.1 cx.2)) (
           af (aR (reJ A) ([115,105,122,101]:Bs)) (λH=>
            cond (!H.2) (
             af (ag b.2.1 b.2.2 2) (λX=>
              i X.1 X.2.1 X.2.2)) (
             cond (!(H.1.kind==3)) (
              af (ag b.2.1 b.2.2 2) (λb0=>
               i b0.1 b0.2.1 b0.2.2)) (
              cond (decide (H.1.n<0)) (
               af (ag b.2.1 b.2.2 6) (λa9=>
                i a9.1 a9.2.1 a9.2.2)) (
               cond (decide (5000<H.1.n)) (
                af (ag b.2.1 b.2.2 6) (λbn=>
                 i bn.1 bn.2.1 bn.2.2)) (
                cond (b.2.2==0) (
                 chk (decide (0<Aa b.2.1)) (
                  chk ((decide (0<=b.1)&&decide (b.1<↑(Aa b.2.1)))) (
                   chk (decide ((Ah b.1)<Aa b.2.1)) (
                    let x5:=(Bb b.2.1 (Ah b.1) (let h:=An b.2.1 (Ah b.1) (ao .atype);⟨h.kind,h.name,h.aliases,h.items,h.syms,h.hasdef,h.df,H.1.n,h.fields,h.branches⟩))
                    chk (AD (Aa b.2.1) (Aa x5)) (
                     z1 b.1 x5 b.2.2))))) (
                 i b.1 b.2.1 b.2.2)))))))))))) (
      cond (!(C.2.2.2==0)) (
       i 0 C.2.2.1 C.2.2.2) (
       af (bF C.2.2.1 C.2.2.2 ⟨v,j,k,q,w,u,m,p,y,t⟩) (λe=>
        cond (D==9) (
         af (bD e.2.1 e.2.2 (reJ A) e.1 R Y) (λcd=>
          i e.1 cd.1 cd.2)) (
         cond (D==10) (
          af (bw e.2.1 e.2.2 (reJ A) e.1) (λcs=>
           i e.1 cs.1 cs.2)) (
          af (aR (reJ A) ([115,105,122,101]:Bs)) (λI=>
           cond (!I.2) (
            af (ag e.2.1 e.2.2 2) (λa2=>
             i a2.1 a2.2.1 a2.2.2)) (
            cond (!(I.1.kind==3)) (
             af (ag e.2.1 e.2.2 2) (λb1=>
              i b1.1 b1.2.1 b1.2.2)) (
             cond (decide (I.1.n<0)) (
              af (ag e.2.1 e.2.2 6) (λan=>
               i an.1 an.2.1 an.2.2)) (
              cond (decide (5000<I.1.n)) (
               af (ag e.2.1 e.2.2 6) (λS=>
                i S.1 S.2.1 S.2.2)) (
               cond (e.2.2==0) (
                chk (decide (0<Aa e.2.1)) (
                 chk ((decide (0<=e.1)&&decide (e.1<↑(Aa e.2.1)))) (
                  chk (decide ((Ah e.1)<Aa e.2.1)) (
                   let x6:=(Bb e.2.1 (Ah e.1) (let h:=An e.2.1 (Ah e.1) (ao .atype);⟨h.kind,h.name,h.aliases,h.items,h.syms,h.hasdef,h.df,I.1.n,h.fields,h.branches⟩))
                   chk (AD (Aa e.2.1) (Aa x6)) (
                    z1 e.1 x6 e.2.2))))) (
                i e.1 e.2.1 e.2.2)))))))))))) (
     cond (!(C.2.2.2==0)) (
      i 0 C.2.2.1 C.2.2.2) (
      af (bF C.2.2.1 C.2.2.2 ⟨v,j,k,q,w,u,m,p,y,t⟩) (λg=>
       cond (D==9) (
        af (bD g.2.1 g.2.2 (reJ A) g.1 R Y) (λcy=>
         i g.1 cy.1 cy.2)) (
        cond (D==10) (
         af (bw g.2.1 g.2.2 (reJ A) g.1) (λcc=>
          i g.1 cc.1 cc.2)) (
         af (aR (reJ A) ([115,105,122,101]:Bs)) (λL=>
          cond (!L.2) (
           af (ag g.2.1 g.2.2 2) (λa4=>
            i a4.1 a4.2.1 a4.2.2)) (
           cond (!(L.1.kind==3)) (
            af (ag g.2.1 g.2.2 2) (λbl=>
             i bl.1 bl.2.1 bl.2.2)) (
            cond (decide (L.1.n<0)) (
             af (ag g.2.1 g.2.2 6) (λbr=>
              i br.1 br.2.1 br.2.2)) (
             cond (decide (5000<L.1.n)) (
              af (ag g.2.1 g.2.2 6) (λa5=>
               i a5.1 a5.2.1 a5.2.2)) (
              cond (g.2.2==0) (
               chk (decide (0<Aa g.2.1)) (
                chk ((decide (0<=g.1)&&decide (g.1<↑(Aa g.2.1)))) (
                 chk (decide ((Ah g.1)<Aa g.2.1)) (
                  let x7:=(Bb g.2.1 (Ah g.1) (let h:=An g.2.1 (Ah g.1) (ao .atype);⟨h.kind,h.name,h.aliases,h.items,h.syms,h.hasdef,h.df,L.1.n,h.fields,h.branches⟩))
                  chk (AD (Aa g.2.1) (Aa x7)) (
                   z1 g.1 x7 g.2.2))))) (
               i g.1 g.2.1 g.2.2)))))))))))))) (
  af (bO F B j) (λo=>
   cond (o.2.2.2==0) (
    cond o.2.1 (
     af (ag o.2.2.1 o.2.2.2 5) (λJ=>
      cond (!(J.2.2==0)) (
       i 0 J.2.1 J.2.2) (
       af (bF J.2.1 J.2.2 ⟨v,j,k,q,w,u,m,p,y,t⟩) (λd=>
        cond (D==9) (
         af (bD d.2.1 d.2.2 (reJ A) d.1 R Y) (λc1=>
          i d.1 c1.1 c1.2)) (
         cond (D==10) (
          af (bw d.2.1 d.2.2 (reJ A) d.1) (λb3=>
           i d.1 b3.1 b3.2)) (
          af (aR (reJ A) ([115,105,122,101]:Bs)) (λG=>
           cond (!G.2) (
            af (ag d.2.1 d.2.2 2) (λbY=>
             i bY.1 bY.2.1 bY.2.2)) (
            cond (!(G.1.kind==3)) (
             af (ag d.2.1 d.2.2 2) (λal=>
              i al.1 al.2.1 al.2.2)) (
             cond (decide (G.1.n<0)) (
              af (ag d.2.1 d.2.2 6) (λad=>
               i ad.1 ad.2.1 ad.2.2)) (
              cond (decide (5000<G.1.n)) (
               af (ag d.2.1 d.2.2 6) (λbx=>
                i bx.1 bx.2.1 bx.2.2)) (
               cond (d.2.2==0) (
                chk (decide (0<Aa d.2.1)) (
                 chk ((decide (0<=d.1)&&decide (d.1<↑(Aa d.2.1)))) (
                  chk (decide ((Ah d.1)<Aa d.2.1)) (
                   let x8:=(Bb d.2.1 (Ah d.1) (let h:=An d.2.1 (Ah d.1) (ao .atype);⟨h.kind,h.name,h.aliases,h.items,h.syms,h.hasdef,h.df,G.1.n,h.fields,h.branches⟩))
                   chk (AD (Aa d.2.1) (Aa x8)) (
                    z1 d.1 x8 d.2.2))))) (
                i d.1 d.2.1 d.2.2)))))))))))) (
     cond (!(o.2.2.2==0)) (
      i 0 o.2.2.1 o.2.2.2) (
      af (bF o.2.2.1 o.2.2.2 ⟨v,j,k,q,w,u,m,p,y,t⟩) (λa=>
       cond (D==9) (
        af (bD a.2.1 a.2.2 (reJ A) a.1 R Y) (λcv=>
         i a.1 cv.1 cv.2)) (
        cond (D==10) (
         af (bw a.2.1 a.2.2 (reJ A) a.1) (λc0=>
          i a.1 c0.1 c0.2)) (
         af (aR (reJ A) ([115,105,122,101]:Bs)) (λM=>
          cond (!M.2) (
           af (ag a.2.1 a.2.2 2) (λbs=>
            i bs.1 bs.2.1 bs.2.2)) (
           cond (!(M.1.kind==3)) (
            af (ag a.2.1 a.2.2 2) (λW=>
             i W.1 W.2.1 W.2.2)) (
            cond (decide (M.1.n<0)) (
             af (ag a.2.1 a.2.2 6) (λZ=>
              i Z.1 Z.2.1 Z.2.2)) (
             cond (decide (5000<M.1.n)) (
              af (ag a.2.1 a.2.2 6) (λa3=>
               i a3.1 a3.2.1 a3.2.2)) (
              cond (a.2.2==0) (
               chk (decide (0<Aa a.2.1)) (
                chk ((decide (0<=a.1)&&decide (a.1<↑(Aa a.2.1)))) (
                 chk (decide ((Ah a.1)<Aa a.2.1)) (
                  let x9:=(Bb a.2.1 (Ah a.1) (let h:=An a.2.1 (Ah a.1) (ao .atype);⟨h.kind,h.name,h.aliases,h.items,h.syms,h.hasdef,h.df,M.1.n,h.fields,h.branches⟩))
                  chk (AD (Aa a.2.1) (Aa x9)) (
                   z1 a.1 x9 a.2.2))))) (
               i a.1 a.2.1 a.2.2)))))))))))) (
    cond (!(o.2.2.2==0)) (
     i 0 o.2.2.1 o.2.2.2) (
     af (bF o.2.2.1 o.2.2.2 ⟨v,j,k,q,w,u,m,p,y,t⟩) (λf=>
      cond (D==9) (
       af (bD f.2.1 f.2.2 (reJ A) f.1 R Y) (λb5=>
        i f.1 b5.1 b5.2)) (
       cond (D==10) (
        af (bw f.2.1 f.2.2 (reJ A) f.1) (λci=>
         i f.1 ci.1 ci.2)) (
        af (aR (reJ A) ([115,105,122,101]:Bs)) (λE=>
         cond (!E.2) (
          af (ag f.2.1 f.2.2 2) (λar=>
           i ar.1 ar.2.1 ar.2.2)) (
          cond (!(E.1.kind==3)) (
           af (ag f.2.1 f.2.2 2) (λa0=>
            i a0.1 a0.2.1 a0.2.2)) (
           cond (decide (E.1.n<0)) (
            af (ag f.2.1 f.2.2 6) (λae=>
             i ae.1 ae.2.1 ae.2.2)) (
            cond (decide (5000<E.1.n)) (
             af (ag f.2.1 f.2.2 6) (λa1=>
              i a1.1 a1.2.1 a1.2.2)) (
             cond (f.2.2==0) (
              chk (decide (0<Aa f.2.1)) (
               chk ((decide (0<=f.1)&&decide (f.1<↑(Aa f.2.1)))) (
                chk (decide ((Ah f.1)<Aa f.2.1)) (
                 let b4:=(Bb f.2.1 (Ah f.1) (let h:=An f.2.1 (Ah f.1) (ao .atype);⟨h.kind,h.name,h.aliases,h.items,h.syms,h.hasdef,h.df,E.1.n,h.fields,h.branches⟩))
                 chk (AD (Aa f.2.1) (Aa b4)) (
                  z1 f.1 b4 f.2.2))))) (
              i f.1 f.2.1 f.2.2)))))))))))))
theorem zm(N:Nat):LB (lF N) ij (e8 N):=λ_ _=>by kernel_rfl
def fK(N:Nat)(h:List ac)(i:Int)(g:aa)(x:Int)(B:Bs)(C:Int)(y:iP->Ro):Ro:=
 let u:=λp v=>(some (.int .i64 0,[some [.ul .atype p,.int .i64 v]]):Ro)
 let o:=λp v D A F=>y (x,p,C,g,v,0,D,A,x,F,([]:Bss),0,([]:Bss),false,([]:Bs),0,([]:List aZ),([]:List Int))
 af (cq h i (reJ g) ([110,97,109,101]:Bs) true) (λa=>
  af (aR (reJ g) ([110,97,109,101,115,112,97,99,101]:Bs)) (λm=>
   cond m.2 (
    cond (!(m.1.kind==4)) (
     af (ag a.2.1 a.2.2 2) (λj=>
      cond (!(j.2.2==0)) (
       u j.2.1 j.2.2) (
       af (cA j.2.1 j.2.2 a.1 m.1.s) (λk=>
        af (ey k.1) (λ(E:Bs)=>
         af (bJ k.2.1 k.2.2 (reJ g) ([97,108,105,97,115,101,115]:Bs)) (λw=>
          o E w.1 w.2.2.1 w.2.2.2 k.1)))))) (
     cond (!(a.2.2==0)) (
      u a.2.1 a.2.2) (
      af (cA a.2.1 a.2.2 a.1 m.1.s) (λb=>
       af (ey b.1) (λ(t:Bs)=>
        af (bJ b.2.1 b.2.2 (reJ g) ([97,108,105,97,115,101,115]:Bs)) (λf=>
         o t f.1 f.2.2.1 f.2.2.2 b.1)))))) (
    cond (!(a.2.2==0)) (
     u a.2.1 a.2.2) (
     af (cA a.2.1 a.2.2 a.1 B) (λd=>
      af (ey d.1) (λ(q:Bs)=>
       af (bJ d.2.1 d.2.2 (reJ g) ([97,108,105,97,115,101,115]:Bs)) (λe=>
        o q e.1 e.2.2.1 e.2.2.2 d.1)))))))
def rZ(N:Nat)(a:List ac)(b:Int)(f:aa)(e:Int)(g:Bs)(d:Int):Ro:=fK N a b f e g d (λz=>aK N (e8 N) z)
theorem zR(N:Nat)(a:List ac)(d:Int)(j:aa)(i:Int)(k:Bs)(g:Int)(h:Tot (rZ N a d j i k g) (λz=>∃(o:Int)(p:List ac)(m:Int)(rest:List ai),z.1.dimR=.int .i64 o∧z.2=some [.ul .atype p,.int .i64 m]::rest∧aU a d j i k g (o,p,m))):∃r,cU a d j i k g r:=FnK.finO (css:=[[.ul .atype a,.int .i64 d]]) abg (N:=N) ((cz _ (by kernel_rfl) rfl (λC=>fK N a d j i k g (λz=>C 1000000 (ij z))) (λC=>by kernel_rfl)).trans (A8 (b:=fK N a d j i k g (λz=>bi N (lF N) (ij z))) (by kernel_rfl) (congrArg (fK N a d j i k g) (funext λz=>bm (ij) (lF N) (e8 N) (zm N) N z)))) h λ_ ⟨o,p,m,_,e,f,q⟩=>⟨(o,p,m),e,⟨_,f⟩,q⟩
noncomputable def adU:aq:=tab (P:=Tryd.prog) [] [ko,cp,adv,abU,abW,lz] [] [lb,abX]
def acq:IR:=Rs [Bx 5 1,Mi 8 0] (Sq (Rs [Mv 16 0,Nk 17 16,Fa 18 1 17,Lo 19 18,Bc 20 .neq 19 0] (Cn 20 (Rs [Mi 8 0] .ret) .skip)) (Sq (Rs [Mv 21 3,Bc 22 .gtr 21 20] (Cn 22 (Rs [Mv 23 0,Ca 24 38 [23,kI 3],Mv 8 24] .ret) .skip)) (Sq (Rs [Fa 25 0 5,Lq 26 25] (.block 0 (Rs [Bc 28 .eql 26 4,Mv 27 28] (Cn 27 (Rs [Mv 29 0,Fa 30 2 5,Lq 31 30,Mv 32 2,Ca 33 39 [29,31,32],Mv 8 33] .ret) (Rs [Bc 35 .eql 26 5,Mv 34 35] (Cn 34 (Rs [Mv 36 0,Ld 37 5 true 5,Mv 38 2,Mv 39 3,Ca 40 40 [36,37,38,39],Mv 8 40] .ret) (Rs [Bc 42 .eql 26 6,Mv 41 42] (Cn 41 (Rs [Ld 44 5 true 5,Ca 45 41 [44,kS [116,121,112,101]],Mv 43 45,Ex_ 46 0 43,Ex_ 47 1 43,Pp (.alr 9 5),Fz 9 5 46,Mv 10 47] (Sq (Rs [Mv 48 10,Un 49 48] (Cn 49 (Rs [Mv 50 0,Ca 51 38 [50,kI 2],Mv 8 51] .ret) .skip)) (Sq (Rs [Fa 52 0 9,Lq 53 52,Bc 54 .neq 53 4] (Cn 54 (Rs [Mv 55 0,Ld 56 5 true 9,Mv 57 2,Mv 58 3,Bc 59 .add 58 1,Ca 60 23 [55,56,57,59],Mv 8 60] .ret) .skip)) (Sq (Rs [Fa 61 2 9,Lq 62 61] (.block 1 (Sq (Rs [Pp (.bin 64 .eql 62 (kS [114,101,99,111,114,100])),Mv 63 64] (Cn 63 .skip (Rs [Pp (.bin 65 .eql 62 (kS [101,110,117,109])),Mv 63 65] (Cn 63 .skip (Rg [Pp (.bin 66 .eql 62 (kS [102,105,120,101,100])),Mv 63 66]))))) (Cn 63 (Sq (.reg [Mv 67 0,Ld 68 5 true 5,Fa 69 2 9,Lq 70 69,Ca 71 43 [70],Mv 72 2,Mv 73 3,Fo [] [0] (.call 74 42 [67,68,71,72,73]),Mv 8 74] [[],[],[],[2],[2,3],[],[],rg 0 6,rg 0 7]) .ret) (Sq (Rs [Pp (.bin 76 .eql 62 (kS [97,114,114,97,121])),Mv 75 76] (Cn 75 .skip (Rg [Pp (.bin 77 .eql 62 (kS [109,97,112])),Mv 75 77]))) (Cn 75 (Rs [Mv 78 0,Fa 79 2 9,Lq 80 79,Ca 81 43 [80],Pp (.bld 82 [vI 0,vS,fu .str true,vI 0,fu .str true,.bool false,vS,vI 0,fu .afield true,fu (.num .i64) true] [(0,1,81)]),Ca 83 44 [78,82],Mv 11 83] (Rs [Ms 12 [105,116,101,109,115]] (Sq (Rs [Fa 84 2 9,Lq 85 84,Pp (.bin 86 .eql 85 (kS [109,97,112]))] (Cn 86 (Rg [Ms 12 [118,97,108,117,101,115]]) .skip)) (Rs [Ld 88 5 true 5,Mv 89 12,Ca 90 41 [88,89],Mv 87 90,Ex_ 91 0 87,Ex_ 92 1 87,Pp (.alr 13 5),Fz 13 5 91,Mv 14 92] (Sq (Rs [Mv 93 14,Un 94 93] (Cn 94 (Rs [Mv 95 0,Ca 96 38 [95,kI 2],Mv 8 96] .ret) .skip)) (Rs [Mv 97 0,Ld 98 5 true 13,Mv 99 2,Mv 100 3,Bc 101 .add 100 1,Ca 102 23 [97,98,99,101],Mv 15 102] (Sq (Rs [Mv 103 0,Nk 104 103,Fa 105 1 104,Lo 106 105,Bc 107 .eql 106 0] (Cn 107 (.gh (.opn (.cell 0 0)) (.ghp (.cls (.cell 0 0)) (Rg [Mv 108 0,Nk 109 108,Fa 110 0 109,Fa 111 0 110,Lo 112 111,Mv 113 11,Mv 114 15,Pp (.ixw 115 .atype 112 113),Pp (.fdw 116 3 115),Pp (.stw none 1 116 114)]))) .skip)) (Rs [Mv 117 11,Mv 8 117] .ret)))))))) .skip)))))) (Rs [Mv 118 0,Fa 119 2 9,Lq 120 119,Mv 121 2,Ca 122 39 [118,120,121],Mv 8 122] .ret))))) .skip)))))))) (Rs [Mv 123 0,Ca 124 38 [123,kI 2],Mv 8 124] .ret))))
def acr:List RV:=[.t 8]
theorem acs:FnC Tryd.prog adU [23,38,39,40,42,44,2000023,2000038,2000039,2000040,2000042,2000044] 1 uv Tryd.f23 acq acr:=fnC Tryd.func23
def tz(N:Nat)(e:List ac)(d:Int)(m:aa)(o:Bs)(p:Int):Ro:=
 let I:=λg0 g1 g2=>(some (.int .i64 g0,[some [.ul .atype g1,.int .i64 g2],none,none]):Ro)
 cond (!(d==0)) (
  some (.int .i64 0,[some [.ul .atype e,.int .i64 d]])) (
  cond (decide (20<p)) (
   af (ag e d 3) (λQ=>
    some (.int .i64 Q.1,[some [.ul .atype Q.2.1,.int .i64 Q.2.2]]))) (
   cond (m.kind==4) (
    af (eS e d m.s o) (λW=>
     some (.int .i64 W.1,[some [.ul .atype W.2.1,.int .i64 W.2.2]]))) (
    cond (m.kind==5) (
     af (gg e d (reJ m) o p) (λS=>
      some (.int .i64 S.1,[some [.ul .atype S.2.1,.int .i64 S.2.2]]))) (
     cond (m.kind==6) (
      af (aR (reJ m) ([116,121,112,101]:Bs)) (λk=>
       cond (!k.2) (
        af (ag e d 2) (λZ=>
         some (.int .i64 Z.1,[some [.ul .atype Z.2.1,.int .i64 Z.2.2]]))) (
        cond (!(k.1.kind==4)) (
         let x1:=(Ae .i64 (p+1))
         af (bc e d (reJ k.1) o x1) (λY=>
          some (.int .i64 Y.1,[some [.ul .atype Y.2.1,.int .i64 Y.2.2]]))) (
         let x2:=decide (k.1.s=([114,101,99,111,114,100]:Bs))
         cond x2 (
          af (dz k.1.s) (λ(r7:Int)=>
           af (cU e d (reJ m) r7 o p) (λR=>
            some (.int .i64 R.1,[some [.ul .atype R.2.1,.int .i64 R.2.2]])))) (
          let x3:=decide (k.1.s=([101,110,117,109]:Bs))
          cond x3 (
           af (dz k.1.s) (λ(r9:Int)=>
            af (cU e d (reJ m) r9 o p) (λx=>
             some (.int .i64 x.1,[some [.ul .atype x.2.1,.int .i64 x.2.2]])))) (
           let x4:=decide (k.1.s=([102,105,120,101,100]:Bs))
           cond x4 (
            af (dz k.1.s) (λ(O:Int)=>
             af (cU e d (reJ m) O o p) (λv=>
              some (.int .i64 v.1,[some [.ul .atype v.2.1,.int .i64 v.2.2]])))) (
            let x5:=decide (k.1.s=([97,114,114,97,121]:Bs))
            cond x5 (
             af (dz k.1.s) (λ(J:Int)=>
              af (bF e d ⟨J,([]:Bs),([]:Bss),0,([]:Bss),false,([]:Bs),0,([]:List aZ),([]:List Int)⟩) (λa=>
               let x6:=decide (k.1.s=([109,97,112]:Bs))
               cond x6 (
                af (aR (reJ m) ([118,97,108,117,101,115]:Bs)) (λG=>
                 cond (!G.2) (
                  af (ag a.2.1 a.2.2 2) (λy=>
                   some (.int .i64 y.1,[some [.ul .atype y.2.1,.int .i64 y.2.2]]))) (
                  let x7:=(Ae .i64 (p+1))
                  af (bc a.2.1 a.2.2 (reJ G.1) o x7) (λi=>
                   cond (i.2.2==0) (
                    chk (decide (0<Aa i.2.1)) (
                     chk ((decide (0<=a.1)&&decide (a.1<↑(Aa i.2.1)))) (
                      chk (decide ((Ah a.1)<Aa i.2.1)) (
                       let x8:=(Bb i.2.1 (Ah a.1) (let f:=An i.2.1 (Ah a.1) (ao .atype);⟨f.kind,f.name,f.aliases,i.1,f.syms,f.hasdef,f.df,f.size,f.fields,f.branches⟩))
                       chk (AD (Aa i.2.1) (Aa x8)) (
                        I a.1 x8 i.2.2))))) (
                    some (.int .i64 a.1,[some [.ul .atype i.2.1,.int .i64 i.2.2]])))))) (
                af (aR (reJ m) ([105,116,101,109,115]:Bs)) (λD=>
                 cond (!D.2) (
                  af (ag a.2.1 a.2.2 2) (λt=>
                   some (.int .i64 t.1,[some [.ul .atype t.2.1,.int .i64 t.2.2]]))) (
                  let x9:=(Ae .i64 (p+1))
                  af (bc a.2.1 a.2.2 (reJ D.1) o x9) (λg=>
                   cond (g.2.2==0) (
                    chk (decide (0<Aa g.2.1)) (
                     chk ((decide (0<=a.1)&&decide (a.1<↑(Aa g.2.1)))) (
                      chk (decide ((Ah a.1)<Aa g.2.1)) (
                       let E:=(Bb g.2.1 (Ah a.1) (let f:=An g.2.1 (Ah a.1) (ao .atype);⟨f.kind,f.name,f.aliases,g.1,f.syms,f.hasdef,f.df,f.size,f.fields,f.branches⟩))
                       chk (AD (Aa g.2.1) (Aa E)) (
                        I a.1 E g.2.2))))) (
                    some (.int .i64 a.1,[some [.ul .atype g.2.1,.int .i64 g.2.2]]))))))))) (
             let ad:=decide (k.1.s=([109,97,112]:Bs))
             cond ad (
              af (dz k.1.s) (λ(P:Int)=>
               af (bF e d ⟨P,([]:Bs),([]:Bss),0,([]:Bss),false,([]:Bs),0,([]:List aZ),([]:List Int)⟩) (λb=>
                let M:=decide (k.1.s=([109,97,112]:Bs))
                cond M (
                 af (aR (reJ m) ([118,97,108,117,101,115]:Bs)) (λB=>
                  cond (!B.2) (
                   af (ag b.2.1 b.2.2 2) (λA=>
                    some (.int .i64 A.1,[some [.ul .atype A.2.1,.int .i64 A.2.2]]))) (
                   let X:=(Ae .i64 (p+1))
                   af (bc b.2.1 b.2.2 (reJ B.1) o X) (λh=>
                    cond (h.2.2==0) (
                     chk (decide (0<Aa h.2.1)) (
                      chk ((decide (0<=b.1)&&decide (b.1<↑(Aa h.2.1)))) (
                       chk (decide ((Ah b.1)<Aa h.2.1)) (
                        let F:=(Bb h.2.1 (Ah b.1) (let f:=An h.2.1 (Ah b.1) (ao .atype);⟨f.kind,f.name,f.aliases,h.1,f.syms,f.hasdef,f.df,f.size,f.fields,f.branches⟩))
                        chk (AD (Aa h.2.1) (Aa F)) (
                         I b.1 F h.2.2))))) (
                     some (.int .i64 b.1,[some [.ul .atype h.2.1,.int .i64 h.2.2]])))))) (
                 af (aR (reJ m) ([105,116,101,109,115]:Bs)) (λH=>
                  cond (!H.2) (
                   af (ag b.2.1 b.2.2 2) (λw=>
                    some (.int .i64 w.1,[some [.ul .atype w.2.1,.int .i64 w.2.2]]))) (
                   let L:=(Ae .i64 (p+1))
                   af (bc b.2.1 b.2.2 (reJ H.1) o L) (λj=>
                    cond (j.2.2==0) (
                     chk (decide (0<Aa j.2.1)) (
                      chk ((decide (0<=b.1)&&decide (b.1<↑(Aa j.2.1)))) (
                       chk (decide ((Ah b.1)<Aa j.2.1)) (
                        let C:=(Bb j.2.1 (Ah b.1) (let f:=An j.2.1 (Ah b.1) (ao .atype);⟨f.kind,f.name,f.aliases,j.1,f.syms,f.hasdef,f.df,f.size,f.fields,f.branches⟩))
                        chk (AD (Aa j.2.1) (Aa C)) (
                         I b.1 C j.2.2))))) (
                     some (.int .i64 b.1,[some [.ul .atype j.2.1,.int .i64 j.2.2]]))))))))) (
              af (eS e d k.1.s o) (λu=>
               some (.int .i64 u.1,[some [.ul .atype u.2.1,.int .i64 u.2.2]]))))))))))) (
      af (ag e d 2) (λq=>
       some (.int .i64 q.1,[some [.ul .atype q.2.1,.int .i64 q.2.2]])))))))
def tA(N:Nat)(a:List ac)(b:Int)(e:aa)(d:Bs)(f:Int):Ro:=tz N a b e d f
theorem abh(N:Nat)(a:List ac)(b:Int)(k:aa)(j:Bs)(m:Int)(h:Tot (tA N a b k j m) (λz=>∃(g:Int)(i:List ac)(d:Int)(rest:List ai),z.1.dimR=.int .i64 g∧z.2=some [.ul .atype i,.int .i64 d]::rest∧c6 a b k j m (g,i,d))):∃r,bc a b k j m r:=FnK.finO (css:=[[.ul .atype a,.int .i64 b]]) acs (N:=N) (by kernel_rfl) h λ_ ⟨g,i,d,_,e,f,q⟩=>⟨(g,i,d),e,⟨_,f⟩,q⟩
noncomputable def alq:aq:=tab (P:=Tryd.prog) [] [ko] [] []
def aj3:IR:=Rs [Bx 1 0,Pp (.new 2 [nl .atype]),Mi 3 0] (Rs [Pp (.bld 5 [.ul .atype ([]:List ac),vI 0] []),Pp (.box 6 5),Mv 4 6] (Rs [Mv 7 4,Ld 8 5 true 1,Ca 9 23 [7,8,kS [],kI 1]] (Sq (Rs [Mv 10 4,Nk 11 10,Fa 12 1 11,Lo 13 12,Bc 14 .neq 13 0] (Cn 14 (Sq (.reg [Pp (.bld 15 [fu .atype true] []),Mv 16 4,Nk 17 16,Fa 18 1 17,Fo [1] [] (.ld 19 1 false false 18),Fo [] [0] (.st none 1 2 15),Mv 3 19] [[],[],[1],[1,2],[1,2,3],[0],rg 0 5]) .ret) .skip)) (Sq (.gh (.fz (.cell 1 0)) (Rg [Mv 20 4,Nk 21 20,Fa 22 0 21,Pp (.ld 23 1 true false 22),Sv 1 2 23,Mi 3 0])) .ret))))
def aj4:List RV:=[.cell 2 1 true,.t 3]
theorem aj5:FnC Tryd.prog alq [23,2000023] 0 abO Tryd.f10 aj3 aj4:=fnC Tryd.func10
def aaI(N:Nat)(i:aa):Ro:=
 let b:=λe d f g h=>(some (.tup [.agg [.sl .atype (.may e) d],.int .i64 f],[some [.sl .atype (.may e) d],some [g,.int .i64 h]]):Ro)
 af (bc ([]:List ac) 0 (reJ i) ([]:Bs) 1) (λa=>
  cond (!(a.2.2==0)) (
   b true ([]:List ac) a.2.2 (.ul .atype a.2.1) a.2.2) (
   b false a.2.1 0 (.sl .atype .own a.2.1) a.2.2))
def aaJ(N:Nat)(a:aa):Ro:=aaI N a
theorem aiy(N:Nat)(d:aa)(h:Tot (aaJ N d) (λz=>∃(a:List ac)(b:Int)(rest:List ai),z.1.dimR=.tup [.agg [.sl .atype (.may false) a],.int .i64 b]∧z.2=rest∧xC d (a,b))):∃r,kN d r:=aj5.finP (N:=N) (by kernel_rfl) h λ_ ⟨a,b,_,e,_,q⟩=>⟨(a,b),e,q⟩
noncomputable def cf:aq:=tab (P:=Tryd.prog) [] [ko,cp,lz] [76] [amM]
def pN:IR:=Sq (Rs [Mv 70 13,Mv 71 10,Ll 72 71,Bi 73 .lss 70 72] (Cn 73 .skip (.exit 2))) (Sq (.block 3 (Sq (.gh (.opn (.cell 0 0)) (.ghp (.cls (.cell 0 0)) (.reg [Mv 76 0,Nk 77 76,Fa 78 0 77,Fo [0] [] (.ld 79 1 true false 78),Mv 80 10,Mv 81 13,Ix 82 (.num .i64) 80 81,Lq 83 82,Fo [0,1] [] (.call 84 76 [79,83]),Mv 85 0,Nk 86 85,Fa 87 0 86,Fo [0] [] (.ld 88 1 true false 87),Mv 89 12,Fo [0,1] [] (.call 90 76 [88,89]),Bi 91 .eql 84 90] [[],[0],[0,1],[0,1,2],[],[],[4,5],[4,5,6],rg 0 7,[],[9],[9,10],[9,10,11],[],rg 0 13,rg 0 14]))) (Cn 91 (Rs [Mv 92 0,Ca 93 38 [92,kI 6],Mv 8 93] .ret) .skip))) (Rg [Mv 74 13,Bc 75 .add 74 1,Mv 13 75]))
def pO:IR:=Rg [Pp (.mov 94 (.tk 10)),Mv 95 12,Pp (.bsl 96 (.num .i64) [95] true),Pp (.app 97 (.num .i64) (.tk 94) 96),Pp (.mov 10 (.tk 97))]
def pP:IR:=Rg [Mv 41 11,Bc 42 .add 41 1,Mv 11 42]
def gw:IR:=Sq (Rs [Mv 29 11,Fa 30 3 5,Lq 31 30,Ll 32 31,Bi 33 .lss 29 32,Mv 34 33,Gt 34 (.mov 35 0),Gt 34 (.nck 36 35),Gt 34 (.fad 37 1 36),Gt 34 (.ld 38 1 false false 37),Gt 34 (.bin 39 .eql 38 (kI 0)),Pa 40 34 39] (Cn 40 .skip (.exit 0))) (Sq (.block 1 (Rs [Mv 43 0,Fa 44 3 5,Lq 45 44,Mv 46 11,Ix 47 .jnode 45 46,Ld 48 5 true 47,Mv 49 2,Mv 50 3,Bc 51 .add 50 1,Ca 52 23 [43,48,49,51],Mv 12 52] (Sq (Rs [Mv 53 0,Nk 54 53,Fa 55 1 54,Lo 56 55,Bc 57 .neq 56 0] (Cn 57 (Rs [Mi 8 0] .ret) .skip)) (Sq (Sq (.gh (.opn (.cell 0 0)) (.ghp (.cls (.cell 0 0)) (Rg [Mv 58 0,Nk 59 58,Fa 60 0 59,Fa 61 0 60,Lo 62 61,Mv 63 12,Pp (.ixw 64 .atype 62 63),Pp (.fdw 65 0 64),Pp (.ldw 66 1 false 65),Bc 67 .eql 66 14]))) (Cn 67 (Rs [Mv 68 0,Ca 69 38 [68,kI 6],Mv 8 69] .ret) .skip)) (Sq (Rs [Mi 13 0] (.block 2 (.loop [0,2,3,5,9,10,11,12,13,1000000] 1 pN))) pO))))) pP)
def kz:IR:=Sq (Rs [Mv 98 0,Nk 99 98,Fa 100 1 99,Lo 101 100,Bc 102 .eql 101 0] (Cn 102 (.gh (.opn (.cell 0 0)) (.ghp (.cls (.cell 0 0)) (Rg [Mv 103 0,Nk 104 103,Fa 105 0 104,Fa 106 0 105,Lo 107 106,Mv 108 9,Mv 109 10,Pp (.ixw 110 .atype 107 108),Pp (.fdw 111 9 110),Pp (.stw none 1 111 109)]))) .skip)) (Rs [Mv 112 9,Mv 8 112] .ret)
def abi:IR:=Rs [Bx 5 1,Mi 8 0] (Rs [Mv 14 0,Pp (.bld 15 [vI 0,vS,fu .str true,vI 0,fu .str true,.bool false,vS,vI 0,fu .afield true,fu (.num .i64) true] [(0,1,kI 14)]),Ca 16 44 [14,15],Mv 9 16] (Sq (Rs [Fa 17 3 5,Lq 18 17,Ll 19 18,Bc 20 .eql 19 0] (Cn 20 (Rs [Mv 21 0,Ca 22 38 [21,kI 6],Mv 8 22] .ret) .skip)) (Sq (Rs [Fa 23 3 5,Lq 24 23,Ll 25 24,Bc 26 .gtr 25 30] (Cn 26 (Rs [Mv 27 0,Ca 28 38 [27,kI 3],Mv 8 28] .ret) .skip)) (Rs [Pp (.mov 10 (.c (nl (.num .i64))))] (Sq (Rs [Mi 11 0] (.block 0 (.loop [0,2,3,5,9,10,11,1000001] 1 gw))) kz)))))
def mE:List RV:=[.t 8]
theorem abj:FnC Tryd.prog cf [23,38,44,76,2000023,2000038,2000044,2000076] 1 th Tryd.f40 abi mE:=fnC Tryd.func40
def iQ(R:IR->(Ex->St->Ro)->St->Ro)(a:St->Ro):Ex->St->Ro:=(b7 a [0,2,3,5,9,10,11,1000001] 1 (aJ 0 (kseq (R kz) (fin mE))))
abbrev cD:Type:=(Bs×Int×aa×Int×List Int×Int×List ac×Int)
def bg(x:cD):St:={env:=(.ptr 0 0::.undef::.str x.1::.int .i64 x.2.1::.undef::.ea (enc .jnode x.2.2.1)::(U 3 (.int .i64 x.2.2.2.1::.sl (.num .i64) .own x.2.2.2.2.1::.int .i64 x.2.2.2.2.2.1::(U 101 [])))),hp:=[some [.ul .atype x.2.2.2.2.2.2.1,.int .i64 x.2.2.2.2.2.2.2]]}
def zS(R:IR->(Ex->St->Ro)->St->Ro)(b a:St->Ro):Ex->St->Ro:=(b7 a [0,2,3,5,9,10,11,12,13,1000000] 1 (aJ 2 (kseq (R pO) (aJ 1 (kseq (R pP) (iQ R b))))))
abbrev iR:Type:=(Bs×Int×aa×Int×List Int×Int×Int×Int×List ac×Int)
def eA(x:iR):St:={env:=(.ptr 0 0::.undef::.str x.1::.int .i64 x.2.1::.undef::.ea (enc .jnode x.2.2.1)::(U 3 (.int .i64 x.2.2.2.1::.sl (.num .i64) .own x.2.2.2.2.1::.int .i64 x.2.2.2.2.2.1::.int .i64 x.2.2.2.2.2.2.1::.int .i64 x.2.2.2.2.2.2.2.1::(U 99 [])))),hp:=[some [.ul .atype x.2.2.2.2.2.2.2.2.1,.int .i64 x.2.2.2.2.2.2.2.2.2]]}
def iS(N:Nat)(b:St->Ro):(St->Ro)->St->Ro:=λa s=>run cf N pN (zS (run cf N) b a) s
def fa(N:Nat)(f:cD->Ro)(e:iR->Ro)(x:iR):Ro:=
 let q:Bs:=x.1;let p:Int:=x.2.1;let o:aa:=x.2.2.1;let t:Int:=x.2.2.2.1;let b:List Int:=x.2.2.2.2.1;let i:Int:=x.2.2.2.2.2.1;let h:Int:=x.2.2.2.2.2.2.1;let g:Int:=x.2.2.2.2.2.2.2.1;let a:List ac:=x.2.2.2.2.2.2.2.2.1;let d:Int:=x.2.2.2.2.2.2.2.2.2;let v:=(↑(Aa b):Int)
 cond (decide (g<v)) (
  chk (decide (0<Aa a)) (
   chk (ixl g b) (
    let A:=An b (Ah g) (ao (.num .i64))
    anD (lL a A) ((AD (Aa a) (Aa a)&&true)) (λ(y:Bs)=>
     anD (lL a h) ((AD (Aa a) (Aa a)&&true)) (λ(w:Bs)=>
      chk (AD (Aa a) (Aa a)) (
       cond (decide (y=w)) (
        af (ag a d 6) (λj=>
         some (.int .i64 j.1,[some [.ul .atype j.2.1,.int .i64 j.2.2],none,none]))) (
        let u:=(Ae .i64 (g+1))
        e (q,p,o,t,b,i,h,u,a,d)))))))) (
  chk (decide ((Aa b+Aa ([h]:List Int))*8<=140737488355328)) (
   let k:=(b++([h]:List Int))
   let m:=(Ae .i64 (i+1))
   f (q,p,o,t,k,m,a,d)))
theorem zn(N:Nat)(a:St->Ro):LB (iS N a) eA (fa N (λy=>a (bg y))):=λ_ _=>by kernel_rfl
def iT(N:Nat):(St->Ro)->St->Ro:=λa s=>run cf N gw (iQ (run cf N) a) s
def ik(N:Nat)(k:cD->Ro)(y:iR->Ro)(x:cD):Ro:=
 let u:Bs:=x.1;let t:Int:=x.2.1;let m:aa:=x.2.2.1;let f:Int:=x.2.2.2.1;let h:List Int:=x.2.2.2.2.1;let g:Int:=x.2.2.2.2.2.1;let a:List ac:=x.2.2.2.2.2.2.1;let b:Int:=x.2.2.2.2.2.2.2;let w:=(↑(Aa m.l):Int)
 let o:=λv C D=>(some (.int .i64 v,[some [.ul .atype C,.int .i64 D],none,none]):Ro)
 let q:=(some (.int .i64 f,[some [.ul .atype a,.int .i64 b]]):Ro)
 cond (decide (g<w)) (
  cond (b==0) (
   chk (ixl g m.l) (
    let E:=(An m.l (Ah g) (ao .jnode))
    let B:=(Ae .i64 (t+1))
    af (bc a b (reJ E) u B) (λe=>
     cond (!(e.2.2==0)) (
      some (.int .i64 0,[some [.ul .atype e.2.1,.int .i64 e.2.2]])) (
      chk (decide (0<Aa e.2.1)) (
       chk ((decide (0<=e.1)&&decide (e.1<↑(Aa e.2.1)))) (
        chk (decide ((Ah e.1)<Aa e.2.1)) (
         let A:=(An e.2.1 (Ah e.1) (ao .atype)).kind
         chk (AD (Aa e.2.1) (Aa e.2.1)) (
          cond (A==14) (
           af (ag e.2.1 e.2.2 6) (λp=>
            o p.1 p.2.1 p.2.2)) (
           y (u,t,m,f,h,g,e.1,0,e.2.1,e.2.2)))))))))) (
   cond (b==0) (
    chk (decide (0<Aa a)) (
     chk ((decide (0<=f)&&decide (f<↑(Aa a)))) (
      chk (decide ((Ah f)<Aa a)) (
       let i:=(Bb a (Ah f) (let d:=An a (Ah f) (ao .atype);⟨d.kind,d.name,d.aliases,d.items,d.syms,d.hasdef,d.df,d.size,d.fields,h⟩))
       chk (AD (Aa a) (Aa i)) (
        o f i b))))) (
    q))) (
  cond (b==0) (
   chk (decide (0<Aa a)) (
    chk ((decide (0<=f)&&decide (f<↑(Aa a)))) (
     chk (decide ((Ah f)<Aa a)) (
      let j:=(Bb a (Ah f) (let d:=An a (Ah f) (ao .atype);⟨d.kind,d.name,d.aliases,d.items,d.syms,d.hasdef,d.df,d.size,d.fields,h⟩))
      chk (AD (Aa a) (Aa j)) (
       o f j b))))) (
   q))
def iU(N:Nat)(a:cD->Ro)(x:cD):Ro:=ik N a (λz=>aK N (fa N a) z) x
def lG(N:Nat)(a:St->Ro):List (Nat×(St->Ro)):=(dv cf N gw (iQ (run cf N) a)++(dv cf N kz (fin mE)++[]))
theorem zo(N:Nat):∀(a:St->Ro)(x:cD),iT N a (bg x)=iU N (λy=>a (bg y)) x:=by
 intro a x;have d:∀C:Nat->St->Ro,cN C cf N gw (iQ (cN C cf N) a) (bg x)=ik N (λy=>a (bg y)) (λz=>C 1000000 (eA z)) x:=by intro C;kernel_rfl
 have h:iT N a (bg x)=ik N (λy=>a (bg y)) (λz=>bi N (iS N a) (eA z)) x:=(fZ (C:=jV (lG N a)) (eq (bU (l:=(lG N a)) (by kernel_rfl))) (wD (nc (qI (eq (mO (bU (l:=(lG N a)) (by kernel_rfl)))) rfl))) _).trans ((d _).trans (by kernel_rfl));have b:(λz=>bi N (iS N a) (eA z))=(λz=>aK N (fa N (λy=>a (bg y))) z):=funext λz=>bm (eA) (iS N a) (fa N (λy=>a (bg y))) (zn N a) N z
 rw[h,b];rfl
def fL(N:Nat)(b:List ac)(d:Int)(g:aa)(j:Bs)(k:Int)(m:cD->Ro):Ro:=
 af (bF b d ⟨14,([]:Bs),([]:Bss),0,([]:Bss),false,([]:Bs),0,([]:List aZ),([]:List Int)⟩) (λa=>
  let h:=(↑(Aa g.l):Int)
  cond (h==0) (
   af (ag a.2.1 a.2.2 6) (λf=>
    some (.int .i64 f.1,[some [.ul .atype f.2.1,.int .i64 f.2.2]]))) (
   let i:=(↑(Aa g.l):Int)
   cond (decide (30<i)) (
    af (ag a.2.1 a.2.2 3) (λe=>
     some (.int .i64 e.1,[some [.ul .atype e.2.1,.int .i64 e.2.2]]))) (
    m (j,k,g,a.1,([]:List Int),0,a.2.1,a.2.2))))
def sa(N:Nat)(a:List ac)(b:Int)(e:aa)(d:Bs)(f:Int):Ro:=fL N a b e d f (λz=>aK N (iU N) z)
theorem zT(N:Nat)(a:List ac)(d:Int)(i:aa)(g:Bs)(j:Int)(h:Tot (sa N a d i g j) (λz=>∃(m:Int)(o:List ac)(k:Int)(rest:List ai),z.1.dimR=.int .i64 m∧z.2=some [.ul .atype o,.int .i64 k]::rest∧dy a d i g j (m,o,k))):∃r,gg a d i g j r:=FnK.finO (css:=[[.ul .atype a,.int .i64 d]]) abj (N:=N) ((cz _ (by kernel_rfl) rfl (λC=>fL N a d i g j (λz=>C 1000001 (bg z))) (λC=>by kernel_rfl)).trans (A8 (b:=fL N a d i g j (λz=>bi N (iT N) (bg z))) (by kernel_rfl) (congrArg (fL N a d i g j) (funext λz=>bm (bg) (iT N) (iU N) (zo N) N z)))) h λ_ ⟨m,o,k,_,e,f,q⟩=>⟨(m,o,k),e,⟨_,f⟩,q⟩
noncomputable def az:aq:=tab (P:=Tryd.prog) [] [ko,cp,n7,nr] [] [lb,xk]
def fV:IR:=Sq (Rs [Mv 81 16,Mv 82 12,Ll 83 82,Bi 84 .lss 81 83] (Cn 84 .skip (.exit 2))) (Sq (.block 3 (Sq (.reg [Mv 87 12,Mv 88 16,Ix 89 .afield 87 88,Fa 90 0 89,Fo [] [] (.ld 91 1 false false 90),Fa 92 0 15,Fo [1] [] (.ld 93 1 false false 92),Bi 94 .eql 91 93] [[],[],[0,1],[0,1,2],rg 0 3,[],[5],rg 0 6]) (Cn 94 (Rg [Mv 95 0,Ca 96 38 [95,kI 5]]) .skip))) (Rg [Mv 85 16,Bc 86 .add 85 1,Mv 16 86]))
def oU:IR:=Sq (Rs [Mv 127 19,Fa 128 1 15,Lo 129 128,Ll 130 129,Bi 131 .lss 127 130,Mv 132 131,Gt 132 (.mov 133 0),Gt 132 (.nck 134 133),Gt 132 (.fad 135 1 134),Gt 132 (.ld 136 1 false false 135),Gt 132 (.bin 137 .eql 136 (kI 0)),Pa 138 132 137] (Cn 138 .skip (.exit 4))) (Sq (.block 5 (Rs [Fa 141 1 15,Lo 142 141,Mv 143 19,Ix 144 .str 142 143,Lq 145 144,Ca 146 104 [145],Un 147 146] (Cn 147 (Rg [Mv 148 0,Ca 149 38 [148,kI 6]]) .skip))) (Rg [Mv 139 19,Bc 140 .add 139 1,Mv 19 140]))
def oV:IR:=Rg [Pp (.mov 150 (.tk 12)),Pp (.ld 151 9 true false 15),Pp (.bsl 152 .afield [151] true),Pp (.app 153 .afield (.tk 150) 152),Pp (.mov 12 (.tk 153))]
def kg:IR:=Rs [Ld 98 5 true 14,Ca 99 41 [98,kS [116,121,112,101]],Mv 97 99,Ex_ 100 0 97,Ex_ 101 1 97,Pp (.alr 17 5),Fz 17 5 100,Mv 18 101] (Sq (Rs [Mv 102 18,Un 103 102] (Cn 103 (Rg [Mv 104 0,Ca 105 38 [104,kI 2]]) .skip)) (Rs [Mv 106 0,Ld 107 5 true 17,Mv 108 3,Mv 109 4,Bc 110 .add 109 1,Ca 111 23 [106,107,108,110],Fa 112 2 15,Sv 1 112 111] (Rs [Ld 114 5 true 14,Ca 115 41 [114,kS [100,101,102,97,117,108,116]],Mv 113 115,Ex_ 116 0 113,Ex_ 117 1 113,Fa 118 4 15,Sv 5 118 116,Fa 119 3 15,Sv 1 119 117] (Rs [Mv 121 0,Ld 122 5 true 14,Ca 123 80 [121,122,kS [97,108,105,97,115,101,115]],Mv 120 123,Ex_ 124 0 120,Ex_ 125 1 120,Fa 126 1 15,Sk 1 126 124] (Sq (Rs [Mi 19 0] (.block 4 (.loop [0,2,3,4,10,12,13,15,19,1000001] 2 oU))) oV)))))
def dU:IR:=Rg [Mv 52 13,Bc 53 .add 52 1,Mv 13 53]
def fW:IR:=Sq (Rs [Mv 40 13,Fa 41 3 10,Lq 42 41,Ll 43 42,Bi 44 .lss 40 43,Mv 45 44,Gt 45 (.mov 46 0),Gt 45 (.nck 47 46),Gt 45 (.fad 48 1 47),Gt 45 (.ld 49 1 false false 48),Gt 45 (.bin 50 .eql 49 (kI 0)),Pa 51 45 50] (Cn 51 .skip (.exit 0))) (Sq (.block 1 (Rs [Fa 54 3 10,Lq 55 54,Mv 56 13,Ix 57 .jnode 55 56,Ld 58 5 true 57,Pp (.alr 14 5),Fz 14 5 58] (Sq (Rs [Fa 59 0 14,Lq 60 59,Bc 61 .neq 60 6] (Cn 61 (Rs [Mv 62 0,Ca 63 38 [62,kI 2]] .ret) .skip)) (Rs [Mv 64 0,Ld 65 5 true 14,Ca 66 77 [64,65,kS [110,97,109,101],kB true],Pp (.bld 67 [vS,nl .str,vI 0,.bool false,vI 0,vI 0,vS,nl .jnode,nl .str] [(0,1,66)]),Pp (.new 15 [vS,nl .str,vI 0,.bool false,vI 0,vI 0,vS,nl .jnode,nl .str]),Sv 9 15 67] (Sq (Rs [Mv 68 0,Nk 69 68,Fa 70 1 69,Lo 71 70,Bc 72 .eql 71 0,Mv 73 72,Gt 73 (.fad 74 0 15),Gt 73 (.ld 75 1 false false 74),Gt 73 (.call 76 104 [75]),Gt 73 (.un 77 .not 76),Pa 78 73 77] (Cn 78 (Rg [Mv 79 0,Ca 80 38 [79,kI 6]]) .skip)) (Sq (Rs [Mi 16 0] (.block 2 (.loop [0,2,3,4,10,12,13,14,15,16,1000000] 2 fV))) kg)))))) dU)
def fX:IR:=Rs [Mv 154 0,Nk 155 154,Fa 156 1 155,Lo 157 156,Bc 158 .eql 157 0] (Cn 158 (.gh (.opn (.cell 0 0)) (.ghp (.cls (.cell 0 0)) (Rg [Mv 159 0,Nk 160 159,Fa 161 0 160,Fa 162 0 161,Lo 163 162,Mv 164 2,Mv 165 12,Pp (.ixw 166 .atype 163 164),Pp (.fdw 167 8 166),Pp (.stw none 1 167 165)]))) .skip)
def zU:IR:=Rs [Bx 6 1] (Rs [Ld 21 5 true 6,Ca 22 41 [21,kS [102,105,101,108,100,115]],Mv 20 22,Ex_ 23 0 20,Ex_ 24 1 20,Pp (.alr 10 5),Fz 10 5 23,Mv 11 24] (Sq (Rs [Mv 25 11,Un 26 25,Mv 27 26,Gf 27 (.fad 28 0 10),Gf 27 (.lde 29 1 false 28),Gf 27 (.bin 30 .neq 29 (kI 5)),Po 31 27 30] (Cn 31 (Rs [Mv 32 0,Ca 33 38 [32,kI 2]] .ret) .skip)) (Sq (Rs [Fa 34 3 10,Lq 35 34,Ll 36 35,Bc 37 .gtr 36 30] (Cn 37 (Rs [Mv 38 0,Ca 39 38 [38,kI 3]] .ret) .skip)) (Rs [Pp (.mov 12 (.c (nl .afield)))] (Sq (Rs [Mi 13 0] (.block 0 (.loop [0,2,3,4,10,12,13,1000002] 1 fW))) fX)))))
def iV:List RV:=[]
theorem zV:FnC Tryd.prog az [23,38,77,80,2000023,2000038,2000077,2000080] 1 rO Tryd.f81 zU iV:=fnC Tryd.func81
def cP(R:IR->(Ex->St->Ro)->St->Ro)(a:St->Ro):Ex->St->Ro:=(b7 a [0,2,3,4,10,12,13,1000002] 1 (aJ 0 (kseq (R fX) (fin iV))))
abbrev bN:Type:=(Int×Bs×Int×aa×List aZ×Int×List ac×Int)
def aD(x:bN):St:={env:=(.ptr 0 0::.undef::.int .i64 x.1::.str x.2.1::.int .i64 x.2.2.1::(U 5 (.ea (enc .jnode x.2.2.2.1)::.undef::.sl .afield .own x.2.2.2.2.1::.int .i64 x.2.2.2.2.2.1::(U 154 [])))),hp:=[some [.ul .atype x.2.2.2.2.2.2.1,.int .i64 x.2.2.2.2.2.2.2]]}
def lj(R:IR->(Ex->St->Ro)->St->Ro)(b a:St->Ro):Ex->St->Ro:=(b7 a [0,2,3,4,10,12,13,14,15,16,1000000] 2 (aJ 2 (kseq (R kg) (aJ 1 (kseq (R dU) (cP R b))))))
abbrev cQ:Type:=(Int×Bs×Int×aa×List aZ×Int×aa×Int×List ac×Int×Bs×Bss×Int×Bool×Int×Int×Bs×List aa×Bss)
def bI(x:cQ):St:={env:=(.ptr 0 0::.undef::.int .i64 x.1::.str x.2.1::.int .i64 x.2.2.1::(U 5 (.ea (enc .jnode x.2.2.2.1)::.undef::.sl .afield .own x.2.2.2.2.1::.int .i64 x.2.2.2.2.2.1::.ea (enc .jnode x.2.2.2.2.2.2.1)::.ptr 1 0::.int .i64 x.2.2.2.2.2.2.2.1::(U 151 [])))),hp:=[some [.ul .atype x.2.2.2.2.2.2.2.2.1,.int .i64 x.2.2.2.2.2.2.2.2.2.1],some [.str x.2.2.2.2.2.2.2.2.2.2.1,.sl .str .own x.2.2.2.2.2.2.2.2.2.2.2.1,.int .i64 x.2.2.2.2.2.2.2.2.2.2.2.2.1,.bool x.2.2.2.2.2.2.2.2.2.2.2.2.2.1,.int .i64 x.2.2.2.2.2.2.2.2.2.2.2.2.2.2.1,.int .i64 x.2.2.2.2.2.2.2.2.2.2.2.2.2.2.2.1,.str x.2.2.2.2.2.2.2.2.2.2.2.2.2.2.2.2.1,.sl .jnode .own x.2.2.2.2.2.2.2.2.2.2.2.2.2.2.2.2.2.1,.sl .str .own x.2.2.2.2.2.2.2.2.2.2.2.2.2.2.2.2.2.2]]}
def zp(R:IR->(Ex->St->Ro)->St->Ro)(b a:St->Ro):Ex->St->Ro:=(b7 a [0,2,3,4,10,12,13,15,19,1000001] 2 (aJ 4 (kseq (R oV) (aJ 1 (kseq (R dU) (cP R b))))))
abbrev im:Type:=(Int×Bs×Int×aa×List aZ×Int×Int×List ac×Int×Bs×Bss×Int×Bool×Int×Int×Bs×List aa×Bss)
def ee(x:im):St:={env:=(.ptr 0 0::.undef::.int .i64 x.1::.str x.2.1::.int .i64 x.2.2.1::(U 5 (.ea (enc .jnode x.2.2.2.1)::.undef::.sl .afield .own x.2.2.2.2.1::.int .i64 x.2.2.2.2.2.1::.undef::.ptr 1 0::(U 3 (.int .i64 x.2.2.2.2.2.2.1::(U 148 [])))))),hp:=[some [.ul .atype x.2.2.2.2.2.2.2.1,.int .i64 x.2.2.2.2.2.2.2.2.1],some [.str x.2.2.2.2.2.2.2.2.2.1,.sl .str (.may false) x.2.2.2.2.2.2.2.2.2.2.1,.int .i64 x.2.2.2.2.2.2.2.2.2.2.2.1,.bool x.2.2.2.2.2.2.2.2.2.2.2.2.1,.int .i64 x.2.2.2.2.2.2.2.2.2.2.2.2.2.1,.int .i64 x.2.2.2.2.2.2.2.2.2.2.2.2.2.2.1,.str x.2.2.2.2.2.2.2.2.2.2.2.2.2.2.2.1,.sl .jnode (.may false) x.2.2.2.2.2.2.2.2.2.2.2.2.2.2.2.2.1,.sl .str (.may false) x.2.2.2.2.2.2.2.2.2.2.2.2.2.2.2.2.2]]}
def io(N:Nat)(b:St->Ro):(St->Ro)->St->Ro:=λa s=>run az N oU (zp (run az N) b a) s
def dA(N:Nat)(o:bN->Ro)(t:im->Ro)(x:im):Ro:=
 let I:Int:=x.1;let F:Bs:=x.2.1;let E:Int:=x.2.2.1;let u:aa:=x.2.2.2.1;let p:List aZ:=x.2.2.2.2.1;let v:Int:=x.2.2.2.2.2.1;let q:Int:=x.2.2.2.2.2.2.1;let m:List ac:=x.2.2.2.2.2.2.2.1;let d:Int:=x.2.2.2.2.2.2.2.2.1;let g:Bs:=x.2.2.2.2.2.2.2.2.2.1;let a:Bss:=x.2.2.2.2.2.2.2.2.2.2.1;let b:Int:=x.2.2.2.2.2.2.2.2.2.2.2.1;let h:Bool:=x.2.2.2.2.2.2.2.2.2.2.2.2.1;let i:Int:=x.2.2.2.2.2.2.2.2.2.2.2.2.2.1;let j:Int:=x.2.2.2.2.2.2.2.2.2.2.2.2.2.2.1;let f:Bs:=x.2.2.2.2.2.2.2.2.2.2.2.2.2.2.2.1;let e:List aa:=x.2.2.2.2.2.2.2.2.2.2.2.2.2.2.2.2.1;let k:Bss:=x.2.2.2.2.2.2.2.2.2.2.2.2.2.2.2.2.2;let M:=(↑(Aa a):Int)
 let L:=λO P Q=>t (I,F,E,u,p,v,O,P,Q,g,a,b,h,i,j,f,e,k)
 cond (decide (q<M)) (
  cond (d==0) (
   chk (ixl q a) (
    let C:=An a (Ah q) (ao .str)
    af (fU C) (λ(H:Bool)=>
     cond (!H) (
      af (ag m d 6) (λw=>
       let J:=(Ae .i64 (q+1))
       L J w.2.1 w.2.2)) (
      let A:=(Ae .i64 (q+1))
      L A m d)))) (
   chk (decide ((Aa p+Aa ([⟨g,a,b,h,⟨i,j,f,e,k⟩⟩]:List aZ))*136<=140737488355328)) (
    let G:=(p++([⟨g,a,b,h,⟨i,j,f,e,k⟩⟩]:List aZ))
    let D:=(Ae .i64 (v+1))
    o (I,F,E,u,G,D,m,d)))) (
  chk (decide ((Aa p+Aa ([⟨g,a,b,h,⟨i,j,f,e,k⟩⟩]:List aZ))*136<=140737488355328)) (
   let y:=(p++([⟨g,a,b,h,⟨i,j,f,e,k⟩⟩]:List aZ))
   let B:=(Ae .i64 (v+1))
   o (I,F,E,u,y,B,m,d)))
theorem yg(N:Nat)(a:St->Ro):LB (io N a) ee (dA N (λy=>a (aD y))):=λ_ _=>by kernel_rfl
def eF(N:Nat)(b:St->Ro):(St->Ro)->St->Ro:=λa s=>run az N fV (lj (run az N) b a) s
def gz(N:Nat)(I:bN->Ro)(j:cQ->Ro)(M:im->Ro)(x:cQ):Ro:=
 let L:Int:=x.1;let E:Bs:=x.2.1;let D:Int:=x.2.2.1;let k:aa:=x.2.2.2.1;let h:List aZ:=x.2.2.2.2.1;let o:Int:=x.2.2.2.2.2.1;let f:aa:=x.2.2.2.2.2.2.1;let i:Int:=x.2.2.2.2.2.2.2.1;let a:List ac:=x.2.2.2.2.2.2.2.2.1;let b:Int:=x.2.2.2.2.2.2.2.2.2.1;let d:Bs:=x.2.2.2.2.2.2.2.2.2.2.1;let F:Bss:=x.2.2.2.2.2.2.2.2.2.2.2.1;let v:Int:=x.2.2.2.2.2.2.2.2.2.2.2.2.1;let B:Bool:=x.2.2.2.2.2.2.2.2.2.2.2.2.2.1;let C:Int:=x.2.2.2.2.2.2.2.2.2.2.2.2.2.2.1;let G:Int:=x.2.2.2.2.2.2.2.2.2.2.2.2.2.2.2.1;let A:Bs:=x.2.2.2.2.2.2.2.2.2.2.2.2.2.2.2.2.1;let w:List aa:=x.2.2.2.2.2.2.2.2.2.2.2.2.2.2.2.2.2.1;let H:Bss:=x.2.2.2.2.2.2.2.2.2.2.2.2.2.2.2.2.2.2;let Z:=(↑(Aa h):Int)
 let O:=λQ X Y=>j (L,E,D,k,h,o,f,Q,X,Y,d,F,v,B,C,G,A,w,H)
 cond (decide (i<Z)) (
  chk (ixl i h) (
   let W:=(An h (Ah i) (ao .afield))
   cond (decide (W.name=d)) (
    af (ag a b 5) (λP=>
     let R:=(Ae .i64 (i+1))
     O R P.2.1 P.2.2)) (
    let S:=(Ae .i64 (i+1))
    O S a b))) (
  af (aR (reJ f) ([116,121,112,101]:Bs)) (λq=>
   cond (!q.2) (
    af (ag a b 2) (λy=>
     let x8:=(Ae .i64 (D+1))
     af (bc y.2.1 y.2.2 (reJ q.1) E x8) (λp=>
      af (aR (reJ f) ([100,101,102,97,117,108,116]:Bs)) (λe=>
       af (bJ p.2.1 p.2.2 (reJ f) ([97,108,105,97,115,101,115]:Bs)) (λt=>
        M (L,E,D,k,h,o,0,t.2.2.1,t.2.2.2,d,t.1,p.1,e.2,e.1.kind,e.1.n,e.1.s,e.1.l,e.1.names)))))) (
    let J:=(Ae .i64 (D+1))
    af (bc a b (reJ q.1) E J) (λu=>
     af (aR (reJ f) ([100,101,102,97,117,108,116]:Bs)) (λg=>
      af (bJ u.2.1 u.2.2 (reJ f) ([97,108,105,97,115,101,115]:Bs)) (λm=>
       M (L,E,D,k,h,o,0,m.2.2.1,m.2.2.2,d,m.1,u.1,g.2,g.1.kind,g.1.n,g.1.s,g.1.l,g.1.names)))))))
def dB(N:Nat)(a:bN->Ro)(b:cQ->Ro)(x:cQ):Ro:=gz N a b (λz=>aK N (dA N a) z) x
def eG(N:Nat)(a b:St->Ro):List (Nat×(St->Ro)):=(dv az N fV (lj (run az N) a b)++(dv az N kg (aJ 1 (kseq (run az N dU) (cP (run az N) a)))++(dv az N dU (cP (run az N) a)++(dv az N fX (fin iV)++[]))))
theorem yh(N:Nat)(a:St->Ro):∀(b:St->Ro)(x:cQ),eF N a b (bI x)=dB N (λy=>a (aD y)) (λy=>b (bI y)) x:=by
 intro b x;have d:∀C:Nat->St->Ro,cN C az N fV (lj (cN C az N) a b) (bI x)=gz N (λy=>a (aD y)) (λy=>b (bI y)) (λz=>C 1000001 (ee z)) x:=by intro C;kernel_rfl
 have h:eF N a b (bI x)=gz N (λy=>a (aD y)) (λy=>b (bI y)) (λz=>bi N (io N a) (ee z)) x:=(fZ (C:=jV (eG N a b)) (eq (bU (l:=(eG N a b)) (by kernel_rfl))) (wD (nc (qI (eq (mO (bU (l:=(eG N a b)) (by kernel_rfl)))) (nc (qI (eq (mO (mO (bU (l:=(eG N a b)) (by kernel_rfl))))) (wD (nc (qI (eq (mO (mO (mO (bU (l:=(eG N a b)) (by kernel_rfl)))))) rfl)))))))) _).trans ((d _).trans (by kernel_rfl));have e:(λz=>bi N (io N a) (ee z))=(λz=>aK N (dA N (λy=>a (aD y))) z):=funext λz=>bm (ee) (io N a) (dA N (λy=>a (aD y))) (yg N a) N z
 rw[h,e];rfl
def iq(N:Nat):(St->Ro)->St->Ro:=λa s=>run az N fW (cP (run az N) a) s
def eg(N:Nat)(p:bN->Ro)(B:cQ->Ro)(x:bN):Ro:=
 let e:Int:=x.1;let D:Bs:=x.2.1;let C:Int:=x.2.2.1;let g:aa:=x.2.2.2.1;let i:List aZ:=x.2.2.2.2.1;let h:Int:=x.2.2.2.2.2.1;let a:List ac:=x.2.2.2.2.2.2.1;let b:Int:=x.2.2.2.2.2.2.2;let E:=(↑(Aa g.l):Int)
 let t:=λk u=>(some (.tup [],[some [.ul .atype k,.int .i64 u]]):Ro)
 let v:=λk=>(some (.tup [],[some [.ul .atype k,.int .i64 b],none,none]):Ro)
 let q:=λk u G A=>B (e,D,C,g,i,h,k,0,u,G,A,([]:Bss),0,false,0,0,([]:Bs),([]:List aa),([]:Bss))
 cond (decide (h<E)) (
  cond (b==0) (
   chk (ixl h g.l) (
    let m:=(An g.l (Ah h) (ao .jnode))
    cond (!(m.kind==6)) (
     af (ag a b 2) (λy=>
      t y.2.1 y.2.2)) (
     af (cq a b (reJ m) ([110,97,109,101]:Bs) true) (λf=>
      cond (f.2.2==0) (
       af (fU f.1) (λ(F:Bool)=>
        cond (!F) (
         af (ag f.2.1 f.2.2 6) (λw=>
          q m w.2.1 w.2.2 f.1)) (
         q m f.2.1 f.2.2 f.1))) (
       q m f.2.1 f.2.2 f.1))))) (
   cond (b==0) (
    chk (decide (0<Aa a)) (
     chk ((decide (0<=e)&&decide (e<↑(Aa a)))) (
      chk (decide ((Ah e)<Aa a)) (
       let j:=(Bb a (Ah e) (let d:=An a (Ah e) (ao .atype);⟨d.kind,d.name,d.aliases,d.items,d.syms,d.hasdef,d.df,d.size,i,d.branches⟩))
       chk (AD (Aa a) (Aa j)) (
        v j))))) (
    t a b))) (
  cond (b==0) (
   chk (decide (0<Aa a)) (
    chk ((decide (0<=e)&&decide (e<↑(Aa a)))) (
     chk (decide ((Ah e)<Aa a)) (
      let o:=(Bb a (Ah e) (let d:=An a (Ah e) (ao .atype);⟨d.kind,d.name,d.aliases,d.items,d.syms,d.hasdef,d.df,d.size,i,d.branches⟩))
      chk (AD (Aa a) (Aa o)) (
       v o))))) (
   t a b))
def cR(N:Nat)(a:bN->Ro)(x:bN):Ro:=eg N a (λz=>aK N (dB N a) z) x
def lk(N:Nat)(a:St->Ro):List (Nat×(St->Ro)):=(dv az N fW (cP (run az N) a)++(dv az N fX (fin iV)++[]))
theorem yi(N:Nat):∀(a:St->Ro)(x:bN),iq N a (aD x)=cR N (λy=>a (aD y)) x:=by
 intro a x;have d:∀C:Nat->St->Ro,cN C az N fW (cP (cN C az N) a) (aD x)=eg N (λy=>a (aD y)) (λz=>C 1000000 (bI z)) x:=by intro C;kernel_rfl
 have h:iq N a (aD x)=eg N (λy=>a (aD y)) (λz=>bi N (eF N a) (bI z)) x:=(fZ (C:=jV (lk N a)) (eq (bU (l:=(lk N a)) (by kernel_rfl))) (wD (nc (qI (eq (mO (bU (l:=(lk N a)) (by kernel_rfl)))) rfl))) _).trans ((d _).trans (by kernel_rfl));have b:(λz=>bi N (eF N a) (bI z))=(λz=>aK N (dB N (λy=>a (aD y))) z):=funext λz=>bm (bI) (eF N a) (dB N (λy=>a (aD y))) (yh N a) N z
 rw[h,b];rfl
def dN(N:Nat)(a:List ac)(b:Int)(p:aa)(m:Int)(i:Bs)(o:Int)(t:bN->Ro):Ro:=
 let e:=λq k=>(some (.tup [],[some [.ul .atype q,.int .i64 k]]):Ro)
 af (aR (reJ p) ([102,105,101,108,100,115]:Bs)) (λd=>
  cond (!d.2) (
   af (ag a b 2) (λh=>
    e h.2.1 h.2.2)) (
   cond (!(d.1.kind==5)) (
    af (ag a b 2) (λg=>
     e g.2.1 g.2.2)) (
    let j:=(↑(Aa d.1.l):Int)
    cond (decide (30<j)) (
     af (ag a b 3) (λf=>
      e f.2.1 f.2.2)) (
     t (m,i,o,d.1,([]:List aZ),0,a,b)))))
def lH(N:Nat)(a:List ac)(b:Int)(f:aa)(e:Int)(g:Bs)(d:Int):Ro:=dN N a b f e g d (λz=>aK N (cR N) z)
theorem qr(N:Nat)(a:List ac)(d:Int)(j:aa)(i:Int)(k:Bs)(g:Int)(h:Tot (lH N a d j i k g) (λz=>∃(m:List ac)(o:Int)(rest:List ai),z.1.dimR=.tup []∧z.2=some [.ul .atype m,.int .i64 o]::rest∧bq a d j i k g (m,o))):∃r,bD a d j i k g r:=FnK.finO (css:=[[.ul .atype a,.int .i64 d]]) zV (N:=N) ((cz _ (by kernel_rfl) rfl (λC=>dN N a d j i k g (λz=>C 1000002 (aD z))) (λC=>by kernel_rfl)).trans (A8 (b:=dN N a d j i k g (λz=>bi N (iq N) (aD z))) (by kernel_rfl) (congrArg (dN N a d j i k g) (funext λz=>bm (aD) (iq N) (cR N) (yi N) N z)))) h λ_ ⟨m,o,_,e,f,q⟩=>⟨(m,o),e,⟨_,f⟩,q⟩
noncomputable def adV:aq:=tab (P:=Tryd.prog) [] [] [] []
def act:IR:=Rs [Mi 4 0] (Sq (Rs [Mv 5 0,Nk 6 5,Fa 7 1 6,Lo 8 7,Bc 9 .eql 8 0] (Cn 9 (Rg [Mv 10 0,Mv 11 1,Nk 12 10,Fa 13 1 12,Sv 1 13 11]) .skip)) (Rs [Mi 4 0] .ret))
def acu:List RV:=[.t 4]
theorem acv:FnC Tryd.prog adV [] 1 uq Tryd.f38 act acu:=fnC Tryd.func38
def tB(N:Nat)(b:List ac)(a f:Int):Ro:=
 let d:=λe=>(some (.int .i64 0,[some [.ul .atype b,.int .i64 e]]):Ro)
 cond (a==0) (
  d f) (
  d a)
def tC(N:Nat)(a:List ac)(b d:Int):Ro:=tB N a b d
theorem abk(N:Nat)(a:List ac)(b j:Int)(h:Tot (tC N a b j) (λz=>∃(g:Int)(i:List ac)(d:Int)(rest:List ai),z.1.dimR=.int .i64 g∧z.2=some [.ul .atype i,.int .i64 d]::rest∧iE a b j (g,i,d))):∃r,ag a b j r:=FnK.finO (css:=[[.ul .atype a,.int .i64 b]]) acv (N:=N) (by kernel_rfl) h λ_ ⟨g,i,d,_,e,f,q⟩=>⟨(g,i,d),e,⟨_,f⟩,q⟩
noncomputable def afe:aq:=tab (P:=Tryd.prog) [] [cp] [] []
def adW:IR:=Rs [Bx 3 1,Mi 4 0] (Sq (Rs [Mv 5 0,Nk 6 5,Fa 7 0 6,Fa 8 0 7,Lo 9 8,Pp (.lnw 10 9),Bc 11 .geq 10 60] (Cn 11 (Rs [Mv 12 0,Ca 13 38 [12,kI 3],Mv 4 13] .ret) .skip)) (Sq (.reg [Mv 14 0,Mv 15 0,Nk 16 15,Fa 17 0 16,Fa 18 0 17,Fo [] [0] (.ld 19 1 false true 18),Ld 20 10 true 3,Pp (.bsl 21 .atype [20] true),Pp (.apu 22 .atype (.tk 19) 21),Nk 23 14,Fa 24 0 23,Fa 25 0 24,Fo [] [0] (.st none 1 25 (.tk 22))] [[],[],[1],[1,2],[1,2,3],rg 1 4,[],[6],rg 1 7,rg 0 8,rg 0 9,rg 0 10,rg 0 11]) (Rs [Mv 26 0,Nk 27 26,Fa 28 0 27,Fa 29 0 28,Lo 30 29,Pp (.lnw 31 30),Bc 32 .sub 31 1,Mv 4 32] .ret)))
def adX:List RV:=[.t 4]
theorem adY:FnC Tryd.prog afe [38,2000038] 1 vf Tryd.f44 adW adX:=fnC Tryd.func44
def uP(N:Nat)(a:List ac)(b:Int)(f:ac):Ro:=
 let g:=(↑(Aa a):Int)
 cond (decide (60<=g)) (
  af (ag a b 3) (λd=>
   some (.int .i64 d.1,[some [.ul .atype d.2.1,.int .i64 d.2.2]]))) (
  chk (decide ((Aa a+Aa ([f]:List ac))*160<=140737488355328)) (
   let e:=(a++([f]:List ac))
   let h:=(↑(Aa e):Int)
   let i:=(Ae .i64 (h-1))
   some (.int .i64 i,[some [.ul .atype e,.int .i64 b]])))
def uQ(N:Nat)(a:List ac)(b:Int)(d:ac):Ro:=uP N a b d
theorem acw(N:Nat)(a:List ac)(b:Int)(j:ac)(h:Tot (uQ N a b j) (λz=>∃(g:Int)(i:List ac)(d:Int)(rest:List ai),z.1.dimR=.int .i64 g∧z.2=some [.ul .atype i,.int .i64 d]::rest∧fy a b j (g,i,d))):∃r,bF a b j r:=FnK.finO (css:=[[.ul .atype a,.int .i64 b]]) adY (N:=N) (by kernel_rfl) h λ_ ⟨g,i,d,_,e,f,q⟩=>⟨(g,i,d),e,⟨_,f⟩,q⟩
noncomputable def oB:aq:=tab (P:=Tryd.prog) [] [] [] []
def rp:IR:=Sq (Rs [Mv 8 6,Mv 9 0,Nk 10 9,Fa 11 0 10,Fa 12 0 11,Lo 13 12,Pp (.lnw 14 13),Bi 15 .lss 8 14] (Cn 15 .skip (.exit 0))) (Sq (.block 1 (Sq (.gh (.opn (.cell 0 0)) (.ghp (.cls (.cell 0 0)) (Rg [Mv 18 0,Nk 19 18,Fa 20 0 19,Fa 21 0 20,Lo 22 21,Mv 23 6,Pp (.ixw 24 .atype 22 23),Pp (.ldw 25 10 true 24),Pp (.alr 7 10),Fz 7 10 25]))) (Rs [Fa 26 1 7,Lq 27 26,Mv 28 1,Bi 29 .eql 27 28,Mv 30 29,Gt 30 (.fad 31 0 7),Gt 30 (.lde 32 1 false 31),Gt 30 (.bin 33 .geq 32 (kI 9)),Pa 34 30 33,Mv 35 34,Gt 35 (.fad 36 0 7),Gt 35 (.lde 37 1 false 36),Gt 35 (.bin 38 .leq 37 (kI 11)),Pa 39 35 38] (Cn 39 (Rs [Mv 40 6,Mv 4 40,Mb 5 true] .ret) .skip)))) (Rg [Mv 16 6,Bc 17 .add 16 1,Mv 6 17]))
def rq:IR:=Rs [Mi 4 0,Mb 5 false] .ret
def acx:IR:=Rs [Mi 4 0,Mb 5 false] (Sq (Rs [Mi 6 0] (.block 0 (.loop [0,1,6,1000000] 1 rp))) rq)
def tD:List RV:=[.t 4,.t 5]
theorem acy:FnC Tryd.prog oB [] 1 ur Tryd.f75 acx tD:=fnC Tryd.func75
def abl(R:IR->(Ex->St->Ro)->St->Ro)(a:St->Ro):Ex->St->Ro:=(b7 a [0,1,6,1000000] 1 (aJ 0 (kseq (R rq) (fin tD))))
abbrev jK:Type:=(Bs×Int×List ac×Int)
def iW(x:jK):St:={env:=(.ptr 0 0::.str x.1::(U 4 (.int .i64 x.2.1::(U 34 [])))),hp:=[some [.ul .atype x.2.2.1,.int .i64 x.2.2.2]]}
def mF(N:Nat):(St->Ro)->St->Ro:=λa s=>run oB N rp (abl (run oB N) a) s
def jL(N:Nat)(b:jK->Ro)(x:jK):Ro:=
 let f:Bs:=x.1;let e:Int:=x.2.1;let a:List ac:=x.2.2.1;let d:Int:=x.2.2.2;let h:=(↑(Aa a):Int)
 cond (decide (e<h)) (
  chk (decide (0<Aa a)) (
   chk ((decide (0<=e)&&decide (e<↑(Aa a)))) (
    chk (decide ((Ah e)<Aa a)) (
     let g:=(An a (Ah e) (ao .atype))
     chk (AD (Aa a) (Aa a)) (
      cond (decide (g.name=f)) (
       cond (decide (9<=g.kind)) (
        cond (decide (g.kind<=11)) (
         some (.tup [.int .i64 e,.bool true],[some [.ul .atype a,.int .i64 d],none,none])) (
         let k:=(Ae .i64 (e+1))
         b (f,k,a,d))) (
        let j:=(Ae .i64 (e+1))
        b (f,j,a,d))) (
       let i:=(Ae .i64 (e+1))
       b (f,i,a,d))))))) (
  some (.tup [.int .i64 0,.bool false],[some [.ul .atype a,.int .i64 d]]))
theorem zW(N:Nat):LB (mF N) iW (jL N):=λ_ _=>by kernel_rfl
def gq(N:Nat)(b:List ac)(a:Int)(d:Bs)(e:jK->Ro):Ro:=
 e (d,0,b,a)
def tE(N:Nat)(b:List ac)(a:Int)(d:Bs):Ro:=gq N b a d (λz=>aK N (jL N) z)
theorem abm(N:Nat)(a:List ac)(d:Int)(g:Bs)(h:Tot (tE N a d g) (λz=>∃(k:Int)(m:Bool)(j:List ac)(i:Int)(rest:List ai),z.1.dimR=.tup [.int .i64 k,.bool m]∧z.2=some [.ul .atype j,.int .i64 i]::rest∧cZ a d g (k,m,j,i))):∃r,bO a d g r:=FnK.finO (css:=[[.ul .atype a,.int .i64 d]]) acy (N:=N) ((cz _ (by kernel_rfl) rfl (λC=>gq N a d g (λz=>C 1000000 (iW z))) (λC=>by kernel_rfl)).trans (A8 (b:=gq N a d g (λz=>bi N (mF N) (iW z))) (by kernel_rfl) (congrArg (gq N a d g) (funext λz=>bm (iW) (mF N) (jL N) (zW N) N z)))) h λ_ ⟨k,m,j,i,_,e,f,q⟩=>⟨(k,m,j,i),e,⟨_,f⟩,q⟩
noncomputable def oC:aq:=tab (P:=Tryd.prog) [] [cp,lz,uz] [] [abX]
def rt:IR:=Sq (Rs [Mv 26 9,Mv 27 1,Pp (.lens 28 27),Bi 29 .lss 26 28] (Cn 29 .skip (.exit 0))) (Sq (.block 1 (Rg [Mv 32 8,Mv 33 32,Gf 33 (.mov 34 1),Gf 33 (.mov 35 9),Gf 33 (.idx 36 34 35),Gf 33 (.bin 37 .eql 36 (.c (.int .u8 46))),Po 38 33 37,Mv 8 38])) (Rg [Mv 30 9,Bc 31 .add 30 1,Mv 9 31]))
def qt:IR:=Sq (Rs [Mv 39 8,Un 40 39,Mv 41 40,Gt 41 (.mov 42 2),Gt 41 (.bin 43 .neq 42 (kS [])),Pa 44 41 43] (Cn 44 (Rs [Mv 46 0,Mv 47 2,Pp (.bin 48 .add 47 (kS [46])),Mv 49 1,Bi 50 .add 48 49,Ca 51 75 [46,50],Mv 45 51,Ex_ 52 0 45,Ex_ 53 1 45,Mv 10 52,Mv 11 53] (Rs [Mv 54 11] (Cn 54 (Rs [Mv 55 10,Mv 6 55] .ret) .skip))) .skip)) (Rs [Mv 57 0,Mv 58 1,Ca 59 75 [57,58],Mv 56 59,Ex_ 60 0 56,Ex_ 61 1 56,Mv 12 60,Mv 13 61] (Sq (Rs [Mv 62 13,Un 63 62] (Cn 63 (Rs [Mv 64 0,Ca 65 38 [64,kI 4],Mv 6 65] .ret) .skip)) (Rs [Mv 66 12,Mv 6 66] .ret)))
def acz:IR:=Rs [Mi 6 0] (Rs [Mv 14 1,Ca 15 43 [14],Mv 7 15] (Sq (Rs [Mv 16 7,Bc 17 .geq 16 1,Mv 18 17,Gt 18 (.mov 19 7),Gt 18 (.bin 20 .leq 19 (kI 8)),Pa 21 18 20] (Cn 21 (Rs [Mv 22 0,Mv 23 7,Pp (.bld 24 [vI 0,vS,fu .str true,vI 0,fu .str true,.bool false,vS,vI 0,fu .afield true,fu (.num .i64) true] [(0,1,23)]),Ca 25 44 [22,24],Mv 6 25] .ret) .skip)) (Rs [Mb 8 false] (Sq (Rs [Mi 9 0] (.block 0 (.loop [0,1,2,8,9,1000000] 1 rt))) qt))))
def tG:List RV:=[.t 6]
theorem acA:FnC Tryd.prog oC [38,44,75,2000038,2000044,2000075] 1 uu Tryd.f39 acz tG:=fnC Tryd.func39
def abn(R:IR->(Ex->St->Ro)->St->Ro)(a:St->Ro):Ex->St->Ro:=(b7 a [0,1,2,8,9,1000000] 1 (aJ 0 (kseq (R qt) (fin tG))))
abbrev jM:Type:=(Bs×Bs×Bool×Int×List ac×Int)
def iX(x:jM):St:={env:=(.ptr 0 0::.str x.1::.str x.2.1::(U 5 (.bool x.2.2.1::.int .i64 x.2.2.2.1::(U 57 [])))),hp:=[some [.ul .atype x.2.2.2.2.1,.int .i64 x.2.2.2.2.2]]}
def mG(N:Nat):(St->Ro)->St->Ro:=λa s=>run oC N rt (abn (run oC N) a) s
def fM(N:Nat)(d:jM->Ro)(x:jM):Ro:=
 let e:Bs:=x.1;let j:Bs:=x.2.1;let t:Bool:=x.2.2.1;let k:Int:=x.2.2.2.1;let a:List ac:=x.2.2.2.2.1;let b:Int:=x.2.2.2.2.2;let y:=(↑(Aa e):Int)
 cond (decide (k<y)) (
  cond t (
   let w:=(Ae .i64 (k+1))
   d (e,j,true,w,a,b)) (
   chk (ixl k e) (
    let u:=(↑(AJ (An e (Ah k) 0)):Int)
    let A:=(Ae .i64 (k+1))
    d (e,j,(u==46),A,a,b)))) (
  cond (!t) (
   let v:=(!decide (j=([]:Bs)))
   cond v (
    chk (decide (Aa j+Aa ([46]:Bs)<=9223372036854775807)) (
     let q:=(j++([46]:Bs))
     chk (decide (Aa q+Aa e<=9223372036854775807)) (
      af (bO a b (q++e)) (λh=>
       cond h.2.1 (
        some (.int .i64 h.1,[some [.ul .atype h.2.2.1,.int .i64 h.2.2.2]])) (
        af (bO h.2.2.1 h.2.2.2 e) (λf=>
         cond (!f.2.1) (
          af (ag f.2.2.1 f.2.2.2 4) (λo=>
           some (.int .i64 o.1,[some [.ul .atype o.2.1,.int .i64 o.2.2]]))) (
          some (.int .i64 f.1,[some [.ul .atype f.2.2.1,.int .i64 f.2.2.2]])))))))) (
    af (bO a b e) (λi=>
     cond (!i.2.1) (
      af (ag i.2.2.1 i.2.2.2 4) (λm=>
       some (.int .i64 m.1,[some [.ul .atype m.2.1,.int .i64 m.2.2]]))) (
      some (.int .i64 i.1,[some [.ul .atype i.2.2.1,.int .i64 i.2.2.2]]))))) (
   af (bO a b e) (λg=>
    cond (!g.2.1) (
     af (ag g.2.2.1 g.2.2.2 4) (λp=>
      some (.int .i64 p.1,[some [.ul .atype p.2.1,.int .i64 p.2.2]]))) (
     some (.int .i64 g.1,[some [.ul .atype g.2.2.1,.int .i64 g.2.2.2]])))))
theorem zX(N:Nat):LB (mG N) iX (fM N):=λ_ _=>by kernel_rfl
def gr(N:Nat)(a:List ac)(b:Int)(f g:Bs)(h:jM->Ro):Ro:=
 af (dz f) (λ(d:Int)=>
  cond (decide (1<=d)) (
   cond (decide (d<=8)) (
    af (bF a b ⟨d,([]:Bs),([]:Bss),0,([]:Bss),false,([]:Bs),0,([]:List aZ),([]:List Int)⟩) (λe=>
     some (.int .i64 e.1,[some [.ul .atype e.2.1,.int .i64 e.2.2]]))) (
    h (f,g,false,0,a,b))) (
   h (f,g,false,0,a,b)))
def tH(N:Nat)(a:List ac)(b:Int)(e d:Bs):Ro:=gr N a b e d (λz=>aK N (fM N) z)
theorem abo(N:Nat)(a:List ac)(d:Int)(i g:Bs)(h:Tot (tH N a d i g) (λz=>∃(k:Int)(m:List ac)(j:Int)(rest:List ai),z.1.dimR=.int .i64 k∧z.2=some [.ul .atype m,.int .i64 j]::rest∧eY a d i g (k,m,j))):∃r,eS a d i g r:=FnK.finO (css:=[[.ul .atype a,.int .i64 d]]) acA (N:=N) ((cz _ (by kernel_rfl) rfl (λC=>gr N a d i g (λz=>C 1000000 (iX z))) (λC=>by kernel_rfl)).trans (A8 (b:=gr N a d i g (λz=>bi N (mG N) (iX z))) (by kernel_rfl) (congrArg (gr N a d i g) (funext λz=>bm (iX) (mG N) (fM N) (zX N) N z)))) h λ_ ⟨k,m,j,_,e,f,q⟩=>⟨(k,m,j),e,⟨_,f⟩,q⟩
noncomputable def nE:aq:=tab (P:=Tryd.prog) [] [cp] [] [lb]
def qu:IR:=Sq (Rs [Mv 25 11,Fa 26 3 8,Lq 27 26,Ll 28 27,Bi 29 .lss 25 28,Mv 30 29,Gt 30 (.mov 31 0),Gt 30 (.nck 32 31),Gt 30 (.fad 33 1 32),Gt 30 (.ld 34 1 false false 33),Gt 30 (.bin 35 .eql 34 (kI 0)),Pa 36 30 35] (Cn 36 .skip (.exit 0))) (Sq (.block 1 (Sq (Rs [Fa 39 3 8,Lq 40 39,Mv 41 11,Ix 42 .jnode 40 41,Fa 43 0 42,Lo 44 43,Bc 45 .neq 44 4] (Cn 45 (Rg [Mv 46 0,Ca 47 38 [46,kI 2]]) .skip)) (Rg [Pp (.mov 48 (.tk 10)),Fa 49 3 8,Lq 50 49,Mv 51 11,Ix 52 .jnode 50 51,Fa 53 2 52,Lo 54 53,Pp (.bsl 55 .str [54] true),Pp (.app 56 .str (.tk 48) 55),Pp (.mov 10 (.tk 56))]))) (Rg [Mv 37 11,Bc 38 .add 37 1,Mv 11 38]))
def pQ:IR:=Rs [Mv 57 10,Mv 6 57,Mb 7 true] .ret
def abp:IR:=Rs [Bx 4 1,Pp (.mov 6 (.c (nl .str))),Mb 7 false] (Rs [Ld 13 5 true 4,Mv 14 2,Ca 15 41 [13,14],Mv 12 15,Ex_ 16 0 12,Ex_ 17 1 12,Pp (.alr 8 5),Fz 8 5 16,Mv 9 17] (Sq (Rs [Mv 18 9,Un 19 18] (Cn 19 (Rs [Pp (.mov 6 (.c (nl .str))),Mb 7 false] .ret) .skip)) (Sq (Rs [Fa 20 0 8,Lq 21 20,Bc 22 .neq 21 5] (Cn 22 (Rg [Mv 23 0,Ca 24 38 [23,kI 2]]) .skip)) (Rs [Pp (.mov 10 (.c (nl .str)))] (Sq (Rs [Mi 11 0] (.block 0 (.loop [0,8,10,11,1000000] 1 qu))) pQ)))))
def sd:List RV:=[.t 6,.t 7]
theorem abq:FnC Tryd.prog nE [38,2000038] 1 tg Tryd.f80 abp sd:=fnC Tryd.func80
def zY(R:IR->(Ex->St->Ro)->St->Ro)(a:St->Ro):Ex->St->Ro:=(b7 a [0,8,10,11,1000000] 1 (aJ 0 (kseq (R pQ) (fin sd))))
abbrev iY:Type:=(aa×Bss×Int×List ac×Int)
def iu(x:iY):St:={env:=(.ptr 0 0::(U 7 (.ea (enc .jnode x.1)::.undef::.sl .str .own x.2.1::.int .i64 x.2.2.1::(U 46 [])))),hp:=[some [.ul .atype x.2.2.2.1,.int .i64 x.2.2.2.2]]}
def lI(N:Nat):(St->Ro)->St->Ro:=λa s=>run nE N qu (zY (run nE N) a) s
def fb(N:Nat)(d:iY->Ro)(x:iY):Ro:=
 let g:aa:=x.1;let f:Bss:=x.2.1;let a:Int:=x.2.2.1;let e:List ac:=x.2.2.2.1;let b:Int:=x.2.2.2.2;let o:=(↑(Aa g.l):Int)
 let h:=(some (.tup [.sl .str (.may false) f,.bool true],[some [.ul .atype e,.int .i64 b]]):Ro)
 cond (decide (a<o)) (
  cond (b==0) (
   chk (ixl a g.l) (
    let q:=(An g.l (Ah a) (ao .jnode))
    cond (!(q.kind==4)) (
     af (ag e b 2) (λj=>
      chk (ixl a g.l) (
       let k:=(An g.l (Ah a) (ao .jnode))
       chk (decide ((Aa f+Aa ([k.s]:Bss))*16<=140737488355328)) (
        let t:=(f++([k.s]:Bss))
        let p:=(Ae .i64 (a+1))
        d (g,t,p,j.2.1,j.2.2))))) (
     chk (ixl a g.l) (
      let i:=(An g.l (Ah a) (ao .jnode))
      chk (decide ((Aa f+Aa ([i.s]:Bss))*16<=140737488355328)) (
       let m:=(f++([i.s]:Bss))
       let u:=(Ae .i64 (a+1))
       d (g,m,u,e,b)))))) (
   h)) (
  h)
theorem zq(N:Nat):LB (lI N) iu (fb N):=λ_ _=>by kernel_rfl
def fN(N:Nat)(a:List ac)(b:Int)(h:aa)(g:Bs)(f:iY->Ro):Ro:=
 af (aR (reJ h) g) (λd=>
  cond (!d.2) (
   some (.tup [.sl .str (.may false) ([]:Bss),.bool false],[some [.ul .atype a,.int .i64 b]])) (
   cond (!(d.1.kind==5)) (
    af (ag a b 2) (λe=>
     f (d.1,([]:Bss),0,e.2.1,e.2.2))) (
    f (d.1,([]:Bss),0,a,b))))
def se(N:Nat)(a:List ac)(b:Int)(e:aa)(d:Bs):Ro:=fN N a b e d (λz=>aK N (fb N) z)
theorem zZ(N:Nat)(a:List ac)(d:Int)(i:aa)(g:Bs)(h:Tot (se N a d i g) (λz=>∃(m:Bss)(o:Bool)(k:List ac)(j:Int)(rest:List ai),z.1.dimR=.tup [.sl .str (.may false) m,.bool o]∧z.2=some [.ul .atype k,.int .i64 j]::rest∧cO a d i g (m,o,k,j))):∃r,bJ a d i g r:=FnK.finO (css:=[[.ul .atype a,.int .i64 d]]) abq (N:=N) ((cz _ (by kernel_rfl) rfl (λC=>fN N a d i g (λz=>C 1000000 (iu z))) (λC=>by kernel_rfl)).trans (A8 (b:=fN N a d i g (λz=>bi N (lI N) (iu z))) (by kernel_rfl) (congrArg (fN N a d i g) (funext λz=>bm (iu) (lI N) (fb N) (zq N) N z)))) h λ_ ⟨m,o,k,j,_,e,f,q⟩=>⟨(m,o,k,j),e,⟨_,f⟩,q⟩
noncomputable def adZ:aq:=tab (P:=Tryd.prog) [] [cp] [] [lb]
def acB:IR:=Rs [Bx 5 1,Ms 8 []] (Rs [Ld 12 5 true 5,Mv 13 2,Ca 14 41 [12,13],Mv 11 14,Ex_ 15 0 11,Ex_ 16 1 11,Pp (.alr 9 5),Fz 9 5 15,Mv 10 16] (Sq (Rs [Mv 17 10,Un 18 17,Mv 19 18,Gt 19 (.mov 20 3),Gt 19 (.un 21 .not 20),Pa 22 19 21] (Cn 22 (Rs [Ms 8 []] .ret) .skip)) (Sq (Rs [Mv 23 10,Un 24 23,Mv 25 24,Gf 25 (.fad 26 0 9),Gf 25 (.lde 27 1 false 26),Gf 25 (.bin 28 .neq 27 (kI 4)),Po 29 25 28] (Cn 29 (Rs [Mv 30 0,Ca 31 38 [30,kI 2]] (Rs [Ms 8 []] .ret)) .skip)) (Rs [Fa 32 2 9,Lq 33 32,Mv 8 33] .ret))))
def acC:List RV:=[.t 8]
theorem acD:FnC Tryd.prog adZ [38,2000038] 1 uw Tryd.f77 acB acC:=fnC Tryd.func77
def tI(N:Nat)(a:List ac)(b:Int)(p:aa)(o:Bs)(q:Bool):Ro:=
 let e:=λf m=>(some (.str ([]:Bs),[some [.ul .atype f,.int .i64 m]]):Ro)
 let k:=λf=>(some (.str f,[some [.ul .atype a,.int .i64 b]]):Ro)
 af (aR (reJ p) o) (λd=>
  cond (!d.2) (
   cond (!q) (
    e a b) (
    cond (!d.2) (
     af (ag a b 2) (λg=>
      e g.2.1 g.2.2)) (
     cond (!(d.1.kind==4)) (
      af (ag a b 2) (λi=>
       e i.2.1 i.2.2)) (
      k d.1.s)))) (
   cond (!d.2) (
    af (ag a b 2) (λh=>
     e h.2.1 h.2.2)) (
    cond (!(d.1.kind==4)) (
     af (ag a b 2) (λj=>
      e j.2.1 j.2.2)) (
     k d.1.s))))
def tJ(N:Nat)(a:List ac)(b:Int)(e:aa)(d:Bs)(f:Bool):Ro:=tI N a b e d f
theorem abr(N:Nat)(a:List ac)(b:Int)(k:aa)(j:Bs)(m:Bool)(h:Tot (tJ N a b k j m) (λz=>∃(g:Bs)(i:List ac)(d:Int)(rest:List ai),z.1.dimR=.str g∧z.2=some [.ul .atype i,.int .i64 d]::rest∧dH a b k j m (g,i,d))):∃r,cq a b k j m r:=FnK.finO (css:=[[.ul .atype a,.int .i64 b]]) acD (N:=N) (by kernel_rfl) h λ_ ⟨g,i,d,_,e,f,q⟩=>⟨(g,i,d),e,⟨_,f⟩,q⟩
noncomputable def nF:aq:=tab (P:=Tryd.prog) [] [cp] [] [amO,akL]
def qv:IR:=Sq (Rs [Mv 12 8,Mv 13 1,Pp (.lens 14 13),Bi 15 .lss 12 14] (Cn 15 .skip (.exit 0))) (Sq (.block 1 (Rs [Mv 18 1,Mv 19 8,Pp (.idx 20 18 19),Pp (.bin 21 .eql 20 (.c (.int .u8 46)))] (Cn 21 (Rg [Mv 22 1,Mv 7 22]) .skip))) (Rg [Mv 16 8,Bc 17 .add 16 1,Mv 8 17]))
def qw:IR:=Sq (Rs [Mv 23 1,Pp (.bin 24 .eql 23 (kS [])),Mv 25 24,Gf 25 (.mov 26 7),Gf 25 (.call 27 103 [26]),Gf 25 (.un 28 .not 27),Po 29 25 28] (Cn 29 (Rg [Mv 30 0,Ca 31 38 [30,kI 6]]) .skip)) (Rs [Mv 32 7,Mv 6 32] .ret)
def abt:IR:=Rs [Ms 6 []] (Rs [Mv 9 2,Mv 10 1,Ca 11 102 [9,10],Mv 7 11] (Sq (Rs [Mi 8 0] (.block 0 (.loop [0,1,7,8,1000000] 1 qv))) qw))
def sg:List RV:=[.t 6]
theorem abu:FnC Tryd.prog nF [38,2000038] 1 tl Tryd.f78 abt sg:=fnC Tryd.func78
def z6(R:IR->(Ex->St->Ro)->St->Ro)(a:St->Ro):Ex->St->Ro:=(b7 a [0,1,7,8,1000000] 1 (aJ 0 (kseq (R qw) (fin sg))))
abbrev iZ:Type:=(Bs×Bs×Int×List ac×Int)
def iv(x:iZ):St:={env:=(.ptr 0 0::.str x.1::(U 5 (.str x.2.1::.int .i64 x.2.2.1::(U 24 [])))),hp:=[some [.ul .atype x.2.2.2.1,.int .i64 x.2.2.2.2]]}
def lJ(N:Nat):(St->Ro)->St->Ro:=λa s=>run nF N qv (z6 (run nF N) a) s
def ja(N:Nat)(d:iZ->Ro)(x:iZ):Ro:=
 let e:Bs:=x.1;let h:Bs:=x.2.1;let f:Int:=x.2.2.1;let a:List ac:=x.2.2.2.1;let b:Int:=x.2.2.2.2;let k:=(↑(Aa e):Int)
 let g:=λt p=>(some (.str h,[some [.ul .atype t,.int .i64 p]]):Ro)
 cond (decide (f<k)) (
  chk (ixl f e) (
   let q:=(↑(AJ (An e (Ah f) 0)):Int)
   cond (q==46) (
    let v:=(Ae .i64 (f+1))
    d (e,e,v,a,b)) (
    let u:=(Ae .i64 (f+1))
    d (e,h,u,a,b)))) (
  let m:=decide (e=([]:Bs))
  cond m (
   af (ag a b 6) (λj=>
    g j.2.1 j.2.2)) (
   af (nu h) (λ(o:Bool)=>
    cond (!o) (
     af (ag a b 6) (λi=>
      g i.2.1 i.2.2)) (
     g a b))))
theorem zr(N:Nat):LB (lJ N) iv (ja N):=λ_ _=>by kernel_rfl
def fO(N:Nat)(a:List ac)(b:Int)(d e:Bs)(g:iZ->Ro):Ro:=
 af (oM e d) (λ(f:Bs)=>
  g (d,f,0,a,b))
def sh(N:Nat)(a:List ac)(b:Int)(e d:Bs):Ro:=fO N a b e d (λz=>aK N (ja N) z)
theorem z7(N:Nat)(a:List ac)(d:Int)(i g:Bs)(h:Tot (sh N a d i g) (λz=>∃(k:Bs)(m:List ac)(j:Int)(rest:List ai),z.1.dimR=.str k∧z.2=some [.ul .atype m,.int .i64 j]::rest∧qg a d i g (k,m,j))):∃r,cA a d i g r:=FnK.finO (css:=[[.ul .atype a,.int .i64 d]]) abu (N:=N) ((cz _ (by kernel_rfl) rfl (λC=>fO N a d i g (λz=>C 1000000 (iv z))) (λC=>by kernel_rfl)).trans (A8 (b:=fO N a d i g (λz=>bi N (lJ N) (iv z))) (by kernel_rfl) (congrArg (fO N a d i g) (funext λz=>bm (iv) (lJ N) (ja N) (zr N) N z)))) h λ_ ⟨k,m,j,_,e,f,q⟩=>⟨(k,m,j),e,⟨_,f⟩,q⟩
noncomputable def bA:aq:=tab (P:=Tryd.prog) [] [cp,n7,nr] [] [lb,xk]
def oW:IR:=Sq (Rs [Mv 56 9,Mv 57 8,Bi 58 .lss 56 57] (Cn 58 .skip (.exit 2))) (Sq (.block 3 (Sq (.reg [Mv 61 6,Mv 62 9,Ix 63 .str 61 62,Lq 64 63,Mv 65 6,Mv 66 8,Ix 67 .str 65 66,Lq 68 67,Bi 69 .eql 64 68] [[],[],[0,1],[0,1,2],[],[],[4,5],[4,5,6],rg 0 7]) (Cn 69 (Rg [Mv 70 0,Ca 71 38 [70,kI 5]]) .skip))) (Rg [Mv 59 9,Bc 60 .add 59 1,Mv 9 60]))
def nN:IR:=Rg [Mv 46 8,Bc 47 .add 46 1,Mv 8 47]
def fk:IR:=Sq (Rs [Mv 35 8,Mv 36 6,Ll 37 36,Bi 38 .lss 35 37,Mv 39 38,Gt 39 (.mov 40 0),Gt 39 (.nck 41 40),Gt 39 (.fad 42 1 41),Gt 39 (.ld 43 1 false false 42),Gt 39 (.bin 44 .eql 43 (kI 0)),Pa 45 39 44] (Cn 45 .skip (.exit 0))) (Sq (.block 1 (Sq (Rs [Mv 48 6,Mv 49 8,Ix 50 .str 48 49,Lq 51 50,Ca 52 104 [51],Un 53 52] (Cn 53 (Rg [Mv 54 0,Ca 55 38 [54,kI 6]]) .skip)) (Rs [Mi 9 0] (.block 2 (.loop [0,2,4,6,8,9,1000000] 1 oW))))) nN)
def nO:IR:=Sq (Rs [Mv 80 14,Mv 81 6,Ll 82 81,Bi 83 .lss 80 82] (Cn 83 .skip (.exit 4))) (Sq (.block 5 (Rg [Mv 86 13,Mv 87 86,Gf 87 (.mov 88 6),Gf 87 (.mov 89 14),Gf 87 (.ixa 90 .str 88 89),Gf 87 (.lde 91 1 false 90),Gf 87 (.mov 92 12),Gf 87 (.bin 93 .eql 91 92),Po 94 87 93,Mv 13 94])) (Rg [Mv 84 14,Bc 85 .add 84 1,Mv 14 85]))
def nP:IR:=Sq (Rs [Mv 95 11,Mv 96 95,Gt 96 (.mov 97 13),Gt 96 (.un 98 .not 97),Pa 99 96 98] (Cn 99 (Rg [Mv 100 0,Ca 101 38 [100,kI 6]]) .skip)) (Rs [Mv 102 0,Nk 103 102,Fa 104 1 103,Lo 105 104,Bc 106 .eql 105 0] (Cn 106 (.gh (.opn (.cell 0 0)) (.ghp (.cls (.cell 0 0)) (.reg [Mv 107 0,Nk 108 107,Fa 109 0 108,Fa 110 0 109,Fo [0] [] (.ld 111 1 false false 110),Mv 112 2,Mv 113 0,Nk 114 113,Fa 115 0 114,Fa 116 0 115,Fo [0] [] (.ld 117 1 false false 116),Mv 118 2,Mv 119 0,Nk 120 119,Fa 121 0 120,Fa 122 0 121,Fo [0] [] (.ld 123 1 false false 122),Mv 124 2,Mv 125 6,Mv 126 11,Mv 127 12,Pp (.ixw 128 .atype 111 112),Pp (.fdw 129 4 128),Fo [] [1] (.stw none 1 129 125),Pp (.ixw 130 .atype 117 118),Pp (.fdw 131 5 130),Fo [] [1] (.stw none 1 131 126),Pp (.ixw 132 .atype 123 124),Pp (.fdw 133 6 132),Fo [] [1] (.stw none 1 133 127)] [[],[0],[0,1],[0,1,2],rg 0 3,[],[],[6],[6,7],[6,7,8],rg 6 9,[],[],[12],[12,13],[12,13,14],rg 12 15,[],[],[],[],rg 0 10++rg 12 16++[18],rg 0 10++rg 12 16++[18]++[21],rg 0 10++rg 12 16++[18]++[21,22],rg 0 16++[18,19]++[21,22,23],rg 0 16++[18,19]++rg 21 24,rg 0 16++[18,19]++rg 21 25,rg 0 26,rg 0 27,rg 0 28]))) .skip))
def jS:IR:=Rs [Ld 73 5 true 4,Ca 74 41 [73,kS [100,101,102,97,117,108,116]],Mv 72 74,Ex_ 75 0 72,Ex_ 76 1 72,Pp (.alr 10 5),Fz 10 5 75,Mv 11 76] (Rs [Mv 77 0,Ld 78 5 true 4,Ca 79 77 [77,78,kS [100,101,102,97,117,108,116],kB false],Mv 12 79] (Rs [Mb 13 false] (Sq (Rs [Mi 14 0] (.block 4 (.loop [0,2,6,11,12,13,14,1000002] 1 nO))) nP)))
def zt:IR:=Rs [Bx 4 1] (Rs [Mv 16 0,Ld 17 5 true 4,Ca 18 80 [16,17,kS [115,121,109,98,111,108,115]],Mv 15 18,Ex_ 19 0 15,Ex_ 20 1 15,Mv 6 19,Mv 7 20] (Sq (Rs [Mv 21 7,Un 22 21] (Cn 22 (Rg [Mv 23 0,Ca 24 38 [23,kI 2]]) .skip)) (Sq (Rs [Mv 25 6,Ll 26 25,Bc 27 .eql 26 0] (Cn 27 (Rg [Mv 28 0,Ca 29 38 [28,kI 6]]) .skip)) (Sq (Rs [Mv 30 6,Ll 31 30,Bc 32 .gtr 31 30] (Cn 32 (Rg [Mv 33 0,Ca 34 38 [33,kI 3]]) .skip)) (Sq (Rs [Mi 8 0] (.block 0 (.loop [0,2,4,6,8,1000001] 1 fk))) jS)))))
def iw:List RV:=[]
theorem zu:FnC Tryd.prog bA [38,77,80,2000038,2000077,2000080] 1 ri Tryd.f82 zt iw:=fnC Tryd.func82
def gA(R:IR->(Ex->St->Ro)->St->Ro)(a:St->Ro):Ex->St->Ro:=(b7 a [0,2,4,6,8,1000001] 1 (aJ 0 (kseq (R jS) (fin iw))))
abbrev ck:Type:=(Int×aa×Bss×Int×List ac×Int)
def a6(x:ck):St:={env:=(.ptr 0 0::.undef::.int .i64 x.1::.undef::.ea (enc .jnode x.2.1)::.undef::.sl .str (.may false) x.2.2.1::.undef::.int .i64 x.2.2.2.1::(U 125 [])),hp:=[some [.ul .atype x.2.2.2.2.1,.int .i64 x.2.2.2.2.2]]}
def yj(R:IR->(Ex->St->Ro)->St->Ro)(b a:St->Ro):Ex->St->Ro:=(b7 a [0,2,4,6,8,9,1000000] 1 (aJ 2 (aJ 1 (kseq (R nN) (gA R b)))))
abbrev gB:Type:=(Int×aa×Bss×Int×Int×List ac×Int)
def dV(x:gB):St:={env:=(.ptr 0 0::.undef::.int .i64 x.1::.undef::.ea (enc .jnode x.2.1)::.undef::.sl .str (.may false) x.2.2.1::.undef::.int .i64 x.2.2.2.1::.int .i64 x.2.2.2.2.1::(U 124 [])),hp:=[some [.ul .atype x.2.2.2.2.2.1,.int .i64 x.2.2.2.2.2.2]]}
def gD(N:Nat)(b:St->Ro):(St->Ro)->St->Ro:=λa s=>run bA N oW (yj (run bA N) b a) s
def dh(N:Nat)(e:ck->Ro)(a:gB->Ro)(x:gB):Ro:=
 let j:Int:=x.1;let i:aa:=x.2.1;let f:Bss:=x.2.2.1;let g:Int:=x.2.2.2.1;let h:Int:=x.2.2.2.2.1;let b:List ac:=x.2.2.2.2.2.1;let d:Int:=x.2.2.2.2.2.2
 cond (decide (h<g)) (
  chk (ixl h f) (
   let p:=An f (Ah h) (ao .str)
   chk (ixl g f) (
    let m:=An f (Ah g) (ao .str)
    cond (decide (p=m)) (
     af (ag b d 5) (λk=>
      let o:=(Ae .i64 (h+1))
      a (j,i,f,g,o,k.2.1,k.2.2))) (
     let t:=(Ae .i64 (h+1))
     a (j,i,f,g,t,b,d))))) (
  let q:=(Ae .i64 (g+1))
  e (j,i,f,q,b,d))
theorem xp(N:Nat)(a:St->Ro):LB (gD N a) dV (dh N (λy=>a (a6 y))):=λ_ _=>by kernel_rfl
def yk(R:IR->(Ex->St->Ro)->St->Ro)(a:St->Ro):Ex->St->Ro:=(b7 a [0,2,6,11,12,13,14,1000002] 1 (aJ 4 (kseq (R nP) (fin iw))))
abbrev gE:Type:=(Int×Bss×Bool×Bs×Bool×Int×List ac×Int)
def dW(x:gE):St:={env:=(.ptr 0 0::.undef::.int .i64 x.1::(U 3 (.sl .str (.may false) x.2.1::(U 4 (.bool x.2.2.1::.str x.2.2.2.1::.bool x.2.2.2.2.1::.int .i64 x.2.2.2.2.2.1::(U 119 [])))))),hp:=[some [.ul .atype x.2.2.2.2.2.2.1,.int .i64 x.2.2.2.2.2.2.2]]}
def gF(N:Nat):(St->Ro)->St->Ro:=λa s=>run bA N nO (yk (run bA N) a) s
def bv(N:Nat)(g:gE->Ro)(x:gE):Ro:=
 let d:Int:=x.1;let k:Bss:=x.2.1;let h:Bool:=x.2.2.1;let i:Bs:=x.2.2.2.1;let y:Bool:=x.2.2.2.2.1;let j:Int:=x.2.2.2.2.2.1;let b:List ac:=x.2.2.2.2.2.2.1;let e:Int:=x.2.2.2.2.2.2.2;let E:=(↑(Aa k):Int)
 let F:=λC G=>(some (.tup [],[some [.ul .atype C,.int .i64 G],none,none]):Ro)
 let B:=λC G=>(some (.tup [],[some [.ul .atype C,.int .i64 G]]):Ro)
 cond (decide (j<E)) (
  cond y (
   let I:=(Ae .i64 (j+1))
   g (d,k,h,i,true,I,b,e)) (
   chk (ixl j k) (
    let D:=An k (Ah j) (ao .str);let H:=(Ae .i64 (j+1))
    g (d,k,h,i,decide (D=i),H,b,e)))) (
  cond h (
   cond (!y) (
    af (ag b e 6) (λf=>
     cond (f.2.2==0) (
      chk (decide (0<Aa f.2.1)) (
       chk ((decide (0<=d)&&decide (d<↑(Aa f.2.1)))) (
        chk (decide ((Ah d)<Aa f.2.1)) (
         let p:=(Bb f.2.1 (Ah d) (let a:=An f.2.1 (Ah d) (ao .atype);⟨a.kind,a.name,a.aliases,a.items,k,a.hasdef,a.df,a.size,a.fields,a.branches⟩))
         chk ((decide (0<=d)&&decide (d<↑(Aa f.2.1)))) (
          chk (decide ((Ah d)<Aa p)) (
           let m:=(Bb p (Ah d) (let a:=An p (Ah d) (ao .atype);⟨a.kind,a.name,a.aliases,a.items,a.syms,h,a.df,a.size,a.fields,a.branches⟩))
           chk ((decide (0<=d)&&decide (d<↑(Aa f.2.1)))) (
            chk (decide ((Ah d)<Aa m)) (
             let w:=(Bb m (Ah d) (let a:=An m (Ah d) (ao .atype);⟨a.kind,a.name,a.aliases,a.items,a.syms,a.hasdef,i,a.size,a.fields,a.branches⟩))
             chk (AD (Aa f.2.1) (Aa w)) (
              F w f.2.2))))))))) (
      B f.2.1 f.2.2))) (
    cond (e==0) (
     chk (decide (0<Aa b)) (
      chk ((decide (0<=d)&&decide (d<↑(Aa b)))) (
       chk (decide ((Ah d)<Aa b)) (
        let q:=(Bb b (Ah d) (let a:=An b (Ah d) (ao .atype);⟨a.kind,a.name,a.aliases,a.items,k,a.hasdef,a.df,a.size,a.fields,a.branches⟩))
        chk ((decide (0<=d)&&decide (d<↑(Aa b)))) (
         chk (decide ((Ah d)<Aa q)) (
          let o:=(Bb q (Ah d) (let a:=An q (Ah d) (ao .atype);⟨a.kind,a.name,a.aliases,a.items,a.syms,h,a.df,a.size,a.fields,a.branches⟩))
          chk ((decide (0<=d)&&decide (d<↑(Aa b)))) (
           chk (decide ((Ah d)<Aa o)) (
            let A:=(Bb o (Ah d) (let a:=An o (Ah d) (ao .atype);⟨a.kind,a.name,a.aliases,a.items,a.syms,a.hasdef,i,a.size,a.fields,a.branches⟩))
            chk (AD (Aa b) (Aa A)) (
             F A e))))))))) (
     B b e))) (
   cond (e==0) (
    chk (decide (0<Aa b)) (
     chk ((decide (0<=d)&&decide (d<↑(Aa b)))) (
      chk (decide ((Ah d)<Aa b)) (
       let t:=(Bb b (Ah d) (let a:=An b (Ah d) (ao .atype);⟨a.kind,a.name,a.aliases,a.items,k,a.hasdef,a.df,a.size,a.fields,a.branches⟩))
       chk ((decide (0<=d)&&decide (d<↑(Aa b)))) (
        chk (decide ((Ah d)<Aa t)) (
         let u:=(Bb t (Ah d) (let a:=An t (Ah d) (ao .atype);⟨a.kind,a.name,a.aliases,a.items,a.syms,h,a.df,a.size,a.fields,a.branches⟩))
         chk ((decide (0<=d)&&decide (d<↑(Aa b)))) (
          chk (decide ((Ah d)<Aa u)) (
           let v:=(Bb u (Ah d) (let a:=An u (Ah d) (ao .atype);⟨a.kind,a.name,a.aliases,a.items,a.syms,a.hasdef,i,a.size,a.fields,a.branches⟩))
           chk (AD (Aa b) (Aa v)) (
            F v e))))))))) (
    B b e)))
theorem xq(N:Nat):LB (gF N) dW (bv N):=λ_ _=>by kernel_rfl
def gG(N:Nat):(St->Ro)->St->Ro:=λa s=>run bA N fk (gA (run bA N) a) s
def dX(N:Nat)(i:ck->Ro)(m:gB->Ro)(o:gE->Ro)(x:ck):Ro:=
 let h:Int:=x.1;let f:aa:=x.2.1;let d:Bss:=x.2.2.1;let g:Int:=x.2.2.2.1;let b:List ac:=x.2.2.2.2.1;let a:Int:=x.2.2.2.2.2;let v:=(↑(Aa d):Int)
 cond (decide (g<v)) (
  cond (a==0) (
   chk (ixl g d) (
    let u:=An d (Ah g) (ao .str)
    af (fU u) (λ(q:Bool)=>
     cond (!q) (
      af (ag b a 6) (λp=>
       m (h,f,d,g,0,p.2.1,p.2.2))) (
      m (h,f,d,g,0,b,a))))) (
   af (aR (reJ f) ([100,101,102,97,117,108,116]:Bs)) (λt=>
    af (cq b a (reJ f) ([100,101,102,97,117,108,116]:Bs) false) (λk=>
     o (h,d,t.2,k.1,false,0,k.2.1,k.2.2))))) (
  af (aR (reJ f) ([100,101,102,97,117,108,116]:Bs)) (λj=>
   af (cq b a (reJ f) ([100,101,102,97,117,108,116]:Bs) false) (λe=>
    o (h,d,j.2,e.1,false,0,e.2.1,e.2.2))))
def aW(N:Nat)(a:ck->Ro)(x:ck):Ro:=dX N a (λz=>aK N (dh N a) z) (λz=>aK N (bv N) z) x
def kA(N:Nat)(a:St->Ro):List (Nat×(St->Ro)):=(dv bA N fk (gA (run bA N) a)++(dv bA N jS (fin iw)++[]))
theorem xr(N:Nat):∀(a:St->Ro)(x:ck),gG N a (a6 x)=aW N (λy=>a (a6 y)) x:=by
 intro a x;have d:∀C:Nat->St->Ro,cN C bA N fk (gA (cN C bA N) a) (a6 x)=dX N (λy=>a (a6 y)) (λz=>C 1000000 (dV z)) (λz=>C 1000002 (dW z)) x:=by intro C;kernel_rfl
 have h:gG N a (a6 x)=dX N (λy=>a (a6 y)) (λz=>bi N (gD N a) (dV z)) (λz=>bi N (gF N) (dW z)) x:=(fZ (C:=jV (kA N a)) (eq (bU (l:=(kA N a)) (by kernel_rfl))) (wD (nc (qI (eq (mO (bU (l:=(kA N a)) (by kernel_rfl)))) rfl))) _).trans ((d _).trans (by kernel_rfl));have b:(λz=>bi N (gD N a) (dV z))=(λz=>aK N (dh N (λy=>a (a6 y))) z):=funext λz=>bm (dV) (gD N a) (dh N (λy=>a (a6 y))) (xp N a) N z
 have e:(λz=>bi N (gF N) (dW z))=(λz=>aK N (bv N) z):=funext λz=>bm (dW) (gF N) (bv N) (xq N) N z
 rw[h,b,e];rfl
def dC(N:Nat)(h:List ac)(j:Int)(b:aa)(f:Int)(e:ck->Ro):Ro:=
 af (bJ h j (reJ b) ([115,121,109,98,111,108,115]:Bs)) (λa=>
  cond (!a.2.1) (
   af (ag a.2.2.1 a.2.2.2 2) (λg=>
    let x:=(↑(Aa a.1):Int)
    cond (x==0) (
     af (ag g.2.1 g.2.2 6) (λo=>
      let w:=(↑(Aa a.1):Int)
      cond (decide (30<w)) (
       af (ag o.2.1 o.2.2 3) (λv=>
        e (f,b,a.1,0,v.2.1,v.2.2))) (
       e (f,b,a.1,0,o.2.1,o.2.2)))) (
     let q:=(↑(Aa a.1):Int)
     cond (decide (30<q)) (
      af (ag g.2.1 g.2.2 3) (λi=>
       e (f,b,a.1,0,i.2.1,i.2.2))) (
      e (f,b,a.1,0,g.2.1,g.2.2))))) (
   let t:=(↑(Aa a.1):Int)
   cond (t==0) (
    af (ag a.2.2.1 a.2.2.2 6) (λd=>
     let u:=(↑(Aa a.1):Int)
     cond (decide (30<u)) (
      af (ag d.2.1 d.2.2 3) (λm=>
       e (f,b,a.1,0,m.2.1,m.2.2))) (
      e (f,b,a.1,0,d.2.1,d.2.2)))) (
    let p:=(↑(Aa a.1):Int)
    cond (decide (30<p)) (
     af (ag a.2.2.1 a.2.2.2 3) (λk=>
      e (f,b,a.1,0,k.2.1,k.2.2))) (
     e (f,b,a.1,0,a.2.2.1,a.2.2.2)))))
def ll(N:Nat)(a:List ac)(b:Int)(e:aa)(d:Int):Ro:=dC N a b e d (λz=>aK N (aW N) z)
theorem pR(N:Nat)(a:List ac)(d:Int)(i:aa)(g:Int)(h:Tot (ll N a d i g) (λz=>∃(j:List ac)(k:Int)(rest:List ai),z.1.dimR=.tup []∧z.2=some [.ul .atype j,.int .i64 k]::rest∧aN a d i g (j,k))):∃r,bw a d i g r:=FnK.finO (css:=[[.ul .atype a,.int .i64 d]]) zu (N:=N) ((cz _ (by kernel_rfl) rfl (λC=>dC N a d i g (λz=>C 1000001 (a6 z))) (λC=>by kernel_rfl)).trans (A8 (b:=dC N a d i g (λz=>bi N (gG N) (a6 z))) (by kernel_rfl) (congrArg (dC N a d i g) (funext λz=>bm (a6) (gG N) (aW N) (xr N) N z)))) h λ_ ⟨j,k,_,e,f,q⟩=>⟨(j,k),e,⟨_,f⟩,q⟩
theorem aaK(l:List UInt8)(c:UInt8):dO (l++[c]) 46=(dO l 46||c==46):=by rw[Ch];simp only[A7,sW,Az,Au,beq_iff_eq];constructor<;>rintro(h|h)<;>simp[h]
theorem bH(m:MS)(b:Bool)(c:Int):(ak m b c).2.2.1 =if b=true then aI m.2.2.1 c else m.2.2.1:=by unfold ak aI;by_cases d:b=true<;>by_cases a:m.2.2.1=0<;>simp[d,a]
theorem d9{e c:Int}(h:e≠0):aI e c=e:=if_neg h
theorem cS{e c:Int}(a:c≠0:=by decide):aI e c≠0:=by
 unfold aI;split;·exact a
 ·assumption
theorem aV(ts:List ac)(e c:Int):∃r,ag ts e c r:=by
 apply abk 1;unfold tC tB;dsimp only;refine ab (λh=>am ⟨_,_,_,_,rfl,rfl,?_⟩) (λh=>am ⟨_,_,_,_,rfl,rfl,?_⟩)
 ·have h:e=0:=by simpa using h
  simp[iE,aI,h]
 ·have h:e≠0:=by simpa using h
  simp[iE,aI,h]
theorem zv(ts:List ac)(e:Int)(t:ac)(h:ts.length<=60):∃r,bF ts e t r:=by
 apply acw 1;unfold uQ uP;refine ab (λa=>?_) (λa=>?_)
 ·have a:=of_decide_eq_true a;refine ah (aV _ _ _) ?_;rintro _ ⟨-,rfl⟩;refine am ⟨_,_,_,_,rfl,rfl,?_⟩;show _=if 60<=ts.length then _ else _
  rw[if_pos (by omega)]
 ·have a:=of_decide_eq_false a;refine vck ?_ (decide_eq_true (by simp only[Af,Ak];omega));refine am ⟨_,_,_,_,rfl,rfl,?_⟩;show _=if 60<=ts.length then _ else _
  rw[if_neg (by omega)];have:IntKind.i64.wrap (((ts++[t]).length:Int)-1)=(ts.length:Int):=by rw[Aj,CL,ax _ (by omega)];omega
  rw[this]
theorem agy{ts:List ac}{m:MS}{t:ac}(f:OfS ts 0 m)(h:ts.length<=60){r:Int×RS}(d:r=if 60<=ts.length then (0,ts,aI 0 3) else ((ts.length:Int),ts++[t],0)):AgI (a7 m t) r:=by
 obtain⟨b,e, -⟩:=f.z;unfold a7;by_cases a:60<=ts.length
 ·rw[if_pos a] at d;rw[if_pos (.inr (by rw[b];exact a))];subst d;refine⟨⟨h,?_,λh=>?_⟩,λ_=>rfl⟩;·simp[bH,e,b,a]
  ·exact absurd h (show aI 0 3≠0 by decide)
 ·rw[if_neg a] at d;rw[if_neg (by rw[b,e];simpa using a)];subst d;refine⟨⟨by simp;omega,e.symm,λ_=>by rw[<-b]⟩,λ_=>by rw[<-b]⟩
theorem agz(ts:List ac)(e:Int)(s:List UInt8)(h:ts.length<=60):∃r,bO ts e s r:=by
 obtain⟨N,M⟩:∃N:Nat,N=100:=⟨_,rfl⟩
 apply abm N;unfold tE gq;refine ba (λx=>match x with|(s',i,a,q)=>s'=s∧a=ts∧q=e∧(0<=i∧i<=(ts.length:Int))∧∀(j:Nat) t,(j:Int)<i->ts[j]? =some t->t.name=s->¬(9<=t.kind∧t.kind<=11)) (λx=>((ts.length:Int)-x.2.1).toNat) ?_ _ _ ⟨rfl,rfl,rfl,⟨by simp,by simp⟩,λj t p=>by omega⟩ (by simp;omega);rintro b ⟨s',i,a,q⟩ ⟨rfl,rfl,rfl,⟨I,O⟩,H⟩ v;dsimp only at v;unfold jL;dsimp only;refine ab (λd=>?_) (λd=>?_)
 ·have d:=of_decide_eq_true d;have k:i.toNat<a.length:=by omega
  have g:a[i.toNat]? =some (a.getD i.toNat (ao .atype)):=by rw[Al,Ab k];rfl
  generalize a.getD i.toNat (ao .atype)=t at g ⊢;have next:¬(t.name=s'∧9<=t.kind∧t.kind<=11)->∀Q,(∀y,(λx:List UInt8×Int×List ac×Int=>match x with|(w,i,m,F)=>w=s'∧m=a∧F=q∧(0<=i∧i<=(a.length:Int))∧∀(j:Nat) t,(j:Int)<i->a[j]? =some t->t.name=s'->¬(9<=t.kind∧t.kind<=11)) y->((a.length:Int)-y.2.1).toNat<((a.length:Int)-i).toNat->Tot (b y) Q)->Tot (b (s',IntKind.i64.wrap (i+1),a,q)) Q:=λB Q L=>by
   rw[ax (i+1) (by omega)];refine L _ ⟨rfl,rfl,rfl,⟨by omega,by omega⟩,λj u p G f=>?_⟩ (by simp only;omega);by_cases A:(j:Int)<i;·exact H j u A G f
   ·have:j=i.toNat:=by omega
    subst this;rw[g] at G;rw[<-Ax G] at f ⊢
    exactλJ=>B ⟨f,J⟩
  refine vck ?_ (decide_eq_true (by omega));refine vck ?_ (by simp[I,d]);refine vck ?_ (decide_eq_true k);refine vck ?_ (Do _);refine ab (λD=>?_) (λD=>next (λo=>of_decide_eq_false D o.1) _ v);refine ab (λE=>?_) (λE=>next (λo=>of_decide_eq_false E o.2.1) _ v);refine ab (λC=>?_) (λC=>next (λo=>of_decide_eq_false C o.2.2) _ v);exact am ⟨_,_,_,_,_,rfl,rfl,rfl,λ_=>⟨I,t,g,of_decide_eq_true D,of_decide_eq_true E,of_decide_eq_true C⟩,(λh=>(by cases h))⟩
 ·have d:=of_decide_eq_false d;refine am ⟨_,_,_,_,_,rfl,rfl,rfl,(λh=>(by cases h)),λ_=>⟨rfl,λt g f=>?_⟩⟩;obtain⟨j,p⟩:=BO g;exact H j t (by have:=(Ad.1 p).1;omega) p f
theorem wg{m:MS}(f:dx m){e:Int}{s:List UInt8}{r:Int×Bool×RS}(h:cZ m.2.1 e s r):r.2.1=(aY (k:=.sn) m.1 s).isSome∧(r.2.1=true->aY (k:=.sn) m.1 s=some r.1):=by
 obtain⟨-,o,q⟩:=h;cases j:r.2.1 with
 |true=>obtain⟨v,t,d,g,p⟩:=o j;have b:=f.tok t (Am d);have a:t.name≠[]:=b.named.2 p;have:=f.nm _ t d a;rw[g,Int.toNat_of_nonneg v] at this;rw[this];exact⟨rfl,λ_=>rfl⟩
 |false=>
  refine⟨?_,λh=>by cases h⟩;cases u:aY (k:=.sn) m.1 s with
  |none=>rfl
  |some i=>obtain⟨a,t,d,g⟩:=f.mn s i u;have b:=f.tok t (Am d);exact absurd (b.named.1 (by rw[g];exact a)) ((q j).2 t (Am d) g)
theorem ahK(s:List UInt8):(1<=nV s∧nV s<=8)↔(1<=bV ([]::bj) s∧bV ([]::bj) s<=8):=by unfold nV;split<;>omega
theorem amm(ts:List ac)(s a:List UInt8)(h:ts.length<=60)(hs:s.length<=1000000)(a3:a.length<=1000000):∃r,eS ts 0 s a r:=by
 apply abo 1000001;unfold tH gr
 have fin:∀(x:Int)(t:List ac)(e:Int),(∀m,OfS ts 0 m->AgI (dr m s a) (x,t,e))->Tot (some (.int .i64 x,[some [.ul .atype t,.int .i64 e]]):Ro) (λz=>∃(w:Int)(u:List ac)(A:Int)(rest:List ai),z.1.dimR=.int .i64 w∧z.2=some [.ul .atype u,.int .i64 A]::rest∧eY ts 0 s a (w,u,A)):=
  λx t e hx=>am ⟨_,_,_,_,rfl,rfl,λ_=>hx⟩
 refine ah (aaF s) ?_;rintro _ ⟨-,rfl⟩;have v:¬(1<=nV s∧nV s<=8)->Tot (aK 1000001 (fM 1000001) (s,a,false,0,ts,0)) (λz=>∃(w:Int)(u:List ac)(A:Int)(rest:List ai),z.1.dimR=.int .i64 w∧z.2=some [.ul .atype u,.int .i64 A]::rest∧eY ts 0 s a (w,u,A)):=by
  intro hk;have B:∀m,dr m s a=fx m s a:=λm=>by rw[dr,if_neg (λj=>hk ((ahK s).2 j))]
  refine ba (λx=>match x with|(s',sp,b,i,f,e')=>s'=s∧sp=a∧f=ts∧e'=0∧(0<=i∧i<=(s.length:Int))∧b=dO (s.take i.toNat) 46) (λx=>((s.length:Int)-x.2.2.2.1).toNat) ?_ _ _ ⟨rfl,rfl,rfl,rfl,⟨by simp,by simp⟩,rfl⟩ (by simp;omega);rintro Y ⟨s',sp,b,i,f,e'⟩ ⟨rfl,rfl,rfl,rfl,⟨i1,i2⟩,Z⟩ Q;dsimp only at Q;unfold fM;dsimp only;refine ab (λE=>?_) (λE=>?_)
  ·have E:=of_decide_eq_true E;have H:i.toNat<s'.length:=by omega
   have ew:IntKind.i64.wrap (i+1)=i+1:=ax (i+1) (by omega);have J:s'.take (i+1).toNat=s'.take i.toNat++[s'.getD i.toNat 0]:=by rw[show (i+1).toNat=i.toNat+1 by omega,Bt,Ab H,Al,Ab H];rfl
   rw[ew];refine ab (λd=>?_) (λd=>?_);·refine Q _ ⟨rfl,rfl,rfl,rfl,⟨by first|omega|(dsimp only;omega),by first|omega|(dsimp only;omega)⟩,?_⟩ (by simp only;omega);dsimp only;rw[J,aaK,<-Z,d];rfl
   ·refine vck ?_ (ixt ⟨i1,E⟩);refine Q _ ⟨rfl,rfl,rfl,rfl,⟨by first|omega|(dsimp only;omega),by first|omega|(dsimp only;omega)⟩,?_⟩ (by simp only;omega);dsimp only;rw[J,aaK,<-Z,d,B8,Ch];simp only[beq_iff_eq];constructor;·intro hu;refine BR.1 ?_;simpa using (by omega:(s'.getD i.toNat 0).toNat=46)
    ·intro hu;rw[hu];rfl
  ·have E:=of_decide_eq_false E;have hd:b=dO s' 46:=by rw[Z,Bl (by omega)]
   have o:(∀m,OfS f 0 m->fx m s' sp=(da (k:=.sn) m.1 s',ak m (!(aY (k:=.sn) m.1 s').isSome) 4))->Tot (af (bO f 0 s') (λF=>
     cond (!F.2.1) (
      af (ag F.2.2.1 F.2.2.2 4) (λX=>
       (some (.int .i64 X.1,[some [.ul .atype X.2.1,.int .i64 X.2.2]]):Ro))) (
      some (.int .i64 F.1,[some [.ul .atype F.2.2.1,.int .i64 F.2.2.2]])))) (λz=>∃(w:Int)(u:List ac)(A:Int)(rest:List ai),z.1.dimR=.int .i64 w∧z.2=some [.ul .atype u,.int .i64 A]::rest∧eY f 0 s' sp (w,u,A)):=by
    intro hn;refine ah (agz _ _ _ h) ?_;rintro r ⟨-,p⟩;have C:r.2.2=(f,0):=p.1;refine ab (λd=>?_) (λd=>?_)
    ·rw[C];refine ah (aV _ _ _) ?_;rintro _ ⟨-,rfl⟩;refine fin _ _ _ λm g=>?_
     obtain⟨D,I,G⟩:=g.z;have y:=wg (G rfl) (by rw[D];exact p);rw[B,hn m g];have P:(aY (k:=.sn) m.1 s').isSome=false:=by rw[<-y.1];simpa using d
     rw[P];exact⟨⟨h,by simp[bH,I],λR=>absurd R (show aI 0 4≠0 by decide)⟩,λR=>absurd R (show aI 0 4≠0 by decide)⟩
    ·have M:r.2.1=true:=by simpa using d
     clear d;obtain⟨r0,rb,rs⟩:=r;dsimp only at C M ⊢;subst C;refine fin _ _ _ λm g=>?_
     obtain⟨D,I,G⟩:=g.z;have y:=wg (G rfl) (by rw[D];exact p);have q:=y.2 M;rw[B,hn m g,q];exact⟨⟨h,by simp[bH,I],λ_=>D.symm⟩,λ_=>by rw[da,q];rfl⟩
   refine ab (λd=>?_) (λd=>o λm g=>?_)
   ·have d:dO s' 46=false:=by rw[<-hd];simpa using d
    refine ab (λhp=>?_) (λhp=>o λm g=>?_)
    ·have hp:sp≠[]:=by simpa using hp
     refine vck ?_ (decide_eq_true (by simp only[Af,Ak];omega));refine vck ?_ (decide_eq_true (by simp only[Aj,Af,Ak];omega));refine ah (agz _ _ _ h) ?_;rintro r ⟨-,p⟩;obtain⟨r0,rb,rs⟩:=r;obtain rfl:rs=(f,0):=p.1;dsimp only;refine ab (λO=>?_) (λO=>o λm g=>?_)
     ·refine fin _ _ _ λm g=>?_
      obtain⟨D,I,G⟩:=g.z;have y:=wg (G rfl) (by rw[D];exact p);have q:=y.2 O;rw[B,fx,if_pos ⟨hp,d,by rw[<-y.1];exact O⟩];exact⟨⟨h,I.symm,λ_=>D.symm⟩,λ_=>by rw[da,q];rfl⟩
     ·have y:=wg (g.2 rfl).2 (by rw[(g.2 rfl).1];exact p);rw[fx,if_neg];rintro⟨-, -,j⟩;rw[<-y.1] at j;rw[O] at j;cases j
    ·have hp:sp=[]:=by simpa using hp
     rw[fx,if_neg (λj=>j.1 hp)]
   ·have d:dO s' 46=true:=by rw[<-hd];simpa using d
    rw[fx,if_neg (λj=>by rw[d] at j;cases j.2.1)]
 refine ab (λN=>?_) (λN=>v (λj=>of_decide_eq_false N j.1));refine ab (λL=>?_) (λL=>v (λj=>of_decide_eq_false L j.2));have N:=of_decide_eq_true N;have L:=of_decide_eq_true L;refine ah (zv _ _ _ h) ?_;rintro r ⟨-,p⟩;refine fin _ _ _ λm g=>?_
 have W:=(ahK s).1 ⟨N,L⟩;rw[dr,if_pos W];have S:nV s=bV ([]::bj) s:=by unfold nV;rw[if_neg (by omega)]
 refine agy g h ?_;rw[<-S];exact p
def lm:List aa->Int->Int
 | [],e=>e
 |x::l,e=>lm l (if x.kind=4 then e else aI e 2)
theorem tK:∀(l:List aa){e:Int},e≠0->lm l e=e
 | [],e,h=>rfl
 |x::l,e,h=>by rw[lm,d9 h];simp only[ite_self];exact tK l h
theorem ape:∀(l:List aa)(m:MS),(uc l m).2.2.1 =lm l m.2.2.1
 | [],m=>rfl
 |x::l,m=>by
  rw[uc,ape l,lm,bH]
  congr 1
  by_cases h:x.kind=4<;>simp[h]
theorem wh(m:MS)(n:aa):(cu m n).2.2.2.1 =lm n.l (if n.kind=5 then m.2.2.1 else aI m.2.2.1 2):=by
 show (uc n.l _).2.2.1 =_;rw[ape,bH]
 congr 1
 by_cases h:n.kind=5<;>simp[h]
theorem yl(ts:List ac)(e:Int)(n:aa)(name:List UInt8)(S:bp n):∃r,bJ ts e n name r:=by
 obtain⟨N,hN⟩:∃N:Nat,N=100:=⟨_,rfl⟩
 apply zZ N;unfold se fN;rw[cn];refine ah (ii n name (by have:=S.sizes;omega)) ?_;intro r1 h1;obtain rfl:r1=aj n name:=h1.2;have hg:=(kL (s:=name) S).sizes;refine ab (λk=>am ⟨_,_,_,_,_,rfl,rfl,?_⟩) (λk=>?_)
 ·have k:(aj n name).2 =false:=by simpa using k
  exact⟨rfl,k.symm,⟨by simp,by simp⟩,λ_=>⟨rfl,rfl⟩,(λh=>(by rw[k] at h;cases h))⟩
 have k:(aj n name).2 =true:=by simpa using k
 have q:∀t:Int,t=(if (aj n name).1.kind =5 then e else aI e 2)->Tot (aK N (fb N) ((aj n name).1,[],0,ts,t)) (λz=>∃(Z:List (List UInt8))(W:Bool)(y2:List ac)(Y:Int)(rest:List ai),z.1.dimR=.tup [.sl .str (.may false) Z,.bool W]∧z.2=some [.ul .atype y2,.int .i64 Y]::rest∧cO ts e n name (Z,W,y2,Y)):=by
  intro t B;generalize hG:(aj n name).1 =G at B hg;refine ba (λx=>match x with|(b,a,i,f,o)=>b=G∧f=ts∧(0<=i∧i<=(G.l.length:Int))∧((a.length:Int)<=i∧∀x∈a,x.length<=100)∧lm G.l t=lm (G.l.drop i.toNat) o∧(o=0->a=(G.l.take i.toNat).map aa.s)) (λx=>((G.l.length:Int)-x.2.2.1).toNat) ?_ _ _ ⟨rfl,rfl,⟨by simp,by simp⟩,⟨by simp,by simp⟩,by simp,λ_=>by simp⟩ (by simp;omega);rintro j ⟨b,a,i,f,o⟩ ⟨rfl,rfl,⟨E,i2⟩,⟨i3,X⟩,F,R⟩ L;dsimp only at L;unfold fb;dsimp only;have fin:(o≠0∨i=(b.l.length:Int))->cO f e n name (a,true,f,o):=by
   intro C;have u:lm b.l t=o:=by
    rw[F];rcases C with h|h;·exact tK _ h
    ·rw[h,At,By];rfl
   refine⟨rfl,k.symm,⟨by dsimp only;omega,X⟩,(λh=>(by rw[k] at h;cases h)),λ_ m hm=>?_⟩;rw[wh,hG,hm,<-B,u];refine⟨rfl,λI=>?_⟩;rcases C with h|h;·exact absurd I h
   ·show a=b.l.map aa.s;rw[R I,h,At,BM]
  refine ab (λp=>?_) (λp=>am ⟨_,_,_,_,_,rfl,rfl,fin (.inr (by have:=of_decide_eq_false p;omega))⟩);have p:=of_decide_eq_true p;have v:i.toNat<b.l.length:=by omega
  refine ab (λA=>?_) (λA=>am ⟨_,_,_,_,_,rfl,rfl,fin (.inl (by simpa using A))⟩);have A:o=0:=by simpa using A
  have hd:=tv (d:=(ao .jnode:aa)) ⟨E,p⟩;have M:b.l.take (i+1).toNat=b.l.take i.toNat++[b.l.getD i.toNat (ao .jnode)]:=by rw[show (i+1).toNat=i.toNat+1 by omega,Bt,Ab v,Al,Ab v];rfl
  have H:bp (b.l.getD i.toNat (ao .jnode)):=bp.getD hg.2.2.2 _;have O:=H.sizes.1;rw[hd,lm] at F;have ew:IntKind.i64.wrap (i+1)=i+1:=ax (i+1) (by omega);rw[ew];have next:∀J:Int,J=(if (b.l.getD i.toNat (ao .jnode)).kind=4 then o else aI o 2)->∀Q,(∀y,(λx:aa×List (List UInt8)×Int×List ac×Int=>match x with|(P,a,i,w,D)=>P=b∧w=f∧(0<=i∧i<=(b.l.length:Int))∧((a.length:Int)<=i∧∀x∈a,x.length<=100)∧lm b.l t=lm (b.l.drop i.toNat) D∧(D=0->a=(b.l.take i.toNat).map aa.s)) y->((b.l.length:Int)-y.2.2.1).toNat<((b.l.length:Int)-i).toNat->Tot (j y) Q)->Tot (j (b,a++[(b.l.getD i.toNat (ao .jnode)).s],i+1,f,J)) Q:=λJ h2 Q hQ=>by
   refine hQ _ ⟨rfl,rfl,⟨by omega,by omega⟩,⟨by simp only[Aj,Af,Ak];omega,λx hx=>?_⟩,by rw[F,h2],λI=>?_⟩ (by simp only;omega)
   ·rcases Az.1 hx with h|h;·exact X x h
    ·rw[Au.1 h];exact O
   ·rw[M,BF,R A];rfl
  refine vck ?_ (ixt ⟨E,p⟩);refine ab (λg=>?_) (λg=>?_)
  ·have g:(b.l.getD i.toNat (ao .jnode)).kind≠4:=by simpa using g
   refine ah (aV _ _ _) ?_;rintro _ ⟨-,rfl⟩;refine vck ?_ (ixt ⟨E,p⟩);refine vck ?_ (decide_eq_true (by simp only[Af,Ak];omega));exact next _ (by rw[if_neg g]) _ L
  ·have g:(b.l.getD i.toNat (ao .jnode)).kind=4:=by simpa using g
   refine vck ?_ (ixt ⟨E,p⟩);refine vck ?_ (decide_eq_true (by simp only[Af,Ak];omega));exact next _ (by rw[if_pos g]) _ L
 refine ab (λg=>?_) (λg=>?_);·refine ah (aV _ _ _) ?_;rintro _ ⟨-,rfl⟩;exact q _ (by rw[if_neg (by simpa using g)])
 ·exact q _ (by rw[if_pos (by simpa using g)])
theorem aaL(ts:List ac)(e:Int)(n:aa)(name:List UInt8)(b:Bool)(g:n.names.length<=1000000):∃r,cq ts e n name b r:=by
 apply abr 1;unfold tJ tI;rw[cn];refine ah (ii n name g) ?_;intro i j;obtain rfl:i=aj n name:=j.2;dsimp only;refine ab (λa=>?_) (λa=>?_)
 ·have a:(aj n name).2 =false:=by simpa using a
  refine ab (λd=>am ⟨_,_,_,_,rfl,rfl,?_⟩) (λd=>?_)
  ·have d:b=false:=by simpa using d
   simp[dH,a,d]
  ·have d:b=true:=by simpa using d
   refine ab (λ_=>?_) (λh=>absurd h (by simp[a]));refine ah (aV _ _ _) ?_;rintro _ ⟨-,rfl⟩;exact am ⟨_,_,_,_,rfl,rfl,by simp[dH,a,d]⟩
 ·have a:(aj n name).2 =true:=by simpa using a
  refine ab (λh=>absurd h (by simp[a])) (λ_=>?_);refine ab (λf=>?_) (λf=>?_)
  ·have f:(aj n name).1.kind ≠4:=by simpa using f
   refine ah (aV _ _ _) ?_;rintro _ ⟨-,rfl⟩;exact am ⟨_,_,_,_,rfl,rfl,by simp[dH,a,f]⟩
  ·have f:(aj n name).1.kind =4:=by simpa using f
   exact am ⟨_,_,_,_,rfl,rfl,by simp[dH,a,f]⟩
theorem ag1(m:MS)(name a:List UInt8):(bM m name a).2.2.2.1 =if (Go.Lib.split (bM m name a).1 [46]).all b9=true then m.2.2.1 else aI m.2.2.1 6:=by show (ak m _ 6).2.2.1 =_;rw[bH,auH];show (if (!(Go.Lib.split (bM m name a).1 [46]).all b9)=true then _ else _)=_;cases (Go.Lib.split (bM m name a).1 [46]).all b9<;>simp
theorem aj6(ts:List ac)(e:Int)(name a:List UInt8)(J:name.length<=400000)(L:a.length<=400000):∃r,cA ts e name a r:=by
 apply z7 1000001;unfold sh fO;refine ah (asJ _ _ (by omega) (by omega)) ?_;intro C g;have g:C=if a=[]∨name=[] then a++name else a++[46]++name:=g.2
 have G:C.length<=name.length+a.length+1:=by rw[g];split<;>simp only[Aj,Af,Ak]<;>omega
 refine ba (λx=>match x with|(b,s,i,q,w)=>b=name∧q=ts∧w=e∧(0<=i∧i<=(name.length:Int))∧s=if dO (name.take i.toNat) 46=true then name else C) (λx=>((name.length:Int)-x.2.2.1).toNat) ?_ _ _ ⟨rfl,rfl,rfl,⟨by simp,by simp⟩,by simp[atJ]⟩ (by simp;omega);rintro D ⟨b,s,i,q,w⟩ ⟨rfl,rfl,rfl,⟨I,M⟩,y⟩ B;dsimp only at B;unfold ja;dsimp only;refine ab (λp=>?_) (λp=>?_)
 ·have p:=of_decide_eq_true p;have t:i.toNat<b.length:=by omega
  have H:IntKind.i64.wrap (i+1)=i+1:=ax (i+1) (by omega);have u:b.take (i+1).toNat=b.take i.toNat++[b.getD i.toNat 0]:=by rw[show (i+1).toNat=i.toNat+1 by omega,Bt,Ab t,Al,Ab t];rfl
  rw[H];refine vck ?_ (ixt ⟨I,p⟩);refine ab (λj=>?_) (λj=>?_)
  ·have j:b.getD i.toNat 0=46:=by
    refine BR.1 ?_;have:((b.getD i.toNat 0).toNat:Int)=46:=by simpa using j
    simpa using (by omega:(b.getD i.toNat 0).toNat=46)
   refine B _ ⟨rfl,rfl,rfl,⟨by first|omega|(dsimp only;omega),by first|omega|(dsimp only;omega)⟩,?_⟩ (by simp only;omega);dsimp only;rw[u,aaK,j];simp
  ·have j:b.getD i.toNat 0≠46:=by
    intro F;rw[F] at j;simp at j
   refine B _ ⟨rfl,rfl,rfl,⟨by first|omega|(dsimp only;omega),by first|omega|(dsimp only;omega)⟩,?_⟩ (by simp only;omega);dsimp only;rw[u,aaK,y];have:(b.getD i.toNat 0==46)=false:=by simpa using j
   rw[this,Cl]
 ·have p:=of_decide_eq_false p;rw[Bl (by omega)] at y;have o:s.length<=b.length+a.length+1:=by
   rw[y];split<;>omega
  have E:∀m:MS,(bM m b a).1 =if dO b 46=false∧a≠[] then a++[46]++b else b:=λ_=>rfl
  have A:b=[]->∀m:MS,m.2.2.1=w->(bM m b a).2.2.2.1 =aI w 6:=by
   intro d m k;rw[ag1,k,if_neg];rw[E,d];by_cases f:a=[]
   ·rw[f];decide
   ·rw[if_pos ⟨rfl,f⟩,aik];intro v;have:=Ap.1 v [] (by simpa using arp a []);exact absurd this (by decide)
  have same:b≠[]->∀m:MS,(bM m b a).1 =s:=by
   intro d m;rw[E,y,g];cases F:dO b 46 with
   |true=>simp
   |false=>
    by_cases f:a=[]
    ·simp[f]
    ·simp[f,d]
  refine ab (λd=>?_) (λd=>?_);·have d:=of_decide_eq_true d;refine ah (aV _ _ _) ?_;rintro _ ⟨-,rfl⟩;refine am ⟨_,_,_,_,rfl,rfl,rfl,o,λm k=>⟨(A d m k).symm,λh=>absurd h (cS (by decide))⟩⟩
  ·have d:=of_decide_eq_false d;refine ah (ary _ (by omega)) ?_;rintro _ ⟨-,rfl⟩;refine ab (λhp=>?_) (λhp=>?_);·refine ah (aV _ _ _) ?_;rintro _ ⟨-,rfl⟩;refine am ⟨_,_,_,_,rfl,rfl,rfl,o,λm k=>⟨?_,λh=>absurd h (cS (by decide))⟩⟩;rw[ag1,same d,k,if_neg (by simpa using hp)]
   ·refine am ⟨_,_,_,_,rfl,rfl,rfl,o,λm k=>⟨?_,λ_=>(same d m).symm⟩⟩;rw[ag1,same d,k,if_pos (by simpa using hp)]
theorem aiz:∀(l:List (List UInt8))(s:List UInt8),0<=bV l s↔s∈l
 | [],s=>by simp[bV]
 |x::l,s=>by
  have b:=aiz l s;have d:=uM l s;rw[bV,AB];by_cases h:x=s;·simp[h]
  ·rw[if_neg h];have a:¬s=x:=λe=>h e.symm
   simp only[a,false_or];rw[<-b];split<;>omega
def fY(s:List UInt8)(e:Int):Int:=if b9 s=true then e else aI e 6
def arD(a:List (List UInt8))(s:List UInt8)(e:Int):Int:=if s∈a then aI (fY s e) 5 else fY s e
def uR:List (List UInt8)->List (List UInt8)->Int->Int
 |_,[],e=>e
 |before,s::a,e=>uR (before++[s]) a (arD before s e)
theorem s6{s:List UInt8}{e:Int}(h:e≠0):fY s e=e:=by unfold fY;rw[d9 h];simp
theorem auN{b:List (List UInt8)}{s:List UInt8}{e:Int}(h:e≠0):arD b s e=e:=by unfold arD;rw[s6 h,d9 h];simp
theorem ad0:∀(a b:List (List UInt8)){e:Int},e≠0->uR b a e=e
 | [],b,e,h=>rfl
 |s::a,b,e,h=>by rw[uR,auN h];exact ad0 a _ h
theorem aqt:∀(a b:List (List UInt8))(m:MS),(lr b a m).2.2.1 =uR b a m.2.2.1
 | [],b,m=>rfl
 |s::a,b,m=>by
  rw[lr,aqt a,uR,bH,bH]
  congr 1
  unfold arD fY;simp only[decide_eq_true_eq,aiz];cases b9 s<;>simp
def ifE(b:Bool)(e c:Int):Int:=if b=true then aI e c else e
theorem zw{b:Bool}{e c:Int}(h:e≠0):ifE b e c=e:=by unfold ifE;rw[d9 h];simp
def syL(n:aa):List (List UInt8):=(aj n [115,121,109,98,111,108,115]).1.l.map aa.s
def syT(n:aa):Int:=lm (aj n [115,121,109,98,111,108,115]).1.l (if (aj n [115,121,109,98,111,108,115]).1.kind =5 then ifE (!(aj n [115,121,109,98,111,108,115]).2) 0 2 else aI (ifE (!(aj n [115,121,109,98,111,108,115]).2) 0 2) 2)
def abv(l:List (List UInt8))(e:Int):Int:=ifE (decide (30<l.length)) (ifE (decide (l.length=0)) e 6) 3
def syM(n:aa):Int:=uR [] (syL n) (abv (syL n) (syT n))
def syD(n:aa):aa×Bool:=aj n [100,101,102,97,117,108,116]
def syF(n:aa):Int:=if (syD n).2 =true then ifE (!decide (0<=bV (syL n) (syD n).1.s)) (ifE (!((syD n).1.kind ==4)) (syM n) 2) 6 else syM n
theorem ad1(m:MS)(n:aa)(h:m.2.2.1=0):(cY m n false []).2.2.2.1 =syF n∧(cY m n false []).1 =(syL n,(syD n).2,if (syD n).2 =true then (syD n).1.s else []):=by
 have d:(cu (ak m (!(aj n [115,121,109,98,111,108,115]).2) 2) (aj n [115,121,109,98,111,108,115]).1).2.2.2.1 =syT n:=by rw[wh,bH,h];rfl
 have b:(lr [] (cu (ak m (!(aj n [115,121,109,98,111,108,115]).2) 2) (aj n [115,121,109,98,111,108,115]).1).1 (ak (ak (cu (ak m (!(aj n [115,121,109,98,111,108,115]).2) 2) (aj n [115,121,109,98,111,108,115]).1).2 (decide ((cu (ak m (!(aj n [115,121,109,98,111,108,115]).2) 2) (aj n [115,121,109,98,111,108,115]).1).1.length =0)) 6) (decide (30<(cu (ak m (!(aj n [115,121,109,98,111,108,115]).2) 2) (aj n [115,121,109,98,111,108,115]).1).1.length)) 3)).2.2.1 =syM n:=by rw[aqt,bH,bH,d];rfl
 simp only[cY];by_cases hd:(aj n [100,101,102,97,117,108,116]).2 =true
 ·rw[if_pos hd];refine⟨?_,?_⟩
  ·rw[bH,bH,b];show _=if (syD n).2 =true then _ else _
   rw[if_pos (show (syD n).2 =true from hd)];rfl
  ·rw[show (syD n).2 =true from hd];rfl
 ·rw[if_neg hd];have a:(syD n).2 =false:=by
   show (aj n [100,101,102,97,117,108,116]).2 =false;simpa using hd
  refine⟨?_,?_⟩
  ·rw[b];show _=if (syD n).2 =true then _ else _
   rw[if_neg (show ¬(syD n).2 =true from hd)]
  ·rw[a];rfl
theorem ad2{α:Type}{l:List α}{i:Nat}{x d:α}(h:l[i]? =some x):l.getD i d=x:=by rw[Al,h];rfl
theorem apf(ts:List ac)(n:aa)(p:Int)(hn:bp n)(M:0<=p∧p<(ts.length:Int)):∃r,bw ts 0 n p r:=by
 obtain⟨N,hN⟩:∃N:Nat,N=100:=⟨_,rfl⟩
 apply pR N;have b2:n.names.length<=1000000:=by have:=hn.sizes;omega
 unfold ll dC;rw[cn];refine ah (yl ts 0 n _ hn) ?_;rintro⟨l,ex,A,e1⟩ ⟨-,p1,p2,⟨p3,p4⟩,p5,p6⟩;dsimp only at p1 p2 p3 p4 p5 p6 ⊢;subst p1 p2;have eC:(l.length:Int)<=8:=by omega
 have F:∀(d:List UInt8)(e9:Int),(syF n=if (syD n).2 =true∧¬d∈l then aI e9 6 else e9)->(syF n=0->l=syL n∧d=if (syD n).2 =true then (syD n).1.s else [])->
   Tot (aK N (bv N) (p,l,(syD n).2,d,false,0,A,e9)) (λz=>∃(E:List ac)(D:Int)(rest:List ai),z.1.dimR=.tup []∧z.2=some [.ul .atype E,.int .i64 D]::rest∧aN A 0 n p (E,D)):=by
  intro d e9 hF J;refine ba (λx=>match x with|(a,f,hs,d',b,i,e,y)=>a=p∧f=l∧hs=(syD n).2 ∧d'=d∧e=A∧y=e9∧(0<=i∧i<=(l.length:Int))∧b=decide (d∈l.take i.toNat)) (λx=>((l.length:Int)-x.2.2.2.2.2.1).toNat) ?_ _ _ ⟨rfl,rfl,rfl,rfl,rfl,rfl,⟨by simp,by simp⟩,by simp⟩ (by simp;omega);rintro Y ⟨a,f,hs,d',b,i,e,y⟩ ⟨rfl,rfl,rfl,rfl,rfl,rfl,⟨i1,i2⟩,I⟩ ih;dsimp only at ih;have ew:i<(f.length:Int)->IntKind.i64.wrap (i+1)=i+1:=λh=>ax (i+1) (by omega)
  unfold bv;dsimp only;refine ab (λu=>?_) (λu=>?_)
  ·have u:=of_decide_eq_true u;have H:i.toNat<f.length:=by omega
   have ad:f.take (i+1).toNat=f.take i.toNat++[f.getD i.toNat (ao .str)]:=by rw[show (i+1).toNat=i.toNat+1 by omega,Bt,Ab H,Al,Ab H];rfl
   rw[ew u];refine ab (λw=>?_) (λw=>?_)
   ·refine ih _ ⟨rfl,rfl,rfl,rfl,rfl,rfl,⟨by first|omega|(dsimp only;omega),by first|omega|(dsimp only;omega)⟩,?_⟩ (by simp only;omega);have:d'∈f.take i.toNat:=by rw[w] at I;simpa using I.symm
    dsimp only;rw[ad];simp[this]
   ·refine vck ?_ (ixt ⟨i1,u⟩);refine ih _ ⟨rfl,rfl,rfl,rfl,rfl,rfl,⟨by first|omega|(dsimp only;omega),by first|omega|(dsimp only;omega)⟩,?_⟩ (by simp only;omega);have:¬d'∈f.take i.toNat:=by rw[w] at I;simpa using I.symm
    dsimp only;rw[ad,decide_eq_decide];simp only[Az,this,false_or,Au];exact eq_comm
  ·have u:=of_decide_eq_false u;rw[Bl (by omega)] at I;have W:a.toNat<e.length:=by omega
   have ht:e[a.toNat]? =some (e.getD a.toNat (ao .atype)):=by rw[Al,Ab W];rfl
   have cc:∀x:ac,(e.set a.toNat x).getD a.toNat (ao .atype)=x:=λx=>ad2 (Bw W)
   have G:∀g:Int,g=syF n->g≠0->aN e 0 n a (e,g):=λg h1 B=>⟨λh=>absurd rfl h,λ_=>⟨rfl,λm Z=>⟨h1.trans (ad1 m n Z).1.symm,λh=>absurd h B⟩⟩⟩
   have a4:∀(g:Int),g=syF n->g=0->aN e 0 n a (e.set a.toNat ⟨(e.getD a.toNat (ao .atype)).kind,(e.getD a.toNat (ao .atype)).name,(e.getD a.toNat (ao .atype)).aliases,(e.getD a.toNat (ao .atype)).items,f,(syD n).2,d',(e.getD a.toNat (ao .atype)).size,(e.getD a.toNat (ao .atype)).fields,(e.getD a.toNat (ao .atype)).branches⟩,g):=by intro g h1 B;refine⟨λh=>absurd rfl h,λ_=>⟨by simp,λm Z=>⟨h1.trans (ad1 m n Z).1.symm,λ_ t dj=>?_⟩⟩⟩;rw[(ad1 m n Z).2];obtain⟨k1,k2⟩:=J (h1.symm.trans B);rw[ad2 dj];dsimp only;rw[<-k1,<-k2]
   have an:∀g:Int,g=syF n->g=0->Tot (
     chk (decide (0<Aa e)) (
      chk ((decide (0<=a)&&decide (a<↑(Aa e)))) (
       chk (decide ((Ah a)<Aa e)) (
        let a0:=(Bb e (Ah a) (let o:=An e (Ah a) (ao .atype);⟨o.kind,o.name,o.aliases,o.items,f,o.hasdef,o.df,o.size,o.fields,o.branches⟩))
        chk ((decide (0<=a)&&decide (a<↑(Aa e)))) (
         chk (decide ((Ah a)<Aa a0)) (
          let a3:=(Bb a0 (Ah a) (let o:=An a0 (Ah a) (ao .atype);⟨o.kind,o.name,o.aliases,o.items,o.syms,(syD n).2,o.df,o.size,o.fields,o.branches⟩))
          chk ((decide (0<=a)&&decide (a<↑(Aa e)))) (
           chk (decide ((Ah a)<Aa a3)) (
            let b0:=(Bb a3 (Ah a) (let o:=An a3 (Ah a) (ao .atype);⟨o.kind,o.name,o.aliases,o.items,o.syms,o.hasdef,d',o.size,o.fields,o.branches⟩))
            chk (AD (Aa e) (Aa b0)) (
             (some (.tup [],[some [.ul .atype b0,.int .i64 g],none,none]):Ro)))))))))) (λz=>∃(E:List ac)(D:Int)(rest:List ai),z.1.dimR=.tup []∧z.2=some [.ul .atype E,.int .i64 D]::rest∧aN e 0 n a (E,D)):=by
    intro g h1 B;dsimp only;refine vck ?_ (decide_eq_true (by omega));refine vck ?_ (by simp[M.1,M.2]);refine vck ?_ (decide_eq_true W);refine vck ?_ (by simp[M.1,M.2]);refine vck ?_ (decide_eq_true (by simpa using W));refine vck ?_ (by simp[M.1,M.2]);refine vck ?_ (decide_eq_true (by simpa using W));refine vck ?_ (by simp);refine am ⟨_,_,_,rfl,rfl,?_⟩;have:=a4 g h1 B;simpa only[Dp,cc] using this
   refine ab (λhh=>?_) (λhh=>?_)
   ·refine ab (λw=>?_) (λw=>?_)
    ·have a1:¬d'∈f:=by
      have w:b=false:=by simpa using w
      rw[w] at I;simpa using I.symm
     rw[if_pos ⟨hh,a1⟩] at hF;refine ah (aV _ _ _) ?_;rintro _ ⟨-,rfl⟩;refine ab (λj=>absurd (by simpa using j) (cS (by decide))) (λj=>am ⟨_,_,_,rfl,rfl,G _ hF.symm (cS (by decide))⟩)
    ·have a1:d'∈f:=by
      have w:b=true:=by simpa using w
      rw[w] at I;simpa using I.symm
     rw[if_neg (λh=>h.2 a1)] at hF;refine ab (λj=>an _ hF.symm (by simpa using j)) (λj=>am ⟨_,_,_,rfl,rfl,G _ hF.symm (by simpa using j)⟩)
   ·rw[if_neg (λh=>by rw[hh] at h;cases h.1)] at hF;refine ab (λj=>an _ hF.symm (by simpa using j)) (λj=>am ⟨_,_,_,rfl,rfl,G _ hF.symm (by simpa using j)⟩)
 have P:∀v:Int,uR [] l v=syM n->(v=0->l=syL n)->Tot (aK N (aW N) (p,n,l,0,A,v)) (λz=>∃(E:List ac)(D:Int)(rest:List ai),z.1.dimR=.tup []∧z.2=some [.ul .atype E,.int .i64 D]::rest∧aN A 0 n p (E,D)):=by
  intro v hM hL;refine ba (λx=>match x with|(a,n',f,i,e,y)=>a=p∧n'=n∧f=l∧e=A∧(0<=i∧i<=(l.length:Int))∧uR [] l v=uR (l.take i.toNat) (l.drop i.toNat) y∧(y=0->v=0)) (λx=>((l.length:Int)-x.2.2.2.1).toNat) ?_ _ _ ⟨rfl,rfl,rfl,rfl,⟨by simp,by simp⟩,by simp,id⟩ (by simp;omega);rintro Y ⟨a,n',f,i,e,y⟩ ⟨rfl,rfl,rfl,rfl,⟨i1,i2⟩,I,i4⟩ ih;dsimp only at ih;unfold aW dX;dsimp only
  have go:(y≠0∨i=(f.length:Int))->Tot (af (aR (reJ n') ([100,101,102,97,117,108,116]:Bs)) (λc1=>
   af (cq e y (reJ n') ([100,101,102,97,117,108,116]:Bs) false) (λa5=>
    aK N (bv N) (a,f,c1.2,a5.1,false,0,a5.2.1,a5.2.2)))) (λz=>∃(E:List ac)(D:Int)(rest:List ai),z.1.dimR=.tup []∧z.2=some [.ul .atype E,.int .i64 D]::rest∧aN e 0 n' a (E,D)):=by
   intro c3;have O:y=syM n':=by
    rw[<-hM,I];rcases c3 with h|h;·exact(ad0 _ _ h).symm
    ·rw[h,At,By];rfl
   rw[cn];refine ah (ii n' _ b2) ?_;rintro _ ⟨-,rfl⟩;refine ah (aaL _ _ _ _ _ b2) ?_;rintro _ ⟨-,rfl⟩;show Tot (aK N (bv N) (a,f,(syD n').2,_,false,0,_,_)) _;have hl:syM n'=0->f=syL n':=λh=>hL (i4 (O.trans h))
   have ds:∀x:Int,¬((aj n' [100,101,102,97,117,108,116]).2 =false∧false=false)->(syD n').2 =true:=λ_ h=>by
    cases C:(syD n').2 with
    |true=>rfl
    |false=>exact absurd ⟨C,rfl⟩ h
   split
   ·rename_i h;have C:(syD n').2 =false:=h.1;refine F [] y ?_ ?_;·unfold syF;rw[C];simpa using O.symm
    ·unfold syF;rw[C];intro J;exact⟨hl (by simpa using J),by simp⟩
   ·rename_i h;have C:(syD n').2 =true:=ds 0 h;split
    ·rename_i B;have hk:(syD n').1.kind ≠4:=by
      rcases B with B|B;·rw[show (aj n' [100,101,102,97,117,108,116]).2 =true from C] at B;cases B
      ·exact B
     have hf:syF n'=aI y 2:=by
      unfold syF;rw[if_pos C];have:(!((syD n').1.kind ==4))=true:=by simpa using hk
      rw[this,<-O,show ifE true y 2=aI y 2 from rfl,zw (cS (by decide))]
     refine F [] (aI y 2) ?_ (λJ=>absurd (hf.symm.trans J) (cS (by decide)));rw[hf];split;·rw[d9 (cS (by decide))]
     ·rfl
    ·rename_i B;have hk:(syD n').1.kind =4:=by
      by_cases hk:(syD n').1.kind =4;·exact hk
      ·exact absurd (.inr hk) B
     have hf:syF n'=ifE (!decide (0<=bV (syL n') (syD n').1.s)) y 6:=by
      unfold syF;rw[if_pos C];have:(!((syD n').1.kind ==4))=false:=by simp[hk]
      rw[this,<-O];rfl
     refine F (syD n').1.s y ?_ (λJ=>?_)
     ·rw[hf];by_cases j:y=0
      ·rw[<-hl (O.symm.trans j)];unfold ifE;have Z:=aiz f (syD n').1.s;by_cases hi:(syD n').1.s ∈f;·rw[if_neg (by simp[Z.2 hi]),if_neg (λh=>h.2 hi)]
       ·rw[if_pos (by
         have:¬0<=bV f (syD n').1.s :=λh=>hi (Z.1 h)
         simp[this]),if_pos ⟨C,hi⟩]
      ·rw[zw j,d9 j];simp
     ·have j:y=0:=by
       rw[hf] at J;by_cases j:y=0;·exact j
       ·rw[zw j] at J;exact J
      exact⟨hl (O.symm.trans j),by rw[if_pos C]⟩
  refine ab (λu=>?_) (λu=>go (.inr (by have:=of_decide_eq_false u;omega)));have u:=of_decide_eq_true u;have H:i.toNat<f.length:=by omega
  refine ab (λO=>?_) (λO=>go (.inl (by simpa using O)));have O:y=0:=by simpa using O
  have hd:=tv (d:=(ao .str:List UInt8)) ⟨i1,u⟩;have ad:f.take (i+1).toNat=f.take i.toNat++[f.getD i.toNat (ao .str)]:=by rw[show (i+1).toNat=i.toNat+1 by omega,Bt,Ab H,Al,Ab H];rfl
  have c0:(f.getD i.toNat (ao .str)).length<=1000000:=by have:=p4 (f.getD i.toNat (ao .str)) (by rw[Al,Ab H];exact Bf _);omega
  rw[hd,uR] at I;refine vck ?_ (ixt ⟨i1,u⟩);refine ah (wU _ c0) ?_;rintro _ ⟨-,rfl⟩;have S:∀L:Int,L=fY (f.getD i.toNat (ao .str)) y->Tot (aK N (dh N Y) (a,n',f,i,0,e,L)) (λz=>∃(E:List ac)(D:Int)(rest:List ai),z.1.dimR=.tup []∧z.2=some [.ul .atype E,.int .i64 D]::rest∧aN e 0 n' a (E,D)):=by
   intro L c2;refine ba (λx=>match x with|(a',n2,R,i',k,bs,e4)=>a'=a∧n2=n'∧R=f∧i=i'∧bs=e∧(0<=k∧k<=i)∧e4=if f.getD i.toNat (ao .str)∈f.take k.toNat then aI L 5 else L) (λx=>(i-x.2.2.2.2.1).toNat) ?_ _ _ ⟨rfl,rfl,rfl,rfl,rfl,⟨by simp,i1⟩,by simp⟩ (by simp;omega);rintro cs ⟨a',n2,R,i',k,bs,e4⟩ ⟨rfl,rfl,rfl,rfl,rfl,⟨k1,k2⟩,k3⟩ a2;dsimp only at a2;unfold dh;dsimp only;refine ab (λQ=>?_) (λQ=>?_)
   ·have Q:=of_decide_eq_true Q;have b6:k.toNat<R.length:=by omega
    have al:R.take (k+1).toNat=R.take k.toNat++[R.getD k.toNat (ao .str)]:=by rw[show (k+1).toNat=k.toNat+1 by omega,Bt,Ab b6,Al,Ab b6];rfl
    have ew:IntKind.i64.wrap (k+1)=k+1:=ax (k+1) (by omega);rw[ew];refine vck ?_ (ixt ⟨k1,by omega⟩);refine vck ?_ (ixt ⟨i1,u⟩);refine ab (λC=>?_) (λC=>?_)
    ·have C:=of_decide_eq_true C;refine ah (aV _ _ _) ?_;rintro _ ⟨-,rfl⟩;refine a2 _ ⟨rfl,rfl,rfl,rfl,rfl,⟨by first|omega|(dsimp only;omega),by first|omega|(dsimp only;omega)⟩,?_⟩ (by simp only;omega);dsimp only;rw[al,if_pos (Az.2 (.inr (Au.2 C.symm))),k3];split;·rw[d9 (cS (by decide))]
     ·rfl
    ·have C:=of_decide_eq_false C;refine a2 _ ⟨rfl,rfl,rfl,rfl,rfl,⟨by first|omega|(dsimp only;omega),by first|omega|(dsimp only;omega)⟩,?_⟩ (by simp only;omega);dsimp only;rw[al,k3];have:(R.getD i.toNat (ao .str)∈R.take k.toNat++[R.getD k.toNat (ao .str)])↔R.getD i.toNat (ao .str)∈R.take k.toNat:=by
      rw[Az,Au];exact⟨λh=>h.elim id (λh=>absurd h.symm C),.inl⟩
     simp only[this]
   ·have Q:=of_decide_eq_false Q;have cy:k=i:=by omega
    rw[cy] at k3;have ew:IntKind.i64.wrap (i+1)=i+1:=ax (i+1) (by omega);rw[ew];refine ih _ ⟨rfl,rfl,rfl,rfl,⟨by first|omega|(dsimp only;omega),by first|omega|(dsimp only;omega)⟩,?_,λ_=>i4 O⟩ (by simp only;omega);dsimp only;rw[I,ad,k3,c2];rfl
  refine ab (λhp=>?_) (λhp=>?_);·refine ah (aV _ _ _) ?_;rintro _ ⟨-,rfl⟩;refine S _ ?_;unfold fY;rw[if_neg (by simpa using hp)]
  ·refine S _ ?_;unfold fY;rw[if_pos (by simpa using hp)]
 have first:∀v:Int,v=syT n->(v=0->l=syL n)->Tot (cond ((l.length:Int)==0) (
     af (ag A v 6) (λr3=>
      cond (decide (30<(l.length:Int))) (
       af (ag r3.2.1 r3.2.2 3) (λr4=>
        aK N (aW N) (p,n,l,0,r4.2.1,r4.2.2))) (
       aK N (aW N) (p,n,l,0,r3.2.1,r3.2.2)))) (
     cond (decide (30<(l.length:Int))) (
      af (ag A v 3) (λb1=>
       aK N (aW N) (p,n,l,0,b1.2.1,b1.2.2))) (
      aK N (aW N) (p,n,l,0,A,v)))) (λz=>∃(E:List ac)(D:Int)(rest:List ai),z.1.dimR=.tup []∧z.2=some [.ul .atype E,.int .i64 D]::rest∧aN A 0 n p (E,D)):=by
  intro v B b3;have hM:∀L,L=abv l v->uR [] l L=syM n:=by
   rintro L rfl;unfold syM;rw[<-B];by_cases j:v=0;·rw[b3 j]
   ·have h3:∀q,abv q v=v:=λq=>by unfold abv;rw[zw j,zw j]
    rw[h3,h3,ad0 _ _ j,ad0 _ _ j]
  have b5:∀L,L=abv l v->L=0->l=syL n:=by
   rintro L rfl J;refine b3 ?_;by_cases j:v=0;·exact j
   ·unfold abv at J;rw[zw j,zw j] at J;exact J
  refine ab (λu=>?_) (λu=>?_)
  ·have u:l.length=0:=by simpa using u
   refine ah (aV _ _ _) ?_;rintro _ ⟨-,rfl⟩;refine ab (λX=>absurd (of_decide_eq_true X) (by omega)) (λX=>?_);have:aI v 6=abv l v:=by unfold abv ifE;rw[u];rfl
   exact P _ (hM _ this) (b5 _ this)
  ·have u:¬l.length=0:=by simpa using u
   refine ab (λX=>absurd (of_decide_eq_true X) (by omega)) (λX=>?_);have:v=abv l v:=by unfold abv ifE;rw[if_neg (by simp;omega),if_neg (by simpa using u)]
   exact P _ (hM _ this) (b5 _ this)
 refine ab (λw=>?_) (λw=>?_)
 ·have w:(aj n [115,121,109,98,111,108,115]).2 =false:=by simpa using w
  refine ah (aV _ _ _) ?_;rintro _ ⟨-,rfl⟩;obtain⟨q1,q2⟩:=p5 w;have B:syT n=2:=by unfold syT;rw[w];show lm _ (if _ then (2:Int) else aI 2 2)=2;rw[show aI 2 2=2 from rfl];simp only[ite_self];exact tK _ (by decide)
  refine first _ ?_ (λh=>absurd h (cS (by decide)))
  rw[B,q2];rfl
 ·have w:(aj n [115,121,109,98,111,108,115]).2 =true:=by simpa using w
  have Z:=p6 w m0 rfl;refine first _ ?_ (λh=>?_)
  ·rw[Z.1,wh];unfold syT;rw[w];rfl
  ·exact Z.2 h
theorem apX(ts:List ac)(e:Int)(n:aa)(j:Int)(t:e≠0)(O:bp n):∃r,bw ts e n j r:=by
 obtain⟨N,hN⟩:∃N:Nat,N=100:=⟨_,rfl⟩
 apply pR N;have C:n.names.length<=1000000:=by have:=O.sizes;omega
 have fin:∀o,Tot (some (.tup [],some [.ul .atype ts,.int .i64 e]::o):Ro) (λz=>∃(q:List ac)(p:Int)(rest:List ai),z.1.dimR=.tup []∧z.2=some [.ul .atype q,.int .i64 p]::rest∧aN ts e n j (q,p)):=
  λo=>am ⟨_,_,_,rfl,rfl,λ_=>rfl,λh=>absurd h t⟩
 unfold ll dC;rw[cn];refine ah (yl ts e n _ O) ?_;rintro⟨l,Y,g,m⟩ ⟨-,P,p2,⟨p3,p4⟩,X,L⟩;dsimp only at P p2 p3 p4 X L ⊢;obtain rfl:m=e:=by
  by_cases Q:(aj n [115,121,109,98,111,108,115]).2 =true;·have:=(L Q ([],[],e,0) rfl).1;rw[wh] at this;rw[this,d9 t];simp only[ite_self];exact tK _ t
  ·exact(X (by simpa using Q)).2
 subst P;have ae:(l.length:Int)<=8:=by omega
 have w:∀(W:Bool)(d:List UInt8),Tot (aK N (bv N) (j,l,W,d,false,0,g,m)) (λz=>∃(q:List ac)(p:Int)(rest:List ai),z.1.dimR=.tup []∧z.2=some [.ul .atype q,.int .i64 p]::rest∧aN g m n j (q,p)):=by
  intro W d;refine ba (λx=>match x with|(a,R,G,Z,b,i,A,D)=>R=l∧A=g∧D=m∧(0<=i∧i<=(l.length:Int))) (λx=>((l.length:Int)-x.2.2.2.2.2.1).toNat) ?_ _ _ ⟨rfl,rfl,rfl,⟨by simp,by simp⟩⟩ (by simp;omega);rintro H ⟨a,R,G,Z,b,i,A,D⟩ ⟨rfl,rfl,rfl,⟨i1,i2⟩⟩ E;dsimp only at E;unfold bv;dsimp only;refine ab (λu=>?_) (λu=>?_)
  ·have u:=of_decide_eq_true u;rw[ax (i+1) (by omega)];refine ab (λB=>?_) (λB=>?_);·exact E _ ⟨rfl,rfl,rfl,⟨by first|omega|(dsimp only;omega),by first|omega|(dsimp only;omega)⟩⟩ (by simp only;omega)
   ·refine vck ?_ (ixt ⟨i1,u⟩);exact E _ ⟨rfl,rfl,rfl,⟨by first|omega|(dsimp only;omega),by first|omega|(dsimp only;omega)⟩⟩ (by simp only;omega)
  ·have y:(D==0)=false:=by simpa using t
   refine ab (λhh=>?_) (λhh=>?_)
   ·refine ab (λB=>?_) (λB=>?_);·refine ah (aV _ _ _) ?_;rintro _ ⟨-,rfl⟩;dsimp only;rw[d9 t];exact ab (λh=>absurd h (by rw[y];simp)) (λ_=>fin _)
    ·exact ab (λh=>absurd h (by rw[y];simp)) (λ_=>fin _)
   ·exact ab (λh=>absurd h (by rw[y];simp)) (λ_=>fin _)
 have f:Tot (aK N (aW N) (j,n,l,0,g,m)) (λz=>∃(q:List ac)(p:Int)(rest:List ai),z.1.dimR=.tup []∧z.2=some [.ul .atype q,.int .i64 p]::rest∧aN g m n j (q,p)):=by
  obtain⟨M,rfl⟩:∃M,N=M+1:=⟨N-1,by omega⟩
  show Tot (aW (M+1) (aK M (aW (M+1))) _) _;unfold aW dX;dsimp only
  have S:Tot (af (aR (reJ n) ([100,101,102,97,117,108,116]:Bs)) (λJ=>
   af (cq g m (reJ n) ([100,101,102,97,117,108,116]:Bs) false) (λv=>
    aK (M+1) (bv (M+1)) (j,l,J.2,v.1,false,0,v.2.1,v.2.2)))) (λz=>∃(q:List ac)(p:Int)(rest:List ai),z.1.dimR=.tup []∧z.2=some [.ul .atype q,.int .i64 p]::rest∧aN g m n j (q,p)):=by
   rw[cn];refine ah (ii n _ C) ?_;rintro _ ⟨-,rfl⟩;refine ah (aaL _ _ _ _ _ C) ?_;intro r F;have F:r=_:=F.2;have:r.2=(g,m):=by
    rw[F];split;·rfl
    ·split;·rw[d9 t]
     ·rfl
   rw[this];exact w _ _
  have y:(m==0)=false:=by simpa using t
  exact ab (λ_=>ab (λh=>absurd h (by rw[y];simp)) (λ_=>S)) (λ_=>S)
 have I:∀{c:Int},aI m c=m:=λ{c}=>d9 t
 refine ab (λB=>?_) (λB=>?_)
 ·refine ah (aV _ _ _) ?_;rintro _ ⟨-,rfl⟩;dsimp only;rw[I];refine ab (λu=>?_) (λu=>?_);·refine ah (aV _ _ _) ?_;rintro _ ⟨-,rfl⟩;dsimp only;rw[I];exact ab (λk=>absurd (of_decide_eq_true k) (by omega)) (λ_=>f)
  ·exact ab (λk=>absurd (of_decide_eq_true k) (by omega)) (λ_=>f)
 ·refine ab (λu=>?_) (λu=>?_);·refine ah (aV _ _ _) ?_;rintro _ ⟨-,rfl⟩;dsimp only;rw[I];exact ab (λk=>absurd (of_decide_eq_true k) (by omega)) (λ_=>f)
  ·exact ab (λk=>absurd (of_decide_eq_true k) (by omega)) (λ_=>f)
def ad3(deep:Int):Prop:=∀(ts:List ac)(e:Int)(n:aa)(a:List UInt8),(e=0->∃m,OfS ts 0 m)->ts.length<=60->bp n->(a.length:Int)<=300*deep->∃r,bc ts e n a deep r
theorem fm(m:MS)(c:Int):ak m false c=m:=by obtain⟨a,b,e,d⟩:=m;simp[ak]
theorem Ag.of{a:MS}{r:RS}(h:Ag a r)(d:r.2=0->dx a):OfS r.1 r.2 a:=⟨h.2.1.symm,λb=>⟨(h.2.2 b).symm,d b⟩⟩
theorem OfS.deep{ts:List ac}{e:Int}{m:MS}(h:OfS ts e m)(d:Int):OfS ts e (bZ m d):=⟨h.1,λa=>⟨(h.2 a).1,⟨(h.2 a).2.tok,(h.2 a).2.nm,(h.2 a).2.map,(h.2 a).2.mn⟩⟩⟩
theorem oD(d:Int):eb (aC d):=dl _
theorem at0(d:Int):TIn (aC d):=aku _
theorem amn(d:Int):aaW (aC d):=adj _
theorem aaM(d:Int):xh (aC d):=ah6 _
theorem agA{T:TF}{a:List UInt8}{xs:List aa}{l:List Int}{b:List (List UInt8×Bool)}{m:MS}(h:m.2.2.1≠0):bW T a xs l b m=(l,m):=by
 cases xs with
 |nil=>rfl
 |cons x xs=>rw[bW,if_neg h]
theorem aqu{a b:List ac}(h:Pre a b){i:Int}(d:0<=i∧i<(a.length:Int)):fw b i=fw a i:=by
 have f:=h.1;have e:b.getD i.toNat (ao .atype)=a.getD i.toNat (ao .atype):=by rw[Al,Al,h.2 _ (by omega)]
 unfold fw;rw[if_pos d,if_pos (by omega),e]
def avA(ts:List ac)(n:aa)(a:List UInt8)(deep f:Int)(l:List Int)(i:Int)(e:List ac)(g:Int):Prop:=
 ∀m,OfS ts 0 m->m.2.2.2=deep->∃(d:List (List UInt8×Bool))(h:MS),OfS e g h∧h.2.2.2=deep∧(g=0->(a7 m (aE 14)).1 =f)∧
  bW (aC deep) a n.l [] [] (a7 m (aE 14)).2 =bW (aC deep) a (n.l.drop i.toNat) l d h∧
  (g=0->(∀x,da (k:=.sb) d x=true↔∃b∈l,fw e b=x)∧∀b∈l,0<=b∧b<(e.length:Int))
theorem arE(deep:Int)(hd:1<=deep∧deep<=20)(hT:ad3 (deep+1))(ts:List ac)(n:aa)(a:List UInt8)(a3:∃m,OfS ts 0 m)(h:ts.length<=60)(hn:bp n)(hs:(a.length:Int)<=300*deep):∃r,gg ts 0 n a deep r:=by
 obtain⟨N,hN⟩:∃N:Nat,N=100:=⟨_,rfl⟩
 apply zT N;have e0:=hn.sizes.2.1;unfold sa fL
 have fin:∀(x:Int)(t:List ac)(e:Int)(o:List ai),(∀m,OfS ts 0 m->m.2.2.2=deep->AgI (dk (aC deep) m n a) (x,t,e))->Tot (some (.int .i64 x,some [.ul .atype t,.int .i64 e]::o):Ro) (λz=>∃(S:Int)(R:List ac)(X:Int)(rest:List ai),z.1.dimR=.int .i64 S∧z.2=some [.ul .atype R,.int .i64 X]::rest∧dy ts 0 n a deep (S,R,X)):=
  λx t e o hx=>am ⟨_,_,_,_,rfl,rfl,λ_=>hx⟩
 refine ah (zv ts 0 _ h) ?_;rintro F ⟨-,b2⟩;have L:∀m,OfS ts 0 m->AgI (a7 m (aE 14)) F:=λm E=>agy E h b2
 have W:F.2.1.length<=60:=by obtain⟨m,E⟩:=a3;exact(L m E).1.1
 have uF:∀m,dk (aC deep) m n a=((a7 m (aE 14)).1,if (bW (aC deep) a n.l [] [] (ak (a7 m (aE 14)).2 (decide (n.l.length=0)) 6)).2.2.2.1 =0 then atT (bW (aC deep) a n.l [] [] (ak (a7 m (aE 14)).2 (decide (n.l.length=0)) 6)).2 (a7 m (aE 14)).1 (gK · (bW (aC deep) a n.l [] [] (ak (a7 m (aE 14)).2 (decide (n.l.length=0)) 6)).1) else (bW (aC deep) a n.l [] [] (ak (a7 m (aE 14)).2 (decide (n.l.length=0)) 6)).2):=by intro m;simp only[dk];rw[show decide (30<n.l.length)=false from decide_eq_false (by omega),fm]
 refine ab (λhc=>?_) (λhc=>?_)
 ·have hc:n.l.length=0:=by simpa using hc
  refine ah (aV _ _ _) ?_;rintro _ ⟨-,rfl⟩;refine fin _ _ _ _ λm E A=>?_
  have ef:n.l=[]:=List.length_eq_zero_iff.1 hc;have H:(ak (a7 m (aE 14)).2 (decide (n.l.length=0)) 6).2.2.1 =aI F.2.2 6:=by rw[bH,if_pos (by simp[hc]),(L m E).1.2.1]
  rw[uF,agA (by rw[H];exact cS (by decide)),if_neg (by rw[H];exact cS (by decide))];exact⟨⟨W,H.symm,λh=>absurd h (cS (by decide))⟩,λh=>absurd h (cS (by decide))⟩
 have hc:n.l.length≠0:=by simpa using hc
 have an:∀m,dk (aC deep) m n a=((a7 m (aE 14)).1,if (bW (aC deep) a n.l [] [] (a7 m (aE 14)).2).2.2.2.1 =0 then atT (bW (aC deep) a n.l [] [] (a7 m (aE 14)).2).2 (a7 m (aE 14)).1 (gK · (bW (aC deep) a n.l [] [] (a7 m (aE 14)).2).1) else (bW (aC deep) a n.l [] [] (a7 m (aE 14)).2).2):=by intro m;rw[uF,show decide (n.l.length=0)=false from decide_eq_false hc,fm]
 refine ab (λcx=>absurd (of_decide_eq_true cx) (by omega)) (λcx=>?_);have cc:avA ts n a deep F.1 [] 0 F.2.1 F.2.2:=by intro m E A;refine⟨[],(a7 m (aE 14)).2,(L m E).1.of λC=>?_,(sR m _).dep.trans A,λC=>((L m E).2 C).symm,by simp,λ_=>⟨λx=>by simp[da,aY,MK.zero],by simp⟩⟩;exact(vA (E.2 rfl).2 (by rw[<-(L m E).1.2.1];exact C) (by decide) (by decide) rfl rfl rfl rfl).1
 have c1:F.2.2=0->0<=F.1∧F.1<(F.2.1.length:Int):=by intro C;obtain⟨m,E⟩:=a3;have ha:=L m E;have:=afL (m:=m) (t:=aE 14) (cg.refl _) (by rw[<-ha.1.2.1];exact C);rw[ha.2 C,ha.1.2.2 C];exact this
 clear b2;refine ba (λx=>match x with|(sp,w,n',a',l,i,u,e')=>sp=a∧w=deep∧n'=n∧a'=F.1∧(0<=i∧i<=(n.l.length:Int))∧u.length<=60∧(l.length:Int)<=i∧avA ts n a deep F.1 l i u e'∧(e'=0->0<=F.1∧F.1<(u.length:Int))) (λx=>((n.l.length:Int)-x.2.2.2.2.2.1).toNat) ?_ _ _ ⟨rfl,rfl,rfl,rfl,⟨by simp,by simp⟩,W,by simp,cc,c1⟩ (by simp;omega);rintro d3 ⟨sp,w,n',a',l,i,u,e'⟩ ⟨rfl,rfl,rfl,rfl,⟨i1,i2⟩,i3,i4,hU,hr⟩ ih;dsimp only at ih;unfold iU ik;dsimp only;have bx:e'≠0->∀(x:Int)(o:List ai),Tot (some (.int .i64 x,some [.ul .atype u,.int .i64 e']::o):Ro) (λz=>∃(S:Int)(R:List ac)(X:Int)(rest:List ai),z.1.dimR=.int .i64 S∧z.2=some [.ul .atype R,.int .i64 X]::rest∧dy ts 0 n' sp w (S,R,X)):=by
  intro H x o;refine fin _ _ _ _ λm E A=>?_
  obtain⟨f,B,q, -, -,G, -⟩:=hU m E A;have ae:B.2.2.1≠0:=by rw[q.1];exact H
  rw[an,G,agA ae,if_neg ae];exact⟨⟨i3,q.1.symm,λh=>absurd h H⟩,λh=>absurd h H⟩
 have done:e'=0->i=(n'.l.length:Int)->Tot (
   chk (decide (0<Aa u)) (
    chk ((decide (0<=F.1)&&decide (F.1<↑(Aa u)))) (
     chk (decide ((Ah F.1)<Aa u)) (
      let ci:=(Bb u (Ah F.1) (let e_:=An u (Ah F.1) (ao .atype);⟨e_.kind,e_.name,e_.aliases,e_.items,e_.syms,e_.hasdef,e_.df,e_.size,e_.fields,l⟩))
      chk (AD (Aa u) (Aa ci)) (
       (some (.int .i64 F.1,[some [.ul .atype ci,.int .i64 e'],none,none]):Ro)))))) (λz=>∃(S:Int)(R:List ac)(X:Int)(rest:List ai),z.1.dimR=.int .i64 S∧z.2=some [.ul .atype R,.int .i64 X]::rest∧dy ts 0 n' sp w (S,R,X)):=by
  intro H hi;have cv:=hr H;refine vck ?_ (decide_eq_true (by omega));refine vck ?_ (by simp[cv.1,cv.2]);refine vck ?_ (decide_eq_true (by omega));refine vck ?_ (by simp);refine fin _ _ _ _ λm E A=>?_
  obtain⟨f,B,q, -,P,G, -⟩:=hU m E A;rw[hi,At,By] at G;have G:bW (aC w) sp n'.l [] [] (a7 m (aE 14)).2 =(l,B):=G;rw[an,G,if_pos (q.1.trans H),P H];refine⟨⟨by simpa using i3,q.1.symm,λ_=>?_⟩,λ_=>rfl⟩;show _=B.2.1.set _ _;rw[(q.2 H).1];rfl
 refine ab (λI=>?_) (λI=>?_)
 ·have I:=of_decide_eq_true I;have eJ:i.toNat<n'.l.length:=by omega
  refine ab (λH=>?_) (λH=>?_)
  ·have H:e'=0:=by simpa using H
   subst H;have a5:=tv (d:=(ao .jnode:aa)) ⟨i1,I⟩;have a2:bp (n'.l.getD i.toNat (ao .jnode)):=bp.getD hn.sizes.2.2.2 _;generalize hx:n'.l.getD i.toNat (ao .jnode)=x at a5 a2;have ed:IntKind.i64.wrap (w+1)=w+1:=ax (w+1) (by omega);obtain⟨cd,a1⟩:=a3;obtain⟨-,w0,Z,dj, -⟩:=hU (bZ cd w) (a1.deep w) rfl;refine vck ?_ (ixt ⟨i1,I⟩);rw[cn,ed];refine ah (hT u 0 x sp (λ_=>⟨w0,Z⟩) i3 a2 (by omega)) ?_;rintro p ⟨-,h4⟩;have h4:∀B,OfS u 0 B->B.2.2.2=w->AgI (aC w B x sp) p:=by
    intro B q1 q2;have:=h4 B q1 (by rw[q2];omega)
    rwa [show w+1-1=w by omega] at this
   have g4:=h4 w0 Z dj;refine ab (λC=>?_) (λC=>?_)
   ·have C:p.2.2≠0:=by simpa using C
    refine fin _ _ _ _ λm E A=>?_
    obtain⟨f,B,q,J, -,G, -⟩:=hU m E A;have g:=h4 B q J;have O:(aC w B x sp).2.2.2.1 ≠0:=by rw[<-g.1.2.1];exact C
    rw[a5,bW,if_pos q.1] at G;dsimp only at G;rw[if_neg O] at G;rw[an,G,if_neg O];exact⟨⟨g.1.1,g.1.2.1,λh=>absurd h C⟩,λh=>absurd h C⟩
   have C:p.2.2=0:=by simpa using C
   have a9:0<=p.1∧p.1<(p.2.1.length:Int):=by have:=at0 w w0 x sp (by rw[<-g4.1.2.1];exact C) (Z.2 rfl).2.map;rw[g4.2 C,g4.1.2.2 C];exact this
   have eC:u.length<=p.2.1.length:=by have:=(aaM w w0 x sp).1;rw[g4.1.2.2 C,<-(Z.2 rfl).1];exact this
   have cy:=g4.1.1;refine vck ?_ (decide_eq_true (by omega));refine vck ?_ (by simp[a9.1,a9.2]);refine vck ?_ (decide_eq_true (by omega));refine vck ?_ (Do _)
   have step:∀m,OfS ts 0 m->m.2.2.2=w->∃(f:List (List UInt8×Bool))(B:MS),OfS p.2.1 0 B∧B.2.2.2=w∧(a7 m (aE 14)).1 =F.1∧
     bW (aC w) sp n'.l [] [] (a7 m (aE 14)).2 =bW (aC w) sp (n'.l.drop (i+1).toNat) (l++[p.1]) (cE (k:=.sb) f (fw p.2.1 p.1) true) (ak B ((p.2.1.getD p.1.toNat (ao .atype)).kind==14||da (k:=.sb) f (fw p.2.1 p.1)) 6)∧
     (∀x,da (k:=.sb) f x=true↔∃b∈l,fw p.2.1 b=x)∧∀b∈l,0<=b∧b<(u.length:Int):=by
    intro m E A;obtain⟨f,B,q,J,P,G,bl⟩:=hU m E A;have g:=h4 B q J;have O:(aC w B x sp).2.2.2.1 =0:=by rw[<-g.1.2.1];exact C
    rw[a5,bW,if_pos q.1] at G;dsimp only at G;rw[if_pos O,<-g.1.2.2 C,<-g.2 C] at G;have hP:=aaM w B x sp;rw[(q.2 rfl).1,<-g.1.2.2 C] at hP;obtain⟨t1,t2⟩:=bl rfl;refine⟨f,(aC w B x sp).2,⟨O,λ_=>⟨(g.1.2.2 C).symm,(amn w B x sp a2 (q.2 rfl).2 O).1⟩⟩,((oD w B x sp).dep).trans J,P rfl,G,λy=>?_,t2⟩;rw[t1];constructor;·rintro⟨b,D,e⟩;exact⟨b,D,(aqu hP (t2 b D)).trans e⟩
    ·rintro⟨b,D,e⟩;exact⟨b,D,(aqu hP (t2 b D)).symm.trans e⟩
   have Q:(∀m,OfS ts 0 m->m.2.2.2=w->∀f:List (List UInt8×Bool),(∀x,da (k:=.sb) f x=true↔∃b∈l,fw p.2.1 b=x)->((p.2.1.getD p.1.toNat (ao .atype)).kind==14||da (k:=.sb) f (fw p.2.1 p.1))=true)->
     ∀(y:Int)(o:List ai),Tot (some (.int .i64 y,some [.ul .atype p.2.1,.int .i64 (aI p.2.2 6)]::o):Ro) (λz=>∃(S:Int)(R:List ac)(X:Int)(rest:List ai),z.1.dimR=.int .i64 S∧z.2=some [.ul .atype R,.int .i64 X]::rest∧dy ts 0 n' sp w (S,R,X)):=by
    intro bY y o;refine fin _ _ _ _ λm E A=>?_
    obtain⟨f,B,q,J,P,G,t1, -⟩:=step m E A;have D:=bY m E A f t1;have bn:(ak B ((p.2.1.getD p.1.toNat (ao .atype)).kind==14||da (k:=.sb) f (fw p.2.1 p.1)) 6).2.2.1 =aI p.2.2 6:=by rw[bH,if_pos D,q.1,C]
    have Y:aI p.2.2 6≠0:=cS (by decide);rw[an,G,agA (by rw[bn];exact Y),if_neg (by rw[bn];exact Y)];exact⟨⟨cy,bn.symm,λh=>absurd h Y⟩,λh=>absurd h Y⟩
   refine ab (λhk=>?_) (λhk=>?_);·refine ah (aV _ _ _) ?_;rintro _ ⟨-,rfl⟩;exact Q (λm _ _ f _=>by rw[hk];rfl) _ _
   have e6:∀b∈l,0<=b∧b<(u.length:Int):=by obtain⟨f,B, -, -, -, -,bl⟩:=hU (bZ cd w) (a1.deep w) rfl;exact(bl rfl).2
   refine ba (λx=>match x with|(c2,c3,n2,a',l',i',v,k,b0,e2)=>c2=sp∧c3=w∧n2=n'∧a'=F.1∧l'=l∧i=i'∧v=p.1∧b0=p.2.1∧e2=p.2.2∧(0<=k∧k<=(l.length:Int))∧∀(j:Nat) b,(j:Int)<k->l[j]? =some b->fw p.2.1 b≠fw p.2.1 p.1) (λx=>((l.length:Int)-x.2.2.2.2.2.2.2.1).toNat) ?_ _ _ ⟨rfl,rfl,rfl,rfl,rfl,rfl,rfl,rfl,rfl,⟨by simp,by simp⟩,λj b hj=>by omega⟩ (by simp;omega);rintro c5 ⟨c2,c3,n2,a',l',i',v,k,b0,e2⟩ ⟨rfl,rfl,rfl,rfl,rfl,rfl,rfl,rfl,rfl,⟨k1,k2⟩,k3⟩ cs;dsimp only at cs;unfold fa;dsimp only;refine ab (λM=>?_) (λM=>?_)
   ·have M:=of_decide_eq_true M;have d4:k.toNat<l'.length:=by omega
    have D:l'[k.toNat]? =some (l'.getD k.toNat (ao (.num .i64))):=by rw[Al,Ab d4];rfl
    refine vck ?_ (decide_eq_true (by omega));refine vck ?_ (ixt ⟨k1,M⟩);refine akp (by simp) (ao2 _ _) ?_;rintro _ ⟨-,rfl⟩;refine akp (by simp) (ao2 _ _) ?_;rintro _ ⟨-,rfl⟩;refine vck ?_ (Do _);refine ab (λhq=>?_) (λhq=>?_);·have hq:=of_decide_eq_true hq;refine ah (aV _ _ _) ?_;rintro _ ⟨-,rfl⟩;refine Q (λm _ _ f ht=>?_) _ _;rw[(ht _).2 ⟨_,Am D,hq⟩];simp
    ·have hq:=of_decide_eq_false hq;rw[ax (k+1) (by omega)];refine cs _ ⟨rfl,rfl,rfl,rfl,rfl,rfl,rfl,rfl,rfl,⟨by first|omega|(dsimp only;omega),by first|omega|(dsimp only;omega)⟩,λj b hj a4=>?_⟩ (by simp only;omega);by_cases dw:(j:Int)<k;·exact k3 j b dw a4
     ·have:j=k.toNat:=by dsimp only at hj;omega
      subst this;rw[D] at a4;rw[<-Ax a4];exact hq
   ·have M:=of_decide_eq_false M;refine vck ?_ (decide_eq_true (by simp only[Af,Ak];omega));rw[ax (i+1) (by omega)];refine ih _ ⟨rfl,rfl,rfl,rfl,⟨by first|omega|(dsimp only;omega),by first|omega|(dsimp only;omega)⟩,cy,by simp only[Aj,Af,Ak];omega,?_,λ_=>by have:=hr rfl;dsimp only;omega⟩ (by simp only;omega);intro m E A;obtain⟨f,B,q,J,P,G,t1,t2⟩:=step m E A;have ds:da (k:=.sb) f (fw p.2.1 p.1)=false:=by
     cases hq:da (k:=.sb) f (fw p.2.1 p.1) with
     |false=>rfl
     |true=>obtain⟨b,D,e⟩:=(t1 _).1 hq;obtain⟨j,hj⟩:=BO D;exact absurd e (k3 j b (by have:=(Ad.1 hj).1;omega) hj)
    rw[hk,ds,Cl,fm] at G;refine⟨_,B,⟨q.1.trans C.symm,λ_=>q.2 rfl⟩,J,λ_=>P,G,λ_=>⟨λy=>?_,λb D=>?_⟩⟩
    ·rw[da,nM];constructor
     ·intro hy;split at hy;·rename_i e;exact⟨p.1,by simp,e⟩
      ·obtain⟨b,D,e⟩:=(t1 y).1 hy;exact⟨b,by simp[D],e⟩
     ·rintro⟨b,D,e⟩;split;·rfl
      ·rename_i ae;rcases Az.1 D with D|D;·exact(t1 y).2 ⟨b,D,e⟩
       ·rw[Au.1 D] at e;exact absurd e ae
    ·rcases Az.1 D with D|D;·have:=t2 b D;dsimp only;omega
     ·rw[Au.1 D];exact a9
  ·exact ab (λhz=>absurd hz (by rw[H];simp)) (λ_=>bx (by simpa using H) _ _)
 ·have I:=of_decide_eq_false I;refine ab (λhz=>done (by simpa using hz) (by omega)) (λhz=>bx (by simpa using hz) _ _)
theorem acE{n:aa}{s:List UInt8}(h:(aj n s).2 =false):(aj n s).1 =.mk 0 0 [] [] []:=by
 unfold aj at h ⊢;split at h
 ·rename_i a;rw[if_pos a];cases b:cb n.names n.l s with
  |none=>rfl
  |some c=>rw[b] at h;cases h
 ·rename_i a;rw[if_neg a];rfl
def qA:List (List UInt8)->Int->Int
 | [],e=>e
 |s::a,e=>qA a (fY s e)
theorem wW:∀(a:List (List UInt8)){e:Int},e≠0->qA a e=e
 | [],e,h=>rfl
 |s::a,e,h=>by rw[qA,s6 h];exact wW a h
theorem aj7(m:MS)(s:List UInt8):(ak m (!b9 s) 6).2.2.1 =fY s m.2.2.1:=by rw[bH];unfold fY;cases b9 s<;>simp
theorem aiA:∀(a l:List (List UInt8))(m:MS),(gQ lR a l m).2.2.2.1 =qA a m.2.2.1∧((gQ lR a l m).2.2.2.1 =0->(gQ lR a l m).1 =l++a)
 | [],l,m=>⟨rfl,λ_=>by simp[gQ]⟩
 |s::a,l,m=>by
  rw[gQ,qA];split;·have d:=aiA a (l++[(lR m s).1]) (lR m s).2;have e:(lR m s).2.2.2.1 =fY s m.2.2.1:=aj7 m s;rw[e] at d;refine⟨d.1,λh=>?_⟩;rw[d.2 h];show l++[s]++a=_;simp
  ·rename_i b;have d:=aiA a l m;rw[s6 b];refine⟨d.1,λh=>?_⟩;rw[d.1,wW a b] at h;exact absurd h b
theorem at1{ts:List ac}{e:Int}{n:aa}{r:List (List UInt8)×Bool×RS}(h:cO ts e n [97,108,105,97,115,101,115] r)(m:MS)(j:m.2.2.1=e):
  (aB lR m n).2.2.2.1 =qA r.1 r.2.2.2∧(qA r.1 r.2.2.2=0->(aB lR m n).1 =r.1):=by
 obtain⟨-, -, -,p,o⟩:=h;simp only[aB];by_cases d:(aj n [97,108,105,97,115,101,115]).2 =true
 ·rw[if_pos d];obtain⟨f,g⟩:=o d m j;obtain⟨a,k⟩:=aiA (cu m (aj n [97,108,105,97,115,101,115]).1).1 [] (cu m (aj n [97,108,105,97,115,101,115]).1).2;rw[<-f] at a;by_cases b:r.2.2.2=0;·rw[<-g b] at a k ⊢;refine⟨a,λi=>?_⟩;rw[k (by rw[a];exact i)];simp
  ·rw[wW _ b] at a;rw[wW _ b];exact⟨a,λi=>absurd i b⟩
 ·rw[if_neg d];obtain⟨f,g⟩:=p (by simpa using d);rw[f,g];exact⟨j,λ_=>rfl⟩
def oE(m:MS)(x:aa)(names:List (List UInt8×Bool)):MS:=
 ak (ak (ak (ak m (!((aj x [110,97,109,101]).1.kind ==4)) 2) (!b9 (aj x [110,97,109,101]).1.s) 6) (da (k:=.sb) names (aj x [110,97,109,101]).1.s) 5) (!(aj x [116,121,112,101]).2) 2
theorem amo(m:MS)(x:aa)(names:List (List UInt8×Bool)):cg m (oE m x names):=(((ay m _ 2).trans (ay _ _ 6)).trans (ay _ _ 5)).trans (ay _ _ 2)
theorem amp(m:MS)(x:aa)(names:List (List UInt8×Bool)):gI m (oE m x names):=(((a8 m _ 2).trans (a8 _ _ 6)).trans (a8 _ _ 5)).trans (a8 _ _ 2)
theorem asU(T:TF)(m:MS)(x:aa)(names:List (List UInt8×Bool))(a:List UInt8)(d:x.kind=6):
  cW T m x names a=(⟨(aj x [110,97,109,101]).1.s,(aB lR (T (oE m x names) (aj x [116,121,112,101]).1 a).2 x).1,(T (oE m x names) (aj x [116,121,112,101]).1 a).1,(aj x [100,101,102,97,117,108,116]).2,(aj x [100,101,102,97,117,108,116]).1⟩,
   (aB lR (T (oE m x names) (aj x [116,121,112,101]).1 a).2 x).2,cE (k:=.sb) names (aj x [110,97,109,101]).1.s true):=by
 have b:ak m (!(x.kind==6)) 2=m:=by rw[show (!(x.kind==6))=false from by simp[d],fm]
 simp only[cW,b];rfl
theorem ym{T:TF}{a:List UInt8}{l:List aZ}{names:List (List UInt8×Bool)}{m:MS}(h:m.2.2.1≠0):∀xs:List aa,bP T a xs l names m=(l,m)
 | []=>rfl
 |x::xs=>by rw[bP,if_neg h];exact ym h xs
def avT(ts:List ac)(g:aa)(a:List UInt8)(deep:Int)(b:List aZ)(i:Int)(e:List ac)(j:Int):Prop:=
 ∀m,OfS ts 0 m->m.2.2.2=deep->∃(d:List aZ)(names:List (List UInt8×Bool))(h:MS),OfS e j h∧h.2.2.2=deep∧
  bP (aC deep) a g.l [] [] m=bP (aC deep) a (g.l.drop i.toNat) d names h∧
  (j=0->d=b∧∀x,da (k:=.sb) names x=true↔∃f∈b,f.name=x)
theorem apY(deep:Int)(hd:1<=deep∧deep<=20)(hT:ad3 (deep+1))(ts:List ac)(n:aa)(R:Int)(a:List UInt8)(gO:∃m,OfS ts 0 m)(h:ts.length<=60)(fl:0<=R∧R<(ts.length:Int))(hn:bp n)(hs:(a.length:Int)<=300*(deep+1)):∃r,bD ts 0 n R a deep r:=by
 obtain⟨N,hN⟩:∃N:Nat,N=100:=⟨_,rfl⟩
 apply qr N;have g9:n.names.length<=1000000:=by have:=hn.sizes;omega
 unfold lH dN
 have fin:∀(t:List ac)(e:Int)(o:List ai),(∀m,OfS ts 0 m->m.2.2.2=deep->t.length<=60∧e=(cl (aC deep) m [] n a).2.2.2.1 ∧
  (e=0->∀u,(cl (aC deep) m [] n a).2.2.1[R.toNat]? =some u->t=(cl (aC deep) m [] n a).2.2.1.set R.toNat {u with fields:=(cl (aC deep) m [] n a).1}))->
  Tot (some (.tup [],some [.ul .atype t,.int .i64 e]::o):Ro) (λz=>∃(O:List ac)(M:Int)(rest:List ai),z.1.dimR=.tup []∧z.2=some [.ul .atype O,.int .i64 M]::rest∧bq ts 0 n R a deep (O,M)):=
  λt e o hx=>am ⟨_,_,_,rfl,rfl,λh=>absurd rfl h,λ_=>hx⟩
 dsimp only;rw[cn];refine ah (ii n _ g9) ?_;rintro _ ⟨-,rfl⟩;have hg:=(kL (s:=[102,105,101,108,100,115]) hn).sizes;have bx:=acE (n:=n) (s:=[102,105,101,108,100,115]);have b3:(aj n [102,105,101,108,100,115]).1.kind ≠5->Tot (af (ag ts 0 2) (λr2=>(some (.tup [],[some [.ul .atype r2.2.1,.int .i64 r2.2.2]]):Ro))) (λz=>∃(O:List ac)(M:Int)(rest:List ai),z.1.dimR=.tup []∧z.2=some [.ul .atype O,.int .i64 M]::rest∧bq ts 0 n R a deep (O,M)):=by
  intro hk;refine ah (aV _ _ _) ?_;rintro _ ⟨-,rfl⟩;refine fin _ _ _ λm hm L=>?_
  have X:(ak (ak m (!((aj n [102,105,101,108,100,115]).1.kind ==5)) 2) (decide (30<(aj n [102,105,101,108,100,115]).1.l.length)) 3).2.2.1 =aI 0 2:=by rw[show decide (30<(aj n [102,105,101,108,100,115]).1.l.length)=false from decide_eq_false (by omega),fm,bH,hm.1,if_pos (by simpa using hk)]
  have S:cl (aC deep) m [] n a=([],ak (ak m (!((aj n [102,105,101,108,100,115]).1.kind ==5)) 2) (decide (30<(aj n [102,105,101,108,100,115]).1.l.length)) 3):=by simp only[cl];exact ym (by rw[X];exact cS (by decide)) _
  rw[S];exact⟨h,X.symm,λF=>absurd F (show aI 0 2≠0 by decide)⟩
 generalize hG:aj n [102,105,101,108,100,115]=G at hg bx b3;refine ab (λhb=>b3 ?_) (λhb=>?_);·rw[bx (by simpa using hb)];show (0:Int)≠5;decide
 refine ab (λhk=>b3 (by simpa using hk)) (λhk=>?_);have hk:G.1.kind=5:=by simpa using hk
 refine ab (λhc=>absurd (of_decide_eq_true hc) (by omega)) (λ_=>?_);have hF:∀m,cl (aC deep) m [] n a=bP (aC deep) a G.1.l [] [] m:=by intro m;simp only[cl];rw[hG,show (!(G.1.kind==5))=false from by simp[hk],fm,show decide (30<G.1.l.length)=false from decide_eq_false (by omega),fm]
 clear b3 bx hG;generalize G.1=g at hg hk hF;refine ba (λx=>match x with|(a',sp,C,g',B,i,p,e')=>a'=R∧sp=a∧C=deep∧g'=g∧(0<=i∧i<=(g.l.length:Int))∧p.length<=60∧(B.length:Int)<=i∧avT ts g a deep B i p e'∧(e'=0->R<(p.length:Int))) (λx=>((g.l.length:Int)-x.2.2.2.2.2.1).toNat) ?_ _ _ ⟨rfl,rfl,rfl,rfl,⟨by simp,by simp⟩,h,by simp,λm hm L=>⟨[],[],m,hm,L,by simp,λ_=>⟨rfl,λx=>by simp[da,aY,MK.zero]⟩⟩,λ_=>fl.2⟩ (by simp;omega);rintro al ⟨a',sp,C,g',B,i,p,e'⟩ ⟨rfl,rfl,rfl,rfl,⟨i1,i2⟩,i3,i4,hU,hr⟩ ih;dsimp only at ih;unfold cR eg;dsimp only;have d3:e'≠0->∀(o:List ai),Tot (some (.tup [],some [.ul .atype p,.int .i64 e']::o):Ro) (λz=>∃(O:List ac)(M:Int)(rest:List ai),z.1.dimR=.tup []∧z.2=some [.ul .atype O,.int .i64 M]::rest∧bq ts 0 n a' sp C (O,M)):=by
  intro X o;refine fin _ _ _ λm hm L=>?_
  obtain⟨cd,names,j,A, -,hL, -⟩:=hU m hm L;rw[hF,hL,ym (by rw[A.1];exact X)];exact⟨i3,A.1.symm,λF=>absurd F X⟩
 have done:e'=0->i=(g'.l.length:Int)->Tot (
   chk (decide (0<Aa p)) (
    chk ((decide (0<=a')&&decide (a'<↑(Aa p)))) (
     chk (decide ((Ah a')<Aa p)) (
      let ex:=(Bb p (Ah a') (let e_:=An p (Ah a') (ao .atype);⟨e_.kind,e_.name,e_.aliases,e_.items,e_.syms,e_.hasdef,e_.df,e_.size,B,e_.branches⟩))
      chk (AD (Aa p) (Aa ex)) (
       (some (.tup [],[some [.ul .atype ex,.int .i64 e'],none,none]):Ro)))))) (λz=>∃(O:List ac)(M:Int)(rest:List ai),z.1.dimR=.tup []∧z.2=some [.ul .atype O,.int .i64 M]::rest∧bq ts 0 n a' sp C (O,M)):=by
  intro X hi;have g4:=hr X;refine vck ?_ (decide_eq_true (by omega));refine vck ?_ (by simp[fl.1,g4]);refine vck ?_ (decide_eq_true (by omega));refine vck ?_ (by simp);refine fin _ _ _ λm hm L=>?_
  obtain⟨cd,names,j,A, -,hL,hl⟩:=hU m hm L;rw[hi,At,By] at hL;have hL:bP (aC C) sp g'.l [] [] m=(cd,j):=hL;rw[hF,hL];refine⟨by simpa using i3,A.1.symm,λF u hu=>?_⟩;dsimp only at hu ⊢;rw[(A.2 X).1] at hu ⊢;rw[ad2 hu,(hl X).1]
 refine ab (λY=>?_) (λY=>?_)
 ·have Y:=of_decide_eq_true Y;have ie:i.toNat<g'.l.length:=by omega
  refine ab (λX=>?_) (λX=>?_)
  ·have X:e'=0:=by simpa using X
   subst X;have c4:=tv (d:=(ao .jnode:aa)) ⟨i1,Y⟩;have a3:bp (g'.l.getD i.toNat (ao .jnode)):=bp.getD hg.2.2.2 _;generalize hx:g'.l.getD i.toNat (ao .jnode)=x at c4 a3;have cx:x.names.length<=1000000:=by have:=a3.sizes;omega
   have ed:IntKind.i64.wrap (C+1)=C+1:=ax (C+1) (by omega);have ei:IntKind.i64.wrap (i+1)=i+1:=ax (i+1) (by omega);obtain⟨gN,ff⟩:=gO;obtain⟨hQ,ar,w0,c1,gy, -,em⟩:=hU (bZ gN C) (ff.deep C) rfl;refine vck ?_ (ixt ⟨i1,Y⟩);refine ab (λae=>?_) (λae=>?_)
   ·have ae:x.kind≠6:=by simpa using ae
    refine ah (aV _ _ _) ?_;rintro _ ⟨-,rfl⟩;refine fin _ _ _ λm hm L=>?_
    obtain⟨cd,names,j,A,bn,hL,hl⟩:=hU m hm L;rw[c4,bP,if_pos A.1] at hL;have hv:cg (ak j (!(x.kind==6)) 2) (cW (aC C) j x names sp).2.1 :=by simp only[cW];exact((((((ay (ak j (!(x.kind==6)) 2) _ 2).trans (ay _ _ 6)).trans (ay _ _ 5)).trans (ay _ _ 2)).trans (oD C _ _ _)).trans (ng aaU _ _))
    have h2:(ak j (!(x.kind==6)) 2).2.2.1 =aI 0 2:=by rw[bH,A.1,if_pos (by simpa using ae)]
    have fz:(cW (aC C) j x names sp).2.1.2.2.1 =aI 0 2:=by rw[<-h2];exact hv.stay (by rw[h2];exact cS (by decide))
    rw[hF,hL,ym (by rw[fz];exact cS (by decide))];exact⟨i3,fz.symm,λF=>absurd F (show aI 0 2≠0 by decide)⟩
   have ae:x.kind=6:=by simpa using ae
   rw[cn];refine ah (aaL _ _ _ _ _ cx) ?_;intro r6 es;obtain⟨J,Q,en,hB,ds⟩:∃J Q,r6=(J,p,Q)∧Q=(if (aj x [110,97,109,101]).1.kind =4 then 0 else aI 0 2)∧(Q=0->J=(aj x [110,97,109,101]).1.s)∧J.length<=100:=by
    have h6:r6=_:=es.2;rw[if_neg (λhh=>by cases hh.2)] at h6;by_cases I:(aj x [110,97,109,101]).1.kind =4
    ·have hb:(aj x [110,97,109,101]).2 ≠false:=λhb=>by
      rw[acE hb] at I;exact absurd I (by decide)
     rw[if_neg (λhh=>hh.elim hb (λq=>q I))] at h6;exact⟨_,0,h6,by rw[if_pos I],λ_=>rfl,(kL a3).sizes.1⟩
    ·rw[if_pos (.inr I)] at h6;exact⟨_,aI 0 2,h6,by rw[if_neg I],λF=>absurd F (show aI 0 2≠0 by decide),by simp⟩
   subst en;dsimp only;clear es
   have pre:∀(names:List (List UInt8×Bool))(j:MS),OfS p 0 j->j.2.2.2=C->(∀y,da (k:=.sb) names y=true↔∃f∈B,f.name=y)->∀eD,eD=(if (∃f∈B,f.name=J) then aI (fY J Q) 5 else fY J Q)->
     (oE j x names).2.2.1 =ifE (!(aj x [116,121,112,101]).2) eD 2∧OfS p (ifE (!(aj x [116,121,112,101]).2) eD 2) (oE j x names)∧(oE j x names).2.2.2 =C:=by
    intro names j A bn an eD hD;have e1:(ak j (!((aj x [110,97,109,101]).1.kind ==4)) 2).2.2.1 =Q:=by rw[bH,A.1,hB];by_cases I:(aj x [110,97,109,101]).1.kind =4<;>simp[I]
    have e2:(ak (ak j (!((aj x [110,97,109,101]).1.kind ==4)) 2) (!b9 (aj x [110,97,109,101]).1.s) 6).2.2.1 =fY J Q:=by
     rw[aj7,e1];by_cases H:Q=0;·rw[<-ds.1 H]
     ·rw[s6 H,s6 H]
    have e3:(ak (ak (ak j (!((aj x [110,97,109,101]).1.kind ==4)) 2) (!b9 (aj x [110,97,109,101]).1.s) 6) (da (k:=.sb) names (aj x [110,97,109,101]).1.s) 5).2.2.1 =eD:=by
     rw[bH,e2,hD];by_cases H:fY J Q=0
     ·have dj:Q=0:=by
       by_cases D:Q=0;·exact D
       ·rw[s6 D] at H;exact H
      rw[<-ds.1 dj];by_cases D:∃f∈B,f.name=J;·rw[if_pos ((an J).2 D),if_pos D]
      ·rw[if_neg (λhh=>D ((an J).1 hh)),if_neg D]
     ·rw[d9 H];simp
    have e4:(oE j x names).2.2.1 =ifE (!(aj x [116,121,112,101]).2) eD 2:=by unfold oE;rw[bH,e3];rfl
    refine⟨e4,⟨e4,λF=>?_⟩,(amo j x names).dep.trans bn⟩;rw[amp j x names (e4.trans F)];exact A.2 rfl
   have ci:∀eD,eD=(if (∃f∈B,f.name=J) then aI (fY J Q) 5 else fY J Q)->∀eE,eE=ifE (!(aj x [116,121,112,101]).2) eD 2->
     Tot (af (bc p eE (reJ (aj x [116,121,112,101]).1) sp (C+1)) (λv=>
      af (aR (reJ x) ([100,101,102,97,117,108,116]:Bs)) (λa1=>
       af (bJ v.2.1 v.2.2 (reJ x) ([97,108,105,97,115,101,115]:Bs)) (λw=>
        aK N (dA N al) (a',sp,C,g',B,i,0,w.2.2.1,w.2.2.2,J,w.1,v.1,a1.2,a1.1.kind,a1.1.n,a1.1.s,a1.1.l,a1.1.names))))) (λz=>∃(O:List ac)(M:Int)(rest:List ai),z.1.dimR=.tup []∧z.2=some [.ul .atype O,.int .i64 M]::rest∧bq ts 0 n a' sp C (O,M)):=by
    intro eD hD eE hE;rw[cn,cn];have tok:bp (aj x [116,121,112,101]).1 :=kL a3;refine ah (hT p eE _ sp (λ_=>⟨w0,c1⟩) i3 tok hs) ?_;rintro v ⟨-,b0⟩;have b0:∀(names:List (List UInt8×Bool))(j:MS),OfS p 0 j->j.2.2.2=C->(∀y,da (k:=.sb) names y=true↔∃f∈B,f.name=y)->AgI (aC C (oE j x names) (aj x [116,121,112,101]).1 sp) v∧(v.2.2=0->dx (aC C (oE j x names) (aj x [116,121,112,101]).1 sp).2 ∧oE j x names=j):=by
     intro names j q1 q2 q3;obtain⟨p1,p2,p3⟩:=pre names j q1 q2 q3 eD hD;rw[<-hE] at p1 p2;have:=b0 (oE j x names) p2 (by rw[p3];omega);rw[show C+1-1=C by omega] at this;refine⟨this,λF=>?_⟩;have d4:(aC C (oE j x names) (aj x [116,121,112,101]).1 sp).2.2.2.1 =0:=by rw[<-this.1.2.1];exact F
     have ew:(oE j x names).2.2.1 =0:=(oD C _ _ _).err d4;exact⟨(amn C _ _ _ tok (p2.2 (p1.symm.trans ew)).2 d4).1,amp j x names ew⟩
    have b4:=b0 ar w0 c1 gy (em rfl).2;have el:=b4.1.1.1;have fs:v.2.2=0->a'<(v.2.1.length:Int):=by intro F;have:=(aaM C (oE w0 x ar) (aj x [116,121,112,101]).1 sp).1;rw[(b4.2 F).2,(c1.2 rfl).1] at this;have D:=b4.1.1.2.2 F;rw[(b4.2 F).2] at D;rw[<-D] at this;have:=hr rfl;omega
    refine ah (ii x _ cx) ?_;rintro _ ⟨-,rfl⟩;refine ah (yl _ _ _ _ a3) ?_;rintro w ⟨-,a5⟩;have gC:w.2.2.1=v.2.1:=a5.1;have g6:=a5.2.2.1;refine ba (λy=>match y with|(a2,W,P,g2,b,i2,k,a4,e2,f0,f1,f2,f3,f4,f5,f6,f7,f8)=>a2=a'∧W=sp∧P=C∧g2=g'∧b=B∧i=i2∧a4=v.2.1∧(f0=J∧f1=w.1∧f2=v.1∧f3=(aj x [100,101,102,97,117,108,116]).2 ∧aa.mk f4 f5 f6 f7 f8=(aj x [100,101,102,97,117,108,116]).1)∧(0<=k∧k<=(w.1.length:Int))∧qA w.1 w.2.2.2=qA (w.1.drop k.toNat) e2∧(e2=0->v.2.2=0)) (λy=>((w.1.length:Int)-y.2.2.2.2.2.2.1).toNat) ?_ _ _ ⟨rfl,rfl,rfl,rfl,rfl,rfl,gC,⟨rfl,rfl,rfl,rfl,(aa.eta _).symm⟩,⟨by simp,by simp⟩,by simp,?_⟩ (by simp;omega)
    rotate_left
    ·intro F;by_cases D:(aj x [97,108,105,97,115,101,115]).2 =true
     ·by_cases H:v.2.2=0;·exact H
      ·have:=(a5.2.2.2.2 D ([],[],v.2.2,0) rfl).1;rw[wh] at this;have dj:lm (aj x [97,108,105,97,115,101,115]).1.l (if (aj x [97,108,105,97,115,101,115]).1.kind =5 then v.2.2 else aI v.2.2 2)=v.2.2:=by
        rw[d9 H];simp only[ite_self];exact tK _ H
       exact((this.trans dj).symm.trans F)
     ·exact((a5.2.2.2.1 (by simpa using D)).2).symm.trans F
    rintro gs ⟨a2,W,P,g2,b,i2,k,a4,e2,f0,f1,f2,f3,f4,f5,f6,f7,f8⟩ ⟨rfl,rfl,rfl,rfl,rfl,rfl,rfl,⟨rfl,rfl,rfl,rfl,c0⟩,⟨k1,k2⟩,k3,k4⟩ c2;dsimp only at c2;unfold dA;dsimp only;have app:(e2≠0∨k=(w.1.length:Int))->Tot (al (a2,W,P,g2,b++[⟨f0,w.1,v.1,(aj x [100,101,102,97,117,108,116]).2,⟨f4,f5,f6,f7,f8⟩⟩],i+1,v.2.1,e2)) (λz=>∃(O:List ac)(M:Int)(rest:List ai),z.1.dimR=.tup []∧z.2=some [.ul .atype O,.int .i64 M]::rest∧bq ts 0 n a2 W P (O,M)):=by
     intro g0;have fd:qA w.1 w.2.2.2=e2:=by
      rw[k3];rcases g0 with D|D;·exact wW _ D
      ·rw[D,At,By];rfl
     refine ih _ ⟨rfl,rfl,rfl,rfl,⟨by first|omega|(dsimp only;omega),by first|omega|(dsimp only;omega)⟩,el,by simp only[Aj,Af,Ak];omega,?_,λF=>fs (k4 F)⟩ (by simp only;omega);intro m hm L;obtain⟨cd,names,j,A,bn,hL,hl⟩:=hU m hm L;obtain⟨gt,c5⟩:=hl rfl;obtain⟨q1,q2⟩:=b0 names j A bn c5;obtain⟨b1,b2⟩:=at1 a5 (aC P (oE j x names) (aj x [116,121,112,101]).1 W).2 q1.1.2.1.symm;rw[fd] at b1 b2;rw[c4,bP,if_pos A.1] at hL;dsimp only at hL;rw[asU _ _ _ _ _ ae] at hL;refine⟨_,_,_,⟨b1,λF=>?_⟩,?_,hL,λF=>?_⟩;·have a9:=k4 F;dsimp only;rw[nh aaX _ _ (b1.trans F)];exact⟨(q1.1.2.2 a9).symm,(q2 a9).1⟩
     ·exact(((amo j x names).trans (oD P _ _ _)).trans (ng aaU _ _)).dep.trans bn
     ·have a9:=k4 F;have ht:Q=0:=by
       have g7:=(q2 a9).2
       have e1:(ak j (!((aj x [110,97,109,101]).1.kind ==4)) 2).2.2.1 =0:=
        (((ay _ _ 6).trans (ay _ _ 5)).trans (ay _ _ 2)).err (show (oE j x names).2.2.1 =0 by rw[g7];exact A.1)
       rw[bH,A.1] at e1;rw[hB];by_cases I:(aj x [110,97,109,101]).1.kind =4;·rw[if_pos I]
       ·rw[if_pos (by simpa using I)] at e1;exact absurd e1 (show aI 0 2≠0 by decide)
      rw[<-ds.1 ht,b2 F,<-q1.2 a9,gt,c0];refine⟨rfl,λy=>?_⟩;rw[da,nM];constructor
      ·intro hy;split at hy;·rename_i e;exact⟨_,Az.2 (.inr (Au.2 rfl)),e⟩
       ·obtain⟨f,S,e⟩:=(c5 y).1 hy;exact⟨f,Az.2 (.inl S),e⟩
      ·rintro⟨f,S,e⟩;split;·rfl
       ·rename_i g1;rcases Az.1 S with S|S;·exact(c5 y).2 ⟨f,S,e⟩
        ·rw[Au.1 S] at e;exact absurd e g1
    refine ab (λE=>?_) (λE=>?_)
    ·have E:=of_decide_eq_true E;have cc:k.toNat<w.1.length:=by omega
     have hA:=tv (d:=(ao .str:List UInt8)) ⟨k1,E⟩;refine ab (λH=>?_) (λH=>?_)
     ·have ek:IntKind.i64.wrap (k+1)=k+1:=ax (k+1) (by omega);have gx:(w.1.getD k.toNat (ao .str)).length<=1000000:=by
       have:=g6.2 (w.1.getD k.toNat (ao .str)) (by rw[Al,Ab cc];exact Bf _);omega
      rw[hA,qA] at k3;rw[ek];have e0:e2=0:=by simpa using H
      refine vck ?_ (ixt ⟨k1,E⟩);refine ah (wU _ gx) ?_;rintro _ ⟨-,rfl⟩;refine ab (λhp=>?_) (λhp=>?_);·refine ah (aV _ _ _) ?_;rintro _ ⟨-,rfl⟩;refine c2 _ ⟨rfl,rfl,rfl,rfl,rfl,rfl,rfl,⟨rfl,rfl,rfl,rfl,c0⟩,⟨by first|omega|(dsimp only;omega),by first|omega|(dsimp only;omega)⟩,?_,λ_=>k4 e0⟩ (by simp only;omega);dsimp only;rw[k3];unfold fY;rw[if_neg (by simpa using hp)]
      ·refine c2 _ ⟨rfl,rfl,rfl,rfl,rfl,rfl,rfl,⟨rfl,rfl,rfl,rfl,c0⟩,⟨by first|omega|(dsimp only;omega),by first|omega|(dsimp only;omega)⟩,?_,λ_=>k4 e0⟩ (by simp only;omega);dsimp only;rw[k3];unfold fY;rw[if_pos (by simpa using hp)]
     ·refine vck ?_ (decide_eq_true (by simp only[Af,Ak];omega));rw[ei];exact app (.inl (by simpa using H))
    ·have E:=of_decide_eq_false E;refine vck ?_ (decide_eq_true (by simp only[Af,Ak];omega));rw[ei];exact app (.inr (by omega))
   have Z:∀eC,eC=fY J Q->Tot (aK N (dB N al) (a',sp,C,g',B,i,x,0,p,eC,J,[],0,false,0,0,[],[],[])) (λz=>∃(O:List ac)(M:Int)(rest:List ai),z.1.dimR=.tup []∧z.2=some [.ul .atype O,.int .i64 M]::rest∧bq ts 0 n a' sp C (O,M)):=by
    intro eC hC;refine ba (λy=>match y with|(a2,W,P,g2,b,i2,x2,k,a4,e2,f0,f1,f2,f3,f4,f5,f6,f7,f8)=>a2=a'∧W=sp∧P=C∧g2=g'∧b=B∧i=i2∧x2=x∧a4=p∧f0=J∧(0<=k∧k<=(B.length:Int))∧e2=if (∃f∈B.take k.toNat,f.name=J) then aI eC 5 else eC) (λy=>((B.length:Int)-y.2.2.2.2.2.2.2.1).toNat) ?_ _ _ ⟨rfl,rfl,rfl,rfl,rfl,rfl,rfl,rfl,rfl,⟨by simp,by simp⟩,by simp⟩ (by simp;omega);rintro gl ⟨a2,W,P,g2,b,i2,x2,k,a4,e2,f0,f1,f2,f3,f4,f5,f6,f7,f8⟩ ⟨rfl,rfl,rfl,rfl,rfl,rfl,rfl,rfl,rfl,⟨k1,k2⟩,k3⟩ c3;dsimp only at c3;unfold dB gz;dsimp only;refine ab (λE=>?_) (λE=>?_)
    ·have E:=of_decide_eq_true E;have cc:k.toNat<b.length:=by omega
     have ej:b.take (k+1).toNat=b.take k.toNat++[b.getD k.toNat (ao .afield)]:=by rw[show (k+1).toNat=k.toNat+1 by omega,Bt,Ab cc,Al,Ab cc];rfl
     have ek:IntKind.i64.wrap (k+1)=k+1:=ax (k+1) (by omega);rw[ek];refine vck ?_ (ixt ⟨k1,E⟩);refine ab (λD=>?_) (λD=>?_)
     ·have D:=of_decide_eq_true D;refine ah (aV _ _ _) ?_;rintro _ ⟨-,rfl⟩;refine c3 _ ⟨rfl,rfl,rfl,rfl,rfl,rfl,rfl,rfl,rfl,⟨by first|omega|(dsimp only;omega),by first|omega|(dsimp only;omega)⟩,?_⟩ (by simp only;omega);dsimp only;rw[ej,if_pos ⟨_,Az.2 (.inr (Au.2 rfl)),D⟩,k3];split;·rw[d9 (cS (by decide))]
      ·rfl
     ·have D:=of_decide_eq_false D;refine c3 _ ⟨rfl,rfl,rfl,rfl,rfl,rfl,rfl,rfl,rfl,⟨by first|omega|(dsimp only;omega),by first|omega|(dsimp only;omega)⟩,?_⟩ (by simp only;omega);dsimp only;have:(∃f∈b.take k.toNat++[b.getD k.toNat (ao .afield)],f.name=f0)↔∃f∈b.take k.toNat,f.name=f0:=by
       constructor
       ·rintro⟨f,S,e⟩;rcases Az.1 S with S|S;·exact⟨f,S,e⟩
        ·rw[Au.1 S] at e;exact absurd e D
       ·rintro⟨f,S,e⟩;exact⟨f,Az.2 (.inl S),e⟩
      rw[ej,k3];simp only[this]
    ·have E:=of_decide_eq_false E;rw[Bl (by omega)] at k3;rw[cn,ed];refine ah (ii x2 _ cx) ?_;rintro _ ⟨-,rfl⟩;have hD:e2=(if (∃f∈b,f.name=f0) then aI (fY f0 Q) 5 else fY f0 Q):=by rw[k3,hC]
     refine ab (λD=>?_) (λD=>?_);·refine ah (aV _ _ _) ?_;rintro _ ⟨-,rfl⟩;exact ci e2 hD _ (by rw[D];rfl)
     ·exact ci e2 hD _ (by rw[D];rfl)
   refine ab (λH=>?_) (λH=>Z _ ?_)
   ·have H:Q=0:=by simpa using H
    refine ah (wU _ (by omega)) ?_;rintro _ ⟨-,rfl⟩;refine ab (λhp=>?_) (λhp=>?_);·refine ah (aV _ _ _) ?_;rintro _ ⟨-,rfl⟩;refine Z _ ?_;unfold fY;rw[if_neg (by simpa using hp)]
    ·refine Z _ ?_;unfold fY;rw[if_pos (by simpa using hp)]
   ·rw[s6 (by simpa using H)]
  ·exact ab (λH=>absurd H (by rw[X];simp)) (λ_=>d3 (by simpa using X) _)
 ·have Y:=of_decide_eq_false Y;refine ab (λH=>done (by simpa using H) (by omega)) (λH=>d3 (by simpa using H) _)
theorem arF(ts:List ac)(e:Int)(n:aa)(b:Int)(a:List UInt8)(deep:Int)(k:e≠0)(p:bp n):∃r,bD ts e n b a deep r:=by
 obtain⟨N,q⟩:∃N:Nat,N=100:=⟨_,rfl⟩
 apply qr N;have j:n.names.length<=1000000:=by have:=p.sizes;omega
 have fin:∀o,Tot (some (.tup [],some [.ul .atype ts,.int .i64 e]::o):Ro) (λz=>∃(f:List ac)(g:Int)(rest:List ai),z.1.dimR=.tup []∧z.2=some [.ul .atype f,.int .i64 g]::rest∧bq ts e n b a deep (f,g)):=
  λo=>am ⟨_,_,_,rfl,rfl,λ_=>rfl,λh=>absurd h k⟩
 unfold lH dN;dsimp only;rw[cn];refine ah (ii n _ j) ?_;rintro _ ⟨-,rfl⟩;have d:∀c,Tot (af (ag ts e c) (λm=>(some (.tup [],[some [.ul .atype m.2.1,.int .i64 m.2.2]]):Ro))) (λz=>∃(f:List ac)(g:Int)(rest:List ai),z.1.dimR=.tup []∧z.2=some [.ul .atype f,.int .i64 g]::rest∧bq ts e n b a deep (f,g)):=by intro c;refine ah (aV _ _ _) ?_;rintro _ ⟨-,rfl⟩;dsimp only;rw[d9 k];exact fin _
 refine ab (λ_=>d _) (λ_=>?_);refine ab (λ_=>d _) (λ_=>?_);refine ab (λ_=>d _) (λ_=>?_);obtain⟨M,rfl⟩:∃M,N=M+1:=⟨N-1,by omega⟩
 show Tot (cR (M+1) (aK M (cR (M+1))) _) _;unfold cR eg;dsimp only;have i:(e==0)=false:=by simpa using k
 refine ab (λ_=>ab (λh=>absurd h (by rw[i];simp)) (λ_=>?_)) (λ_=>?_);·exact ab (λh=>absurd h (by rw[i];simp)) (λ_=>fin _)
 ·exact ab (λh=>absurd h (by rw[i];simp)) (λ_=>fin _)
end Go.Proofs.YtkinflmjagfapaaDoor
end
