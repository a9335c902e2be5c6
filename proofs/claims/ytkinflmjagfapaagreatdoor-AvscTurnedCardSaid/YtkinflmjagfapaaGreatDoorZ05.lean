import Derived.KernelRfl
import Derived.Test.YtkinflmjagfapaaGreatDoorZ02
import Derived.Test.YtkinflmjagfapaaGreatDoorZ03
import Derived.Test.YtkinflmjagfapaaGreatDoorZ04
open Bool renaming false_eq_true→B3,or_false→C6
open Eq renaming trans→A3
open Go.IntKind renaming wrap→Aj
open Int renaming toNat→Ae,toNat_natCast→AR
open List renaming length→Aa,getElem?_eq_getElem→Ab,getD_eq_getElem?_getD→Af,mem_of_getElem?→Ai,getD→Ak,length_cons→Av,length_nil→AA,length_append→AD,mem_map→AE,set→AJ,getElem_mem→AK,drop→AY,take→A5,take_of_length_le→Bv,length_take→Bw,take_add_one→BH,map_append→BL,drop_zero→BS,drop_length→BZ,take_length→C7
open Nat renaming beq→As,le_trans→AH,beq_refl→BF
open Option renaming isSome→CI
open Option.some renaming inj→Au
set_option linter.all false
set_option maxRecDepth 100000
noncomputable section
namespace Go.Proofs.YtkinflmjagfapaaGreatDoor
open Go.AM
def fX(sp s:List UInt8):List UInt8:=if dq s 46=false∧sp≠[] then sp++[46]++s else s
def zq(sp s:List UInt8)(e:Int):Int:=if (Go.Lib.split (fX sp s) [46]).all cf=true then e else aN e 6
theorem agG(m:MS)(s sp:List UInt8):(bJ m s sp).1 =fX sp s:=rfl
theorem qN(m:MS)(s sp:List UInt8):(bJ m s sp).2.2.2.1 =zq sp s m.2.2.1:=agF m s sp
theorem w4{sp s:List UInt8}{e:Int}(h:e≠0):zq sp s e=e:=by unfold zq;rw[eL h];simp
def lG(sp:List UInt8):List (List UInt8)->Int->Int
 | [],e=>e
 |s::a,e=>lG sp a (zq sp s e)
theorem rk(sp:List UInt8):∀(a:List (List UInt8)){e:Int},e≠0->lG sp a e=e
 | [],e,h=>rfl
 |s::a,e,h=>by rw[lG,w4 h];exact rk sp a h
theorem air(sp:List UInt8):∀(a l:List (List UInt8))(m:MS),(dr (bO sp) a l m).2.2.2.1 =lG sp a m.2.2.1∧((dr (bO sp) a l m).2.2.2.1 =0->(dr (bO sp) a l m).1 =l++a.map (fX sp))
 | [],l,m=>⟨rfl,λ_=>by simp[dr]⟩
 |s::a,l,m=>by
  rw[dr,lG];split;·have c:=air sp a (l++[(bO sp m s).1]) (bO sp m s).2;have d:(bO sp m s).2.2.2.1 =zq sp s m.2.2.1:=qN m s sp;rw[d] at c;refine⟨c.1,λh=>?_⟩;rw[c.2 h];show l++[fX sp s]++a.map (fX sp)=_;simp
  ·rename_i b;have c:=air sp a l m;rw[w4 b];refine⟨c.1,λh=>?_⟩;rw[c.1,rk sp a b] at h;exact absurd h b
theorem arA{sp:List UInt8}{o:List ab}{e:Int}{n:aa}{r:List (List UInt8)×Bool×RS}(h:c5 o e n [97,108,105,97,115,101,115] r)(m:MS)(j:m.2.2.1=e):
  (az (bO sp) m n).2.2.2.1 =lG sp r.1 r.2.2.2∧(lG sp r.1 r.2.2.2=0->(az (bO sp) m n).1 =r.1.map (fX sp)):=by
 obtain⟨-, -, -,k,p⟩:=h;simp only[az];by_cases b:(ao n [97,108,105,97,115,101,115]).2 =true
 ·rw[if_pos b];obtain⟨f,d⟩:=p b m j;obtain⟨a,i⟩:=air sp (b9 m (ao n [97,108,105,97,115,101,115]).1).1 [] (b9 m (ao n [97,108,105,97,115,101,115]).1).2;rw[<-f] at a;by_cases c:r.2.2.2=0;·rw[<-d c] at a i ⊢;refine⟨a,λg=>?_⟩;rw[i (by rw[a];exact g)];simp
  ·rw[rk _ _ c] at a;rw[rk _ _ c];exact⟨a,λg=>absurd g c⟩
 ·rw[if_neg b];obtain⟨f,d⟩:=k (by simpa using b);rw[f,d];exact⟨j,λ_=>rfl⟩
theorem aqv{d:List ab}{e:Int}{n:aa}{name:List UInt8}{r:List (List UInt8)×Bool×RS}(h:c5 d e n name r)(a:e≠0):r.2.2.2=e:=by
 obtain⟨-, -, -,c,f⟩:=h;by_cases b:(ao n name).2 =true;·have:=(f b ([],[],e,0) rfl).1;rw[wq] at this;rw[this,eL a];simp only[ite_self];exact tG _ a
 ·exact(c (by simpa using b)).2
theorem atb{m:MS}{t:ab}(h:m.2.2.1≠0):aR m t=(0,ak m (decide (60<=m.2.1.length)) 3):=by unfold aR;rw[if_pos (.inl h)]
theorem aqw(deep:Int)(hd:1<=deep∧deep<=20)(hT:ac8 (deep+1))(ts:List ab)(n:aa)(k:Int)(f:List UInt8)(ha:∃m,OfS ts 0 m)(h:ts.length<=60)(hn:aE n)(hk:9<=k∧k<=11)(hs:(f.length:Int)<=300*deep):∃r,dd ts 0 n k f deep r:=by
 obtain⟨N,hN⟩:∃N:Nat,N=100:=⟨_,rfl⟩
 apply zC N;have ci:n.names.length<=1000000:=by have:=hn.sizes;omega
 unfold rW gg
 have fin:∀(x:Int)(t:List ab)(e:Int)(o:List ai),(∀m,OfS ts 0 m->m.2.2.2=deep->AgI (cQ (aq deep) m n k f) (x,t,e))->Tot (some (.int .i64 x,some [.ul .atype t,.int .i64 e]::o):Ro) (λz=>∃(G:Int)(F:List ab)(D:Int)(rest:List ai),z.1.dimR=.int .i64 G∧z.2=some [.ul .atype F,.int .i64 D]::rest∧aT ts 0 n k f deep (G,F,D)):=
  λx t e o hx=>aj ⟨_,_,_,_,rfl,rfl,λ_=>hx⟩
 dsimp only;rw[bo];refine ag (aas _ _ _ _ _ ci) ?_;intro r1 fs;obtain⟨B,eB,go,hB,gC,m8⟩:∃B eB,r1=(B,ts,eB)∧(∀m:MS,m.2.2.1=0->(iv m n).2.2.2.1 =eB)∧(eB=0->B=(ao n [110,97,109,101]).1.s)∧B.length<=100:=by
  have h6:r1=_:=fs.2;rw[if_neg (λhh=>by cases hh.2)] at h6;by_cases W:(ao n [110,97,109,101]).1.kind =4
  ·have Y:(ao n [110,97,109,101]).2 ≠false:=λY=>by
    rw[ab9 Y] at W;exact absurd W (by decide)
   rw[if_neg (λhh=>hh.elim Y (λq=>q W))] at h6;refine⟨_,0,h6,λm A=>?_,λ_=>rfl,(dK hn).sizes.1⟩;show (ak m _ 2).2.2.1 =0;rw[bF,A,if_neg (by simp[W])]
  ·rw[if_pos (.inr W)] at h6;refine⟨_,aN 0 2,h6,λm A=>?_,λu=>absurd u (show aN 0 2≠0 by decide),by simp⟩;show (ak m _ 2).2.2.1 =_;rw[bF,A,if_pos (by simpa using W)]
 subst go;clear fs;refine ag (jR n _ ci) ?_;rintro _ ⟨-,rfl⟩;dsimp only;have ls:=(dK (s:=[110,97,109,101,115,112,97,99,101]) hn).sizes.1;have gx:∀(m:MS)(w:List UInt8×MS),w.2.2.2.1≠0->(gb (aq deep) m n k w).2.2.2.1 =w.2.2.2.1:=by intro m w hw;have Z:=(lH (z6 (aC w.1)) w.2 n).trans (ay _ (aX (k:=.sn) (az (bO (aC w.1)) w.2 n).2.1 w.1).isSome 5);have e1:=Z.stay hw;simp only[gb];have e2:=ahV (ak (az (bO (aC w.1)) w.2 n).2 (aX (k:=.sn) (az (bO (aC w.1)) w.2 n).2.1 w.1).isSome 5) ⟨k,w.1,(az (bO (aC w.1)) w.2 n).1,0,[],false,[],0,[],[]⟩ (by rw[e1];exact hw);rw[if_neg (by rw[e2,e1];exact hw)];exact e2.trans e1
 have d3:∀(g:List UInt8)(e1:Int),e1=0->g.length<=100+f.length->(∀m,OfS ts 0 m->m.2.2.2=deep->cQ (aq deep) m n k f=gb (aq deep) m n k (bJ m B g))->
   Tot (af (cH ts e1 B g) (λcv=>
       af (fm cv.1) (λ(hL:Bs)=>
        af (bI cv.2.1 cv.2.2 n ([97,108,105,97,115,101,115]:Bs)) (λel=>
         aO N (fM N) (k,hL,deep,n,el.1,0,el.2.2.1,el.2.2.2,k,cv.1,[],0,[],false,[],0,[],[]))))) (λz=>∃(G:Int)(F:List ab)(D:Int)(rest:List ai),z.1.dimR=.int .i64 G∧z.2=some [.ul .atype F,.int .i64 D]::rest∧aT ts 0 n k f deep (G,F,D)):=by
  rintro g e1 rfl i8 O;refine ag (ajK _ _ _ _ (by omega) (by omega)) ?_;rintro⟨wn,mp,we⟩ ⟨-,gN,hQ,e9⟩;dsimp only at gN hQ e9 ⊢;subst gN;have hg:we=zq g B 0:=by have:=(e9 m0 rfl).1;rw[qN] at this;exact this
  have hS:we=0->wn=fX g B:=λu=>(e9 m0 rfl).2 u
  refine ag (aoJ _ (by omega)) ?_;rintro _ ⟨-,rfl⟩;have l6:=alv wn;refine ag (yp _ _ _ _ hn) ?_;rintro⟨L,m6,hl,eT⟩ ⟨-,hX⟩;have ex:=hX;obtain⟨p1,p2,⟨p3,p4⟩, -, -⟩:=hX;dsimp only at p1 p2 p3 p4 ex ⊢;subst p1;have ly:(L.length:Int)<=8:=by omega
  have hU:we≠0->eT=we:=λu=>aqv ex u
  have gm:∀m,OfS hl 0 m->(az (bO (aC (fX g B))) (bJ m B g).2 n).2.2.2.1 =lG (aC wn) L eT∧
    (lG (aC wn) L eT=0->(az (bO (aC (fX g B))) (bJ m B g).2 n).1 =L.map (fX (aC wn))∧(az (bO (aC (fX g B))) (bJ m B g).2 n).2 =m∧wn=fX g B∧we=0):=by
   intro m A;have dw:(bJ m B g).2.2.2.1 =we:=by rw[qN,A.1,hg]
   by_cases j:we=0;·have ip:=hS j;obtain⟨a1,a2⟩:=arA (sp:=aC (fX g B)) ex (bJ m B g).2 dw;rw[<-ip] at a1 a2 ⊢;refine⟨a1,λu=>⟨a2 u,?_,rfl,j⟩⟩;have o1:=ur (alx (aC wn)) (bJ m B g).2 n (a1.trans u);rw[o1];exact yj m B g (dw.trans j)
   ·rw[hU j,rk _ _ j];refine⟨?_,λu=>absurd u j⟩;rw[<-dw];exact(lH (z6 _) _ _).stay (by rw[dw];exact j)
  refine a8 (λx=>match x with|(k',sp,I,v,L',i,y,J,C,E,X,f3,f4,f5,f6,f7,f8,f9)=>k'=k∧sp=aC wn∧I=deep∧v=n∧L'=L∧y=hl∧(C=k∧E=wn∧f3=0∧f4=[]∧f5=false∧f6=[]∧f7=0∧f8=[]∧f9=[])∧(0<=i∧i<=(L.length:Int))∧(X.length:Int)<=i∧lG (aC wn) L eT=lG (aC wn) (L.drop i.toNat) J∧(J=0->X=(L.take i.toNat).map (fX (aC wn)))) (λx=>((L.length:Int)-x.2.2.2.2.2.1).toNat) ?_ _ _ ⟨rfl,rfl,rfl,rfl,rfl,rfl,⟨rfl,rfl,rfl,rfl,rfl,rfl,rfl,rfl,rfl⟩,⟨by simp,by simp⟩,by simp,by simp,λ_=>by simp⟩ (by simp;omega);rintro hW ⟨k',sp,I,v,L',i,y,J,C,E,X,f3,f4,f5,f6,f7,f8,f9⟩ ⟨rfl,rfl,rfl,rfl,rfl,rfl,⟨rfl,rfl,rfl,rfl,rfl,rfl,rfl,rfl,rfl⟩,⟨i1,i2⟩,i3,i4,i5⟩ ih;dsimp only at ih;unfold fM;dsimp only
  have ar:(J≠0∨i=(L'.length:Int))->∀m,OfS y 0 m->m.2.2.2=I->cQ (aq I) m v C f=gb (aq I) m v C (bJ m B g)∧
    (az (bO (aC (fX g B))) (bJ m B g).2 v).2.2.2.1 =J∧(J=0->(az (bO (aC (fX g B))) (bJ m B g).2 v).1 =X∧(az (bO (aC (fX g B))) (bJ m B g).2 v).2 =m∧E=fX g B):=by
   intro P m A p;have gs:lG (aC E) L' eT=J:=by
    rw[i4];rcases P with Q|Q;·exact rk _ _ Q
    ·rw[Q,AR,BZ];rfl
   obtain⟨a1,a2⟩:=gm m A;rw[gs] at a1 a2;refine⟨O m A p,a1,λu=>?_⟩;obtain⟨b1,b2,b3, -⟩:=a2 u;rcases P with Q|Q;·exact absurd u Q
   ·refine⟨?_,b2,b3⟩;rw[b1,i5 u,Q,AR,C7]
  have bad:(J≠0∨i=(L'.length:Int))->J≠0->∀o,Tot (some (.int .i64 0,some [.ul .atype y,.int .i64 J]::o):Ro) (λz=>∃(G:Int)(F:List ab)(D:Int)(rest:List ai),z.1.dimR=.int .i64 G∧z.2=some [.ul .atype F,.int .i64 D]::rest∧aT y 0 v C f I (G,F,D)):=by
   intro P he o;refine fin _ _ _ _ λm A p=>?_
   obtain⟨b1,b2, -⟩:=ar P m A p;have Z:=(ay (az (bO (aC (fX g B))) (bJ m B g).2 v).2 (aX (k:=.sn) (az (bO (aC (fX g B))) (bJ m B g).2 v).2.1 (fX g B)).isSome 5)
   have e1:=Z.stay (by rw[b2];exact he);have e2:=ahV (ak (az (bO (aC (fX g B))) (bJ m B g).2 v).2 (aX (k:=.sn) (az (bO (aC (fX g B))) (bJ m B g).2 v).2.1 (fX g B)).isSome 5) ⟨C,fX g B,(az (bO (aC (fX g B))) (bJ m B g).2 v).1,0,[],false,[],0,[],[]⟩ (by rw[e1,b2];exact he);have e3:=(e2.trans e1).trans b2;rw[b1];simp only[gb];rw[agG,if_neg (by rw[e3];exact he)];exact⟨⟨h,e3.symm,λu=>absurd u he⟩,λu=>absurd u he⟩
  have et:J=0->(J≠0∨i=(L'.length:Int))->∀R:Int×Bool×RS,dh y 0 E R->R.2.1=true->∀o,Tot (some (.int .i64 0,some [.ul .atype y,.int .i64 (aN 0 5)]::o):Ro) (λz=>∃(G:Int)(F:List ab)(D:Int)(rest:List ai),z.1.dimR=.int .i64 G∧z.2=some [.ul .atype F,.int .i64 D]::rest∧aT y 0 v C f I (G,F,D)):=by
   intro he P R h8 Y o;refine fin _ _ _ _ λm A p=>?_
   obtain⟨b1,b2,b3⟩:=ar P m A p;obtain⟨c1,c2,c3⟩:=b3 he;obtain⟨q1,q2,q3⟩:=A.z;have hf:=(wo (q3 rfl) (by rw[q1];exact h8)).1;rw[b1];simp only[gb];rw[agG,c2,<-c3,<-hf,Y,atb (by rw[bF,if_pos rfl,q2];decide)];have e4:(ak (ak m true 5) (decide (60<=(ak m true 5).2.1.length)) 3).2.2.1 =aN 0 5:=by
    have e5:(ak m true 5).2.2.1 =aN 0 5:=by rw[bF,if_pos rfl,q2]
    rw[<-e5];exact(ay _ _ 3).stay (by rw[e5];decide)
   rw[if_neg (by rw[e4];decide)];exact⟨⟨h,e4.symm,λu=>absurd u (show aN 0 5≠0 by decide)⟩,λu=>absurd u (show aN 0 5≠0 by decide)⟩
  have more:J=0->(J≠0∨i=(L'.length:Int))->∀R:Int×Bool×RS,dh y 0 E R->R.2.1=false->∀r:Int×RS,gc y 0 ⟨C,E,X,0,[],false,[],0,[],[]⟩ r->
    (∀m,OfS y 0 m->m.2.2.2=I->(r.2.2≠0->(cQ (aq I) m v C f).2.2.2.1 =r.2.2)∧(r.2.2=0->∃M,OfS r.2.1 0 M∧M.2.2.2=I∧r.2.1[r.1.toNat]? =some ⟨C,E,X,0,[],false,[],0,[],[]⟩∧(0<=r.1∧r.1<(r.2.1.length:Int))∧cQ (aq I) m v C f=(r.1,rC (aq I) M v C (aC E) E X r.1)))∧r.2.1.length<=60:=by
   intro he P R h8 Y r hr;have H:r.2.1.length<=60:=by obtain⟨m,A⟩:=ha;exact(afU A h hr).1.1
   refine⟨λm A p=>?_,H⟩;obtain⟨b1,b2,b3⟩:=ar P m A p;obtain⟨c1,c2,c3⟩:=b3 he;obtain⟨q1,q2,q3⟩:=A.z;have hf:=(wo (q3 rfl) (by rw[q1];exact h8)).1;have b5:=afU A h hr;have hG:aX (k:=.sn) m.1 E=none:=by rw[Y] at hf;simpa using hf.symm
   have ew:gb (aq I) m v C (bJ m B g)=(if (aR m ⟨C,E,X,0,[],false,[],0,[],[]⟩).2.2.2.1 =0 then ((aR m ⟨C,E,X,0,[],false,[],0,[],[]⟩).1,rC (aq I) (cm (k:=.sn) (aR m ⟨C,E,X,0,[],false,[],0,[],[]⟩).2.1 E (aR m ⟨C,E,X,0,[],false,[],0,[],[]⟩).1,(aR m ⟨C,E,X,0,[],false,[],0,[],[]⟩).2.2) v C (aC E) E X (aR m ⟨C,E,X,0,[],false,[],0,[],[]⟩).1) else (0,(aR m ⟨C,E,X,0,[],false,[],0,[],[]⟩).2)):=by simp only[gb];rw[agG,c2,<-c3,<-hf,Y,fW];rw[<-c3] at c1;rw[c1]
   rw[b1,ew];refine⟨λu=>?_,λu=>?_⟩;·rw[if_neg (by rw[<-b5.1.2.1];exact u)];exact b5.1.2.1.symm
   ·have j:(aR m ⟨C,E,X,0,[],false,[],0,[],[]⟩).2.2.2.1 =0:=by rw[<-b5.1.2.1];exact u
    rw[if_pos j];obtain⟨z1,z2,z3⟩:=add_zero j;have t1:=b5.1.2.2 u;have t2:=b5.2 u;rw[z3] at t1 t2 ⊢;dsimp only at t1 t2 ⊢;have h3:we=0:=by
     by_cases Q:we=0;·exact Q
     ·have:=(gm m A).2 (by
       rw[i4];rcases P with hh|hh;·exact absurd he hh
       ·rw[hh,AR,BZ];exact he)
      exact this.2.2.2
    have hP:E≠[]:=by have:=ahW (m:=m) (a:=B) (b:=g) (by rw[qN,q2,<-hg];exact h3);rw[agG,<-c3] at this;exact this
    refine⟨(cm (k:=.sn) m.1 E (m.2.1.length:Int),m.2.1++[⟨C,E,X,0,[],false,[],0,[],[]⟩],0,m.2.2.2),⟨rfl,λ_=>⟨t1.symm,ao8 (q3 rfl) (t:=⟨C,E,X,0,[],false,[],0,[],[]⟩) hG hk hP rfl rfl rfl 0 m.2.2.2⟩⟩,p,?_,?_,by rw[t2]⟩;·rw[t1,t2,AR];exact sE _ _
    ·rw[t1,t2];simp only[AD,Av,AA];omega
  have fw:J=0->(J≠0∨i=(L'.length:Int))->∀R:Int×Bool×RS,dh y 0 E R->R.2.1=false->∀r:Int×RS,gc y 0 ⟨C,E,X,0,[],false,[],0,[],[]⟩ r->∀o:ai,
    Tot (cond (C==9) (
       af (bB r.2.1 r.2.2 (reJ v) r.1 (aC E) I) (λbY=>
        (some (.int .i64 r.1,[some [.ul .atype bY.1,.int .i64 bY.2],o]):Ro))) (
       cond (C==10) (
        af (bq r.2.1 r.2.2 (reJ v) r.1) (λeD=>
         (some (.int .i64 r.1,[some [.ul .atype eD.1,.int .i64 eD.2],o]):Ro))) (
        af (aU (reJ v) ([115,105,122,101]:Bs)) (λb0=>
         cond (!b0.2) (
          af (ah r.2.1 r.2.2 2) (λei=>
           (some (.int .i64 ei.1,[some [.ul .atype ei.2.1,.int .i64 ei.2.2],o]):Ro))) (
          cond (!(b0.1.kind==3)) (
           af (ah r.2.1 r.2.2 2) (λal=>
            (some (.int .i64 al.1,[some [.ul .atype al.2.1,.int .i64 al.2.2],o]):Ro))) (
           cond (decide (b0.1.n<0)) (
            af (ah r.2.1 r.2.2 6) (λe7=>
             (some (.int .i64 e7.1,[some [.ul .atype e7.2.1,.int .i64 e7.2.2],o]):Ro))) (
            cond (decide (5000<b0.1.n)) (
             af (ah r.2.1 r.2.2 6) (λea=>
              (some (.int .i64 ea.1,[some [.ul .atype ea.2.1,.int .i64 ea.2.2],o]):Ro))) (
             cond (r.2.2==0) (
              chk (decide (0<Aa r.2.1)) (
               chk ((decide (0<=r.1)&&decide (r.1<↑(Aa r.2.1)))) (
                chk (decide ((Ae r.1)<Aa r.2.1)) (
                 let g5:=(AJ r.2.1 (Ae r.1) (let e_:=Ak r.2.1 (Ae r.1) (am .atype);⟨e_.kind,e_.name,e_.aliases,e_.items,e_.syms,e_.hasdef,e_.df,b0.1.n,e_.fields,e_.branches⟩))
                 chk (As (Aa r.2.1) (Aa g5)) (
                  (some (.int .i64 r.1,[some [.ul .atype g5,.int .i64 r.2.2],o,none,none]):Ro)))))) (
              (some (.int .i64 r.1,[some [.ul .atype r.2.1,.int .i64 r.2.2],o]):Ro)))))))))) (λz=>∃(G:Int)(F:List ab)(D:Int)(rest:List ai),z.1.dimR=.int .i64 G∧z.2=some [.ul .atype F,.int .i64 D]::rest∧aT y 0 v C f I (G,F,D)):=by
   intro he P R h8 Y r hr o;obtain⟨mo,H⟩:=more he P R h8 Y r hr;obtain⟨w0,h5⟩:=ha;have i0:=mo (bZ w0 I) (h5.deep I) rfl;rw[bo];by_cases j:r.2.2=0
   ·obtain⟨ho,d2,fe,m3,a5, -⟩:=i0.2 j;rw[j];refine ac (λh9=>?_) (λh9=>?_)
    ·have h9:C=9:=by simpa using h9
     refine ag (aoM I hd hT r.2.1 v r.1 (aC E) ⟨ho,d2⟩ H a5 hn (by omega)) ?_;rintro bY ⟨-, -,bl⟩;have kk:=(bl rfl ho d2 fe).1;refine fin _ _ _ _ λm A p=>?_
     obtain⟨M,Z,k2,k3,k4,k5⟩:=(mo m A p).2 j;obtain⟨g1,g2,g3⟩:=bl rfl M Z k2;rw[k5,rC,if_pos h9];dsimp only;refine⟨⟨g1,?_,λu=>?_⟩,λ_=>rfl⟩;·rw[g2];split<;>rfl
     ·have dk:(bX (aq I) M [] v (aC E)).2.2.2.1 =0:=by rw[<-g2];exact u
      rw[if_pos dk];have hp:=(ai5 (aat I) M [] v (aC E)).2 r.1.toNat (by rw[(Z.2 rfl).1];omega);rw[(Z.2 rfl).1,k3] at hp;exact g3 u _ hp
    refine ac (λS=>?_) (λS=>?_)
    ·have S:C=10:=by simpa using S
     refine ag (anN r.2.1 v r.1 hn a5) ?_;rintro eD ⟨-, -,ir⟩;obtain⟨g0,g1⟩:=ir rfl;refine fin _ _ _ _ λm A p=>?_
     obtain⟨M,Z,k2,k3,k4,k5⟩:=(mo m A p).2 j;obtain⟨g2,g3⟩:=g1 M Z.1;rw[k5,rC,if_neg (by omega),if_pos S];dsimp only;refine⟨⟨by rw[g0];exact H,?_,λu=>?_⟩,λ_=>rfl⟩;·rw[g2];split<;>rfl
     ·have dk:(bP M v false []).2.2.2.1 =0:=by rw[<-g2];exact u
      rw[if_pos dk,g3 u _ k3];show _=(bP M v false []).2.2.1.set _ _;rw[aff M v false [] dk,(Z.2 rfl).1]
    ·have h9:¬C=9:=by simpa using h9
     have S:¬C=10:=by simpa using S
     refine ag (jR v _ ci) ?_;rintro _ ⟨-,rfl⟩;have ed:∀(e2:Int),e2≠0->(∀M:MS,M.2.2.1=0->(ak (ak M (!((ao v [115,105,122,101]).1.kind ==3)) 2) (decide ((ao v [115,105,122,101]).1.n <0)||decide (5000<(ao v [115,105,122,101]).1.n)) 6).2.2.1 =e2)->∀(x:Int)(oo:List ai),Tot (some (.int .i64 x,some [.ul .atype r.2.1,.int .i64 e2]::oo):Ro) (λz=>∃(G:Int)(F:List ab)(D:Int)(rest:List ai),z.1.dimR=.int .i64 G∧z.2=some [.ul .atype F,.int .i64 D]::rest∧aT y 0 v C f I (G,F,D)):=by
      intro e2 ey eC x oo;refine fin _ _ _ _ λm A p=>?_
      obtain⟨M,Z,k2,k3,k4,k5⟩:=(mo m A p).2 j;have hu:=eC M Z.1;rw[k5,rC,if_neg h9,if_neg S];dsimp only;rw[if_neg (by rw[hu];exact ey)];exact⟨⟨H,hu.symm,λu=>absurd u ey⟩,λu=>absurd u ey⟩
     have gh:(ao v [115,105,122,101]).1.kind ≠3->∀(x:Int)(oo:List ai),Tot (some (.int .i64 x,some [.ul .atype r.2.1,.int .i64 (aN 0 2)]::oo):Ro) (λz=>∃(G:Int)(F:List ab)(D:Int)(rest:List ai),z.1.dimR=.int .i64 G∧z.2=some [.ul .atype F,.int .i64 D]::rest∧aT y 0 v C f I (G,F,D)):=by
      intro a0;refine ed _ (by decide) λM b4=>?_
      have e5:(ak M (!((ao v [115,105,122,101]).1.kind ==3)) 2).2.2.1 =aN 0 2:=by rw[bF,if_pos (by simpa using a0),b4]
      rw[<-e5];exact(ay _ _ 6).stay (by rw[e5];decide)
     refine ac (λfq=>?_) (λfq=>?_);·refine ag (aV _ _ _) ?_;rintro _ ⟨-,rfl⟩;exact gh (by rw[ab9 (by simpa using fq)];show (0:Int)≠3;decide) _ _
     refine ac (λa0=>?_) (λa0=>?_);·refine ag (aV _ _ _) ?_;rintro _ ⟨-,rfl⟩;exact gh (by simpa using a0) _ _
     have a0:(ao v [115,105,122,101]).1.kind =3:=by simpa using a0
     have es:∀M:MS,ak M (!((ao v [115,105,122,101]).1.kind ==3)) 2=M:=λM=>by rw[show (!((ao v [115,105,122,101]).1.kind ==3))=false from by simp[a0],fW]
     refine ac (λc4=>?_) (λc4=>?_);·refine ag (aV _ _ _) ?_;rintro _ ⟨-,rfl⟩;refine ed _ (show aN 0 6≠0 by decide) (λM b4=>?_) _ _;rw[es,bF,c4,if_pos (by simp),b4]
     refine ac (λcs=>?_) (λcs=>?_);·refine ag (aV _ _ _) ?_;rintro _ ⟨-,rfl⟩;refine ed _ (show aN 0 6≠0 by decide) (λM b4=>?_) _ _;rw[es,bF,cs,if_pos (by simp),b4]
     refine ac (λ_=>?_) (λQ=>absurd Q (by simp));refine vck ?_ (decide_eq_true (by omega));refine vck ?_ (by simp[a5.1,a5.2]);refine vck ?_ (decide_eq_true (by omega));refine vck ?_ (by simp);refine fin _ _ _ _ λm A p=>?_
     obtain⟨M,Z,k2,k3,k4,k5⟩:=(mo m A p).2 j;rw[k5,rC,if_neg h9,if_neg S];dsimp only;rw[es,c4,cs,C6,fW,if_pos Z.1,ac7 k3];have eC:aiR (ao v [115,105,122,101]).1.n =(ao v [115,105,122,101]).1.n :=by unfold aiR;rw[if_neg (of_decide_eq_false c4),if_neg (of_decide_eq_false cs)]
     refine⟨⟨by simpa using H,Z.1.symm,λ_=>?_⟩,λ_=>rfl⟩;show _=M.2.1.set _ _;rw[(Z.2 rfl).1,eC]
   ·have a4:∀(x:Int)(t:List ab)(oo:List ai),t.length<=60->Tot (some (.int .i64 x,some [.ul .atype t,.int .i64 r.2.2]::oo):Ro) (λz=>∃(G:Int)(F:List ab)(D:Int)(rest:List ai),z.1.dimR=.int .i64 G∧z.2=some [.ul .atype F,.int .i64 D]::rest∧aT y 0 v C f I (G,F,D)):=by
     intro x t oo ht;refine fin _ _ _ _ λm A p=>?_
     exact⟨⟨ht,((mo m A p).1 j).symm,λu=>absurd u j⟩,λu=>absurd u j⟩
    refine ac (λh9=>?_) (λh9=>?_);·refine ag (aqu _ _ _ _ _ _ j hn) ?_;rintro bY ⟨-,bl, -⟩;rw[bl j];exact a4 _ _ _ H
    refine ac (λS=>?_) (λS=>?_);·refine ag (aoL _ _ _ _ j hn) ?_;rintro bY ⟨-,bl, -⟩;rw[bl j];exact a4 _ _ _ H
    refine ag (jR v _ ci) ?_;rintro _ ⟨-,rfl⟩;have ff:∀c,Tot (af (ah r.2.1 r.2.2 c) (λal=>(some (.int .i64 al.1,[some [.ul .atype al.2.1,.int .i64 al.2.2],o]):Ro))) (λz=>∃(G:Int)(F:List ab)(D:Int)(rest:List ai),z.1.dimR=.int .i64 G∧z.2=some [.ul .atype F,.int .i64 D]::rest∧aT y 0 v C f I (G,F,D)):=by intro c;refine ag (aV _ _ _) ?_;rintro _ ⟨-,rfl⟩;dsimp only;rw[eL j];exact a4 _ _ _ H
    refine ac (λ_=>ff _) (λ_=>?_);refine ac (λ_=>ff _) (λ_=>?_);refine ac (λ_=>ff _) (λ_=>?_);refine ac (λ_=>ff _) (λ_=>?_);exact ac (λQ=>absurd (by simpa using Q) j) (λ_=>a4 _ _ _ H)
  have bx:(J≠0∨i=(L'.length:Int))->∀(K:Int×Bool×RS->Ro),(∀R:Int×Bool×RS,dh y J E R->R.2.2=(y,J)->Tot (K R) (λz=>∃(G:Int)(F:List ab)(D:Int)(rest:List ai),z.1.dimR=.int .i64 G∧z.2=some [.ul .atype F,.int .i64 D]::rest∧aT y 0 v C f I (G,F,D)))->
    Tot (af (bS y J E) K) (λz=>∃(G:Int)(F:List ab)(D:Int)(rest:List ai),z.1.dimR=.int .i64 G∧z.2=some [.ul .atype F,.int .i64 D]::rest∧aT y 0 v C f I (G,F,D)):=by
   intro P K hK;refine ag (afV _ _ _ h) ?_;rintro R ⟨-,h8⟩;exact hK R h8 h8.1
  refine ac (λhc=>?_) (λhc=>?_)
  ·have hc:=of_decide_eq_true hc;have e8:i.toNat<L'.length:=by omega
   refine ac (λj=>?_) (λj=>bx (.inl (by simpa using j)) _ λR h8 cx=>?_)
   ·have j:J=0:=by simpa using j
    have ib:=iZ (d:=(am .str:List UInt8)) ⟨i1,hc⟩;have hF:L'.take (i+1).toNat=L'.take i.toNat++[L'.getD i.toNat (am .str)]:=by rw[show (i+1).toNat=i.toNat+1 by omega,BH,Ab e8,Af,Ab e8];rfl
    have mx:(L'.getD i.toNat (am .str)).length<=100:=p4 _ (by rw[Af,Ab e8];exact AK _);rw[ib,lG] at i4;refine vck ?_ (ixt ⟨i1,hc⟩);refine ag (ajK _ _ _ _ (by omega) (by omega)) ?_;rintro⟨an,nb,ae⟩ ⟨-,fo,h7,e6⟩;dsimp only at fo h7 e6 ⊢;subst fo;have hV:ae=zq (aC E) (L'.getD i.toNat (am .str)) J:=by have:=(e6 ([],[],J,0) rfl).1;rw[qN] at this;exact this
    refine vck ?_ (decide_eq_true (by simp only[Av,AA];omega));rw[ax (i+1) (by omega)];refine ih _ ⟨rfl,rfl,rfl,rfl,rfl,rfl,⟨rfl,rfl,rfl,rfl,rfl,rfl,rfl,rfl,rfl⟩,⟨by first|omega|(dsimp only;omega),by first|omega|(dsimp only;omega)⟩,by simp only[AD,Av,AA];omega,by rw[i4,hV],λu=>?_⟩ (by simp only;omega);rw[hF,BL,i5 j,(e6 ([],[],J,0) rfl).2 u];rfl
   ·have j:J≠0:=by simpa using j
    rw[cx];exact ac (λQ=>absurd (by simpa using Q) j) (λ_=>ac (λ_=>bad (.inl j) j _) (λQ=>absurd (by simpa using Q) j))
  ·have hc:=of_decide_eq_false hc;have ds:i=(L'.length:Int):=by omega
   refine bx (.inr ds) _ λR h8 cx=>?_
   obtain⟨l1,l5,mm⟩:=R;dsimp only at cx ⊢;subst cx;refine ac (λj=>?_) (λj=>?_)
   ·have j:J=0:=by simpa using j
    subst j;refine ac (λY=>?_) (λY=>?_);·refine ag (aV _ _ _) ?_;rintro _ ⟨-,rfl⟩;exact ac (λ_=>et rfl (.inr ds) _ h8 Y _) (λQ=>absurd Q (show ¬((!(aN 0 5==0))=false) by decide))
    ·refine ac (λQ=>absurd Q (by simp)) (λ_=>?_);refine ag (zo _ _ _ h) ?_;rintro r ⟨-,hr⟩;exact fw rfl (.inr ds) _ h8 Y r hr _
   ·have j:J≠0:=by simpa using j
    exact ac (λ_=>bad (.inr ds) j _) (λQ=>absurd (by simpa using Q) j)
 have early:∀(e1:Int),e1≠0->(∀m,OfS ts 0 m->m.2.2.2=deep->∃w:List UInt8×MS,w.2.2.2.1=e1∧cQ (aq deep) m n k f=gb (aq deep) m n k w)->Tot (some (.int .i64 0,[some [.ul .atype ts,.int .i64 e1]]):Ro) (λz=>∃(G:Int)(F:List ab)(D:Int)(rest:List ai),z.1.dimR=.int .i64 G∧z.2=some [.ul .atype F,.int .i64 D]::rest∧aT ts 0 n k f deep (G,F,D)):=by
  intro e1 em hw;refine fin _ _ _ _ λm A p=>?_
  obtain⟨w,w1,w2⟩:=hw m A p;have h4:=gx m w (by rw[w1];exact em);rw[w2];exact⟨⟨h,by rw[h4,w1],λu=>absurd u em⟩,λu=>absurd u em⟩
 have hi:∀m,OfS ts 0 m->eB=0->(iv m n).2 =m:=λm A u=>(show je m (iv m n).2 from bA _ _ _) ((hB m A.1).trans u)
 refine ac (λY=>?_) (λY=>?_)
 ·have O:∀m,cQ (aq deep) m n k f=gb (aq deep) m n k (bJ (ak (iv m n).2 (!((ao n [110,97,109,101,115,112,97,99,101]).1.kind ==4)) 2) (iv m n).1 (ao n [110,97,109,101,115,112,97,99,101]).1.s):=by
   intro m;simp only[cQ];rw[if_pos Y]
  refine ac (λW=>?_) (λW=>?_)
  ·refine ag (aV _ _ _) ?_;rintro _ ⟨-,rfl⟩;refine ac (λ_=>early _ (da (by decide)) λm A p=>⟨_,?_,O m⟩) (λQ=>absurd (by simpa using Q) (da (by decide)));have e5:(ak (iv m n).2 (!((ao n [110,97,109,101,115,112,97,99,101]).1.kind ==4)) 2).2.2.1 =aN eB 2:=by rw[bF,if_pos W,hB m A.1]
   rw[qN,e5,w4 (da (by decide))]
  ·have fr:∀m:MS,ak (iv m n).2 (!((ao n [110,97,109,101,115,112,97,99,101]).1.kind ==4)) 2=(iv m n).2 :=λm=>by rw[W,fW]
   refine ac (λj=>early _ (by simpa using j) λm A p=>⟨_,?_,O m⟩) (λj=>?_);·rw[fr,qN,hB m A.1,w4 (by simpa using j)]
   ·have j:eB=0:=by simpa using j
    refine d3 _ eB j (by omega) λm A p=>?_
    rw[O,fr,hi m A j,gC j];rfl
 ·have O:∀m,cQ (aq deep) m n k f=gb (aq deep) m n k (bJ (iv m n).2 (iv m n).1 f):=by
   intro m;simp only[cQ];rw[if_neg (by rw[Y];decide)]
  refine ac (λj=>early _ (by simpa using j) λm A p=>⟨_,?_,O m⟩) (λj=>?_);·rw[qN,hB m A.1,w4 (by simpa using j)]
  ·have j:eB=0:=by simpa using j
   refine d3 _ eB j (by omega) λm A p=>?_
   rw[O,hi m A j,gC j];rfl
theorem ais{d:Int}{m:MS}{n:aa}{a:List UInt8}(h:m.2.2.1≠0):(aq d m n a).2.2.2.1 =m.2.2.1:=(oX d m n a).stay h
theorem ass{deep:Int}(f:1<=deep∧deep<=20){m:MS}(e:m.2.2.2=deep-1)(b:m.2.2.1=0)(n:aa)(a:List UInt8):
  aq (deep-1) m n a=((if n.kind=4 then dE (bZ m deep) n.s a else if n.kind=5 then cP (aq deep) (bZ m deep) n a else if n.kind=6 then ch (aq deep) (bZ m deep) n a else (0,ak (bZ m deep) true 2)).1,
   bZ (if n.kind=4 then dE (bZ m deep) n.s a else if n.kind=5 then cP (aq deep) (bZ m deep) n a else if n.kind=6 then ch (aq deep) (bZ m deep) n a else (0,ak (bZ m deep) true 2)).2 (deep-1)):=by
 have d:21-(deep-1).toNat=(21-deep.toNat)+1:=by omega
 have c:m.2.2.2+1=deep:=by omega
 unfold aq;rw[d,bh,if_neg (by simpa using b)];dsimp only;rw[c,show decide (20<deep)=false from decide_eq_false (by omega),fW,if_neg (by simpa [bZ] using b),e]
theorem aqx{m:MS}(d:m.2.2.2=20)(b:m.2.2.1=0)(n:aa)(a:List UInt8):(aq 20 m n a).2.2.2.1 =aN 0 3:=by
 have c:(ak (bZ m (m.2.2.2+1)) (decide (20<m.2.2.2+1)) 3).2.2.1 =aN 0 3:=by rw[bF,if_pos (by rw[d];decide)];show aN m.2.2.1 3=_;rw[b]
 show (bh 1 m n a).2.2.2.1 =_;rw[bh,if_neg (by simpa using b)];dsimp only;rw[if_pos (by rw[c];decide)];exact c
theorem ajM(deep:Int)(hd:1<=deep∧deep<=21)(hT:deep<=20->ac8 (deep+1)):ac8 deep:=by
 intro E e n b H h hn hs;apply aaL 1;have bn:n.names.length<=1000000:=by have:=hn.sizes;omega
 unfold tv tu
 have fin:∀(x:Int)(t:List ab)(A:Int)(o:List ai),(∀m,OfS E e m->m.2.2.2=deep-1->AgI (aq (deep-1) m n b) (x,t,A))->Tot (some (.int .i64 x,some [.ul .atype t,.int .i64 A]::o):Ro) (λz=>∃(G:Int)(D:List ab)(C:Int)(rest:List ai),z.1.dimR=.int .i64 G∧z.2=some [.ul .atype D,.int .i64 C]::rest∧di E e n b deep (G,D,C)):=
  λx t A o hx=>aj ⟨_,_,_,_,rfl,rfl,hx⟩
 dsimp only;refine ac (λv=>fin _ _ _ _ λm hm R=>?_) (λv=>?_)
 ·have v:e≠0:=by simpa using v
  have:=ais (d:=deep-1) (n:=n) (a:=b) (m:=m) (by rw[hm.1];exact v);exact⟨⟨h,by rw[this,hm.1],λq=>absurd q v⟩,λq=>absurd q v⟩
 have v:e=0:=by simpa using v
 subst v;refine ac (λhc=>?_) (λhc=>?_)
 ·have hc:=of_decide_eq_true hc;have b1:deep=21:=by omega
  subst b1;refine ag (aV _ _ _) ?_;rintro _ ⟨-,rfl⟩;refine fin _ _ _ _ λm hm R=>?_
  have:=aqx (m:=m) (by rw[R];decide) hm.1 n b;exact⟨⟨h,this.symm,λq=>absurd q (show aN 0 3≠0 by decide)⟩,λq=>absurd q (show aN 0 3≠0 by decide)⟩
 have hc:=of_decide_eq_false hc;have a3:1<=deep∧deep<=20:=by omega
 have hT:=hT (by omega);have H:=H rfl;have ed:IntKind.i64.wrap (deep+1)=deep+1:=ax (deep+1) (by omega);rw[ed];have F:∀(x:Int)(t:List ab)(A:Int)(o:List ai),(∀M,OfS E 0 M->M.2.2.2=deep->AgI (if n.kind=4 then dE M n.s b else if n.kind=5 then cP (aq deep) M n b else if n.kind=6 then ch (aq deep) M n b else (0,ak M true 2)) (x,t,A))->Tot (some (.int .i64 x,some [.ul .atype t,.int .i64 A]::o):Ro) (λz=>∃(G:Int)(D:List ab)(C:Int)(rest:List ai),z.1.dimR=.int .i64 G∧z.2=some [.ul .atype D,.int .i64 C]::rest∧di E 0 n b deep (G,D,C)):=by
  intro x t A o hx;refine fin x t A o λm hm R=>?_
  rw[ass a3 R hm.1];exact hx (bZ m deep) (hm.deep deep) rfl
 refine ac (λS=>?_) (λS=>?_)
 ·have S:n.kind=4:=by simpa using S
  refine ag (alF _ _ _ h (by have:=hn.sizes;omega) (by omega)) ?_;rintro r ⟨-,Q⟩;refine F _ _ _ _ λM p i=>?_
  rw[if_pos S];exact Q rfl M p
 have S:¬n.kind=4:=by simpa using S
 refine ac (λZ=>?_) (λZ=>?_)
 ·have Z:n.kind=5:=by simpa using Z
  rw[bo];refine ag (aqt deep a3 hT _ _ _ H h hn hs) ?_;rintro r ⟨-,Q⟩;refine F _ _ _ _ λM p i=>?_
  rw[if_neg S,if_pos Z];exact Q rfl M p i
 have Z:¬n.kind=5:=by simpa using Z
 refine ac (λk6=>?_) (λk6=>?_)
 rotate_left
 ·have k6:¬n.kind=6:=by simpa using k6
  refine ag (aV _ _ _) ?_;rintro _ ⟨-,rfl⟩;refine F _ _ _ _ λM p i=>?_
  rw[if_neg S,if_neg Z,if_neg k6];exact⟨⟨h,by rw[bF,if_pos rfl,p.1],λq=>absurd q (show aN 0 2≠0 by decide)⟩,λq=>absurd q (show aN 0 2≠0 by decide)⟩
 have k6:n.kind=6:=by simpa using k6
 have w:∀(x:Int)(t:List ab)(A:Int)(o:List ai),(∀M,OfS E 0 M->M.2.2.2=deep->AgI (ch (aq deep) M n b) (x,t,A))->Tot (some (.int .i64 x,some [.ul .atype t,.int .i64 A]::o):Ro) (λz=>∃(G:Int)(D:List ab)(C:Int)(rest:List ai),z.1.dimR=.int .i64 G∧z.2=some [.ul .atype D,.int .i64 C]::rest∧di E 0 n b deep (G,D,C)):=by
  intro x t A o hx;refine F x t A o λM p i=>?_
  rw[if_neg S,if_neg Z,if_pos k6];exact hx M p i
 rw[bo];refine ag (jR n _ bn) ?_;rintro _ ⟨-,rfl⟩;have br:aE (ao n [116,121,112,101]).1 :=dK hn;have gs:=br.sizes.1;refine ac (λY=>?_) (λY=>?_)
 ·have Y:(ao n [116,121,112,101]).2 =false:=by simpa using Y
  refine ag (aV _ _ _) ?_;rintro _ ⟨-,rfl⟩;refine w _ _ _ _ λM p i=>?_
  have e1:(ak M (!(ao n [116,121,112,101]).2) 2).2.2.1 =aN 0 2:=by rw[bF,if_pos (by rw[Y];rfl),p.1]
  have ht:(ch (aq deep) M n b).2.2.2.1 =aN 0 2:=by simp only[ch];rw[if_pos (by rw[ab9 Y];show (0:Int)≠4;decide),<-e1];exact ais (by rw[e1];decide)
  exact⟨⟨h,ht.symm,λq=>absurd q (show aN 0 2≠0 by decide)⟩,λq=>absurd q (show aN 0 2≠0 by decide)⟩
 have Y:(ao n [116,121,112,101]).2 =true:=by simpa using Y
 have bx:∀M:MS,ak M (!(ao n [116,121,112,101]).2) 2=M:=λM=>by rw[Y];exact fW _ _
 refine ac (λkt=>?_) (λkt=>?_)
 ·have kt:(ao n [116,121,112,101]).1.kind ≠4:=by simpa using kt
  rw[bo];refine ag (hT E 0 _ _ (λ_=>H) h br (by omega)) ?_;rintro r ⟨-,Q⟩;refine w _ _ _ _ λM p i=>?_
  have:=Q M p (by omega);rw[show deep+1-1=deep by omega] at this;simp only[ch];rw[if_pos kt,bx];exact this
 have kt:(ao n [116,121,112,101]).1.kind =4:=by simpa using kt
 have tF:∀M,ch (aq deep) M n b=(if (ao n [116,121,112,101]).1.s =[114,101,99,111,114,100] then cQ (aq deep) M n 9 b
 else if (ao n [116,121,112,101]).1.s =[101,110,117,109] then cQ (aq deep) M n 10 b
 else if (ao n [116,121,112,101]).1.s =[102,105,120,101,100] then cQ (aq deep) M n 11 b
 else if (ao n [116,121,112,101]).1.s =[97,114,114,97,121] then de (aq deep) M n 12 [105,116,101,109,115] b
 else if (ao n [116,121,112,101]).1.s =[109,97,112] then de (aq deep) M n 13 [118,97,108,117,101,115] b
 else dE M (ao n [116,121,112,101]).1.s b):=by intro M;simp only[ch];rw[if_neg (by simpa using kt),bx]
 have own:∀(s:List UInt8)(k:Int),oH s=k->9<=k∧k<=11->(ao n [116,121,112,101]).1.s =s->(∀M,ch (aq deep) M n b=cQ (aq deep) M n k b)->
   Tot (af (dM (ao n [116,121,112,101]).1.s) (λ(r7:Int)=>af (dd E 0 n r7 b deep) (λr8=>(some (.int .i64 r8.1,[some [.ul .atype r8.2.1,.int .i64 r8.2.2]]):Ro)))) (λz=>∃(G:Int)(D:List ab)(C:Int)(rest:List ai),z.1.dimR=.int .i64 G∧z.2=some [.ul .atype D,.int .i64 C]::rest∧di E 0 n b deep (G,D,C)):=by
  intro s k hk h9 f hO;refine ag (aaq _) ?_;rintro _ ⟨-,rfl⟩;rw[f,hk];refine ag (aqw deep a3 hT _ _ _ _ H h hn h9 hs) ?_;rintro r ⟨-,Q⟩;refine w _ _ _ _ λM p i=>?_
  rw[hO];exact Q rfl M p i
 have O:∀(k:Int)(u:List UInt8),k=12∨k=13->(∀M,ch (aq deep) M n b=de (aq deep) M n k u b)->∀c:Int×RS,gc E 0 ⟨k,[],[],0,[],false,[],0,[],[]⟩ c->
   Tot (af (aU n u) (λbl=>
       cond (!bl.2) (
        af (ah c.2.1 c.2.2 2) (λa1=>
         (some (.int .i64 a1.1,[some [.ul .atype a1.2.1,.int .i64 a1.2.2]]):Ro))) (
        af (bb c.2.1 c.2.2 (reJ bl.1) b (deep+1)) (λj=>
         cond (j.2.2==0) (
          chk (decide (0<Aa j.2.1)) (
           chk ((decide (0<=c.1)&&decide (c.1<↑(Aa j.2.1)))) (
            chk (decide ((Ae c.1)<Aa j.2.1)) (
             let b0:=(AJ j.2.1 (Ae c.1) (let W:=Ak j.2.1 (Ae c.1) (am .atype);⟨W.kind,W.name,W.aliases,j.1,W.syms,W.hasdef,W.df,W.size,W.fields,W.branches⟩))
             chk (As (Aa j.2.1) (Aa b0)) (
              (some (.int .i64 c.1,[some [.ul .atype b0,.int .i64 j.2.2],none,none]):Ro)))))) (
          (some (.int .i64 c.1,[some [.ul .atype j.2.1,.int .i64 j.2.2]]):Ro)))))) (λz=>∃(G:Int)(D:List ab)(C:Int)(rest:List ai),z.1.dimR=.int .i64 G∧z.2=some [.ul .atype D,.int .i64 C]::rest∧di E 0 n b deep (G,D,C)):=by
  intro k u hk hI c I;have y:∀M,OfS E 0 M->AgI (aR M (bk k)) c:=λM p=>afU p h I
  have ae:∀M,OfS E 0 M->OfS c.2.1 c.2.2 (aR M (bk k)).2 :=λM p=>(y M p).1.of λq=>
   (abo (p.2 rfl).2 (by rw[<-(y M p).1.2.1];exact q) (by show 1<=k∧k<=14;omega) (by show ¬(9<=k∧k<=11);omega) rfl rfl rfl rfl).1
  obtain⟨w0,J⟩:=H;have X:=(y w0 J).1.1;refine ag (jR n _ bn) ?_;rintro _ ⟨-,rfl⟩;refine ac (λB=>?_) (λB=>?_)
  ·have B:(ao n u).2 =false:=by simpa using B
   refine ag (aV _ _ _) ?_;rintro _ ⟨-,rfl⟩;refine w _ _ _ _ λM p i=>?_
   have e1:(ak (aR M (bk k)).2 (!(ao n u).2) 2).2.2.1 =aN c.2.2 2:=by rw[bF,if_pos (by rw[B];rfl),(y M p).1.2.1]
   have A:(aq deep (ak (aR M (bk k)).2 (!(ao n u).2) 2) (ao n u).1 b).2.2.2.1 =aN c.2.2 2:=by rw[<-e1];exact ais (by rw[e1];exact da (by decide))
   have an:aN c.2.2 2≠0:=da (by decide);rw[hI];simp only[de];rw[if_neg (by rw[A];exact an)];exact⟨⟨X,A.symm,λq=>absurd q an⟩,λq=>absurd q an⟩
  have B:(ao n u).2 =true:=by simpa using B
  have hA:∀M:MS,ak (aR M (bk k)).2 (!(ao n u).2) 2=(aR M (bk k)).2 :=λM=>by rw[B];exact fW _ _
  rw[bo];refine ag (hT _ _ _ _ (λq=>⟨_,by have:=ae w0 J;rw[q] at this;exact this⟩) X (dK hn) (by omega)) ?_;rintro j ⟨-,L⟩;have L:∀M,OfS E 0 M->M.2.2.2=deep->AgI (aq deep (aR M (bk k)).2 (ao n u).1 b) j:=by
   intro M p i;have:=L _ (ae M p) (by rw[(mP M (bk k)).dep,i];omega)
   rwa [show deep+1-1=deep by omega] at this
  have g0:=L (bZ w0 deep) (J.deep deep) rfl;refine ac (λv=>?_) (λv=>?_)
  ·have v:j.2.2=0:=by simpa using v
   have b3:(aq deep (aR (bZ w0 deep) (bk k)).2 (ao n u).1 b).2.2.2.1 =0:=by rw[<-g0.1.2.1];exact v
   have P:=yM (m:=bZ w0 deep) (t:=bk k) (oX deep (aR (bZ w0 deep) (bk k)).2 (ao n u).1 b) b3;have N:c.2.2=0:=by rw[(y (bZ w0 deep) (J.deep deep)).1.2.1];exact(oX deep _ _ _).err b3
   rw[<-(y (bZ w0 deep) (J.deep deep)).2 N,<-g0.1.2.2 v] at P;refine vck ?_ (decide_eq_true (by omega));refine vck ?_ (by simp[P.1,P.2]);refine vck ?_ (decide_eq_true (by omega));refine vck ?_ (by simp);refine w _ _ _ _ λM p i=>?_
   have g:=L M p i;rw[hI];simp only[de];rw[hA,if_pos (by rw[<-g.1.2.1];exact v)];refine⟨⟨by simpa using g.1.1,g.1.2.1,λ_=>?_⟩,λ_=>(y M p).2 N⟩;show _=(aq deep (aR M (bk k)).2 (ao n u).1 b).2.2.1.set _ _;rw[<-g.1.2.2 v,<-g.2 v,<-(y M p).2 N];rfl
  ·have v:j.2.2≠0:=by simpa using v
   refine w _ _ _ _ λM p i=>?_
   have g:=L M p i;rw[hI];simp only[de];rw[hA,if_neg (by rw[<-g.1.2.1];exact v)];exact⟨⟨g.1.1,g.1.2.1,λq=>absurd q v⟩,λq=>absurd q v⟩
 refine ac (λf=>?_) (λf=>?_);·have f:=of_decide_eq_true f;exact own _ 9 (by decide) (by decide) f λM=>by rw[tF,if_pos f]
 have n1:=of_decide_eq_false f;refine ac (λf=>?_) (λf=>?_);·have f:=of_decide_eq_true f;exact own _ 10 (by decide) (by decide) f λM=>by rw[tF,if_neg n1,if_pos f]
 have n2:=of_decide_eq_false f;refine ac (λf=>?_) (λf=>?_);·have f:=of_decide_eq_true f;exact own _ 11 (by decide) (by decide) f λM=>by rw[tF,if_neg n1,if_neg n2,if_pos f]
 have n3:=of_decide_eq_false f;refine ac (λf=>?_) (λf=>?_)
 ·have f:=of_decide_eq_true f;refine ag (aaq _) ?_;rintro _ ⟨-,rfl⟩;have al:oH (ao n [116,121,112,101]).1.s =12:=by rw[f];decide
  rw[al];refine ag (zo _ _ _ h) ?_;rintro c ⟨-,I⟩;refine ac (λhq=>absurd (of_decide_eq_true hq) (by rw[f];decide)) (λ_=>?_);exact O 12 _ (.inl rfl) (λM=>by rw[tF,if_neg n1,if_neg n2,if_neg n3,if_pos f]) c I
 have n4:=of_decide_eq_false f;refine ac (λf=>?_) (λf=>?_)
 ·have f:=of_decide_eq_true f;refine ag (aaq _) ?_;rintro _ ⟨-,rfl⟩;have al:oH (ao n [116,121,112,101]).1.s =13:=by rw[f];decide
  rw[al];refine ag (zo _ _ _ h) ?_;rintro c ⟨-,I⟩;refine ac (λ_=>?_) (λhq=>absurd f (of_decide_eq_false hq));exact O 13 _ (.inr rfl) (λM=>by rw[tF,if_neg n1,if_neg n2,if_neg n3,if_neg n4,if_pos f]) c I
 have n5:=of_decide_eq_false f;refine ag (alF _ _ _ h (by omega) (by omega)) ?_;rintro r ⟨-,Q⟩;refine w _ _ _ _ λM p i=>?_
 rw[tF,if_neg n1,if_neg n2,if_neg n3,if_neg n4,if_neg n5];exact Q rfl M p
theorem alJ:∀k:Nat,k<=20->ac8 (21-k)
 |0,_=>ajM 21 (by decide) (λh=>absurd h (by decide))
 |k+1,h=>ajM _ (by omega) λ_=>by rw[show (21:Int)-((k+1:Nat):Int)+1=21-(k:Int) by omega];exact alJ k (by omega)
theorem arB:OfS [] 0 m0:=⟨rfl,λ_=>⟨rfl,ai2⟩⟩
theorem arC(n:aa)(c:aE n):∃r,nN n r:=by
 apply ah9 1;unfold aae aad;dsimp only;rw[bo];have e:ac8 1:=by
  have:=alJ 20 (by decide)
  rwa [show (21:Int)-((20:Nat):Int)=1 by decide] at this
 refine ag (e [] 0 n [] (λ_=>⟨m0,arB⟩) (by simp) c (by simp)) ?_;rintro r ⟨-,d⟩;have g:=d m0 arB (by decide);have b:fT n=(if (aq (1-1) m0 n []).2.2.2.1 =0 then ((aq (1-1) m0 n []).2.2.1,0) else ([],(aq (1-1) m0 n []).2.2.2.1)):=rfl;refine ac (λa=>aj ⟨[],r.2.2,_,rfl,rfl,?_⟩) (λa=>aj ⟨r.2.1,0,_,rfl,rfl,?_⟩)
 ·have a:r.2.2≠0:=by simpa using a
  show _=fT n;rw[b,if_neg (by rw[<-g.1.2.1];exact a),g.1.2.1]
 ·have a:r.2.2=0:=by simpa using a
  show _=fT n;rw[b,if_pos (by rw[<-g.1.2.1];exact a),g.1.2.2 a]
noncomputable def fy:av:=tab (P:=Tryz.prog) [] [] [] [ahr]
def pZ:IR:=Sq (Rs [Mv 53 5,Fa 54 3 2,Lq 55 54,Ll 56 55,Bi 57 .lss 53 56] (Cn 57 .skip (.exit 1))) (Sq (.block 2 (Sq (.reg [Fa 60 3 2,Lq 61 60,Mv 62 5,Ix 63 .jnode 61 62,Ld 64 5 true 63,Fa 65 3 3,Lq 66 65,Mv 67 5,Ix 68 .jnode 66 67,Ld 69 5 true 68,Ca 70 18 [64,69],Un 71 70] [[],[0],[],[0,1,2],rg 0 3,[],[5],[],[5,6,7],rg 5 8,rg 0 9,rg 0 10]) (Cn 71 (Rs [Mb 4 false] .ret) .skip))) (Rg [Mv 58 5,Bc 59 .add 58 1,Mv 5 59]))
def aau:IR:=Sq (Rs [Fa 72 0 2,Lq 73 72,Bc 74 .eql 73 6,Mv 75 74,Gt 75 (.mov 76 6),Gt 75 (.fad 77 4 2),Gt 75 (.lde 78 1 false 77),Gt 75 (.lenl 79 78),Gt 75 (.bin 80 .lss 76 79),Pa 81 75 80] (Cn 81 .skip (.exit 3))) (Sq (.block 4 (Sq (.reg [Fa 84 4 2,Lq 85 84,Mv 86 6,Ix 87 .str 85 86,Lq 88 87,Fa 89 4 3,Lq 90 89,Mv 91 6,Ix 92 .str 90 91,Lq 93 92,Bi 94 .neq 88 93] [[],[0],[],[0,1,2],rg 0 3,[],[5],[],[5,6,7],rg 5 8,rg 0 9]) (Cn 94 (Rs [Mb 4 false] .ret) .skip))) (Rg [Mv 82 6,Bc 83 .add 82 1,Mv 6 83]))
def uP:IR:=Rs [Mi 6 0] (.block 3 (.loop [2,3,6,1000001] 0 aau))
def mJ:IR:=Rs [Mb 4 true] .ret
def anO:IR:=Rs [Bx 2 0,Bx 3 1,Mb 4 false] (Sq (Rs [Fa 7 0 2,Lq 8 7,Fa 9 0 3,Lq 10 9,Bi 11 .neq 8 10] (Cn 11 (Rs [Mb 4 false] .ret) .skip)) (Sq (Rs [Fa 12 0 2,Lq 13 12] (.block 0 (Sq (Rs [Bc 15 .eql 13 2,Mv 14 15] (Cn 14 .skip (Rg [Bc 16 .eql 13 3,Mv 14 16]))) (Cn 14 (Rs [Fa 17 1 2,Lq 18 17,Fa 19 1 3,Lq 20 19,Bi 21 .eql 18 20,Mv 4 21] .ret) (Rs [Bc 23 .eql 13 4,Mv 22 23] (Cn 22 (Rs [Fa 24 2 2,Lq 25 24,Fa 26 2 3,Lq 27 26,Bi 28 .eql 25 27,Mv 4 28] .ret) (Sq (Rs [Bc 30 .eql 13 5,Mv 29 30] (Cn 29 .skip (Rg [Bc 31 .eql 13 6,Mv 29 31]))) (Cn 29 (Sq (Rs [Fa 32 3 2,Lq 33 32,Ll 34 33,Fa 35 3 3,Lq 36 35,Ll 37 36,Bi 38 .neq 34 37,Mv 39 38,Gf 39 (.fad 40 0 2),Gf 39 (.lde 41 1 false 40),Gf 39 (.bin 42 .eql 41 (kI 6)),Gf 39 (.mov 43 42),Gt 43 (.fad 44 4 2),Gt 43 (.lde 45 1 false 44),Gt 43 (.lenl 46 45),Gt 43 (.fad 47 4 3),Gt 43 (.lde 48 1 false 47),Gt 43 (.lenl 49 48),Gt 43 (.bin 50 .neq 46 49),Gf 39 (.pick 51 43 50 (kB false)),Po 52 39 51] (Cn 52 (Rs [Mb 4 false] .ret) .skip)) (Sq (Rs [Mi 5 0] (.block 1 (.loop [2,3,5,1000000] 0 pZ))) uP)) .skip)))))))) mJ))
def qO:List RV:=[.t 4]
theorem anP:FnC Tryz.prog fy [] 0 ahq Tryz.f18 anO qO:=fnC Tryz.func18
def xA(R:IR->(Ex->St->Ro)->St->Ro)(a:St->Ro):Ex->St->Ro:=(ce a [2,3,5,1000000] 0 (aG 1 (bR (R uP) (aG 0 (bR (R mJ) (fin qO))))))
abbrev kX:Type:=(aa×aa×Int)
def fG(x:kX):St:={env:=(.undef::.undef::.ea (enc .jnode x.1)::.ea (enc .jnode x.2.1)::.undef::.int .i64 x.2.2::(U 89 [])),hp:=[]}
def amg(R:IR->(Ex->St->Ro)->St->Ro)(a:St->Ro):Ex->St->Ro:=(ce a [2,3,6,1000001] 0 (aG 3 (aG 0 (bR (R mJ) (fin qO)))))
abbrev sG:Type:=(aa×aa×Int)
def nZ(x:sG):St:={env:=(.undef::.undef::.ea (enc .jnode x.1)::.ea (enc .jnode x.2.1)::.undef::.undef::.int .i64 x.2.2::(U 88 [])),hp:=[]}
def sH(N:Nat):(St->Ro)->St->Ro:=λa s=>run fy N aau (amg (run fy N) a) s
def ms(N:Nat)(a:sG->Ro)(x:sG):Ro:=
 let c:aa:=x.1;let f:aa:=x.2.1;let b:Int:=x.2.2
 cond (c.kind==6) (
  let h:=(↑(Aa c.names):Int)
  cond (decide (b<h)) (
   chk (ixl b c.names) (
    let g:=Ak c.names (Ae b) (am .str)
    chk (ixl b f.names) (
     let d:=Ak f.names (Ae b) (am .str)
     cond (!decide (g=d)) (
      some (.bool false,[])) (
      let e:=(Aj .i64 (b+1))
      a (c,f,e))))) (
   some (.bool true,[]))) (
  some (.bool true,[]))
theorem akW(N:Nat):LB (sH N) nZ (ms N):=λ_ _=>by kernel_rfl
def sI(N:Nat):(St->Ro)->St->Ro:=λa s=>run fy N pZ (xA (run fy N) a) s
def rl(N:Nat)(a:kX->Ro)(e:sG->Ro)(x:kX):Ro:=
 let c:aa:=x.1;let d:aa:=x.2.1;let b:Int:=x.2.2;let g:=(↑(Aa c.l):Int)
 cond (decide (b<g)) (
  chk (ixl b c.l) (
   let h:=(Ak c.l (Ae b) (am .jnode))
   chk (ixl b d.l) (
    let f:=(Ak d.l (Ae b) (am .jnode))
    af (px (reJ h) (reJ f)) (λ(j:Bool)=>
     cond (!j) (
      some (.bool false,[])) (
      let i:=(Aj .i64 (b+1))
      a (c,d,i)))))) (
  e (c,d,0))
def pm(N:Nat)(a:kX->Ro)(x:kX):Ro:=rl N a (λz=>aO N (ms N) z) x
def sJ(N:Nat)(a:St->Ro):List (Nat×(St->Ro)):=(d5 fy N pZ (xA (run fy N) a)++(d5 fy N uP (aG 0 (bR (run fy N mJ) (fin qO)))++(d5 fy N mJ (fin qO)++[])))
theorem akX(N:Nat):∀(a:St->Ro)(x:kX),sI N a (fG x)=pm N (λy=>a (fG y)) x:=by
 intro a x;have b:∀C:Nat->St->Ro,dn C fy N pZ (xA (dn C fy N) a) (fG x)=rl N (λy=>a (fG y)) (λz=>C 1000001 (nZ z)) x:=by intro C;kernel_rfl
 have h:sI N a (fG x)=rl N (λy=>a (fG y)) (λz=>bg N (sH N) (nZ z)) x:=(kP (C:=mz (sJ N a)) (eY (bV (l:=(sJ N a)) (by kernel_rfl))) (qn (iU (np (eY (iu (bV (l:=(sJ N a)) (by kernel_rfl)))) (iU (np (eY (iu (iu (bV (l:=(sJ N a)) (by kernel_rfl))))) rfl))))) _).trans ((b _).trans (by kernel_rfl));have c:(λz=>bg N (sH N) (nZ z))=(λz=>aO N (ms N) z):=funext λz=>bz (nZ) (sH N) (ms N) (akW N) N z
 rw[h,c];rfl
def qP(N:Nat)(a b:aa)(c:kX->Ro):Ro:=
 cond (!(a.kind==b.kind)) (
  some (.bool false,[])) (
  cond (a.kind==2) (
   some (.bool (a.n==b.n),[])) (
   cond (a.kind==3) (
    some (.bool (a.n==b.n),[])) (
    cond (a.kind==4) (
     some (.bool (decide (a.s=b.s)),[])) (
     cond (a.kind==5) (
      let h:=(↑(Aa a.l):Int)
      let i:=(↑(Aa b.l):Int)
      cond (!(h==i)) (
       some (.bool false,[])) (
       cond (a.kind==6) (
        let k:=(↑(Aa a.names):Int)
        let j:=(↑(Aa b.names):Int)
        cond (!(k==j)) (
         some (.bool false,[])) (
         c (a,b,0))) (
        c (a,b,0)))) (
      cond (a.kind==6) (
       let e:=(↑(Aa a.l):Int)
       let d:=(↑(Aa b.l):Int)
       cond (!(e==d)) (
        some (.bool false,[])) (
        cond (a.kind==6) (
         let f:=(↑(Aa a.names):Int)
         let g:=(↑(Aa b.names):Int)
         cond (!(f==g)) (
          some (.bool false,[])) (
          c (a,b,0))) (
         c (a,b,0)))) (
       some (.bool true,[])))))))
def afX(N:Nat)(a b:aa):Ro:=qP N a b (λz=>aO N (pm N) z)
theorem amh(N:Nat)(a c:aa)(h:Tot (afX N a c) (λz=>∃(d:Bool)(rest:List ai),z.1.dimR=.bool d∧z.2=rest∧nF a c (d))):∃r,px a c r:=anP.finP (N:=N) ((cV _ (by kernel_rfl) rfl (λC=>qP N a c (λz=>C 1000000 (fG z))) (λC=>by kernel_rfl)).trans (A3 (b:=qP N a c (λz=>bg N (sI N) (fG z))) (by kernel_rfl) (congrArg (qP N a c) (funext λz=>bz (fG) (sI N) (pm N) (akX N) N z)))) h λ_ ⟨d,_,e,_,q⟩=>⟨(d),e,q⟩
noncomputable def s8:av:=tab (P:=Tryz.prog) [] [] [] []
def vA:IR:=Sq (Rs [Mv 11 5,Mv 12 0,Ll 13 12,Bi 14 .lss 11 13] (Cn 14 .skip (.exit 0))) (Sq (.block 1 (Sq (.reg [Mv 17 0,Mv 18 5,Ix 19 .str 17 18,Lq 20 19,Mv 21 1,Mv 22 5,Ix 23 .str 21 22,Lq 24 23,Bi 25 .neq 20 24] [[],[],[0,1],[0,1,2],[],[],[4,5],[4,5,6],rg 0 7]) (Cn 25 (Rs [Mb 4 false] .ret) .skip))) (Rg [Mv 15 5,Bc 16 .add 15 1,Mv 5 16]))
def uQ:IR:=Rs [Mb 4 true] .ret
def agU:IR:=Rs [Mb 4 false] (Sq (Rs [Mv 6 0,Ll 7 6,Mv 8 1,Ll 9 8,Bi 10 .neq 7 9] (Cn 10 (Rs [Mb 4 false] .ret) .skip)) (Sq (Rs [Mi 5 0] (.block 0 (.loop [0,1,5,1000000] 0 vA))) uQ))
def xV:List RV:=[.t 4]
theorem agV:FnC Tryz.prog s8 [] 0 yW Tryz.f17 agU xV:=fnC Tryz.func17
def afY(R:IR->(Ex->St->Ro)->St->Ro)(a:St->Ro):Ex->St->Ro:=(ce a [0,1,5,1000000] 0 (aG 0 (bR (R uQ) (fin xV))))
abbrev mK:Type:=(Bss×Bss×Int)
def lX(x:mK):St:={env:=(.sl .str (.may false) x.1::.sl .str (.may false) x.2.1::(U 3 (.int .i64 x.2.2::(U 20 [])))),hp:=[]}
def qQ(N:Nat):(St->Ro)->St->Ro:=λa s=>run s8 N vA (afY (run s8 N) a) s
def mL(N:Nat)(a:mK->Ro)(x:mK):Ro:=
 let c:Bss:=x.1;let d:Bss:=x.2.1;let b:Int:=x.2.2;let h:=(↑(Aa c):Int)
 cond (decide (b<h)) (
  chk (ixl b c) (
   let e:=Ak c (Ae b) (am .str)
   chk (ixl b d) (
    let f:=Ak d (Ae b) (am .str)
    cond (!decide (e=f)) (
     some (.bool false,[])) (
     let g:=(Aj .i64 (b+1))
     a (c,d,g))))) (
  some (.bool true,[]))
theorem aee(N:Nat):LB (qQ N) lX (mL N):=λ_ _=>by kernel_rfl
def lb(N:Nat)(a b:Bss)(e:mK->Ro):Ro:=
 let c:=(↑(Aa a):Int)
 let d:=(↑(Aa b):Int)
 cond (!(c==d)) (
  some (.bool false,[])) (
  e (a,b,0))
def xW(N:Nat)(a b:Bss):Ro:=lb N a b (λz=>aO N (mL N) z)
theorem afZ(N:Nat)(a c:Bss)(h:Tot (xW N a c) (λz=>∃(d:Bool)(rest:List ai),z.1.dimR=.bool d∧z.2=rest∧vo a c (d))):∃r,gE a c r:=agV.finP (N:=N) ((cV _ (by kernel_rfl) rfl (λC=>lb N a c (λz=>C 1000000 (lX z))) (λC=>by kernel_rfl)).trans (A3 (b:=lb N a c (λz=>bg N (qQ N) (lX z))) (by kernel_rfl) (congrArg (lb N a c) (funext λz=>bz (lX) (qQ N) (mL N) (aee N) N z)))) h λ_ ⟨d,_,e,_,q⟩=>⟨(d),e,q⟩
noncomputable def aL:av:=tab (P:=Tryz.prog) [] [] [] [ah6,ahr]
def j5:IR:=Sq (Rs [Mv 110 8,Fa 111 9 6,Lq 112 111,Ll 113 112,Bi 114 .lss 110 113] (Cn 114 .skip (.exit 2))) (Sq (.block 3 (Sq (.reg [Fa 117 9 6,Lq 118 117,Mv 119 8,Ix 120 (.num .i64) 118 119,Lq 121 120,Fa 122 9 7,Lq 123 122,Mv 124 8,Ix 125 (.num .i64) 123 124,Lq 126 125,Bi 127 .neq 121 126] [[],[0],[],[0,1,2],rg 0 3,[],[5],[],[5,6,7],rg 5 8,rg 0 9]) (Cn 127 (Rs [Mb 4 false] .ret) .skip))) (Rg [Mv 115 8,Bc 116 .add 115 1,Mv 8 116]))
def sh:IR:=Sq (Rs [Mv 128 9,Fa 129 8 6,Lq 130 129,Ll 131 130,Bi 132 .lss 128 131] (Cn 132 .skip (.exit 4))) (Sq (.block 5 (Sq (.reg [Fa 135 8 6,Lq 136 135,Mv 137 9,Ix 138 .afield 136 137,Ld 139 9 true 138,Fa 140 8 7,Lq 141 140,Mv 142 9,Ix 143 .afield 141 142,Ld 144 9 true 143,Pp (.alr 10 9),Pp (.alr 11 9),Fz 10 9 139,Fz 11 9 144] [[],[0],[],[0,1,2],rg 0 3,[],[5],[],[5,6,7],rg 5 8,[],[],rg 0 4++[10,11],rg 0 12]) (Rs [Fa 145 0 10,Lq 146 145,Fa 147 0 11,Lq 148 147,Bi 149 .neq 146 148,Mv 150 149,Gf 150 (.fad 151 1 10),Gf 150 (.lde 152 1 false 151),Gf 150 (.fad 153 1 11),Gf 150 (.lde 154 1 false 153),Gf 150 (.call 155 17 [152,154]),Gf 150 (.un 156 .not 155),Po 157 150 156,Mv 158 157,Gf 158 (.fad 159 2 10),Gf 158 (.lde 160 1 false 159),Gf 158 (.fad 161 2 11),Gf 158 (.lde 162 1 false 161),Gf 158 (.bin 163 .neq 160 162),Po 164 158 163,Mv 165 164,Gf 165 (.fad 166 3 10),Gf 165 (.lde 167 1 false 166),Gf 165 (.fad 168 3 11),Gf 165 (.lde 169 1 false 168),Gf 165 (.beq 170 true 167 169),Po 171 165 170,Mv 172 171,Gf 172 (.fad 173 4 10),Gf 172 (.lde 174 5 true 173),Gf 172 (.fad 175 4 11),Gf 172 (.lde 176 5 true 175),Gf 172 (.call 177 18 [174,176]),Gf 172 (.un 178 .not 177),Po 179 172 178] (Cn 179 (Rs [Mb 4 false] .ret) .skip)))) (Rg [Mv 133 9,Bc 134 .add 133 1,Mv 9 134]))
def mV:IR:=Rs [Mi 9 0] (.block 4 (.loop [2,3,5,6,7,9,1000001] 0 sh))
def gn:IR:=Rg [Mv 24 5,Bc 25 .add 24 1,Mv 5 25]
def j6:IR:=Sq (Rs [Mv 19 5,Fa 20 0 2,Lq 21 20,Ll 22 21,Bi 23 .lss 19 22] (Cn 23 .skip (.exit 0))) (Sq (.block 1 (Sq (.reg [Fa 26 0 2,Lq 27 26,Mv 28 5,Ix 29 .atype 27 28,Ld 30 10 true 29,Fa 31 0 3,Lq 32 31,Mv 33 5,Ix 34 .atype 32 33,Ld 35 10 true 34,Pp (.alr 6 10),Pp (.alr 7 10),Fz 6 10 30,Fz 7 10 35] [[],[0],[],[0,1,2],rg 0 3,[],[5],[],[5,6,7],rg 5 8,[],[],rg 0 4++[10,11],rg 0 12]) (Sq (Rs [Fa 36 0 6,Lq 37 36,Fa 38 0 7,Lq 39 38,Bi 40 .neq 37 39,Mv 41 40,Gf 41 (.fad 42 1 6),Gf 41 (.lde 43 1 false 42),Gf 41 (.fad 44 1 7),Gf 41 (.lde 45 1 false 44),Gf 41 (.bin 46 .neq 43 45),Po 47 41 46,Mv 48 47,Gf 48 (.fad 49 2 6),Gf 48 (.lde 50 1 false 49),Gf 48 (.fad 51 2 7),Gf 48 (.lde 52 1 false 51),Gf 48 (.call 53 17 [50,52]),Gf 48 (.un 54 .not 53),Po 55 48 54,Mv 56 55,Gf 56 (.fad 57 3 6),Gf 56 (.lde 58 1 false 57),Gf 56 (.fad 59 3 7),Gf 56 (.lde 60 1 false 59),Gf 56 (.bin 61 .neq 58 60),Po 62 56 61,Mv 63 62,Gf 63 (.fad 64 4 6),Gf 63 (.lde 65 1 false 64),Gf 63 (.fad 66 4 7),Gf 63 (.lde 67 1 false 66),Gf 63 (.call 68 17 [65,67]),Gf 63 (.un 69 .not 68),Po 70 63 69,Mv 71 70,Gf 71 (.fad 72 5 6),Gf 71 (.lde 73 1 false 72),Gf 71 (.fad 74 5 7),Gf 71 (.lde 75 1 false 74),Gf 71 (.beq 76 true 73 75),Po 77 71 76,Mv 78 77,Gf 78 (.fad 79 6 6),Gf 78 (.lde 80 1 false 79),Gf 78 (.fad 81 6 7),Gf 78 (.lde 82 1 false 81),Gf 78 (.bin 83 .neq 80 82),Po 84 78 83,Mv 85 84,Gf 85 (.fad 86 7 6),Gf 85 (.lde 87 1 false 86),Gf 85 (.fad 88 7 7),Gf 85 (.lde 89 1 false 88),Gf 85 (.bin 90 .neq 87 89),Po 91 85 90,Mv 92 91,Gf 92 (.fad 93 8 6),Gf 92 (.lde 94 1 false 93),Gf 92 (.lenl 95 94),Gf 92 (.fad 96 8 7),Gf 92 (.lde 97 1 false 96),Gf 92 (.lenl 98 97),Gf 92 (.bin 99 .neq 95 98),Po 100 92 99,Mv 101 100,Gf 101 (.fad 102 9 6),Gf 101 (.lde 103 1 false 102),Gf 101 (.lenl 104 103),Gf 101 (.fad 105 9 7),Gf 101 (.lde 106 1 false 105),Gf 101 (.lenl 107 106),Gf 101 (.bin 108 .neq 104 107),Po 109 101 108] (Cn 109 (Rs [Mb 4 false] .ret) .skip)) (Sq (Rs [Mi 8 0] (.block 2 (.loop [2,3,5,6,7,8,1000000] 0 j5))) mV)))) gn)
def j7:IR:=Rs [Mb 4 true] .ret
def aef:IR:=Rs [Bx 2 0,Bx 3 1,Mb 4 false] (Sq (Rs [Fa 12 0 2,Lq 13 12,Ll 14 13,Fa 15 0 3,Lq 16 15,Ll 17 16,Bi 18 .neq 14 17] (Cn 18 (Rs [Mb 4 false] .ret) .skip)) (Sq (Rs [Mi 5 0] (.block 0 (.loop [2,3,5,1000002] 0 j6))) j7))
def lY:List RV:=[.t 4]
theorem aeg:FnC Tryz.prog aL [] 0 wV Tryz.f10 aef lY:=fnC Tryz.func10
def ee(R:IR->(Ex->St->Ro)->St->Ro)(a:St->Ro):Ex->St->Ro:=(ce a [2,3,5,1000002] 0 (aG 0 (bR (R j7) (fin lY))))
abbrev cw:Type:=(List ab×List ab×Int)
def aQ(x:cw):St:={env:=(.undef::.undef::.ea [.sl .atype (.may false) x.1]::.ea [.sl .atype (.may false) x.2.1]::.undef::.int .i64 x.2.2::(U 174 [])),hp:=[]}
def oZ(R:IR->(Ex->St->Ro)->St->Ro)(b a:St->Ro):Ex->St->Ro:=(ce a [2,3,5,6,7,8,1000000] 0 (aG 2 (bR (R mV) (aG 1 (bR (R gn) (ee R b))))))
abbrev ef:Type:=(List ab×List ab×Int×ab×ab×Int)
def cl(x:ef):St:={env:=(.undef::.undef::.ea [.sl .atype (.may false) x.1]::.ea [.sl .atype (.may false) x.2.1]::.undef::.int .i64 x.2.2.1::.ea (enc .atype x.2.2.2.1)::.ea (enc .atype x.2.2.2.2.1)::.int .i64 x.2.2.2.2.2::(U 171 [])),hp:=[]}
def ac9(R:IR->(Ex->St->Ro)->St->Ro)(b a:St->Ro):Ex->St->Ro:=(ce a [2,3,5,6,7,9,1000001] 0 (aG 4 (aG 1 (bR (R gn) (ee R b)))))
abbrev ll:Type:=(List ab×List ab×Int×ab×ab×Int)
def gR(x:ll):St:={env:=(.undef::.undef::.ea [.sl .atype (.may false) x.1]::.ea [.sl .atype (.may false) x.2.1]::.undef::.int .i64 x.2.2.1::.ea (enc .atype x.2.2.2.1)::.ea (enc .atype x.2.2.2.2.1)::.undef::.int .i64 x.2.2.2.2.2::(U 170 [])),hp:=[]}
def lm(N:Nat)(a:St->Ro):(St->Ro)->St->Ro:=λb s=>run aL N sh (ac9 (run aL N) a b) s
def iL(N:Nat)(c:cw->Ro)(d:ll->Ro)(x:ll):Ro:=
 let f:List ab:=x.1;let e:List ab:=x.2.1;let q:Int:=x.2.2.1;let h:ab:=x.2.2.2.1;let o:ab:=x.2.2.2.2.1;let g:Int:=x.2.2.2.2.2;let m:=(↑(Aa h.fields):Int)
 cond (decide (g<m)) (
  chk (ixl g h.fields) (
   let b:=(Ak h.fields (Ae g) (am .afield))
   chk (ixl g o.fields) (
    let a:=(Ak o.fields (Ae g) (am .afield))
    let j:=(!decide (b.name=a.name))
    cond j (
     some (.bool false,[])) (
     af (gE b.aliases a.aliases) (λ(r:Bool)=>
      cond (!r) (
       some (.bool false,[])) (
       cond (!(b.typ==a.typ)) (
        some (.bool false,[])) (
        let i:=(!(b.hasdef==a.hasdef))
        cond i (
         some (.bool false,[])) (
         af (px (reJ b.df) (reJ a.df)) (λ(t:Bool)=>
          cond (!t) (
           some (.bool false,[])) (
           let p:=(Aj .i64 (g+1))
           d (f,e,q,h,o,p))))))))))) (
  let k:=(Aj .i64 (q+1))
  c (f,e,k))
theorem aca(N:Nat)(a:St->Ro):LB (lm N a) gR (iL N (λy=>a (aQ y))):=λ_ _=>by kernel_rfl
def iM(N:Nat)(b:St->Ro):(St->Ro)->St->Ro:=λa s=>run aL N j5 (oZ (run aL N) b a) s
def kF(N:Nat)(g:cw->Ro)(a:ef->Ro)(o:ll->Ro)(x:ef):Ro:=
 let c:List ab:=x.1;let b:List ab:=x.2.1;let m:Int:=x.2.2.1;let e:ab:=x.2.2.2.1;let f:ab:=x.2.2.2.2.1;let d:Int:=x.2.2.2.2.2;let h:=(↑(Aa e.branches):Int)
 cond (decide (d<h)) (
  chk (ixl d e.branches) (
   let i:=Ak e.branches (Ae d) (am (.num .i64))
   chk (ixl d f.branches) (
    let j:=Ak f.branches (Ae d) (am (.num .i64))
    cond (!(i==j)) (
     some (.bool false,[])) (
     let k:=(Aj .i64 (d+1))
     a (c,b,m,e,f,k))))) (
  o (c,b,m,e,f,0))
def iN(N:Nat)(a:cw->Ro)(b:ef->Ro)(x:ef):Ro:=kF N a b (λz=>aO N (iL N a) z) x
def iO(N:Nat)(a b:St->Ro):List (Nat×(St->Ro)):=(d5 aL N j5 (oZ (run aL N) a b)++(d5 aL N mV (aG 1 (bR (run aL N gn) (ee (run aL N) a)))++(d5 aL N gn (ee (run aL N) a)++(d5 aL N j7 (fin lY)++[]))))
theorem acb(N:Nat)(a:St->Ro):∀(b:St->Ro)(x:ef),iM N a b (cl x)=iN N (λy=>a (aQ y)) (λy=>b (cl y)) x:=by
 intro b x;have c:∀C:Nat->St->Ro,dn C aL N j5 (oZ (dn C aL N) a b) (cl x)=kF N (λy=>a (aQ y)) (λy=>b (cl y)) (λz=>C 1000001 (gR z)) x:=by intro C;kernel_rfl
 have h:iM N a b (cl x)=kF N (λy=>a (aQ y)) (λy=>b (cl y)) (λz=>bg N (lm N a) (gR z)) x:=(kP (C:=mz (iO N a b)) (eY (bV (l:=(iO N a b)) (by kernel_rfl))) (qn (iU (np (eY (iu (bV (l:=(iO N a b)) (by kernel_rfl)))) (iU (np (eY (iu (iu (bV (l:=(iO N a b)) (by kernel_rfl))))) (qn (iU (np (eY (iu (iu (iu (bV (l:=(iO N a b)) (by kernel_rfl)))))) rfl)))))))) _).trans ((c _).trans (by kernel_rfl));have d:(λz=>bg N (lm N a) (gR z))=(λz=>aO N (iL N (λy=>a (aQ y))) z):=funext λz=>bz (gR) (lm N a) (iL N (λy=>a (aQ y))) (aca N a) N z
 rw[h,d];rfl
def ln(N:Nat):(St->Ro)->St->Ro:=λa s=>run aL N j6 (ee (run aL N) a) s
def kG(N:Nat)(f:cw->Ro)(k:ef->Ro)(x:cw):Ro:=
 let a:List ab:=x.1;let d:List ab:=x.2.1;let e:Int:=x.2.2;let p:=(↑(Aa a):Int)
 cond (decide (e<p)) (
  chk (ixl e a) (
   let b:=(Ak a (Ae e) (am .atype))
   chk (ixl e d) (
    let c:=(Ak d (Ae e) (am .atype))
    cond (!(b.kind==c.kind)) (
     some (.bool false,[])) (
     let q:=(!decide (b.name=c.name))
     cond q (
      some (.bool false,[])) (
      af (gE b.aliases c.aliases) (λ(u:Bool)=>
       cond (!u) (
        some (.bool false,[])) (
        let m:=(!(b.items==c.items))
        cond m (
         some (.bool false,[])) (
         af (gE b.syms c.syms) (λ(o:Bool)=>
          cond (!o) (
           some (.bool false,[])) (
           let t:=(!(b.hasdef==c.hasdef))
           cond t (
            some (.bool false,[])) (
            let r:=(!decide (b.df=c.df))
            cond r (
             some (.bool false,[])) (
             cond (!(b.size==c.size)) (
              some (.bool false,[])) (
              let j:=(↑(Aa b.fields):Int)
              let h:=(↑(Aa c.fields):Int)
              cond (!(j==h)) (
               some (.bool false,[])) (
               let i:=(↑(Aa b.branches):Int)
               let g:=(↑(Aa c.branches):Int)
               cond (!(i==g)) (
                some (.bool false,[])) (
                k (a,d,e,b,c,0)))))))))))))))) (
  some (.bool true,[]))
def lp(N:Nat)(a:cw->Ro)(x:cw):Ro:=kG N a (λz=>aO N (iN N a) z) x
def o5(N:Nat)(a:St->Ro):List (Nat×(St->Ro)):=(d5 aL N j6 (ee (run aL N) a)++(d5 aL N j7 (fin lY)++[]))
theorem acc(N:Nat):∀(a:St->Ro)(x:cw),ln N a (aQ x)=lp N (λy=>a (aQ y)) x:=by
 intro a x;have b:∀C:Nat->St->Ro,dn C aL N j6 (ee (dn C aL N) a) (aQ x)=kG N (λy=>a (aQ y)) (λz=>C 1000000 (cl z)) x:=by intro C;kernel_rfl
 have h:ln N a (aQ x)=kG N (λy=>a (aQ y)) (λz=>bg N (iM N a) (cl z)) x:=(kP (C:=mz (o5 N a)) (eY (bV (l:=(o5 N a)) (by kernel_rfl))) (qn (iU (np (eY (iu (bV (l:=(o5 N a)) (by kernel_rfl)))) rfl))) _).trans ((b _).trans (by kernel_rfl));have c:(λz=>bg N (iM N a) (cl z))=(λz=>aO N (iN N (λy=>a (aQ y))) z):=funext λz=>bz (cl) (iM N a) (iN N (λy=>a (aQ y))) (acb N a) N z
 rw[h,c];rfl
def jD(N:Nat)(b a:List ab)(e:cw->Ro):Ro:=
 let c:=(↑(Aa b):Int)
 let d:=(↑(Aa a):Int)
 cond (!(c==d)) (
  some (.bool false,[])) (
  e (b,a,0))
def vC(N:Nat)(a b:List ab):Ro:=jD N a b (λz=>aO N (lp N) z)
theorem ada(N:Nat)(a c:List ab)(h:Tot (vC N a c) (λz=>∃(d:Bool)(rest:List ai),z.1.dimR=.bool d∧z.2=rest∧ti a c (d))):∃r,kn a c r:=aeg.finP (N:=N) ((cV _ (by kernel_rfl) rfl (λC=>jD N a c (λz=>C 1000002 (aQ z))) (λC=>by kernel_rfl)).trans (A3 (b:=jD N a c (λz=>bg N (ln N) (aQ z))) (by kernel_rfl) (congrArg (jD N a c) (funext λz=>bz (aQ) (ln N) (lp N) (acc N) N z)))) h λ_ ⟨d,_,e,_,q⟩=>⟨(d),e,q⟩
theorem xB(l:List (List UInt8)):∃r,gE l l r:=by
 by_cases e:l.length<=dl;·have e:l.length<=9223372036854775807:=e;apply afZ (l.length+1);unfold xW lb;refine ac (λc=>absurd c (by simp)) (λ_=>?_);refine a8 (λx=>match x with|(a,b,i)=>a=l∧b=l∧(0<=i∧i<=(l.length:Int))) (λx=>((l.length:Int)-x.2.2).toNat) ?_ _ _ ⟨rfl,rfl,⟨by simp,by simp⟩⟩ (by simp);rintro d ⟨a,b,i⟩ ⟨rfl,rfl,⟨f,k⟩⟩ g;dsimp only at g;unfold mL;dsimp only;refine ac (λc=>?_) (λc=>aj ⟨_,_,rfl,rfl,λ_=>rfl⟩);have c:=of_decide_eq_true c;refine vck ?_ (ixt ⟨f,c⟩);refine vck ?_ (ixt ⟨f,c⟩);refine ac (λh=>absurd h (by simp)) (λ_=>?_);rw[ax (i+1) (by omega)];exact g _ ⟨rfl,rfl,⟨by first|omega|(dsimp only;omega),by first|omega|(dsimp only;omega)⟩⟩ (by simp only;omega)
 ·exact⟨true,aK.fits λj=>absurd (j (.sl .str (.may false) l) (by simp)) e,λ_=>rfl⟩
theorem ast{n:aa}(t:aE n):∃r,px n n r:=by
 induction t with
 |mk k v s l names C E D G A H B I y=>
  obtain⟨N,F⟩:∃N:Nat,N=100:=⟨_,rfl⟩
  apply amh N;unfold afX qP;have h:Tot (aO N (ms N) (.mk k v s l names,.mk k v s l names,0)) (λz=>∃(g:Bool)(rest:List ai),z.1.dimR=.bool g∧z.2=rest∧nF (.mk k v s l names) (.mk k v s l names) (g)):=by refine a8 (λx=>match x with|(a,b,i)=>a=.mk k v s l names∧b=.mk k v s l names∧(0<=i∧i<=(names.length:Int))) (λx=>((names.length:Int)-x.2.2).toNat) ?_ _ _ ⟨rfl,rfl,⟨by simp,by simp⟩⟩ (by simp;omega);rintro j ⟨a,b,i⟩ ⟨rfl,rfl,⟨m,w⟩⟩ e;dsimp only at e;unfold ms;dsimp only[aa.kind,aa.names];refine ac (λ_=>?_) (λ_=>aj ⟨_,_,rfl,rfl,λ_=>rfl⟩);refine ac (λc=>?_) (λ_=>aj ⟨_,_,rfl,rfl,λ_=>rfl⟩);have c:=of_decide_eq_true c;refine vck ?_ (ixt ⟨m,c⟩);refine vck ?_ (ixt ⟨m,c⟩);refine ac (λo=>absurd o (by simp)) (λ_=>?_);rw[ax (i+1) (by omega)];exact e _ ⟨rfl,rfl,⟨by first|omega|(dsimp only;omega),by first|omega|(dsimp only;omega)⟩⟩ (by simp only;omega)
  have d:Tot (aO N (pm N) (.mk k v s l names,.mk k v s l names,0)) (λz=>∃(g:Bool)(rest:List ai),z.1.dimR=.bool g∧z.2=rest∧nF (.mk k v s l names) (.mk k v s l names) (g)):=by
   refine a8 (λx=>match x with|(a,b,i)=>a=.mk k v s l names∧b=.mk k v s l names∧(0<=i∧i<=(l.length:Int))) (λx=>((l.length:Int)-x.2.2).toNat) ?_ _ _ ⟨rfl,rfl,⟨by simp,by simp⟩⟩ (by simp;omega);rintro j ⟨a,b,i⟩ ⟨rfl,rfl,⟨m,w⟩⟩ e;dsimp only at e;unfold pm rl;dsimp only[aa.kind,aa.l];refine ac (λc=>?_) (λ_=>h);have c:=of_decide_eq_true c;have q:i.toNat<l.length:=by omega
   refine vck ?_ (ixt ⟨m,c⟩);refine vck ?_ (ixt ⟨m,c⟩);rw[bo];refine ag (y _ (by rw[Af,Ab q];exact AK _)) ?_;rintro r ⟨-,p⟩;have p:r=true:=p rfl;subst p;refine ac (λo=>absurd o (by simp)) (λ_=>?_);rw[ax (i+1) (by omega)];exact e _ ⟨rfl,rfl,⟨by first|omega|(dsimp only;omega),by first|omega|(dsimp only;omega)⟩⟩ (by simp only;omega)
  have f:∀b:Bool,b=true->Tot (some (.bool b,[]):Ro) (λz=>∃(g:Bool)(rest:List ai),z.1.dimR=.bool g∧z.2=rest∧nF (.mk k v s l names) (.mk k v s l names) (g)):=λb u=>aj ⟨b,_,rfl,rfl,λ_=>u⟩
  dsimp only[aa.kind,aa.n,aa.s,aa.l,aa.names];refine ac (λc=>absurd c (by simp)) (λ_=>?_);refine ac (λ_=>f _ (by simp)) (λ_=>?_);refine ac (λ_=>f _ (by simp)) (λ_=>?_);refine ac (λ_=>f _ (by simp)) (λ_=>?_);refine ac (λ_=>?_) (λ_=>?_);·refine ac (λc=>absurd c (by simp)) (λ_=>?_);refine ac (λ_=>?_) (λ_=>d);exact ac (λc=>absurd c (by simp)) (λ_=>d)
  ·refine ac (λ_=>?_) (λ_=>f _ rfl);refine ac (λc=>absurd c (by simp)) (λ_=>?_);refine ac (λ_=>?_) (λ_=>d);exact ac (λc=>absurd c (by simp)) (λ_=>d)
theorem akY{d:List ab}(h:d=[]∨afg d):∃r,kn d d r:=by
 obtain⟨N,S⟩:∃N:Nat,N=100:=⟨_,rfl⟩
 apply ada N;have M:d.length<=60:=by
  rcases h with rfl|h;·simp
  ·exact h.cap
 unfold vC jD;refine ac (λm=>absurd m (by simp)) (λ_=>?_);refine a8 (λx=>match x with|(a,b,i)=>d=a∧d=b∧(0<=i∧i<=(d.length:Int))) (λx=>((d.length:Int)-x.2.2).toNat) ?_ _ _ ⟨rfl,rfl,⟨by simp,by simp⟩⟩ (by simp;omega);rintro G ⟨a,b,i⟩ ⟨rfl,rfl,⟨J,W⟩⟩ L;dsimp only at L;unfold lp kG;dsimp only;refine ac (λm=>?_) (λ_=>aj ⟨_,_,rfl,rfl,λ_=>rfl⟩);have m:=of_decide_eq_true m;have g:i.toNat<d.length:=by omega
 have Q:afg d:=by
  rcases h with h|h;·rw[h] at g;simp at g
  ·exact h
 have e:=Q.tok (d.getD i.toNat (am .atype)) (by rw[Af,Ab g];exact AK _);generalize d.getD i.toNat (am .atype)=t at e ⊢;have P:=e.fl;have O:=e.bl;refine vck ?_ (ixt ⟨J,m⟩);refine vck ?_ (ixt ⟨J,m⟩);refine ac (λc=>absurd c (by simp)) (λ_=>?_);refine ac (λc=>absurd c (by simp)) (λ_=>?_);refine ag (xB _) ?_;rintro r ⟨-,f⟩;obtain rfl:r=true:=f rfl;refine ac (λc=>absurd c (by simp)) (λ_=>?_);refine ac (λc=>absurd c (by simp)) (λ_=>?_);refine ag (xB _) ?_;rintro r ⟨-,f⟩;obtain rfl:r=true:=f rfl;refine ac (λc=>absurd c (by simp)) (λ_=>?_);refine ac (λc=>absurd c (by simp)) (λ_=>?_);refine ac (λc=>absurd c (by simp)) (λ_=>?_);refine ac (λc=>absurd c (by simp)) (λ_=>?_);refine ac (λc=>absurd c (by simp)) (λ_=>?_);refine ac (λc=>absurd c (by simp)) (λ_=>?_);refine a8 (λx=>match x with|(q,u,o,w,p,j)=>d=q∧d=u∧i=o∧t=w∧t=p∧(0<=j∧j<=(t.branches.length:Int))) (λx=>((t.branches.length:Int)-x.2.2.2.2.2).toNat) ?_ _ _ ⟨rfl,rfl,rfl,rfl,rfl,⟨by simp,by simp⟩⟩ (by simp;omega);rintro A ⟨q,u,o,w,p,j⟩ ⟨rfl,rfl,rfl,rfl,rfl,⟨I,X⟩⟩ y;dsimp only at y;unfold iN kF;dsimp only;refine ac (λC=>?_) (λ_=>?_);·have C:=of_decide_eq_true C;refine vck ?_ (ixt ⟨I,C⟩);refine vck ?_ (ixt ⟨I,C⟩);refine ac (λc=>absurd c (by simp)) (λ_=>?_);rw[ax (j+1) (by omega)];exact y _ ⟨rfl,rfl,rfl,rfl,rfl,⟨by first|omega|(dsimp only;omega),by first|omega|(dsimp only;omega)⟩⟩ (by simp only;omega)
 refine a8 (λx=>match x with|(q,u,o,w,p,j)=>d=q∧d=u∧i=o∧t=w∧t=p∧(0<=j∧j<=(t.fields.length:Int))) (λx=>((t.fields.length:Int)-x.2.2.2.2.2).toNat) ?_ _ _ ⟨rfl,rfl,rfl,rfl,rfl,⟨by simp,by simp⟩⟩ (by simp;omega);rintro B ⟨q,u,o,w,p,k⟩ ⟨rfl,rfl,rfl,rfl,rfl,⟨H,R⟩⟩ v;dsimp only at v;unfold iL;dsimp only;refine ac (λD=>?_) (λ_=>?_)
 ·have D:=of_decide_eq_true D;have E:k.toNat<t.fields.length:=by omega
  have F:=e.fs (t.fields.getD k.toNat (am .afield)) (by rw[Af,Ab E];exact AK _);refine vck ?_ (ixt ⟨H,D⟩);refine vck ?_ (ixt ⟨H,D⟩);refine ac (λc=>absurd c (by simp)) (λ_=>?_);refine ag (xB _) ?_;rintro r ⟨-,f⟩;obtain rfl:r=true:=f rfl;refine ac (λc=>absurd c (by simp)) (λ_=>?_);refine ac (λc=>absurd c (by simp)) (λ_=>?_);refine ac (λc=>absurd c (by simp)) (λ_=>?_);rw[bo];refine ag (ast F.df) ?_;rintro r ⟨-,f⟩;obtain rfl:r=true:=f rfl;refine ac (λc=>absurd c (by simp)) (λ_=>?_);rw[ax (k+1) (by omega)];exact v _ ⟨rfl,rfl,rfl,rfl,rfl,⟨by first|omega|(dsimp only;omega),by first|omega|(dsimp only;omega)⟩⟩ (by simp only;omega)
 ·rw[ax (i+1) (by omega)];exact L _ ⟨rfl,rfl,⟨by first|omega|(dsimp only;omega),by first|omega|(dsimp only;omega)⟩⟩ (by simp only;omega)
noncomputable def fA:av:=kf (P:=Tryz.prog) 2 [iW] [] [] [] []
def zr:IR:=Rs [Bi 46 .lss 45 44] (Sq (Cn 46 .skip (.exit 2)) (Sq (.block 3 (Rs [Mv 47 45,Mv 7 47] .bad)) (Rg [Bc 64 .add 45 1,Mv 45 64])))
def xX:IR:=Rg [Bc 65 .add 30 1,Mv 30 65]
def nw:IR:=Rs [Bi 31 .lss 30 29] (Sq (Cn 31 .skip (.exit 0)) (Sq (.block 1 (Rs [Mv 32 30,Mv 5 32] (Rs [Mv 33 4,Nk 34 33,Fa 35 0 34,Fa 36 0 35,Lo 37 36,Mv 38 5,Pp (.ixw 39 .atype 37 38),Mv 6 39] (Rs [Mv 40 6,Nk 41 40,Pp (.fdw 42 8 41),Pp (.ldw 43 1 false 42),Ll 44 43,Mi 45 0] (.block 2 (.loop [2,4,6,29,30,44,45,1000000] 4 zr)))))) xX))
def rH:IR:=Sq (.gh (.cls (.cell 1 0)) (.gh (.fz (.cell 1 0)) (Rg [Mv 66 4,Nk 67 66,Fa 68 0 67,Pp (.ld 69 1 true false 68),Fz 2 1 69,Mi 3 0]))) .ret
def akZ:IR:=Rs [Bx 1 0,Pp (.alr 2 1),Mi 3 0] (Rs [Pp (.mkm 8 .sn),Pp (.bld 9 [.ul .atype ([]:List ab),.nilm,vI 0,vI 0] [(1,1,8)]),Pp (.box 10 9),Mv 4 10] (Rs [Mv 11 4,Ld 12 5 true 1,Ca 13 14 [11,12,kS []]] (Sq (Rs [Mv 14 4,Nk 15 14,Fa 16 2 15,Lo 17 16,Bc 18 .neq 17 0] (Cn 18 (Sq (.reg [Pp (.bld 19 [fu .atype true] []),Mv 20 4,Nk 21 20,Fa 22 2 21,Fo [1] [] (.ld 23 1 false false 22),Fz 2 1 19,Mv 3 23] [[],[],[1],[1,2],[1,2,3],[0],rg 0 5]) .ret) .skip)) (Sq (Sq (.gh (.opn (.cell 1 0)) (Rg [Mv 24 4,Nk 25 24,Fa 26 0 25,Fa 27 0 26,Lo 28 27,Pp (.lnw 29 28),Mi 30 0])) (.block 0 (.loop [2,4,29,30,1000001] 4 nw))) rH))))
def ws:List RV:=[.cell 2 1 true,.t 3]
theorem ak0:FnC Tryz.prog fA [14,2000014] 0 adL Tryz.f8 akZ ws:=pB Tryz.func8
def p7(R:IR->(Ex->St->Ro)->St->Ro)(a:St->Ro):Ex->St->Ro:=(ce a [2,4,29,30,1000001] 4 (aG 0 (bR (R rH) (fin ws))))
abbrev fY:Type:=(Int×Int×List (Bs×Int)×Nat×Int×Int×List ab)
def cM(x:fY):St:={env:=(.undef::.undef::.raw 1::.undef::.ptr 1 0::(U 24 (.int .i64 x.1::.int .i64 x.2.1::(U 39 [])))),hp:=[some [.mp .sn x.2.2.1],some [.sw .atype 2 x.2.2.2.1,.mr 0,.int .i64 x.2.2.2.2.1,.int .i64 x.2.2.2.2.2.1],some [.rw .atype x.2.2.2.2.2.2],none]}
def ajN(R:IR->(Ex->St->Ro)->St->Ro)(b a:St->Ro):Ex->St->Ro:=(ce a [2,4,6,29,30,44,45,1000000] 4 (aG 2 (aG 1 (bR (R xX) (p7 R b)))))
abbrev p8:Type:=(Nat×Int×Int×Int×Int×List (Bs×Int)×Nat×Int×Int×List ab)
def lP(x:p8):St:={env:=(.undef::.undef::.raw 1::.undef::.ptr 1 0::.undef::.wp 2 .atype x.1 0::(U 22 (.int .i64 x.2.1::.int .i64 x.2.2.1::(U 13 (.int .i64 x.2.2.2.1::.int .i64 x.2.2.2.2.1::(U 24 [])))))),hp:=[some [.mp .sn x.2.2.2.2.2.1],some [.sw .atype 2 x.2.2.2.2.2.2.1,.mr 0,.int .i64 x.2.2.2.2.2.2.2.1,.int .i64 x.2.2.2.2.2.2.2.2.1],some [.rw .atype x.2.2.2.2.2.2.2.2.2],none]}
def p9(N:Nat)(b:St->Ro):(St->Ro)->St->Ro:=λa s=>run fA N zr (ajN (run fA N) b a) s
def iP(N:Nat)(a:fY->Ro)(g:p8->Ro)(x:p8):Ro:=
 let o:Nat:=x.1;let j:Int:=x.2.1;let h:Int:=x.2.2.1;let k:Int:=x.2.2.2.1;let i:Int:=x.2.2.2.2.1;let c:List (Bs×Int):=x.2.2.2.2.2.1;let b:Nat:=x.2.2.2.2.2.2.1;let e:Int:=x.2.2.2.2.2.2.2.1;let f:Int:=x.2.2.2.2.2.2.2.2.1;let d:List ab:=x.2.2.2.2.2.2.2.2.2
 cond (decide (i<k)) (
  none) (
  let m:=(Aj .i64 (h+1))
  a (j,m,c,b,e,f,d))
theorem ait(N:Nat)(a:St->Ro):LB (p9 N a) lP (iP N (λy=>a (cM y))):=λ_ _=>by kernel_rfl
def qb(N:Nat):(St->Ro)->St->Ro:=λa s=>run fA N nw (p7 (run fA N) a) s
def o6(N:Nat)(h:fY->Ro)(i:p8->Ro)(x:fY):Ro:=
 let g:Int:=x.1;let b:Int:=x.2.1;let d:List (Bs×Int):=x.2.2.1;let c:Nat:=x.2.2.2.1;let e:Int:=x.2.2.2.2.1;let f:Int:=x.2.2.2.2.2.1;let a:List ab:=x.2.2.2.2.2.2
 cond (decide (b<g)) (
  chk ((decide (0<=b)&&decide (b<↑c))) (
   chk (decide ((Ae b)<Aa a)) (
    let j:=(Ak a (Ae b) (am .atype)).fields;let k:=(↑(Aa j):Int)
    i ((Ae b),g,b,k,0,d,c,e,f,a)))) (
  chk (As c (Aa a)) (
   some (.tup [.agg [.sl .atype (.may false) a],.int .i64 0],[some [.mp .sn d],some [.sl .atype .own a,.mr 0,.int .i64 e,.int .i64 f],none,none])))
def qc(N:Nat)(a:fY->Ro)(x:fY):Ro:=o6 N a (λz=>aO N (iP N a) z) x
def uR(N:Nat)(a:St->Ro):List (Nat×(St->Ro)):=(d5 fA N nw (p7 (run fA N) a)++(d5 fA N rH (fin ws)++[]))
theorem aiu(N:Nat):∀(a:St->Ro)(x:fY),qb N a (cM x)=qc N (λy=>a (cM y)) x:=by
 intro a x;have b:∀C:Nat->St->Ro,dn C fA N nw (p7 (dn C fA N) a) (cM x)=o6 N (λy=>a (cM y)) (λz=>C 1000000 (lP z)) x:=by intro C;kernel_rfl
 have h:qb N a (cM x)=o6 N (λy=>a (cM y)) (λz=>bg N (p9 N a) (lP z)) x:=(kP (C:=mz (uR N a)) (eY (bV (l:=(uR N a)) (by kernel_rfl))) (qn (iU (np (eY (iu (bV (l:=(uR N a)) (by kernel_rfl)))) rfl))) _).trans ((b _).trans (by kernel_rfl));have c:(λz=>bg N (p9 N a) (lP z))=(λz=>aO N (iP N (λy=>a (cM y))) z):=funext λz=>bz (lP) (p9 N a) (iP N (λy=>a (cM y))) (ait N a) N z
 rw[h,c];rfl
def n7(N:Nat)(d:aa)(c:fY->Ro):Ro:=
 af (cR ([]:List (Bs×Int)) ([]:List ab) 0 0 (reJ d) ([]:Bs)) (λa=>
  cond (!(a.2.2.2.1==0)) (
   some (.tup [.agg [.sl .atype (.may true) ([]:List ab)],.int .i64 a.2.2.2.1],[some [.mp .sn a.2.1],some [.ul .atype a.2.2.1,.mr 0,.int .i64 a.2.2.2.1,.int .i64 a.2.2.2.2]])) (
   chk (decide (0<Aa a.2.2.1)) (
    let b:=(↑(Aa a.2.2.1):Int)
    c (b,0,a.2.1,(Aa a.2.2.1),a.2.2.2.1,a.2.2.2.2,a.2.2.1))))
def acd(N:Nat)(a:aa):Ro:=n7 N a (λz=>aO N (qc N) z)
theorem ajO(N:Nat)(a:aa)(h:Tot (acd N a) (λz=>∃(c:List ab)(d:Int)(rest:List ai),z.1.dimR=.tup [.agg [.sl .atype (.may false) c],.int .i64 d]∧z.2=rest∧yN a (c,d))):∃r,ml a r:=ak0.finP (N:=N) ((cV _ (by kernel_rfl) rfl (λC=>n7 N a (λz=>C 1000001 (cM z))) (λC=>by kernel_rfl)).trans (A3 (b:=n7 N a (λz=>bg N (qb N) (cM z))) (by kernel_rfl) (congrArg (n7 N a) (funext λz=>bz (cM) (qb N) (qc N) (aiu N) N z)))) h λ_ ⟨c,d,_,e,_,q⟩=>⟨(c,d),e,q⟩
noncomputable def ami:av:=tab (P:=Tryz.prog) [] [] [] [alU,anp,ajh]
def ak1:IR:=Rs [Mb 0 false] (Rs [Pp (.bld 6 [vI 0,vI 0,vS,fu .jnode true,fu .str true] [(0,1,kI 4),(2,1,kS [105,110,116])]),Ca 7 8 [6],Mv 5 7,Ex_ 8 0 5,Ex_ 9 1 5,Pp (.alr 1 1),Fz 1 1 8,Mv 2 9] (Rs [Pp (.bld 11 [vI 0,vI 0,vS,fu .jnode true,fu .str true] [(0,1,kI 4),(2,1,kS [120])]),Ca 12 8 [11],Mv 10 12,Ex_ 13 0 10,Ex_ 14 1 10,Pp (.alr 3 1),Fz 3 1 13,Mv 4 14] (Rs [Mv 15 2,Bc 16 .eql 15 0,Mv 17 16,Gt 17 (.fad 18 0 1),Gt 17 (.lde 19 1 false 18),Gt 17 (.lenl 20 19),Gt 17 (.bin 21 .eql 20 (kI 1)),Pa 22 17 21,Mv 23 22,Gt 23 (.fad 24 0 1),Gt 23 (.lde 25 1 false 24),Gt 23 (.ixa 26 .atype 25 (kI 0)),Gt 23 (.fad 27 0 26),Gt 23 (.ld 28 1 false false 27),Gt 23 (.bin 29 .eql 28 (kI 3)),Pa 30 23 29,Mv 31 30,Gt 31 (.mov 32 4),Gt 31 (.bin 33 .eql 32 (kI 4)),Pa 34 31 33,Mv 35 34,Gt 35 (.call 36 11 [kS [97,46,98]]),Gt 35 (.bin 37 .eql 36 (kS [98])),Pa 38 35 37,Mv 39 38,Gt 39 (.lde 40 1 true 1),Gt 39 (.call 41 12 [40,kI 0]),Gt 39 (.bin 42 .eql 41 (kS [105,110,116])),Pa 43 39 42,Mv 0 43] .ret)))
def ak2:List RV:=[.t 0]
theorem ak3:FnC Tryz.prog ami [] 0 adM Tryz.f4 ak1 ak2:=fnC Tryz.func4
def ace(N:Nat):Ro:=
 af (ml ⟨4,0,([105,110,116]:Bs),([]:List aa),([]:Bss)⟩) (λa=>
  af (ml ⟨4,0,([120]:Bs),([]:List aa),([]:Bss)⟩) (λg=>
   cond (a.2==0) (
    let b:=(↑(Aa a.1):Int)
    cond (b==1) (
     chk (decide ((0:Int)<↑(Aa a.1))) (
      let d:=(Ak a.1 (Ae 0) (am .atype))
      cond (d.kind==3) (
       cond (g.2==4) (
        af (qt ([97,46,98]:Bs)) (λ(e:Bs)=>
         let h:=decide (e=([98]:Bs))
         cond h (
          af (q9 a.1 0) (λ(f:Bs)=>
           let c:=decide (f=([105,110,116]:Bs))
           some (.bool c,[]))) (
          some (.bool false,[])))) (
        some (.bool false,[]))) (
       some (.bool false,[])))) (
     some (.bool false,[]))) (
    some (.bool false,[]))))
def acf(N:Nat):Ro:=ace N
theorem ajP(N:Nat)(h:Tot (acf N) (λz=>∃(a:Bool)(rest:List ai),z.1.dimR=.bool a∧z.2=rest∧yO  (a))):∃r,pf  r:=ak3.finP (N:=N) (by kernel_rfl) h λ_ ⟨a,_,e,_,q⟩=>⟨(a),e,q⟩
noncomputable def aiv:av:=kf (P:=Tryz.prog) 2 [bK,oK,xP,wU,pD,ad7,acP] [] [] [] [lh,ans]
def agW:IR:=Rs [Bx 4 0,Bx 5 1,Pp (.box 7 3),Mi 8 0] (Rs [Lq 18 4,Ld 19 5 true 5,Ca 20 60 [18,19],Mv 9 20] (Sq (Rs [Ld 22 5 true 5,Ca 23 48 [22,kS [110,97,109,101,115,112,97,99,101]],Mv 21 23,Ex_ 24 0 21,Ex_ 25 1 21,Pp (.alr 10 5),Fz 10 5 24,Mv 11 25] (Rs [Mv 26 11] (Cn 26 (Rs [Lq 27 4,Fa 28 0 10,Lq 29 28,Bc 30 .neq 29 4,Ca 31 27 [27,30,kI 2]] (Rg [Fa 32 2 10,Lq 33 32,Sv 1 7 33])) .skip))) (Rs [Mv 34 2,Lq 35 4,Mv 36 9,Lo 37 7,Ca 38 61 [35,36,37],Pp (.bld 39 [vI 0,vS,fu .str false,vI 0,fu .str false,.bool false,vS,vI 0,nl .afield,fu (.num .i64) false] [(0,1,34),(1,1,38)]),Pp (.new 12 [vI 0,vS,fu .str false,vI 0,fu .str false,.bool false,vS,vI 0,nl .afield,fu (.num .i64) false]),Sv 10 12 39] (Rs [Fa 40 1 12,Lo 41 40,Ca 42 62 [41],Sv 1 7 42] (Rs [Lq 43 4,Ld 44 5 true 5,Pp (.mkf 45 64 [.t 4,.t 7]),Ca 46 63 [43,44,45],Fa 47 2 12,Sk 1 47 46] (Sq (.reg [Lq 49 4,Nk 50 49,Fa 51 1 50,Fo [1] [] (.ld 52 1 false false 51),Fa 53 1 12,Fo [3] [] (.ld 54 1 false false 53),Pp (.mget 55 .sn true (.t 52) (.t 54)),Mv 48 55,Ex_ 56 0 48,Ex_ 57 1 48,Mv 13 56,Mv 14 57] [[],[0],[0,1],[0,1,2],[],[4],rg 0 5,rg 0 6,rg 0 7,rg 0 7,rg 0 8,rg 0 10]) (Rs [Lq 58 4,Mv 59 14,Ca 60 27 [58,59,kI 5]] (Rs [Lq 61 4,Pp (.ld 62 10 true false 12),Ca 63 46 [61,62],Mv 15 63] (Sq (Rs [Lq 64 4,Nk 65 64,Fa 66 2 65,Lo 67 66,Bc 68 .neq 67 0] (Cn 68 (Rs [Mi 8 0] .ret) .skip)) (Sq (.reg [Lq 69 4,Nk 70 69,Fa 71 1 70,Fo [1] [] (.ld 72 1 false false 71),Fa 73 1 12,Fo [3] [] (.ld 74 1 false false 73),Mv 75 15,Pp (.mput none .sn (.t 72) (.t 74) (.t 75))] [[],[0],[0,1],[0,1,2],[],[4],[],rg 0 6]) (Sq (Rs [Mv 76 2] (.block 0 (Rs [Bc 103 .eql 76 9,Mv 102 103] (Cn 102 (Rg [Lq 104 4,Ld 105 5 true 5,Lo 106 7,Ca 107 65 [104,105,12,106]]) (Rs [Bc 109 .eql 76 10,Mv 108 109] (Cn 108 (Rg [Lq 110 4,Ld 111 5 true 5,Ca 112 66 [110,111,12]]) (Rs [Ld 78 5 true 5,Ca 79 48 [78,kS [115,105,122,101]],Mv 77 79,Ex_ 80 0 77,Ex_ 81 1 77,Pp (.alr 16 5),Fz 16 5 80,Mv 17 81] (Rs [Lq 82 4,Fa 83 0 16,Lq 84 83,Bc 85 .neq 84 3,Ca 86 27 [82,85,kI 2]] (Rs [Lq 87 4,Fa 88 1 16,Lq 89 88,Bc 90 .lss 89 0,Mv 91 90,Gf 91 (.fad 92 1 16),Gf 91 (.lde 93 1 false 92),Gf 91 (.bin 94 .gtr 93 (kI 5000)),Po 95 91 94,Ca 96 27 [87,95,kI 6]] (Rg [Fa 97 1 16,Lq 98 97,Pp (.mx 99 false 98 (kI 0)),Pp (.mx 100 true 99 (kI 5000)),Fa 101 7 12,Sv 1 101 100])))))))))) (Sq (Rs [Lq 113 4,Nk 114 113,Fa 115 2 114,Lo 116 115,Bc 117 .eql 116 0] (Cn 117 (.gh (.opn (.cell 1 0)) (.ghp (.cls (.cell 1 0)) (.reg [Lq 118 4,Nk 119 118,Fa 120 0 119,Fa 121 0 120,Fo [1] [] (.ld 122 1 false false 121),Mv 123 15,Fo [3] [] (.ld 124 10 true false 12),Pp (.ixw 125 .atype 122 123),Fo [] [4] (.stw none 10 125 124)] [[],[0],[0,1],[0,1,2],rg 0 3,[],[],rg 0 6,rg 0 7]))) .skip)) (Rs [Mv 126 15,Mv 8 126] .ret)))))))))))))
def agX:List RV:=[.t 8]
theorem agY:FnC Tryz.prog aiv [27,46,60,61,63,65,66,2000027,2000046,2000060,2000061,2000063,2000065,2000066] 2 yT Tryz.f49 agW agX:=pB Tryz.func49
def xY(N:Nat)(J:List (Bs×Int))(G:List ab)(O P:Int)(y:aa)(q:Int)(p3:Bs):Ro:=
 af (iY J G O P (reJ y)) (λx=>
  af (du (reJ y) ([110,97,109,101,115,112,97,99,101]:Bs)) (λr2=>
   cond r2.2 (
    af (ap x.2.1 x.2.2.1 x.2.2.2.1 x.2.2.2.2 (!(r2.1.kind==4)) 2) (λr3=>
     af (fh r3.1 r3.2.1 r3.2.2.1 r3.2.2.2 x.1 r2.1.s) (λr=>
      af (nM r.1) (λ(r5:Bs)=>
       af (bN r.2.1 r.2.2.1 r.2.2.2.1 r.2.2.2.2 r5 (reJ y)) (λp=>
        let x1:=(dv (k:=.sn) p.2.1 r.1)
        let x2:=(CI (aX (k:=.sn) p.2.1 r.1))
        af (ap p.2.1 p.2.2.1 p.2.2.2.1 p.2.2.2.2.1 x2 5) (λr7=>
         af (c6 r7.1 r7.2.1 r7.2.2.1 r7.2.2.2 ⟨q,r.1,p.1,0,([]:Bss),false,([]:Bs),0,([]:List aA),([]:List Int)⟩) (λg=>
          cond (!(g.2.2.2.1==0)) (
           some (.int .i64 0,[some [.mp .sn g.2.1],some [.ul .atype g.2.2.1,.mr 0,.int .i64 g.2.2.2.1,.int .i64 g.2.2.2.2],some [.str p.2.2.2.2.2],some [.int .i64 q,.str r.1,.sl .str (.may false) p.1,.int .i64 0,.sl .str (.may false) ([]:Bss),.bool false,.str ([]:Bs),.int .i64 0,.sl .afield .own ([]:List aA),.sl (.num .i64) (.may false) ([]:List Int)]])) (
           let x3:=(cm (k:=.sn) g.2.1 r.1 g.1)
           cond (q==9) (
            af (fZ x3 g.2.2.1 g.2.2.2.1 g.2.2.2.2 q r.1 p.1 0 ([]:Bss) false ([]:Bs) 0 ([]:List aA) ([]:List Int) (reJ y) p.2.2.2.2.2) (λf=>
             cond (f.2.2.1==0) (
              chk (decide (0<Aa f.2.1)) (
               let x4:Int:=f.2.2.2.2.2.2.2.2.2.2.2.1;let x5:List aA:=f.2.2.2.2.2.2.2.2.2.2.2.2.1;let x6:List Int:=f.2.2.2.2.2.2.2.2.2.2.2.2.2
               chk ((decide (0<=g.1)&&decide (g.1<↑(Aa f.2.1)))) (
                chk (decide ((Ae g.1)<Aa f.2.1)) (
                 let x7:=(AJ f.2.1 (Ae g.1) ⟨f.2.2.2.2.1,f.2.2.2.2.2.1,f.2.2.2.2.2.2.1,f.2.2.2.2.2.2.2.1,f.2.2.2.2.2.2.2.2.1,f.2.2.2.2.2.2.2.2.2.1,f.2.2.2.2.2.2.2.2.2.2.1,x4,x5,x6⟩)
                 chk (As (Aa f.2.1) (Aa x7)) (
                  some (.int .i64 g.1,[some [.mp .sn f.1],some [.ul .atype x7,.mr 0,.int .i64 f.2.2.1,.int .i64 f.2.2.2.1],some [.str p.2.2.2.2.2],some [.int .i64 f.2.2.2.2.1,.str f.2.2.2.2.2.1,.sl .str (.may false) f.2.2.2.2.2.2.1,.int .i64 f.2.2.2.2.2.2.2.1,.sl .str (.may false) f.2.2.2.2.2.2.2.2.1,.bool f.2.2.2.2.2.2.2.2.2.1,.str f.2.2.2.2.2.2.2.2.2.2.1,.int .i64 f.2.2.2.2.2.2.2.2.2.2.2.1,.sl .afield .own f.2.2.2.2.2.2.2.2.2.2.2.2.1,.sl (.num .i64) (.may false) f.2.2.2.2.2.2.2.2.2.2.2.2.2],none,none])))))) (
              some (.int .i64 g.1,[some [.mp .sn f.1],some [.ul .atype f.2.1,.mr 0,.int .i64 f.2.2.1,.int .i64 f.2.2.2.1],some [.str p.2.2.2.2.2],some [.int .i64 f.2.2.2.2.1,.str f.2.2.2.2.2.1,.sl .str (.may false) f.2.2.2.2.2.2.1,.int .i64 f.2.2.2.2.2.2.2.1,.sl .str (.may false) f.2.2.2.2.2.2.2.2.1,.bool f.2.2.2.2.2.2.2.2.2.1,.str f.2.2.2.2.2.2.2.2.2.2.1,.int .i64 f.2.2.2.2.2.2.2.2.2.2.2.1,.sl .afield .own f.2.2.2.2.2.2.2.2.2.2.2.2.1,.sl (.num .i64) (.may false) f.2.2.2.2.2.2.2.2.2.2.2.2.2]])))) (
            cond (q==10) (
             af (fE x3 g.2.2.1 g.2.2.2.1 g.2.2.2.2 q r.1 p.1 0 ([]:Bss) false ([]:Bs) 0 ([]:List aA) ([]:List Int) (reJ y)) (λb=>
              cond (b.2.2.1==0) (
               chk (decide (0<Aa b.2.1)) (
                let x8:Bs:=b.2.2.2.2.2.2.2.2.2.2.1;let x9:Int:=b.2.2.2.2.2.2.2.2.2.2.2.1;let a3:List aA:=b.2.2.2.2.2.2.2.2.2.2.2.2.1;let a9:List Int:=b.2.2.2.2.2.2.2.2.2.2.2.2.2
                chk ((decide (0<=g.1)&&decide (g.1<↑(Aa b.2.1)))) (
                 chk (decide ((Ae g.1)<Aa b.2.1)) (
                  let W:=(AJ b.2.1 (Ae g.1) ⟨b.2.2.2.2.1,b.2.2.2.2.2.1,b.2.2.2.2.2.2.1,b.2.2.2.2.2.2.2.1,b.2.2.2.2.2.2.2.2.1,b.2.2.2.2.2.2.2.2.2.1,x8,x9,a3,a9⟩)
                  chk (As (Aa b.2.1) (Aa W)) (
                   some (.int .i64 g.1,[some [.mp .sn b.1],some [.ul .atype W,.mr 0,.int .i64 b.2.2.1,.int .i64 b.2.2.2.1],some [.str p.2.2.2.2.2],some [.int .i64 b.2.2.2.2.1,.str b.2.2.2.2.2.1,.sl .str (.may false) b.2.2.2.2.2.2.1,.int .i64 b.2.2.2.2.2.2.2.1,.sl .str (.may false) b.2.2.2.2.2.2.2.2.1,.bool b.2.2.2.2.2.2.2.2.2.1,.str b.2.2.2.2.2.2.2.2.2.2.1,.int .i64 b.2.2.2.2.2.2.2.2.2.2.2.1,.sl .afield .own b.2.2.2.2.2.2.2.2.2.2.2.2.1,.sl (.num .i64) (.may false) b.2.2.2.2.2.2.2.2.2.2.2.2.2],none,none])))))) (
               some (.int .i64 g.1,[some [.mp .sn b.1],some [.ul .atype b.2.1,.mr 0,.int .i64 b.2.2.1,.int .i64 b.2.2.2.1],some [.str p.2.2.2.2.2],some [.int .i64 b.2.2.2.2.1,.str b.2.2.2.2.2.1,.sl .str (.may false) b.2.2.2.2.2.2.1,.int .i64 b.2.2.2.2.2.2.2.1,.sl .str (.may false) b.2.2.2.2.2.2.2.2.1,.bool b.2.2.2.2.2.2.2.2.2.1,.str b.2.2.2.2.2.2.2.2.2.2.1,.int .i64 b.2.2.2.2.2.2.2.2.2.2.2.1,.sl .afield .own b.2.2.2.2.2.2.2.2.2.2.2.2.1,.sl (.num .i64) (.may false) b.2.2.2.2.2.2.2.2.2.2.2.2.2]])))) (
             af (du (reJ y) ([115,105,122,101]:Bs)) (λw=>
              af (ap x3 g.2.2.1 g.2.2.2.1 g.2.2.2.2 (!(w.1.kind==3)) 2) (λu=>
               cond (decide (w.1.n<0)) (
                af (ap u.1 u.2.1 u.2.2.1 u.2.2.2 true 6) (λi=>
                 let Q:=(if w.1.n<0 then 0 else w.1.n)
                 let B:=(if 5000<Q then 5000 else Q)
                 cond (i.2.2.1==0) (
                  chk (decide (0<Aa i.2.1)) (
                   chk ((decide (0<=g.1)&&decide (g.1<↑(Aa i.2.1)))) (
                    chk (decide ((Ae g.1)<Aa i.2.1)) (
                     let L:=(AJ i.2.1 (Ae g.1) ⟨q,r.1,p.1,0,([]:Bss),false,([]:Bs),B,([]:List aA),([]:List Int)⟩)
                     chk (As (Aa i.2.1) (Aa L)) (
                      some (.int .i64 g.1,[some [.mp .sn i.1],some [.ul .atype L,.mr 0,.int .i64 i.2.2.1,.int .i64 i.2.2.2],some [.str p.2.2.2.2.2],some [.int .i64 q,.str r.1,.sl .str (.may false) p.1,.int .i64 0,.sl .str (.may false) ([]:Bss),.bool false,.str ([]:Bs),.int .i64 B,.sl .afield .own ([]:List aA),.sl (.num .i64) (.may false) ([]:List Int)],none,none])))))) (
                  some (.int .i64 g.1,[some [.mp .sn i.1],some [.ul .atype i.2.1,.mr 0,.int .i64 i.2.2.1,.int .i64 i.2.2.2],some [.str p.2.2.2.2.2],some [.int .i64 q,.str r.1,.sl .str (.may false) p.1,.int .i64 0,.sl .str (.may false) ([]:Bss),.bool false,.str ([]:Bs),.int .i64 B,.sl .afield .own ([]:List aA),.sl (.num .i64) (.may false) ([]:List Int)]])))) (
                af (ap u.1 u.2.1 u.2.2.1 u.2.2.2 (decide (5000<w.1.n)) 6) (λj=>
                 let H:=(if w.1.n<0 then 0 else w.1.n)
                 let C:=(if 5000<H then 5000 else H)
                 cond (j.2.2.1==0) (
                  chk (decide (0<Aa j.2.1)) (
                   chk ((decide (0<=g.1)&&decide (g.1<↑(Aa j.2.1)))) (
                    chk (decide ((Ae g.1)<Aa j.2.1)) (
                     let R:=(AJ j.2.1 (Ae g.1) ⟨q,r.1,p.1,0,([]:Bss),false,([]:Bs),C,([]:List aA),([]:List Int)⟩)
                     chk (As (Aa j.2.1) (Aa R)) (
                      some (.int .i64 g.1,[some [.mp .sn j.1],some [.ul .atype R,.mr 0,.int .i64 j.2.2.1,.int .i64 j.2.2.2],some [.str p.2.2.2.2.2],some [.int .i64 q,.str r.1,.sl .str (.may false) p.1,.int .i64 0,.sl .str (.may false) ([]:Bss),.bool false,.str ([]:Bs),.int .i64 C,.sl .afield .own ([]:List aA),.sl (.num .i64) (.may false) ([]:List Int)],none,none])))))) (
                  some (.int .i64 g.1,[some [.mp .sn j.1],some [.ul .atype j.2.1,.mr 0,.int .i64 j.2.2.1,.int .i64 j.2.2.2],some [.str p.2.2.2.2.2],some [.int .i64 q,.str r.1,.sl .str (.may false) p.1,.int .i64 0,.sl .str (.may false) ([]:Bss),.bool false,.str ([]:Bs),.int .i64 C,.sl .afield .own ([]:List aA),.sl (.num .i64) (.may false) ([]:List Int)]])))))))))))))))) (
    af (fh x.2.1 x.2.2.1 x.2.2.2.1 x.2.2.2.2 x.1 p3) (λh=>
     af (nM h.1) (λ(bl:Bs)=>
      af (bN h.2.1 h.2.2.1 h.2.2.2.1 h.2.2.2.2 bl (reJ y)) (λe=>
       let b3:=(dv (k:=.sn) e.2.1 h.1)
       let bn:=(CI (aX (k:=.sn) e.2.1 h.1))
       af (ap e.2.1 e.2.2.1 e.2.2.2.1 e.2.2.2.2.1 bn 5) (λA=>
        af (c6 A.1 A.2.1 A.2.2.1 A.2.2.2 ⟨q,h.1,e.1,0,([]:Bss),false,([]:Bs),0,([]:List aA),([]:List Int)⟩) (λd=>
         cond (!(d.2.2.2.1==0)) (
          some (.int .i64 0,[some [.mp .sn d.2.1],some [.ul .atype d.2.2.1,.mr 0,.int .i64 d.2.2.2.1,.int .i64 d.2.2.2.2],some [.str e.2.2.2.2.2],some [.int .i64 q,.str h.1,.sl .str (.may false) e.1,.int .i64 0,.sl .str (.may false) ([]:Bss),.bool false,.str ([]:Bs),.int .i64 0,.sl .afield .own ([]:List aA),.sl (.num .i64) (.may false) ([]:List Int)]])) (
          let D:=(cm (k:=.sn) d.2.1 h.1 d.1)
          cond (q==9) (
           af (fZ D d.2.2.1 d.2.2.2.1 d.2.2.2.2 q h.1 e.1 0 ([]:Bss) false ([]:Bs) 0 ([]:List aA) ([]:List Int) (reJ y) e.2.2.2.2.2) (λc=>
            cond (c.2.2.1==0) (
             chk (decide (0<Aa c.2.1)) (
              let a5:Bs:=c.2.2.2.2.2.2.2.2.2.2.1;let a4:Int:=c.2.2.2.2.2.2.2.2.2.2.2.1;let al:List aA:=c.2.2.2.2.2.2.2.2.2.2.2.2.1;let a0:List Int:=c.2.2.2.2.2.2.2.2.2.2.2.2.2
              chk ((decide (0<=d.1)&&decide (d.1<↑(Aa c.2.1)))) (
               chk (decide ((Ae d.1)<Aa c.2.1)) (
                let Z:=(AJ c.2.1 (Ae d.1) ⟨c.2.2.2.2.1,c.2.2.2.2.2.1,c.2.2.2.2.2.2.1,c.2.2.2.2.2.2.2.1,c.2.2.2.2.2.2.2.2.1,c.2.2.2.2.2.2.2.2.2.1,a5,a4,al,a0⟩)
                chk (As (Aa c.2.1) (Aa Z)) (
                 some (.int .i64 d.1,[some [.mp .sn c.1],some [.ul .atype Z,.mr 0,.int .i64 c.2.2.1,.int .i64 c.2.2.2.1],some [.str e.2.2.2.2.2],some [.int .i64 c.2.2.2.2.1,.str c.2.2.2.2.2.1,.sl .str (.may false) c.2.2.2.2.2.2.1,.int .i64 c.2.2.2.2.2.2.2.1,.sl .str (.may false) c.2.2.2.2.2.2.2.2.1,.bool c.2.2.2.2.2.2.2.2.2.1,.str c.2.2.2.2.2.2.2.2.2.2.1,.int .i64 c.2.2.2.2.2.2.2.2.2.2.2.1,.sl .afield .own c.2.2.2.2.2.2.2.2.2.2.2.2.1,.sl (.num .i64) (.may false) c.2.2.2.2.2.2.2.2.2.2.2.2.2],none,none])))))) (
             some (.int .i64 d.1,[some [.mp .sn c.1],some [.ul .atype c.2.1,.mr 0,.int .i64 c.2.2.1,.int .i64 c.2.2.2.1],some [.str e.2.2.2.2.2],some [.int .i64 c.2.2.2.2.1,.str c.2.2.2.2.2.1,.sl .str (.may false) c.2.2.2.2.2.2.1,.int .i64 c.2.2.2.2.2.2.2.1,.sl .str (.may false) c.2.2.2.2.2.2.2.2.1,.bool c.2.2.2.2.2.2.2.2.2.1,.str c.2.2.2.2.2.2.2.2.2.2.1,.int .i64 c.2.2.2.2.2.2.2.2.2.2.2.1,.sl .afield .own c.2.2.2.2.2.2.2.2.2.2.2.2.1,.sl (.num .i64) (.may false) c.2.2.2.2.2.2.2.2.2.2.2.2.2]])))) (
           cond (q==10) (
            af (fE D d.2.2.1 d.2.2.2.1 d.2.2.2.2 q h.1 e.1 0 ([]:Bss) false ([]:Bs) 0 ([]:List aA) ([]:List Int) (reJ y)) (λa=>
             cond (a.2.2.1==0) (
              chk (decide (0<Aa a.2.1)) (
               let a1:Bs:=a.2.2.2.2.2.2.2.2.2.2.1;let an:Int:=a.2.2.2.2.2.2.2.2.2.2.2.1;let a2:List aA:=a.2.2.2.2.2.2.2.2.2.2.2.2.1;let br:List Int:=a.2.2.2.2.2.2.2.2.2.2.2.2.2
               chk ((decide (0<=d.1)&&decide (d.1<↑(Aa a.2.1)))) (
                chk (decide ((Ae d.1)<Aa a.2.1)) (
                 let X:=(AJ a.2.1 (Ae d.1) ⟨a.2.2.2.2.1,a.2.2.2.2.2.1,a.2.2.2.2.2.2.1,a.2.2.2.2.2.2.2.1,a.2.2.2.2.2.2.2.2.1,a.2.2.2.2.2.2.2.2.2.1,a1,an,a2,br⟩)
                 chk (As (Aa a.2.1) (Aa X)) (
                  some (.int .i64 d.1,[some [.mp .sn a.1],some [.ul .atype X,.mr 0,.int .i64 a.2.2.1,.int .i64 a.2.2.2.1],some [.str e.2.2.2.2.2],some [.int .i64 a.2.2.2.2.1,.str a.2.2.2.2.2.1,.sl .str (.may false) a.2.2.2.2.2.2.1,.int .i64 a.2.2.2.2.2.2.2.1,.sl .str (.may false) a.2.2.2.2.2.2.2.2.1,.bool a.2.2.2.2.2.2.2.2.2.1,.str a.2.2.2.2.2.2.2.2.2.2.1,.int .i64 a.2.2.2.2.2.2.2.2.2.2.2.1,.sl .afield .own a.2.2.2.2.2.2.2.2.2.2.2.2.1,.sl (.num .i64) (.may false) a.2.2.2.2.2.2.2.2.2.2.2.2.2],none,none])))))) (
              some (.int .i64 d.1,[some [.mp .sn a.1],some [.ul .atype a.2.1,.mr 0,.int .i64 a.2.2.1,.int .i64 a.2.2.2.1],some [.str e.2.2.2.2.2],some [.int .i64 a.2.2.2.2.1,.str a.2.2.2.2.2.1,.sl .str (.may false) a.2.2.2.2.2.2.1,.int .i64 a.2.2.2.2.2.2.2.1,.sl .str (.may false) a.2.2.2.2.2.2.2.2.1,.bool a.2.2.2.2.2.2.2.2.2.1,.str a.2.2.2.2.2.2.2.2.2.2.1,.int .i64 a.2.2.2.2.2.2.2.2.2.2.2.1,.sl .afield .own a.2.2.2.2.2.2.2.2.2.2.2.2.1,.sl (.num .i64) (.may false) a.2.2.2.2.2.2.2.2.2.2.2.2.2]])))) (
            af (du (reJ y) ([115,105,122,101]:Bs)) (λv=>
             af (ap D d.2.2.1 d.2.2.2.1 d.2.2.2.2 (!(v.1.kind==3)) 2) (λt=>
              cond (decide (v.1.n<0)) (
               af (ap t.1 t.2.1 t.2.2.1 t.2.2.2 true 6) (λm=>
                let I:=(if v.1.n<0 then 0 else v.1.n)
                let E:=(if 5000<I then 5000 else I)
                cond (m.2.2.1==0) (
                 chk (decide (0<Aa m.2.1)) (
                  chk ((decide (0<=d.1)&&decide (d.1<↑(Aa m.2.1)))) (
                   chk (decide ((Ae d.1)<Aa m.2.1)) (
                    let S:=(AJ m.2.1 (Ae d.1) ⟨q,h.1,e.1,0,([]:Bss),false,([]:Bs),E,([]:List aA),([]:List Int)⟩)
                    chk (As (Aa m.2.1) (Aa S)) (
                     some (.int .i64 d.1,[some [.mp .sn m.1],some [.ul .atype S,.mr 0,.int .i64 m.2.2.1,.int .i64 m.2.2.2],some [.str e.2.2.2.2.2],some [.int .i64 q,.str h.1,.sl .str (.may false) e.1,.int .i64 0,.sl .str (.may false) ([]:Bss),.bool false,.str ([]:Bs),.int .i64 E,.sl .afield .own ([]:List aA),.sl (.num .i64) (.may false) ([]:List Int)],none,none])))))) (
                 some (.int .i64 d.1,[some [.mp .sn m.1],some [.ul .atype m.2.1,.mr 0,.int .i64 m.2.2.1,.int .i64 m.2.2.2],some [.str e.2.2.2.2.2],some [.int .i64 q,.str h.1,.sl .str (.may false) e.1,.int .i64 0,.sl .str (.may false) ([]:Bss),.bool false,.str ([]:Bs),.int .i64 E,.sl .afield .own ([]:List aA),.sl (.num .i64) (.may false) ([]:List Int)]])))) (
               af (ap t.1 t.2.1 t.2.2.1 t.2.2.2 (decide (5000<v.1.n)) 6) (λo=>
                let Y:=(if v.1.n<0 then 0 else v.1.n)
                let F:=(if 5000<Y then 5000 else Y)
                cond (o.2.2.1==0) (
                 chk (decide (0<Aa o.2.1)) (
                  chk ((decide (0<=d.1)&&decide (d.1<↑(Aa o.2.1)))) (
                   chk (decide ((Ae d.1)<Aa o.2.1)) (
                    let M:=(AJ o.2.1 (Ae d.1) ⟨q,h.1,e.1,0,([]:Bss),false,([]:Bs),F,([]:List aA),([]:List Int)⟩)
                    chk (As (Aa o.2.1) (Aa M)) (
                     some (.int .i64 d.1,[some [.mp .sn o.1],some [.ul .atype M,.mr 0,.int .i64 o.2.2.1,.int .i64 o.2.2.2],some [.str e.2.2.2.2.2],some [.int .i64 q,.str h.1,.sl .str (.may false) e.1,.int .i64 0,.sl .str (.may false) ([]:Bss),.bool false,.str ([]:Bs),.int .i64 F,.sl .afield .own ([]:List aA),.sl (.num .i64) (.may false) ([]:List Int)],none,none])))))) (
                 some (.int .i64 d.1,[some [.mp .sn o.1],some [.ul .atype o.2.1,.mr 0,.int .i64 o.2.2.1,.int .i64 o.2.2.2],some [.str e.2.2.2.2.2],some [.int .i64 q,.str h.1,.sl .str (.may false) e.1,.int .i64 0,.sl .str (.may false) ([]:Bss),.bool false,.str ([]:Bs),.int .i64 F,.sl .afield .own ([]:List aA),.sl (.num .i64) (.may false) ([]:List Int)]])))))))))))))))))
def xZ(N:Nat)(b:List (Bs×Int))(a:List ab)(c d:Int)(f:aa)(e:Int)(g:Bs):Ro:=xY N b a c d f e g
theorem af0(N:Nat)(c:List (Bs×Int))(a:List ab)(d b:Int)(t:aa)(o:Int)(p:Bs)(h:Tot (xZ N c a d b t o p) (λz=>∃(g:Int)(k:List (Bs×Int))(m:List ab)(i:Int)(j:Int)(rest:List ai),z.1.dimR=.int .i64 g∧z.2=some [.mp .sn k]::some [.ul .atype m,.mr 0,.int .i64 i,.int .i64 j]::rest∧vm c a d b t o p (g,k,m,i,j))):∃r,fc c a d b t o p r:=FnK.finO (css:=[[.mp .sn c],[.ul .atype a,.mr 0,.int .i64 d,.int .i64 b]]) agY (N:=N) (by kernel_rfl) h λ_ ⟨g,k,m,i,j,_,e,f,q⟩=>⟨(g,k,m,i,j),e,⟨_,f⟩,q⟩
noncomputable def eM:av:=kf (P:=Tryz.prog) 2 [ad5,qB] [] [] [] [lh]
def ig:IR:=Rs [Bi 22 .lss 21 20] (Sq (Cn 22 .skip (.exit 0)) (Sq (.block 1 (Rs [Ix 23 .str 19 21,Lq 24 23,Mv 10 24] (Rs [Mv 25 0,Nk 26 25,Fa 27 2 26,Lo 28 27,Bc 29 .eql 28 0] (Cn 29 (Rg [Pp (.mov 30 (.tk 6)),Mv 31 2,Mv 32 10,Pp (.dcall (some 33) 64 (.t 31) [.t 32]),Pp (.bsl 34 .str [33] true),Pp (.app 35 .str (.tk 30) 34),Pp (.mov 6 (.tk 35))]) .skip)))) (Rg [Bc 36 .add 21 1,Mv 21 36])))
def gS:IR:=Rs [Pp (.mov 37 (.tk 6)),Pp (.mov 6 (.tk 37))] .ret
def pn:IR:=Rs [Bx 4 1,Pp (.mov 6 (.c (nl .str)))] (Sq (Rs [Ld 12 5 true 4,Ca 13 48 [12,kS [97,108,105,97,115,101,115]],Mv 11 13,Ex_ 14 0 11,Ex_ 15 1 11,Pp (.alr 7 5),Fz 7 5 14,Mv 8 15] (Rs [Mv 16 8] (Cn 16 (Rs [Mv 17 0,Ld 18 5 true 7,Ca 19 76 [17,18],Ll 20 19,Mi 21 0] (.block 0 (.loop [0,2,6,19,20,21,1000000] 3 ig))) .skip))) gS)
def jb:List RV:=[.t 6]
theorem po:FnC Tryz.prog eM [64,76,2000064,2000076] 3 jA Tryz.f63 pn jb:=pB Tryz.func63
def o7(R:IR->(Ex->St->Ro)->St->Ro)(a:St->Ro):Ex->St->Ro:=(ce a [0,2,6,19,20,21,1000000] 3 (aG 0 (bR (R gS) (fin jb))))
abbrev cT:Type:=(Bss×Bss×Int×Int×List (Bs×Int)×List ab×Int×Int×Bs)
def cO(x:cT):St:={env:=(.ptr 1 0::.undef::.fn 64 [.ea [.ptr 1 0],.ptr 2 0]::(U 3 (.sl .str .own x.1::(U 12 (.sl .str (.may false) x.2.1::.int .i64 x.2.2.1::.int .i64 x.2.2.2.1::(U 16 [])))))),hp:=[some [.mp .sn x.2.2.2.2.1],some [.ul .atype x.2.2.2.2.2.1,.mr 0,.int .i64 x.2.2.2.2.2.2.1,.int .i64 x.2.2.2.2.2.2.2.1],some [.str x.2.2.2.2.2.2.2.2]]}
def eg(N:Nat):(St->Ro)->St->Ro:=λa s=>run eM N ig (o7 (run eM N) a) s
def cU(N:Nat)(b:cT->Ro)(x:cT):Ro:=
 let k:Bss:=x.1;let h:Bss:=x.2.1;let j:Int:=x.2.2.1;let g:Int:=x.2.2.2.1;let d:List (Bs×Int):=x.2.2.2.2.1;let c:List ab:=x.2.2.2.2.2.1;let a:Int:=x.2.2.2.2.2.2.1;let f:Int:=x.2.2.2.2.2.2.2.1;let e:Bs:=x.2.2.2.2.2.2.2.2
 cond (decide (g<j)) (
  chk (ixl g h) (
   let o:=Ak h (Ae g) (am .str)
   cond (a==0) (
    af (jB d c a f e o) (λi=>
     chk (decide ((Aa k+Aa ([i.1]:Bss))*16<=140737488355328)) (
      let q:=(k++([i.1]:Bss))
      let m:=(Aj .i64 (g+1))
      b (q,h,j,m,i.2.1,i.2.2.1,i.2.2.2.1,i.2.2.2.2.1,i.2.2.2.2.2)))) (
    let p:=(Aj .i64 (g+1))
    b (k,h,j,p,d,c,a,f,e)))) (
  some (.sl .str .own k,[some [.mp .sn d],some [.ul .atype c,.mr 0,.int .i64 a,.int .i64 f],some [.str e]]))
theorem oh(N:Nat):LB (eg N) cO (cU N):=λ_ _=>by kernel_rfl
def cj(N:Nat)(c:List (Bs×Int))(a:List ab)(e b:Int)(d:Bs)(j:aa)(i:cT->Ro):Ro:=
 af (du (reJ j) ([97,108,105,97,115,101,115]:Bs)) (λg=>
  cond g.2 (
   af (fj c a e b (reJ g.1)) (λf=>
    let h:=(↑(Aa f.1):Int)
    i (([]:Bss),f.1,h,0,f.2.1,f.2.2.1,f.2.2.2.1,f.2.2.2.2,d))) (
   some (.sl .str .own ([]:Bss),[some [.mp .sn c],some [.ul .atype a,.mr 0,.int .i64 e,.int .i64 b],some [.str d]])))
def jc(N:Nat)(b:List (Bs×Int))(a:List ab)(d e:Int)(c:Bs)(f:aa):Ro:=cj N b a d e c f (λz=>aO N (cU N) z)
theorem o8(N:Nat)(d:List (Bs×Int))(a:List ab)(i c:Int)(g:Bs)(j:aa)(h:Tot (jc N d a i c g j) (λz=>∃(k:Bss)(t:List (Bs×Int))(u:List ab)(o:Int)(p:Int)(m:Bs)(rest:List ai),z.1.dimR=.sl .str (.may false) k∧z.2=some [.mp .sn t]::some [.ul .atype u,.mr 0,.int .i64 o,.int .i64 p]::some [.str m]::rest∧ic d a i c g j (k,t,u,o,p,m))):∃r,bN d a i c g j r:=FnK.finO (css:=[[.mp .sn d],[.ul .atype a,.mr 0,.int .i64 i,.int .i64 c],[.str g]]) po (N:=N) ((cV _ (by kernel_rfl) rfl (λC=>cj N d a i c g j (λz=>C 1000000 (cO z))) (λC=>by kernel_rfl)).trans (A3 (b:=cj N d a i c g j (λz=>bg N (eg N) (cO z))) (by kernel_rfl) (congrArg (cj N d a i c g j) (funext λz=>bz (cO) (eg N) (cU N) (oh N) N z)))) h λ_ ⟨k,t,u,o,p,m,_,e,f,q⟩=>⟨(k,t,u,o,p,m),e,⟨_,f⟩,q⟩
noncomputable def eh:av:=kf (P:=Tryz.prog) 2 [qB,abw] [] [] [] [lh]
def gD:IR:=Rs [Bi 22 .lss 21 20] (Sq (Cn 22 .skip (.exit 0)) (Sq (.block 1 (Rs [Ix 23 .str 19 21,Lq 24 23,Mv 10 24] (Rs [Mv 25 0,Nk 26 25,Fa 27 2 26,Lo 28 27,Bc 29 .eql 28 0] (Cn 29 (Rg [Pp (.mov 30 (.tk 6)),Mv 31 2,Mv 32 10,Pp (.dcall (some 33) 85 (.t 31) [.t 32]),Pp (.bsl 34 .str [33] true),Pp (.app 35 .str (.tk 30) 34),Pp (.mov 6 (.tk 35))]) .skip)))) (Rg [Bc 36 .add 21 1,Mv 21 36])))
def gp:IR:=Rs [Pp (.mov 37 (.tk 6)),Pp (.mov 6 (.tk 37))] .ret
def oi:IR:=Rs [Bx 4 1,Pp (.mov 6 (.c (nl .str)))] (Sq (Rs [Ld 12 5 true 4,Ca 13 48 [12,kS [97,108,105,97,115,101,115]],Mv 11 13,Ex_ 14 0 11,Ex_ 15 1 11,Pp (.alr 7 5),Fz 7 5 14,Mv 8 15] (Rs [Mv 16 8] (Cn 16 (Rs [Mv 17 0,Ld 18 5 true 7,Ca 19 76 [17,18],Ll 20 19,Mi 21 0] (.block 0 (.loop [0,2,6,19,20,21,1000000] 2 gD))) .skip))) gp)
def ii:List RV:=[.t 6]
theorem oj:FnC Tryz.prog eh [76,85,2000076,2000085] 2 iz Tryz.f63 oi ii:=pB Tryz.func63
def n8(R:IR->(Ex->St->Ro)->St->Ro)(a:St->Ro):Ex->St->Ro:=(ce a [0,2,6,19,20,21,1000000] 2 (aG 0 (bR (R gp) (fin ii))))
abbrev cI:Type:=(Bss×Bss×Int×Int×List (Bs×Int)×List ab×Int×Int)
def cE(x:cI):St:={env:=(.ptr 1 0::.undef::.fn 85 [.ea [.ptr 1 0]]::(U 3 (.sl .str .own x.1::(U 12 (.sl .str (.may false) x.2.1::.int .i64 x.2.2.1::.int .i64 x.2.2.2.1::(U 16 [])))))),hp:=[some [.mp .sn x.2.2.2.2.1],some [.ul .atype x.2.2.2.2.2.1,.mr 0,.int .i64 x.2.2.2.2.2.2.1,.int .i64 x.2.2.2.2.2.2.2]]}
def dS(N:Nat):(St->Ro)->St->Ro:=λa s=>run eh N gD (n8 (run eh N) a) s
def cJ(N:Nat)(b:cI->Ro)(x:cI):Ro:=
 let j:Bss:=x.1;let g:Bss:=x.2.1;let h:Int:=x.2.2.1;let f:Int:=x.2.2.2.1;let d:List (Bs×Int):=x.2.2.2.2.1;let c:List ab:=x.2.2.2.2.2.1;let a:Int:=x.2.2.2.2.2.2.1;let e:Int:=x.2.2.2.2.2.2.2
 cond (decide (f<h)) (
  chk (ixl f g) (
   let m:=Ak g (Ae f) (am .str)
   cond (a==0) (
    af (gL d c a e m) (λi=>
     chk (decide ((Aa j+Aa ([i.1]:Bss))*16<=140737488355328)) (
      let p:=(j++([i.1]:Bss))
      let k:=(Aj .i64 (f+1))
      b (p,g,h,k,i.2.1,i.2.2.1,i.2.2.2.1,i.2.2.2.2)))) (
    let o:=(Aj .i64 (f+1))
    b (j,g,h,o,d,c,a,e)))) (
  some (.sl .str .own j,[some [.mp .sn d],some [.ul .atype c,.mr 0,.int .i64 a,.int .i64 e]]))
theorem nj(N:Nat):LB (dS N) cE (cJ N):=λ_ _=>by kernel_rfl
def bW(N:Nat)(c:List (Bs×Int))(a:List ab)(d b:Int)(i:aa)(h:cI->Ro):Ro:=
 af (du (reJ i) ([97,108,105,97,115,101,115]:Bs)) (λf=>
  cond f.2 (
   af (fj c a d b (reJ f.1)) (λe=>
    let g:=(↑(Aa e.1):Int)
    h (([]:Bss),e.1,g,0,e.2.1,e.2.2.1,e.2.2.2.1,e.2.2.2.2))) (
   some (.sl .str .own ([]:Bss),[some [.mp .sn c],some [.ul .atype a,.mr 0,.int .i64 d,.int .i64 b]])))
def ij(N:Nat)(b:List (Bs×Int))(a:List ab)(c d:Int)(e:aa):Ro:=bW N b a c d e (λz=>aO N (cJ N) z)
theorem n9(N:Nat)(d:List (Bs×Int))(a:List ab)(g c:Int)(i:aa)(h:Tot (ij N d a g c i) (λz=>∃(j:Bss)(o:List (Bs×Int))(p:List ab)(k:Int)(m:Int)(rest:List ai),z.1.dimR=.sl .str (.may false) j∧z.2=some [.mp .sn o]::some [.ul .atype p,.mr 0,.int .i64 k,.int .i64 m]::rest∧gB d a g c i (j,o,p,k,m))):∃r,cb d a g c i r:=FnK.finO (css:=[[.mp .sn d],[.ul .atype a,.mr 0,.int .i64 g,.int .i64 c]]) oj (N:=N) ((cV _ (by kernel_rfl) rfl (λC=>bW N d a g c i (λz=>C 1000000 (cE z))) (λC=>by kernel_rfl)).trans (A3 (b:=bW N d a g c i (λz=>bg N (dS N) (cE z))) (by kernel_rfl) (congrArg (bW N d a g c i) (funext λz=>bz (cE) (dS N) (cJ N) (nj N) N z)))) h λ_ ⟨j,o,p,k,m,_,e,f,q⟩=>⟨(j,o,p,k,m),e,⟨_,f⟩,q⟩
noncomputable def pF:av:=kf (P:=Tryz.prog) 2 [bK,afF] [] [] [] [lh]
def si:IR:=Rs [Bi 34 .lss 33 32] (Sq (Cn 34 .skip (.exit 0)) (Sq (.block 1 (Rs [Ix 35 .jnode 31 33,Ld 36 5 true 35,Pp (.alr 12 5),Fz 12 5 36] (Rs [Mv 37 0,Nk 38 37,Fa 39 2 38,Lo 40 39,Bc 41 .eql 40 0] (Cn 41 (.reg [Mv 42 2,Mv 43 2,Nk 44 43,Fa 45 8 44,Fo [] [2] (.ld 46 1 false true 45),Mv 47 0,Ld 48 5 true 12,Mv 49 10,Mv 50 3,Fo [] [0,1,3] (.call 51 77 [47,48,49,50]),Pp (.bsl 52 .afield [51] true),Pp (.app 53 .afield (.tk 46) 52),Nk 54 42,Fa 55 8 54,Fo [] [2] (.st none 1 55 (.tk 53))] [[],[],[1],[1,2],[1,2,3],[],[],[],[],rg 5 8,rg 5 9,rg 1 10,rg 0 11,rg 0 12,rg 0 13]) .skip)))) (Rg [Bc 56 .add 33 1,Mv 33 56])))
def adb:IR:=Rs [Bx 5 1] (Rs [Ld 14 5 true 5,Ca 15 48 [14,kS [102,105,101,108,100,115]],Mv 13 15,Ex_ 16 0 13,Ex_ 17 1 13,Pp (.alr 8 5),Fz 8 5 16,Mv 9 17] (Rs [Mv 18 0,Fa 19 0 8,Lq 20 19,Bc 21 .neq 20 5,Ca 22 27 [18,21,kI 2]] (Rs [Mv 23 0,Fa 24 3 8,Lq 25 24,Ll 26 25,Bc 27 .gtr 26 30,Ca 28 27 [23,27,kI 3]] (Rs [Pp (.mkm 29 .sb),Mv 10 29] (Rs [Fa 30 3 8,Lq 31 30,Ll 32 31,Mi 33 0] (.block 0 (.loop [0,2,3,10,31,32,33,1000000] 4 si)))))))
def uS:List RV:=[]
theorem adc:FnC Tryz.prog pF [27,77,2000027,2000077] 3 vr Tryz.f65 adb uS:=pB Tryz.func65
def acg(R:IR->(Ex->St->Ro)->St->Ro)(a:St->Ro):Ex->St->Ro:=(ce a [0,2,3,10,31,32,33,1000000] 4 (aG 0 (fin uS)))
abbrev kH:Type:=(Bs×List aa×Int×Int×List (Bs×Int)×List ab×Int×Int×Int×Bs×Bss×Int×Bss×Bool×Bs×Int×List aA×List Int×List (Bs×Bool))
def j8(x:kH):St:={env:=(.ptr 1 0::.undef::.ptr 2 0::.str x.1::(U 6 (.mr 3::(U 20 (.sl .jnode (.may false) x.2.1::.int .i64 x.2.2.1::.int .i64 x.2.2.2.1::(U 23 [])))))),hp:=[some [.mp .sn x.2.2.2.2.1],some [.ul .atype x.2.2.2.2.2.1,.mr 0,.int .i64 x.2.2.2.2.2.2.1,.int .i64 x.2.2.2.2.2.2.2.1],some [.int .i64 x.2.2.2.2.2.2.2.2.1,.str x.2.2.2.2.2.2.2.2.2.1,.sl .str (.may false) x.2.2.2.2.2.2.2.2.2.2.1,.int .i64 x.2.2.2.2.2.2.2.2.2.2.2.1,.sl .str (.may false) x.2.2.2.2.2.2.2.2.2.2.2.2.1,.bool x.2.2.2.2.2.2.2.2.2.2.2.2.2.1,.str x.2.2.2.2.2.2.2.2.2.2.2.2.2.2.1,.int .i64 x.2.2.2.2.2.2.2.2.2.2.2.2.2.2.2.1,.sl .afield .own x.2.2.2.2.2.2.2.2.2.2.2.2.2.2.2.2.1,.sl (.num .i64) (.may false) x.2.2.2.2.2.2.2.2.2.2.2.2.2.2.2.2.2.1],some [.mp .sb x.2.2.2.2.2.2.2.2.2.2.2.2.2.2.2.2.2.2]]}
def oa(N:Nat):(St->Ro)->St->Ro:=λa s=>run pF N si (acg (run pF N) a) s
def kJ(N:Nat)(b:kH->Ro)(x:kH):Ro:=
 let y:Bs:=x.1;let u:List aa:=x.2.1;let v:Int:=x.2.2.1;let h:Int:=x.2.2.2.1;let k:List (Bs×Int):=x.2.2.2.2.1;let d:List ab:=x.2.2.2.2.2.1;let a:Int:=x.2.2.2.2.2.2.1;let q:Int:=x.2.2.2.2.2.2.2.1;let f:Int:=x.2.2.2.2.2.2.2.2.1;let j:Bs:=x.2.2.2.2.2.2.2.2.2.1;let m:Bss:=x.2.2.2.2.2.2.2.2.2.2.1;let i:Int:=x.2.2.2.2.2.2.2.2.2.2.2.1;let r:Bss:=x.2.2.2.2.2.2.2.2.2.2.2.2.1;let t:Bool:=x.2.2.2.2.2.2.2.2.2.2.2.2.2.1;let e:Bs:=x.2.2.2.2.2.2.2.2.2.2.2.2.2.2.1;let o:Int:=x.2.2.2.2.2.2.2.2.2.2.2.2.2.2.2.1;let c:List aA:=x.2.2.2.2.2.2.2.2.2.2.2.2.2.2.2.2.1;let p:List Int:=x.2.2.2.2.2.2.2.2.2.2.2.2.2.2.2.2.2.1;let g:List (Bs×Bool):=x.2.2.2.2.2.2.2.2.2.2.2.2.2.2.2.2.2.2
 cond (decide (h<v)) (
  chk (ixl h u) (
   let D:=(Ak u (Ae h) (am .jnode))
   cond (a==0) (
    af (km k d a q g (reJ D) y) (λw=>
     chk (decide ((Aa c+Aa ([(reF w.1)]:List aA))*136<=140737488355328)) (
      let C:=(c++([(reF w.1)]:List aA))
      let B:=(Aj .i64 (h+1))
      b (y,u,v,B,w.2.1,w.2.2.1,w.2.2.2.1,w.2.2.2.2.1,f,j,m,i,r,t,e,o,C,p,w.2.2.2.2.2)))) (
    let A:=(Aj .i64 (h+1))
    b (y,u,v,A,k,d,a,q,f,j,m,i,r,t,e,o,c,p,g)))) (
  some (.tup [],[some [.mp .sn k],some [.ul .atype d,.mr 0,.int .i64 a,.int .i64 q],some [.int .i64 f,.str j,.sl .str (.may false) m,.int .i64 i,.sl .str (.may false) r,.bool t,.str e,.int .i64 o,.sl .afield .own c,.sl (.num .i64) (.may false) p],some [.mp .sb g]]))
theorem aa4(N:Nat):LB (oa N) j8 (kJ N):=λ_ _=>by kernel_rfl
def iQ(N:Nat)(f:List (Bs×Int))(a:List ab)(j k c:Int)(e:Bs)(g:Bss)(d:Int)(m:Bss)(p:Bool)(b:Bs)(h:Int)(o:List aA)(i:List Int)(y:aa)(v:Bs)(x:kH->Ro):Ro:=
 af (du (reJ y) ([102,105,101,108,100,115]:Bs)) (λr=>
  af (ap f a j k (!(r.1.kind==5)) 2) (λq=>
   let u:=(↑(Aa r.1.l):Int)
   af (ap q.1 q.2.1 q.2.2.1 q.2.2.2 (decide (30<u)) 3) (λt=>
    let w:=(↑(Aa r.1.l):Int)
    x (v,r.1.l,w,0,t.1,t.2.1,t.2.2.1,t.2.2.2,c,e,g,d,m,p,b,h,o,i,([]:List (Bs×Bool))))))
def uT(N:Nat)(g:List (Bs×Int))(a:List ab)(m p k:Int)(e:Bs)(h:Bss)(o:Int)(b:Bss)(f:Bool)(d:Bs)(i:Int)(c:List aA)(j:List Int)(q:aa)(r:Bs):Ro:=iQ N g a m p k e h o b f d i c j q r (λz=>aO N (kJ N) z)
theorem ach(N:Nat)(j:List (Bs×Int))(a:List ab)(p t d:Int)(i:Bs)(k:Bss)(g:Int)(u:Bss)(w:Bool)(c:Bs)(m:Int)(v:List aA)(o:List Int)(E:aa)(D:Bs)(h:Tot (uT N j a p t d i k g u w c m v o E D) (λz=>∃(J:List (Bs×Int))(M:List ab)(G:Int)(P:Int)(Q:Int)(L:Bs)(O:Bss)(H:Int)(I:Bss)(F:Bool)(x:Bs)(B:Int)(y:List aA)(A:List Int)(rest:List ai),z.1.dimR=.tup []∧z.2=some [.mp .sn J]::some [.ul .atype M,.mr 0,.int .i64 G,.int .i64 P]::some [.int .i64 Q,.str L,.sl .str (.may false) O,.int .i64 H,.sl .str (.may false) I,.bool F,.str x,.int .i64 B,.sl .afield .own y,.sl (.num .i64) (.may false) A]::rest∧mO j a p t d i k g u w c m v o E D (J,M,G,P,Q,L,O,H,I,F,x,B,y,A))):∃r,fZ j a p t d i k g u w c m v o E D r:=FnK.finO (css:=[[.mp .sn j],[.ul .atype a,.mr 0,.int .i64 p,.int .i64 t],[.int .i64 d,.str i,.sl .str (.may false) k,.int .i64 g,.sl .str (.may false) u,.bool w,.str c,.int .i64 m,.sl .afield .own v,.sl (.num .i64) (.may false) o]]) adc (N:=N) ((cV _ (by kernel_rfl) rfl (λC=>iQ N j a p t d i k g u w c m v o E D (λz=>C 1000000 (j8 z))) (λC=>by kernel_rfl)).trans (A3 (b:=iQ N j a p t d i k g u w c m v o E D (λz=>bg N (oa N) (j8 z))) (by kernel_rfl) (congrArg (iQ N j a p t d i k g u w c m v o E D) (funext λz=>bz (j8) (oa N) (kJ N) (aa4 N) N z)))) h λ_ ⟨J,M,G,P,Q,L,O,H,I,F,x,B,y,A,_,e,f,q⟩=>⟨(J,M,G,P,Q,L,O,H,I,F,x,B,y,A),e,⟨_,f⟩,q⟩
noncomputable def o9:av:=kf (P:=Tryz.prog) 2 [bK,qB] [] [] [] [lh,wC,tP]
def rA:IR:=Rs [Bi 49 .lss 48 47] (Sq (Cn 49 .skip (.exit 0)) (Sq (.block 1 (Rs [Mv 50 48,Ix 51 .str 46 48,Lq 52 51,Mv 8 50,Mv 9 52] (Rs [Mv 53 0,Mv 54 9,Ca 55 75 [54],Un 56 55,Ca 57 27 [53,56,kI 6]] (Rg [Mv 58 0,Mv 59 2,Nk 60 59,Fa 61 4 60,Lo 62 61,Mv 63 8,Pp (.subl 64 .str 62 none (some 63)),Mv 65 9,Ca 66 78 [64,65],Ca 67 27 [58,66,kI 5]])))) (Rg [Bc 68 .add 48 1,Mv 48 68])))
def qR:IR:=Rs [Ld 70 5 true 4,Ca 71 48 [70,kS [100,101,102,97,117,108,116]],Mv 69 71,Ex_ 72 0 69,Ex_ 73 1 69,Pp (.alr 10 5),Fz 10 5 72,Mv 11 73] (Rs [Mv 74 11] (Cn 74 (Rs [Mv 75 0,Fa 76 0 10,Lq 77 76,Bc 78 .neq 77 4,Ca 79 27 [75,78,kI 2]] (Sq (.reg [Mv 80 0,Mv 81 2,Nk 82 81,Fa 83 4 82,Fo [2] [] (.ld 84 1 false false 83),Fa 85 2 10,Lq 86 85,Ca 87 78 [84,86],Un 88 87,Fo [] [0,1] (.call 89 27 [80,88,kI 6])] [[],[],[1],[1,2],[1,2,3],[],[5],rg 1 6,rg 1 7,rg 0 8]) (.reg [Mv 90 2,Mv 91 2,Fa 92 2 10,Lq 93 92,Nk 94 90,Fa 95 5 94,Fo [] [2] (.st none 1 95 (kB true)),Nk 96 91,Fa 97 6 96,Fo [] [2] (.st none 1 97 93)] [[],[],[],[2],[0],[0,4],[0,4,5],rg 0 6,rg 0 7,rg 0 8]))) .skip))
def aci:IR:=Rs [Bx 4 1] (Rs [Ld 13 5 true 4,Ca 14 48 [13,kS [115,121,109,98,111,108,115]],Mv 12 14,Ex_ 15 0 12,Ex_ 16 1 12,Pp (.alr 6 5),Fz 6 5 15,Mv 7 16] (Rs [Mv 17 0,Mv 18 7,Un 19 18,Ca 20 27 [17,19,kI 2]] (Rs [Mv 21 2,Mv 22 0,Ld 23 5 true 6,Ca 24 76 [22,23],Nk 25 21,Fa 26 4 25,Sk 1 26 24] (Rs [Mv 27 0,Mv 28 2,Nk 29 28,Fa 30 4 29,Lo 31 30,Ll 32 31,Bc 33 .eql 32 0,Ca 34 27 [27,33,kI 6]] (Rs [Mv 35 0,Mv 36 2,Nk 37 36,Fa 38 4 37,Lo 39 38,Ll 40 39,Bc 41 .gtr 40 30,Ca 42 27 [35,41,kI 3]] (Sq (Rs [Mv 43 2,Nk 44 43,Fa 45 4 44,Lo 46 45,Ll 47 46,Mi 48 0] (.block 0 (.loop [0,2,4,46,47,48,1000000] 3 rA))) qR))))))
def tH:List RV:=[]
theorem acj:FnC Tryz.prog o9 [27,76,2000027,2000076] 3 uv Tryz.f66 aci tH:=pB Tryz.func66
def aa5(R:IR->(Ex->St->Ro)->St->Ro)(a:St->Ro):Ex->St->Ro:=(ce a [0,2,4,46,47,48,1000000] 3 (aG 0 (bR (R qR) (fin tH))))
abbrev j9:Type:=(aa×Bss×Int×Int×List (Bs×Int)×List ab×Int×Int×Int×Bs×Bss×Int×Bss×Bool×Bs×Int×List aA×List Int)
def jv(x:j9):St:={env:=(.ptr 1 0::.undef::.ptr 2 0::.undef::.ea (enc .jnode x.1)::(U 41 (.sl .str (.may false) x.2.1::.int .i64 x.2.2.1::.int .i64 x.2.2.2.1::(U 49 [])))),hp:=[some [.mp .sn x.2.2.2.2.1],some [.ul .atype x.2.2.2.2.2.1,.mr 0,.int .i64 x.2.2.2.2.2.2.1,.int .i64 x.2.2.2.2.2.2.2.1],some [.int .i64 x.2.2.2.2.2.2.2.2.1,.str x.2.2.2.2.2.2.2.2.2.1,.sl .str (.may false) x.2.2.2.2.2.2.2.2.2.2.1,.int .i64 x.2.2.2.2.2.2.2.2.2.2.2.1,.sl .str (.may false) x.2.2.2.2.2.2.2.2.2.2.2.2.1,.bool x.2.2.2.2.2.2.2.2.2.2.2.2.2.1,.str x.2.2.2.2.2.2.2.2.2.2.2.2.2.2.1,.int .i64 x.2.2.2.2.2.2.2.2.2.2.2.2.2.2.2.1,.sl .afield .own x.2.2.2.2.2.2.2.2.2.2.2.2.2.2.2.2.1,.sl (.num .i64) (.may false) x.2.2.2.2.2.2.2.2.2.2.2.2.2.2.2.2.2]]}
def mW(N:Nat):(St->Ro)->St->Ro:=λa s=>run o9 N rA (aa5 (run o9 N) a) s
def ka(N:Nat)(h:j9->Ro)(x:j9):Ro:=
 let E:aa:=x.1;let w:Bss:=x.2.1;let y:Int:=x.2.2.1;let b:Int:=x.2.2.2.1;let d:List (Bs×Int):=x.2.2.2.2.1;let c:List ab:=x.2.2.2.2.2.1;let e:Int:=x.2.2.2.2.2.2.1;let f:Int:=x.2.2.2.2.2.2.2.1;let m:Int:=x.2.2.2.2.2.2.2.2.1;let p:Bs:=x.2.2.2.2.2.2.2.2.2.1;let q:Bss:=x.2.2.2.2.2.2.2.2.2.2.1;let o:Int:=x.2.2.2.2.2.2.2.2.2.2.2.1;let a:Bss:=x.2.2.2.2.2.2.2.2.2.2.2.2.1;let v:Bool:=x.2.2.2.2.2.2.2.2.2.2.2.2.2.1;let k:Bs:=x.2.2.2.2.2.2.2.2.2.2.2.2.2.2.1;let r:Int:=x.2.2.2.2.2.2.2.2.2.2.2.2.2.2.2.1;let u:List aA:=x.2.2.2.2.2.2.2.2.2.2.2.2.2.2.2.2.1;let t:List Int:=x.2.2.2.2.2.2.2.2.2.2.2.2.2.2.2.2.2;let D:=λO M J Q L G=>(some (.tup [],[some [.mp .sn O],some [.ul .atype M,.mr 0,.int .i64 J,.int .i64 Q],some [.int .i64 m,.str p,.sl .str (.may false) q,.int .i64 o,.sl .str (.may false) a,.bool L,.str G,.int .i64 r,.sl .afield .own u,.sl (.num .i64) (.may false) t]]):Ro)
 cond (decide (b<y)) (
  chk (ixl b w) (
   let F:=Ak w (Ae b) (am .str)
   af (lF F) (λ(R:Bool)=>
    af (ap d c e f (!R) 6) (λA=>
     chk ((decide (0<=b)&&decide (b<=(↑(Aa a):Int)))) (
      let P:=(AY 0 (A5 (Ae b) a))
      af (cA P F) (λ(I:Bool)=>
       af (ap A.1 A.2.1 A.2.2.1 A.2.2.2 I 5) (λB=>
        let H:=(Aj .i64 (b+1))
        h (E,w,y,H,B.1,B.2.1,B.2.2.1,B.2.2.2,m,p,q,o,a,v,k,r,u,t)))))))) (
  af (du (reJ E) ([100,101,102,97,117,108,116]:Bs)) (λi=>
   cond i.2 (
    af (ap d c e f (!(i.1.kind==4)) 2) (λj=>
     af (cA a i.1.s) (λ(C:Bool)=>
      af (ap j.1 j.2.1 j.2.2.1 j.2.2.2 (!C) 6) (λg=>
       D g.1 g.2.1 g.2.2.1 g.2.2.2 true i.1.s)))) (
    D d c e f v k)))
theorem zO(N:Nat):LB (mW N) jv (ka N):=λ_ _=>by kernel_rfl
def gT(N:Nat)(g:List (Bs×Int))(b:List ab)(k m d:Int)(f:Bs)(h:Bss)(e:Int)(w:Bss)(p:Bool)(c:Bs)(i:Int)(o:List aA)(j:List Int)(v:aa)(A:j9->Ro):Ro:=
 af (du (reJ v) ([115,121,109,98,111,108,115]:Bs)) (λu=>
  af (ap g b k m (!u.2) 2) (λq=>
   af (fj q.1 q.2.1 q.2.2.1 q.2.2.2 (reJ u.1)) (λa=>
    let x:=(↑(Aa a.1):Int)
    af (ap a.2.1 a.2.2.1 a.2.2.2.1 a.2.2.2.2 (x==0) 6) (λr=>
     let y:=(↑(Aa a.1):Int)
     af (ap r.1 r.2.1 r.2.2.1 r.2.2.2 (decide (30<y)) 3) (λt=>
      let B:=(↑(Aa a.1):Int)
      A (v,a.1,B,0,t.1,t.2.1,t.2.2.1,t.2.2.2,d,f,h,e,a.1,p,c,i,o,j))))))
def tI(N:Nat)(g:List (Bs×Int))(a:List ab)(m p k:Int)(e:Bs)(h:Bss)(o:Int)(b:Bss)(f:Bool)(d:Bs)(i:Int)(c:List aA)(j:List Int)(q:aa):Ro:=gT N g a m p k e h o b f d i c j q (λz=>aO N (ka N) z)
theorem aa6(N:Nat)(j:List (Bs×Int))(a:List ab)(p t d:Int)(i:Bs)(k:Bss)(g:Int)(u:Bss)(w:Bool)(c:Bs)(m:Int)(v:List aA)(o:List Int)(D:aa)(h:Tot (tI N j a p t d i k g u w c m v o D) (λz=>∃(I:List (Bs×Int))(L:List ab)(F:Int)(O:Int)(P:Int)(J:Bs)(M:Bss)(G:Int)(H:Bss)(E:Bool)(x:Bs)(B:Int)(y:List aA)(A:List Int)(rest:List ai),z.1.dimR=.tup []∧z.2=some [.mp .sn I]::some [.ul .atype L,.mr 0,.int .i64 F,.int .i64 O]::some [.int .i64 P,.str J,.sl .str (.may false) M,.int .i64 G,.sl .str (.may false) H,.bool E,.str x,.int .i64 B,.sl .afield .own y,.sl (.num .i64) (.may false) A]::rest∧rp j a p t d i k g u w c m v o D (I,L,F,O,P,J,M,G,H,E,x,B,y,A))):∃r,fE j a p t d i k g u w c m v o D r:=FnK.finO (css:=[[.mp .sn j],[.ul .atype a,.mr 0,.int .i64 p,.int .i64 t],[.int .i64 d,.str i,.sl .str (.may false) k,.int .i64 g,.sl .str (.may false) u,.bool w,.str c,.int .i64 m,.sl .afield .own v,.sl (.num .i64) (.may false) o]]) acj (N:=N) ((cV _ (by kernel_rfl) rfl (λC=>gT N j a p t d i k g u w c m v o D (λz=>C 1000000 (jv z))) (λC=>by kernel_rfl)).trans (A3 (b:=gT N j a p t d i k g u w c m v o D (λz=>bg N (mW N) (jv z))) (by kernel_rfl) (congrArg (gT N j a p t d i k g u w c m v o D) (funext λz=>bz (jv) (mW N) (ka N) (zO N) N z)))) h λ_ ⟨I,L,F,O,P,J,M,G,H,E,x,B,y,A,_,e,f,q⟩=>⟨(I,L,F,O,P,J,M,G,H,E,x,B,y,A),e,⟨_,f⟩,q⟩
noncomputable def af1:av:=kf (P:=Tryz.prog) 2 [iW,bK,xP,oM] [] [] [] [lh,wC]
def aeh:IR:=Rs [Bx 4 0,Bx 5 1,Pp (.new 8 [vS,nl .str,vI 0,.bool false,vI 0,vI 0,vS,nl .jnode,nl .str])] (Rs [Lq 12 4,Fa 13 0 5,Lq 14 13,Bc 15 .neq 14 6,Ca 16 27 [12,15,kI 2]] (Rs [Lq 17 4,Ld 18 5 true 5,Ca 19 60 [17,18],Pp (.bld 20 [vS,nl .str,vI 0,.bool false,vI 0,vI 0,vS,nl .jnode,nl .str] [(0,1,19)]),Pp (.new 9 [vS,nl .str,vI 0,.bool false,vI 0,vI 0,vS,nl .jnode,nl .str]),Sv 9 9 20] (Sq (.reg [Lq 21 4,Fa 22 0 9,Fo [4] [] (.ld 23 1 false false 22),Ca 24 75 [23],Un 25 24,Fo [] [0,1] (.call 26 27 [21,25,kI 6])] [[],[],[1],[1,2],[1,2,3],rg 0 4]) (Rs [Lq 27 4,Mv 28 2,Fa 29 0 9,Lo 30 29,Pp (.mget 31 .sb false (.t 28) (.t 30)),Ca 32 27 [27,31,kI 5]] (Rs [Mv 33 2,Fa 34 0 9,Lo 35 34,Pp (.mput none .sb (.t 33) (.t 35) (.c (.bool true)))] (Rs [Ld 37 5 true 5,Ca 38 48 [37,kS [116,121,112,101]],Mv 36 38,Ex_ 39 0 36,Ex_ 40 1 36,Pp (.alr 10 5),Fz 10 5 39,Mv 11 40] (Rs [Lq 41 4,Mv 42 11,Un 43 42,Ca 44 27 [41,43,kI 2]] (Rs [Lq 45 4,Ld 46 5 true 10,Mv 47 3,Ca 48 14 [45,46,47],Fa 49 2 9,Sv 1 49 48] (Rs [Ld 51 5 true 5,Ca 52 48 [51,kS [100,101,102,97,117,108,116]],Mv 50 52,Ex_ 53 0 50,Ex_ 54 1 50,Fa 55 4 9,Sv 5 55 53,Fa 56 3 9,Sv 1 56 54] (Rs [Lq 57 4,Ld 58 5 true 5,Pp (.mkf 59 85 [.t 4]),Ca 60 63 [57,58,59],Fa 61 1 9,Sk 1 61 60] (Rs [Pp (.ld 62 9 true false 9),Sv 9 8 62] .ret)))))))))))
def aei:List RV:=[.cell 8 9 true]
theorem aej:FnC Tryz.prog af1 [14,27,60,63,2000014,2000027,2000060,2000063] 3 wN Tryz.f77 aeh aei:=pB Tryz.func77
def vD(N:Nat)(g:List (Bs×Int))(f:List ab)(h j:Int)(d:List (Bs×Bool))(i:aa)(u:Bs):Ro:=
 af (ap g f h j (!(i.kind==6)) 2) (λm=>
  af (iY m.1 m.2.1 m.2.2.1 m.2.2.2 (reJ i)) (λc=>
   af (lF c.1) (λ(w:Bool)=>
    af (ap c.2.1 c.2.2.1 c.2.2.2.1 c.2.2.2.2 (!w) 6) (λo=>
     let t:=(dv (k:=.sb) d c.1)
     af (ap o.1 o.2.1 o.2.2.1 o.2.2.2 t 5) (λp=>
      let v:=(cm (k:=.sb) d c.1 true)
      af (du (reJ i) ([116,121,112,101]:Bs)) (λr=>
       af (ap p.1 p.2.1 p.2.2.1 p.2.2.2 (!r.2) 2) (λq=>
        af (cR q.1 q.2.1 q.2.2.1 q.2.2.2 (reJ r.1) u) (λe=>
         af (du (reJ i) ([100,101,102,97,117,108,116]:Bs)) (λa=>
          af (cb e.2.1 e.2.2.1 e.2.2.2.1 e.2.2.2.2 (reJ i)) (λb=>
           some (.agg [.str c.1,.sl .str (.may false) b.1,.int .i64 e.1,.bool a.2,.int .i64 a.1.kind,.int .i64 a.1.n,.str a.1.s,.sl .jnode (.may false) a.1.l,.sl .str (.may false) a.1.names],[some [.mp .sn b.2.1],some [.ul .atype b.2.2.1,.mr 0,.int .i64 b.2.2.2.1,.int .i64 b.2.2.2.2],some [.mp .sb v],some [.str c.1,.sl .str (.may false) b.1,.int .i64 e.1,.bool a.2,.int .i64 a.1.kind,.int .i64 a.1.n,.str a.1.s,.sl .jnode (.may false) a.1.l,.sl .str (.may false) a.1.names],some [.str c.1,.sl .str (.may false) b.1,.int .i64 e.1,.bool a.2,.int .i64 a.1.kind,.int .i64 a.1.n,.str a.1.s,.sl .jnode (.may false) a.1.l,.sl .str (.may false) a.1.names]])))))))))))
def vE(N:Nat)(b:List (Bs×Int))(a:List ab)(d e:Int)(c:List (Bs×Bool))(f:aa)(g:Bs):Ro:=vD N b a d e c f g
theorem ade(N:Nat)(c:List (Bs×Int))(a:List ab)(g b:Int)(d:List (Bs×Bool))(u:aa)(t:Bs)(h:Tot (vE N c a g b d u t) (λz=>∃(i:aA)(o:List (Bs×Int))(p:List ab)(k:Int)(m:Int)(j:List (Bs×Bool))(rest:List ai),z.1.dimR=.agg (enc .afield i)∧z.2=some [.mp .sn o]::some [.ul .atype p,.mr 0,.int .i64 k,.int .i64 m]::some [.mp .sb j]::rest∧tg c a g b d u t (i,o,p,k,m,j))):∃r,km c a g b d u t r:=FnK.finO (css:=[[.mp .sn c],[.ul .atype a,.mr 0,.int .i64 g,.int .i64 b],[.mp .sb d]]) aej (N:=N) (by kernel_rfl) h λ_ ⟨i,o,p,k,m,j,_,e,f,q⟩=>⟨(i,o,p,k,m,j),e,⟨_,f⟩,q⟩
noncomputable def af2:av:=kf (P:=Tryz.prog) 2 [iW,bK,oK] [] [] [] [lh]
def aek:IR:=Rs [Bx 6 1,Mi 10 0] (Rs [Mv 15 0,Mv 16 2,Pp (.bld 17 [vI 0,vS,fu .str true,vI 0,fu .str true,.bool false,vS,vI 0,fu .afield true,fu (.num .i64) true] [(0,1,16)]),Ca 18 46 [15,17],Mv 11 18] (Rs [Ld 20 5 true 6,Mv 21 3,Ca 22 48 [20,21],Mv 19 22,Ex_ 23 0 19,Ex_ 24 1 19,Pp (.alr 12 5),Fz 12 5 23,Mv 13 24] (Rs [Mv 25 0,Mv 26 13,Un 27 26,Ca 28 27 [25,27,kI 2]] (Sq (Rs [Mv 29 0,Ld 30 5 true 12,Mv 31 4,Ca 32 14 [29,30,31],Mv 14 32] (Rs [Mv 33 0,Nk 34 33,Fa 35 2 34,Lo 36 35,Bc 37 .eql 36 0] (Cn 37 (.gh (.opn (.cell 1 0)) (.ghp (.cls (.cell 1 0)) (Rg [Mv 38 0,Nk 39 38,Fa 40 0 39,Fa 41 0 40,Lo 42 41,Mv 43 11,Mv 44 14,Pp (.ixw 45 .atype 42 43),Pp (.fdw 46 3 45),Pp (.stw none 1 46 44)]))) .skip))) (Rs [Mv 47 11,Mv 10 47] .ret)))))
def ael:List RV:=[.t 10]
theorem aem:FnC Tryz.prog af2 [14,27,46,2000014,2000027,2000046] 2 wO Tryz.f50 aek ael:=pB Tryz.func50
def vG(N:Nat)(f:List (Bs×Int))(d:List ab)(g e:Int)(p:aa)(k:Int)(o m:Bs):Ro:=
 af (c6 f d g e ⟨k,([]:Bs),([]:Bss),0,([]:Bss),false,([]:Bs),0,([]:List aA),([]:List Int)⟩) (λb=>
  af (du (reJ p) o) (λj=>
   af (ap b.2.1 b.2.2.1 b.2.2.2.1 b.2.2.2.2 (!j.2) 2) (λh=>
    af (cR h.1 h.2.1 h.2.2.1 h.2.2.2 (reJ j.1) m) (λa=>
     cond (a.2.2.2.1==0) (
      chk (decide (0<Aa a.2.2.1)) (
       chk ((decide (0<=b.1)&&decide (b.1<↑(Aa a.2.2.1)))) (
        chk (decide ((Ae b.1)<Aa a.2.2.1)) (
         let i:=(AJ a.2.2.1 (Ae b.1) (let c:=Ak a.2.2.1 (Ae b.1) (am .atype);⟨c.kind,c.name,c.aliases,a.1,c.syms,c.hasdef,c.df,c.size,c.fields,c.branches⟩))
         chk (As (Aa a.2.2.1) (Aa i)) (
          some (.int .i64 b.1,[some [.mp .sn a.2.1],some [.ul .atype i,.mr 0,.int .i64 a.2.2.2.1,.int .i64 a.2.2.2.2],none,none])))))) (
      some (.int .i64 b.1,[some [.mp .sn a.2.1],some [.ul .atype a.2.2.1,.mr 0,.int .i64 a.2.2.2.1,.int .i64 a.2.2.2.2]]))))))
def vH(N:Nat)(c:List (Bs×Int))(a:List ab)(d b:Int)(h:aa)(e:Int)(g f:Bs):Ro:=vG N c a d b h e g f
theorem adf(N:Nat)(c:List (Bs×Int))(a:List ab)(d b:Int)(u:aa)(o:Int)(t p:Bs)(h:Tot (vH N c a d b u o t p) (λz=>∃(g:Int)(k:List (Bs×Int))(m:List ab)(i:Int)(j:Int)(rest:List ai),z.1.dimR=.int .i64 g∧z.2=some [.mp .sn k]::some [.ul .atype m,.mr 0,.int .i64 i,.int .i64 j]::rest∧tf c a d b u o t p (g,k,m,i,j))):∃r,fg c a d b u o t p r:=FnK.finO (css:=[[.mp .sn c],[.ul .atype a,.mr 0,.int .i64 d,.int .i64 b]]) aem (N:=N) (by kernel_rfl) h λ_ ⟨g,k,m,i,j,_,e,f,q⟩=>⟨(g,k,m,i,j),e,⟨_,f⟩,q⟩
noncomputable def af3:av:=kf (P:=Tryz.prog) 2 [iW,bK,xO,ah4,afA] [] [] [] [yU,fD,lh]
def aen:IR:=Rs [Bx 4 1,Mi 6 0] (Rs [Ld 10 5 true 4,Ca 11 48 [10,kS [116,121,112,101]],Mv 9 11,Ex_ 12 0 9,Ex_ 13 1 9,Pp (.alr 7 5),Fz 7 5 12,Mv 8 13] (Rs [Mv 14 0,Mv 15 8,Un 16 15,Ca 17 27 [14,16,kI 2]] (Sq (Rs [Fa 18 0 7,Lq 19 18,Bc 20 .neq 19 4] (Cn 20 (Rs [Mv 21 0,Ld 22 5 true 7,Mv 23 2,Ca 24 14 [21,22,23],Mv 6 24] .ret) .skip)) (Sq (Rs [Fa 25 2 7,Lq 26 25] (.block 0 (Sq (Rs [Pp (.bin 28 .eql 26 (kS [114,101,99,111,114,100])),Mv 27 28] (Cn 27 .skip (Rs [Pp (.bin 29 .eql 26 (kS [101,110,117,109])),Mv 27 29] (Cn 27 .skip (Rg [Pp (.bin 30 .eql 26 (kS [102,105,120,101,100])),Mv 27 30]))))) (Cn 27 (Sq (.reg [Mv 31 0,Ld 32 5 true 4,Ca 33 41 [],Fa 34 2 7,Lq 35 34,Ca 36 45 [33,35],Mv 37 2,Fo [] [0,1] (.call 38 49 [31,32,36,37]),Mv 6 38] [[],[],[],[],[3],[2,3,4],[],rg 0 6,rg 0 7]) .ret) (Rs [Pp (.bin 40 .eql 26 (kS [97,114,114,97,121])),Mv 39 40] (Cn 39 (Rs [Mv 41 0,Ld 42 5 true 4,Mv 43 2,Ca 44 50 [41,42,kI 12,kS [105,116,101,109,115],43],Mv 6 44] .ret) (Rs [Pp (.bin 46 .eql 26 (kS [109,97,112])),Mv 45 46] (Cn 45 (Rs [Mv 47 0,Ld 48 5 true 4,Mv 49 2,Ca 50 50 [47,48,kI 13,kS [118,97,108,117,101,115],49],Mv 6 50] .ret) .skip)))))))) (Rs [Mv 51 0,Fa 52 2 7,Lq 53 52,Mv 54 2,Ca 55 28 [51,53,54],Mv 6 55] .ret)))))
def aeo:List RV:=[.t 6]
theorem aep:FnC Tryz.prog af3 [14,27,28,49,50,2000014,2000027,2000028,2000049,2000050] 2 wQ Tryz.f30 aen aeo:=pB Tryz.func30
def vJ(N:Nat)(k:List (Bs×Int))(j:List ab)(m o:Int)(i:aa)(g:Bs):Ro:=
 let h:=λC B y F A=>(some (.int .i64 C,[some [.mp .sn B],some [.ul .atype y,.mr 0,.int .i64 F,.int .i64 A]]):Ro)
 af (du (reJ i) ([116,121,112,101]:Bs)) (λb=>
  af (ap k j m o (!b.2) 2) (λa=>
   cond (!(b.1.kind==4)) (
    af (cR a.1 a.2.1 a.2.2.1 a.2.2.2 (reJ b.1) g) (λp=>
     h p.1 p.2.1 p.2.2.1 p.2.2.2.1 p.2.2.2.2)) (
    let v:=decide (b.1.s=([114,101,99,111,114,100]:Bs))
    cond v (
     af (gf) (λ(G:Bss)=>
      af (aZ G b.1.s) (λ(H:Int)=>
       af (fc a.1 a.2.1 a.2.2.1 a.2.2.2 (reJ i) H g) (λq=>
        h q.1 q.2.1 q.2.2.1 q.2.2.2.1 q.2.2.2.2)))) (
     let w:=decide (b.1.s=([101,110,117,109]:Bs))
     cond w (
      af (gf) (λ(I:Bss)=>
       af (aZ I b.1.s) (λ(x:Int)=>
        af (fc a.1 a.2.1 a.2.2.1 a.2.2.2 (reJ i) x g) (λr=>
         h r.1 r.2.1 r.2.2.1 r.2.2.2.1 r.2.2.2.2)))) (
      let J:=decide (b.1.s=([102,105,120,101,100]:Bs))
      cond J (
       af (gf) (λ(t:Bss)=>
        af (aZ t b.1.s) (λ(u:Int)=>
         af (fc a.1 a.2.1 a.2.2.1 a.2.2.2 (reJ i) u g) (λe=>
          h e.1 e.2.1 e.2.2.1 e.2.2.2.1 e.2.2.2.2)))) (
       let E:=decide (b.1.s=([97,114,114,97,121]:Bs))
       cond E (
        af (fg a.1 a.2.1 a.2.2.1 a.2.2.2 (reJ i) 12 ([105,116,101,109,115]:Bs) g) (λc=>
         h c.1 c.2.1 c.2.2.1 c.2.2.2.1 c.2.2.2.2)) (
        let D:=decide (b.1.s=([109,97,112]:Bs))
        cond D (
         af (fg a.1 a.2.1 a.2.2.1 a.2.2.2 (reJ i) 13 ([118,97,108,117,101,115]:Bs) g) (λf=>
          h f.1 f.2.1 f.2.2.1 f.2.2.2.1 f.2.2.2.2)) (
         af (iX a.1 a.2.1 a.2.2.1 a.2.2.2 b.1.s g) (λd=>
          h d.1 d.2.1 d.2.2.1 d.2.2.2.1 d.2.2.2.2)))))))))
def vK(N:Nat)(b:List (Bs×Int))(a:List ab)(c d:Int)(f:aa)(e:Bs):Ro:=vJ N b a c d f e
theorem adg(N:Nat)(c:List (Bs×Int))(a:List ab)(d b:Int)(p:aa)(o:Bs)(h:Tot (vK N c a d b p o) (λz=>∃(g:Int)(k:List (Bs×Int))(m:List ab)(i:Int)(j:Int)(rest:List ai),z.1.dimR=.int .i64 g∧z.2=some [.mp .sn k]::some [.ul .atype m,.mr 0,.int .i64 i,.int .i64 j]::rest∧kC c a d b p o (g,k,m,i,j))):∃r,kj c a d b p o r:=FnK.finO (css:=[[.mp .sn c],[.ul .atype a,.mr 0,.int .i64 d,.int .i64 b]]) aep (N:=N) (by kernel_rfl) h λ_ ⟨g,k,m,i,j,_,e,f,q⟩=>⟨(g,k,m,i,j),e,⟨_,f⟩,q⟩
noncomputable def qS:av:=kf (P:=Tryz.prog) 2 [iW,bK,oK] [] [] [12] [ajh]
def sj:IR:=Rs [Bi 34 .lss 33 32] (Sq (Cn 34 .skip (.exit 0)) (Sq (.block 1 (Rs [Ix 35 .jnode 31 33,Ld 36 5 true 35,Pp (.alr 11 5),Fz 11 5 36] (Sq (Rs [Mv 37 0,Nk 38 37,Fa 39 2 38,Lo 40 39,Bc 41 .neq 40 0] (Cn 41 (.exit 0) .skip)) (Rs [Mv 42 0,Ld 43 5 true 11,Mv 44 2,Ca 45 14 [42,43,44],Mv 12 45] (Sq (Rs [Mv 46 0,Nk 47 46,Fa 48 2 47,Lo 49 48,Bc 50 .neq 49 0] (Cn 50 (.exit 0) .skip)) (Sq (.gh (.opn (.cell 1 0)) (.ghp (.cls (.cell 1 0)) (Rg [Mv 51 0,Nk 52 51,Fa 53 0 52,Pp (.ld 54 1 true false 53),Mv 55 12,Ca 56 12 [54,55],Mv 13 56]))) (Sq (.rgs [([],[Mv 57 0,Mv 58 0,Nk 59 58,Fa 60 0 59,Fa 61 0 60]),([.opn (.cell 1 0)],[Pp (.ld 62 1 false false (.t 61)),Mv 63 12,Pp (.ixw 64 .atype (.t 62) (.t 63)),Pp (.fdw 65 0 (.t 64)),Pp (.ldw 66 1 false (.t 65))]),([.cls (.cell 1 0)],[Bc 67 .eql 66 14,Mv 68 67,Pg (68,false) (.mov 69 (.t 8)),Pg (68,false) (.mov 70 (.t 13)),Pg (68,false) (.mget 71 .sb false (.t 69) (.t 70)),Po 72 68 71,Pp (.call (some 73) 27 [.t 57,.t 72,.c (.int .i64 6)])])]) (Rs [Mv 74 8,Mv 75 13,Pp (.mput none .sb (.t 74) (.t 75) (.c (.bool true)))] (Rg [Pp (.mov 76 (.tk 9)),Mv 77 12,Pp (.bsl 78 (.num .i64) [77] true),Pp (.app 79 (.num .i64) (.tk 76) 78),Pp (.mov 9 (.tk 79))]))))))))) (Rg [Bc 80 .add 33 1,Mv 33 80])))
def sk:IR:=Sq (Rs [Mv 81 0,Nk 82 81,Fa 83 2 82,Lo 84 83,Bc 85 .eql 84 0] (Cn 85 (.gh (.opn (.cell 1 0)) (.ghp (.cls (.cell 1 0)) (Rg [Mv 86 0,Nk 87 86,Fa 88 0 87,Fa 89 0 88,Lo 90 89,Mv 91 7,Mv 92 9,Pp (.ixw 93 .atype 90 91),Pp (.fdw 94 9 93),Pp (.stw none 1 94 92)]))) .skip)) (Rs [Mv 95 7,Mv 6 95] .ret)
def aeq:IR:=Rs [Bx 4 1,Mi 6 0] (Rs [Mv 14 0,Pp (.bld 15 [vI 0,vS,fu .str true,vI 0,fu .str true,.bool false,vS,vI 0,fu .afield true,fu (.num .i64) true] [(0,1,kI 14)]),Ca 16 46 [14,15],Mv 7 16] (Rs [Mv 17 0,Fa 18 3 4,Lq 19 18,Ll 20 19,Bc 21 .eql 20 0,Ca 22 27 [17,21,kI 6]] (Rs [Mv 23 0,Fa 24 3 4,Lq 25 24,Ll 26 25,Bc 27 .gtr 26 30,Ca 28 27 [23,27,kI 3]] (Rs [Pp (.mkm 29 .sb),Mv 8 29] (Rs [Pp (.mov 9 (.c (nl (.num .i64))))] (Sq (Rs [Fa 30 3 4,Lq 31 30,Ll 32 31,Mi 33 0] (.block 0 (.loop [0,2,7,8,9,31,32,33,1000000] 3 sj))) sk))))))
def vL:List RV:=[.t 6]
theorem aer:FnC Tryz.prog qS [14,27,46,12,2000012,2000014,2000027,2000046] 2 wS Tryz.f29 aeq vL:=pB Tryz.func29
def adh(R:IR->(Ex->St->Ro)->St->Ro)(a:St->Ro):Ex->St->Ro:=(ce a [0,2,7,8,9,31,32,33,1000000] 3 (aG 0 (bR (R sk) (fin vL))))
abbrev lq:Type:=(Bs×Int×List Int×List aa×Int×Int×List (Bs×Int)×List ab×Int×Int×List (Bs×Bool))
def kK(x:lq):St:={env:=(.ptr 1 0::.undef::.str x.1::(U 4 (.int .i64 x.2.1::.mr 2::.sl (.num .i64) .own x.2.2.1::(U 21 (.sl .jnode (.may false) x.2.2.2.1::.int .i64 x.2.2.2.2.1::.int .i64 x.2.2.2.2.2.1::(U 62 [])))))),hp:=[some [.mp .sn x.2.2.2.2.2.2.1],some [.ul .atype x.2.2.2.2.2.2.2.1,.mr 0,.int .i64 x.2.2.2.2.2.2.2.2.1,.int .i64 x.2.2.2.2.2.2.2.2.2.1],some [.mp .sb x.2.2.2.2.2.2.2.2.2.2]]}
def pa(N:Nat):(St->Ro)->St->Ro:=λa s=>run qS N sj (adh (run qS N) a) s
def lr(N:Nat)(i:lq->Ro)(x:lq):Ro:=
 let v:Bs:=x.1;let e:Int:=x.2.1;let p:List Int:=x.2.2.1;let m:List aa:=x.2.2.2.1;let o:Int:=x.2.2.2.2.1;let j:Int:=x.2.2.2.2.2.1;let g:List (Bs×Int):=x.2.2.2.2.2.2.1;let a:List ab:=x.2.2.2.2.2.2.2.1;let d:Int:=x.2.2.2.2.2.2.2.2.1;let h:Int:=x.2.2.2.2.2.2.2.2.2.1;let f:List (Bs×Bool):=x.2.2.2.2.2.2.2.2.2.2;let w:=λD B y F=>(some (.int .i64 e,[some [.mp .sn D],some [.ul .atype B,.mr 0,.int .i64 y,.int .i64 F],some [.mp .sb f],none,none]):Ro)
 let I:=λD B y F=>(some (.int .i64 e,[some [.mp .sn D],some [.ul .atype B,.mr 0,.int .i64 y,.int .i64 F],some [.mp .sb f]]):Ro)
 cond (decide (j<o)) (
  chk (ixl j m) (
   let P:=(Ak m (Ae j) (am .jnode))
   cond (!(d==0)) (
    cond (d==0) (
     chk (decide (0<Aa a)) (
      chk ((decide (0<=e)&&decide (e<↑(Aa a)))) (
       chk (decide ((Ae e)<Aa a)) (
        let L:=(AJ a (Ae e) (let c:=Ak a (Ae e) (am .atype);⟨c.kind,c.name,c.aliases,c.items,c.syms,c.hasdef,c.df,c.size,c.fields,p⟩))
        chk (As (Aa a) (Aa L)) (
         w g L d h))))) (
     I g a d h)) (
    af (cR g a d h (reJ P) v) (λb=>
     cond (!(b.2.2.2.1==0)) (
      cond (b.2.2.2.1==0) (
       chk (decide (0<Aa b.2.2.1)) (
        chk ((decide (0<=e)&&decide (e<↑(Aa b.2.2.1)))) (
         chk (decide ((Ae e)<Aa b.2.2.1)) (
          let J:=(AJ b.2.2.1 (Ae e) (let c:=Ak b.2.2.1 (Ae e) (am .atype);⟨c.kind,c.name,c.aliases,c.items,c.syms,c.hasdef,c.df,c.size,c.fields,p⟩))
          chk (As (Aa b.2.2.1) (Aa J)) (
           w b.2.1 J b.2.2.2.1 b.2.2.2.2))))) (
       I b.2.1 b.2.2.1 b.2.2.2.1 b.2.2.2.2)) (
      chk (decide (0<Aa b.2.2.1)) (
       amt (q9 b.2.2.1 b.1) ((As (Aa b.2.2.1) (Aa b.2.2.1)&&true)) (λ(H:Bs)=>
        chk (As (Aa b.2.2.1) (Aa b.2.2.1)) (
         chk (decide (0<Aa b.2.2.1)) (
          chk ((decide (0<=b.1)&&decide (b.1<↑(Aa b.2.2.1)))) (
           chk (decide ((Ae b.1)<Aa b.2.2.1)) (
            let M:=(Ak b.2.2.1 (Ae b.1) (am .atype)).kind
            chk (As (Aa b.2.2.1) (Aa b.2.2.1)) (
             cond (M==14) (
              af (ap b.2.1 b.2.2.1 b.2.2.2.1 b.2.2.2.2 true 6) (λr=>
               let Q:=(cm (k:=.sb) f H true)
               chk (decide ((Aa p+Aa ([b.1]:List Int))*8<=140737488355328)) (
                let O:=(p++([b.1]:List Int))
                let A:=(Aj .i64 (j+1))
                i (v,e,O,m,o,A,r.1,r.2.1,r.2.2.1,r.2.2.2,Q)))) (
              let G:=(dv (k:=.sb) f H)
              af (ap b.2.1 b.2.2.1 b.2.2.2.1 b.2.2.2.2 G 6) (λt=>
               let E:=(cm (k:=.sb) f H true)
               chk (decide ((Aa p+Aa ([b.1]:List Int))*8<=140737488355328)) (
                let C:=(p++([b.1]:List Int))
                let u:=(Aj .i64 (j+1))
                i (v,e,C,m,o,u,t.1,t.2.1,t.2.2.1,t.2.2.2,E)))))))))))))))) (
  cond (d==0) (
   chk (decide (0<Aa a)) (
    chk ((decide (0<=e)&&decide (e<↑(Aa a)))) (
     chk (decide ((Ae e)<Aa a)) (
      let q:=(AJ a (Ae e) (let c:=Ak a (Ae e) (am .atype);⟨c.kind,c.name,c.aliases,c.items,c.syms,c.hasdef,c.df,c.size,c.fields,p⟩))
      chk (As (Aa a) (Aa q)) (
       w g q d h))))) (
   I g a d h))
theorem ack(N:Nat):LB (pa N) kK (lr N):=λ_ _=>by kernel_rfl
def jE(N:Nat)(c:List (Bs×Int))(a:List ab)(d b:Int)(h:aa)(m:Bs)(o:lq->Ro):Ro:=
 af (c6 c a d b ⟨14,([]:Bs),([]:Bss),0,([]:Bss),false,([]:Bs),0,([]:List aA),([]:List Int)⟩) (λe=>
  let i:=(↑(Aa h.l):Int)
  af (ap e.2.1 e.2.2.1 e.2.2.2.1 e.2.2.2.2 (i==0) 6) (λg=>
   let j:=(↑(Aa h.l):Int)
   af (ap g.1 g.2.1 g.2.2.1 g.2.2.2 (decide (30<j)) 3) (λf=>
    let k:=(↑(Aa h.l):Int)
    o (m,e.1,([]:List Int),h.l,k,0,f.1,f.2.1,f.2.2.1,f.2.2.2,([]:List (Bs×Bool))))))
def vM(N:Nat)(b:List (Bs×Int))(a:List ab)(c d:Int)(f:aa)(e:Bs):Ro:=jE N b a c d f e (λz=>aO N (lr N) z)
theorem adi(N:Nat)(d:List (Bs×Int))(a:List ab)(g c:Int)(j:aa)(i:Bs)(h:Tot (vM N d a g c j i) (λz=>∃(k:Int)(p:List (Bs×Int))(t:List ab)(m:Int)(o:Int)(rest:List ai),z.1.dimR=.int .i64 k∧z.2=some [.mp .sn p]::some [.ul .atype t,.mr 0,.int .i64 m,.int .i64 o]::rest∧nD d a g c j i (k,p,t,m,o))):∃r,kh d a g c j i r:=FnK.finO (css:=[[.mp .sn d],[.ul .atype a,.mr 0,.int .i64 g,.int .i64 c]]) aer (N:=N) ((cV _ (by kernel_rfl) rfl (λC=>jE N d a g c j i (λz=>C 1000000 (kK z))) (λC=>by kernel_rfl)).trans (A3 (b:=jE N d a g c j i (λz=>bg N (pa N) (kK z))) (by kernel_rfl) (congrArg (jE N d a g c j i) (funext λz=>bz (kK) (pa N) (lr N) (ack N) N z)))) h λ_ ⟨k,p,t,m,o,_,e,f,q⟩=>⟨(k,p,t,m,o),e,⟨_,f⟩,q⟩
noncomputable def agZ:av:=kf (P:=Tryz.prog) 2 [bK,xO,afu,afw] [] [] [] []
def af4:IR:=Rs [Bx 3 0,Bx 4 1,Mi 6 0] (Sq (Rs [Lq 7 3,Nk 8 7,Fa 9 2 8,Lo 10 9,Bc 11 .neq 10 0] (Cn 11 (Rs [Mi 6 0] .ret) .skip)) (Rs [Lq 12 3,Nk 13 12,Fa 14 3 13,Lo 15 14,Bc 16 .add 15 1,Nk 17 12,Fa 18 3 17,Sv 1 18 16] (Rs [Pp (.mkf 19 26 [.t 3])] (.gh (.isf 19 26 [.ea [.ptr 1 0]]) (Sq (.reg [Lq 20 3,Lq 21 3,Nk 22 21,Fa 23 3 22,Fo [1] [] (.ld 24 1 false false 23),Bc 25 .gtr 24 20,Fo [] [0,1] (.call 26 27 [20,25,kI 3])] [[],[],[1],[1,2],[1,2,3],rg 1 4,rg 0 5]) (Sq (Rs [Lq 27 3,Nk 28 27,Fa 29 2 28,Lo 30 29,Bc 31 .neq 30 0] (Cn 31 (Rs [Mi 6 0] (.exit 1000000)) .skip)) (Sq (Rs [Fa 32 0 4,Lq 33 32] (.block 0 (Rs [Bc 35 .eql 33 4,Mv 34 35] (Cn 34 (Rs [Lq 36 3,Fa 37 2 4,Lq 38 37,Mv 39 2,Ca 40 28 [36,38,39],Mv 6 40] (.exit 1000000)) (Rs [Bc 42 .eql 33 5,Mv 41 42] (Cn 41 (Rs [Lq 43 3,Ld 44 5 true 4,Mv 45 2,Ca 46 29 [43,44,45],Mv 6 46] (.exit 1000000)) (Rs [Bc 48 .eql 33 6,Mv 47 48] (Cn 47 (Rs [Lq 49 3,Ld 50 5 true 4,Mv 51 2,Ca 52 30 [49,50,51],Mv 6 52] (.exit 1000000)) .skip)))))))) (Rs [Lq 53 3,Ca 54 27 [53,kB true,kI 2]] (Rs [Mi 6 0] (.exit 1000000))))))))))
def af5:List RV:=[.t 6]
def aes:IR:=(.reg [Ld 1 1 false 0,Nk 2 1,Fa 3 3 2,Pp (.ld 4 1 false false 3),Bc 5 .sub 4 1,Nk 6 1,Fa 7 3 6,Pp (.st none 1 7 5)] [])
theorem af6:FnK Tryz.prog 2 xN (λn vs hp=>am9 (wt (tab (P:=Tryz.prog) [] [] [] []) 1 Tryz.f26.ntmps [] aes) [.ea [.ptr 1 0]] agZ n Tryz.f14.ntmps af5 af4 vs hp):=at5 (imp:=[27,28,29,30,2000027,2000028,2000029,2000030]) Tryz.func14 Tryz.func26 (by simp[V.bare]) (λ_=>by kernel_rfl) (λ_=>by kernel_rfl)
def w5(N:Nat)(d:List (Bs×Int))(c:List ab)(b e:Int)(g:aa)(m:Bs):Ro:=
 let f:=λp r t q u=>(some (.int .i64 p,[some [.mp .sn r],some [.ul .atype t,.mr 0,.int .i64 q,.int .i64 u]]):Ro)
 cond (!(b==0)) (
  f 0 d c b e) (
  let o:=(Aj .i64 (e+1))
  af (ap d c b o (decide (20<o)) 3) (λa=>
   cond (!(a.2.2.1==0)) (
    f 0 a.1 a.2.1 a.2.2.1 (Aj .i64 (a.2.2.2-1))) (
    cond (g.kind==4) (
     af (iX a.1 a.2.1 a.2.2.1 a.2.2.2 g.s m) (λj=>
      f j.1 j.2.1 j.2.2.1 j.2.2.2.1 (Aj .i64 (j.2.2.2.2-1)))) (
     cond (g.kind==5) (
      af (kh a.1 a.2.1 a.2.2.1 a.2.2.2 (reJ g) m) (λh=>
       f h.1 h.2.1 h.2.2.1 h.2.2.2.1 (Aj .i64 (h.2.2.2.2-1)))) (
      cond (g.kind==6) (
       af (kj a.1 a.2.1 a.2.2.1 a.2.2.2 (reJ g) m) (λi=>
        f i.1 i.2.1 i.2.2.1 i.2.2.2.1 (Aj .i64 (i.2.2.2.2-1)))) (
       af (ap a.1 a.2.1 a.2.2.1 a.2.2.2 true 2) (λk=>
        f 0 k.1 k.2.1 k.2.2.1 (Aj .i64 (k.2.2.2-1)))))))))
def w6(N:Nat)(b:List (Bs×Int))(a:List ab)(c d:Int)(f:aa)(e:Bs):Ro:=w5 N b a c d f e
theorem aet(N:Nat)(c:List (Bs×Int))(a:List ab)(d b:Int)(p:aa)(o:Bs)(h:Tot (w6 N c a d b p o) (λz=>∃(g:Int)(k:List (Bs×Int))(m:List ab)(i:Int)(j:Int)(rest:List ai),z.1.dimR=.int .i64 g∧z.2=some [.mp .sn k]::some [.ul .atype m,.mr 0,.int .i64 i,.int .i64 j]::rest∧ix c a d b p o (g,k,m,i,j))):∃r,cR c a d b p o r:=FnK.finO (css:=[[.mp .sn c],[.ul .atype a,.mr 0,.int .i64 d,.int .i64 b]]) af6 (N:=N) (by kernel_rfl) h λ_ ⟨g,k,m,i,j,_,e,f,q⟩=>⟨(g,k,m,i,j),e,⟨_,f⟩,q⟩
noncomputable def af7:av:=tab (P:=Tryz.prog) [] [] [] []
def aeu:IR:=Rs [Mv 6 1,Mv 7 6,Gt 7 (.mov 8 0),Gt 7 (.nck 9 8),Gt 7 (.fad 10 2 9),Gt 7 (.ld 11 1 false false 10),Gt 7 (.bin 12 .eql 11 (kI 0)),Pa 13 7 12] (Cn 13 (Rg [Mv 14 0,Mv 15 2,Nk 16 14,Fa 17 2 16,Sv 1 17 15]) .skip)
def aev:List RV:=[]
theorem aew:FnC Tryz.prog af7 [] 2 wM Tryz.f27 aeu aev:=fnC Tryz.func27
def vN(N:Nat)(d:List (Bs×Int))(b:List ab)(a c:Int)(h:Bool)(g:Int):Ro:=
 let e:=λf=>(some (.tup [],[some [.mp .sn d],some [.ul .atype b,.mr 0,.int .i64 f,.int .i64 c]]):Ro)
 cond h (
  cond (a==0) (
   e g) (
   e a)) (
  e a)
def vP(N:Nat)(b:List (Bs×Int))(a:List ab)(c d:Int)(f:Bool)(e:Int):Ro:=vN N b a c d f e
theorem adj(N:Nat)(c:List (Bs×Int))(a:List ab)(d b:Int)(o:Bool)(m:Int)(h:Tot (vP N c a d b o m) (λz=>∃(g:List (Bs×Int))(j:List ab)(k:Int)(i:Int)(rest:List ai),z.1.dimR=.tup []∧z.2=some [.mp .sn g]::some [.ul .atype j,.mr 0,.int .i64 k,.int .i64 i]::rest∧gF c a d b o m (g,j,k,i))):∃r,ap c a d b o m r:=FnK.finO (css:=[[.mp .sn c],[.ul .atype a,.mr 0,.int .i64 d,.int .i64 b]]) aew (N:=N) (by kernel_rfl) h λ_ ⟨g,j,k,i,_,e,f,q⟩=>⟨(g,j,k,i),e,⟨_,f⟩,q⟩
noncomputable def aiw:av:=kf (P:=Tryz.prog) 2 [bK] [] [] [] []
def ag0:IR:=Rs [Bx 3 1,Mi 4 0] (Rs [Mv 5 0,Mv 6 0,Nk 7 6,Fa 8 0 7,Fa 9 0 8,Lo 10 9,Pp (.lnw 11 10),Bc 12 .geq 11 60,Ca 13 27 [5,12,kI 3]] (Sq (Rs [Mv 14 0,Nk 15 14,Fa 16 2 15,Lo 17 16,Bc 18 .neq 17 0] (Cn 18 (Rs [Mi 4 0] .ret) .skip)) (Sq (.reg [Mv 19 0,Mv 20 0,Nk 21 20,Fa 22 0 21,Fa 23 0 22,Fo [] [1] (.ld 24 1 false true 23),Ld 25 10 true 3,Pp (.bsl 26 .atype [25] true),Pp (.apu 27 .atype (.tk 24) 26),Nk 28 19,Fa 29 0 28,Fa 30 0 29,Fo [] [1] (.st none 1 30 (.tk 27))] [[],[],[1],[1,2],[1,2,3],rg 1 4,[],[6],rg 1 7,rg 0 8,rg 0 9,rg 0 10,rg 0 11]) (Rs [Mv 31 0,Nk 32 31,Fa 33 0 32,Fa 34 0 33,Lo 35 34,Pp (.lnw 36 35),Bc 37 .sub 36 1,Mv 4 37] .ret))))
def ag1:List RV:=[.t 4]
theorem ag2:FnC Tryz.prog aiw [27,2000027] 2 yS Tryz.f46 ag0 ag1:=pB Tryz.func46
def ya(N:Nat)(c:List (Bs×Int))(b:List ab)(d e:Int)(h:ab):Ro:=
 let i:=(↑(Aa b):Int)
 let f:=λj o p k r=>(some (.int .i64 j,[some [.mp .sn o],some [.ul .atype p,.mr 0,.int .i64 k,.int .i64 r]]):Ro)
 af (ap c b d e (decide (60<=i)) 3) (λa=>
  cond (!(a.2.2.1==0)) (
   f 0 a.1 a.2.1 a.2.2.1 a.2.2.2) (
   chk (decide ((Aa a.2.1+Aa ([h]:List ab))*160<=140737488355328)) (
    let g:=(a.2.1++([h]:List ab))
    let q:=(↑(Aa g):Int)
    let m:=(Aj .i64 (q-1))
    f m a.1 g a.2.2.1 a.2.2.2)))
def yb(N:Nat)(b:List (Bs×Int))(a:List ab)(c d:Int)(e:ab):Ro:=ya N b a c d e
theorem af8(N:Nat)(c:List (Bs×Int))(a:List ab)(d b:Int)(o:ab)(h:Tot (yb N c a d b o) (λz=>∃(g:Int)(k:List (Bs×Int))(m:List ab)(i:Int)(j:Int)(rest:List ai),z.1.dimR=.int .i64 g∧z.2=some [.mp .sn k]::some [.ul .atype m,.mr 0,.int .i64 i,.int .i64 j]::rest∧lT c a d b o (g,k,m,i,j))):∃r,c6 c a d b o r:=FnK.finO (css:=[[.mp .sn c],[.ul .atype a,.mr 0,.int .i64 d,.int .i64 b]]) ag2 (N:=N) (by kernel_rfl) h λ_ ⟨g,k,m,i,j,_,e,f,q⟩=>⟨(g,k,m,i,j),e,⟨_,f⟩,q⟩
noncomputable def qT:av:=kf (P:=Tryz.prog) 2 [bK] [] [] [] []
def tJ:IR:=Rs [Bi 17 .lss 16 15] (Sq (Cn 17 .skip (.exit 0)) (Sq (.block 1 (Rs [Ix 18 .jnode 14 16,Ld 19 5 true 18,Pp (.alr 7 5),Fz 7 5 19] (Rs [Mv 20 0,Fa 21 0 7,Lq 22 21,Bc 23 .neq 22 4,Ca 24 27 [20,23,kI 2]] (Rg [Pp (.mov 25 (.tk 5)),Fa 26 2 7,Lq 27 26,Pp (.bsl 28 .str [27] true),Pp (.app 29 .str (.tk 25) 28),Pp (.mov 5 (.tk 29))])))) (Rg [Bc 30 .add 16 1,Mv 16 30])))
def tK:IR:=Rs [Pp (.mov 31 (.tk 5)),Pp (.mov 4 (.tk 31))] .ret
def aex:IR:=Rs [Bx 3 1,Pp (.mov 4 (.c (nl .str)))] (Rs [Mv 8 0,Fa 9 0 3,Lq 10 9,Bc 11 .neq 10 5,Ca 12 27 [8,11,kI 2]] (Rs [Pp (.mov 5 (.c (nl .str)))] (Sq (Rs [Fa 13 3 3,Lq 14 13,Ll 15 14,Mi 16 0] (.block 0 (.loop [0,5,14,15,16,1000000] 2 tJ))) tK)))
def vQ:List RV:=[.t 4]
theorem aey:FnC Tryz.prog qT [27,2000027] 2 wR Tryz.f76 aex vQ:=pB Tryz.func76
def adk(R:IR->(Ex->St->Ro)->St->Ro)(a:St->Ro):Ex->St->Ro:=(ce a [0,5,14,15,16,1000000] 2 (aG 0 (bR (R tK) (fin vQ))))
abbrev lu:Type:=(Bss×List aa×Int×Int×List (Bs×Int)×List ab×Int×Int)
def kL(x:lu):St:={env:=(.ptr 1 0::(U 4 (.sl .str .own x.1::(U 8 (.sl .jnode (.may false) x.2.1::.int .i64 x.2.2.1::.int .i64 x.2.2.2.1::(U 15 [])))))),hp:=[some [.mp .sn x.2.2.2.2.1],some [.ul .atype x.2.2.2.2.2.1,.mr 0,.int .i64 x.2.2.2.2.2.2.1,.int .i64 x.2.2.2.2.2.2.2]]}
def pc(N:Nat):(St->Ro)->St->Ro:=λa s=>run qT N tJ (adk (run qT N) a) s
def lv(N:Nat)(a:lu->Ro)(x:lu):Ro:=
 let k:Bss:=x.1;let g:List aa:=x.2.1;let h:Int:=x.2.2.1;let b:Int:=x.2.2.2.1;let d:List (Bs×Int):=x.2.2.2.2.1;let c:List ab:=x.2.2.2.2.2.1;let e:Int:=x.2.2.2.2.2.2.1;let f:Int:=x.2.2.2.2.2.2.2
 cond (decide (b<h)) (
  chk (ixl b g) (
   let j:=(Ak g (Ae b) (am .jnode))
   af (ap d c e f (!(j.kind==4)) 2) (λi=>
    chk (decide ((Aa k+Aa ([j.s]:Bss))*16<=140737488355328)) (
     let o:=(k++([j.s]:Bss))
     let m:=(Aj .i64 (b+1))
     a (o,g,h,m,i.1,i.2.1,i.2.2.1,i.2.2.2))))) (
  some (.sl .str .own k,[some [.mp .sn d],some [.ul .atype c,.mr 0,.int .i64 e,.int .i64 f]]))
theorem acl(N:Nat):LB (pc N) kL (lv N):=λ_ _=>by kernel_rfl
def jF(N:Nat)(c:List (Bs×Int))(a:List ab)(d b:Int)(f:aa)(h:lu->Ro):Ro:=
 af (ap c a d b (!(f.kind==5)) 2) (λe=>
  let g:=(↑(Aa f.l):Int)
  h (([]:Bss),f.l,g,0,e.1,e.2.1,e.2.2.1,e.2.2.2))
def vR(N:Nat)(b:List (Bs×Int))(a:List ab)(c d:Int)(e:aa):Ro:=jF N b a c d e (λz=>aO N (lv N) z)
theorem adl(N:Nat)(d:List (Bs×Int))(a:List ab)(g c:Int)(i:aa)(h:Tot (vR N d a g c i) (λz=>∃(j:Bss)(o:List (Bs×Int))(p:List ab)(k:Int)(m:Int)(rest:List ai),z.1.dimR=.sl .str (.may false) j∧z.2=some [.mp .sn o]::some [.ul .atype p,.mr 0,.int .i64 k,.int .i64 m]::rest∧nC d a g c i (j,o,p,k,m))):∃r,fj d a g c i r:=FnK.finO (css:=[[.mp .sn d],[.ul .atype a,.mr 0,.int .i64 g,.int .i64 c]]) aey (N:=N) ((cV _ (by kernel_rfl) rfl (λC=>jF N d a g c i (λz=>C 1000000 (kL z))) (λC=>by kernel_rfl)).trans (A3 (b:=jF N d a g c i (λz=>bg N (pc N) (kL z))) (by kernel_rfl) (congrArg (jF N d a g c i) (funext λz=>bz (kL) (pc N) (lv N) (acl N) N z)))) h λ_ ⟨j,o,p,k,m,_,e,f,q⟩=>⟨(j,o,p,k,m),e,⟨_,f⟩,q⟩
noncomputable def ag3:av:=kf (P:=Tryz.prog) 2 [bK] [] [] [] [lh]
def af9:IR:=Rs [Bx 3 1,Ms 4 []] (Rs [Ld 8 5 true 3,Ca 9 48 [8,kS [110,97,109,101]],Mv 7 9,Ex_ 10 0 7,Ex_ 11 1 7,Pp (.alr 5 5),Fz 5 5 10,Mv 6 11] (Rs [Mv 12 0,Fa 13 0 5,Lq 14 13,Bc 15 .neq 14 4,Ca 16 27 [12,15,kI 2]] (Rs [Fa 17 2 5,Lq 18 17,Mv 4 18] .ret)))
def aga:List RV:=[.t 4]
theorem agb:FnC Tryz.prog ag3 [27,2000027] 2 xL Tryz.f60 af9 aga:=pB Tryz.func60
def w7(N:Nat)(b:List (Bs×Int))(a:List ab)(c d:Int)(g:aa):Ro:=
 af (du (reJ g) ([110,97,109,101]:Bs)) (λf=>
  af (ap b a c d (!(f.1.kind==4)) 2) (λe=>
   some (.str f.1.s,[some [.mp .sn e.1],some [.ul .atype e.2.1,.mr 0,.int .i64 e.2.2.1,.int .i64 e.2.2.2]])))
def w9(N:Nat)(b:List (Bs×Int))(a:List ab)(c d:Int)(e:aa):Ro:=w7 N b a c d e
theorem aez(N:Nat)(c:List (Bs×Int))(a:List ab)(d b:Int)(o:aa)(h:Tot (w9 N c a d b o) (λz=>∃(g:Bs)(k:List (Bs×Int))(m:List ab)(i:Int)(j:Int)(rest:List ai),z.1.dimR=.str g∧z.2=some [.mp .sn k]::some [.ul .atype m,.mr 0,.int .i64 i,.int .i64 j]::rest∧uo c a d b o (g,k,m,i,j))):∃r,iY c a d b o r:=FnK.finO (css:=[[.mp .sn c],[.ul .atype a,.mr 0,.int .i64 d,.int .i64 b]]) agb (N:=N) (by kernel_rfl) h λ_ ⟨g,k,m,i,j,_,e,f,q⟩=>⟨(g,k,m,i,j),e,⟨_,f⟩,q⟩
noncomputable def agc:av:=kf (P:=Tryz.prog) 2 [bK] [] [] [] [qA,jW,ajj]
def aeA:IR:=Rs [Ms 6 []] (Sq (Rs [Mv 7 1,Ca 8 59 [7,kS [46]],Un 9 8,Mv 10 9,Gt 10 (.mov 11 2),Gt 10 (.bin 12 .neq 11 (kS [])),Pa 13 10 12] (Cn 13 (Rg [Mv 14 2,Pp (.bin 15 .add 14 (kS [46])),Mv 16 1,Bi 17 .add 15 16,Mv 1 17]) .skip)) (Rs [Mv 18 0,Mv 19 1,Ca 20 73 [19,kS [46]],Ca 21 72 [20,.c (.fn 74 [])],Ca 22 27 [18,21,kI 6]] (Rs [Mv 23 1,Mv 6 23] .ret)))
def aeB:List RV:=[.t 6]
theorem aeC:FnC Tryz.prog agc [27,2000027] 2 wT Tryz.f61 aeA aeB:=pB Tryz.func61
def vU(N:Nat)(b:List (Bs×Int))(a:List ab)(c d:Int)(f i:Bs):Ro:=
 let j:=λv u r x t=>(some (.str v,[some [.mp .sn u],some [.ul .atype r,.mr 0,.int .i64 x,.int .i64 t]]):Ro)
 af (gJ f ([46]:Bs)) (λ(p:Bool)=>
  cond (!p) (
   let m:=(!decide (i=([]:Bs)))
   cond m (
    chk (decide (Aa i+Aa ([46]:Bs)<=9223372036854775807)) (
     let k:=(i++([46]:Bs))
     chk (decide (Aa k+Aa f<=9223372036854775807)) (
      af (iA (k++f) ([46]:Bs)) (λ(o:Bss)=>
       af (aD o) (λ(w:Bool)=>
        af (ap b a c d w 6) (λg=>
         j (k++f) g.1 g.2.1 g.2.2.1 g.2.2.2)))))) (
    af (iA f ([46]:Bs)) (λ(y:Bss)=>
     af (aD y) (λ(A:Bool)=>
      af (ap b a c d A 6) (λh=>
       j f h.1 h.2.1 h.2.2.1 h.2.2.2))))) (
   af (iA f ([46]:Bs)) (λ(q:Bss)=>
    af (aD q) (λ(B:Bool)=>
     af (ap b a c d B 6) (λe=>
      j f e.1 e.2.1 e.2.2.1 e.2.2.2)))))
def vV(N:Nat)(b:List (Bs×Int))(a:List ab)(c d:Int)(f e:Bs):Ro:=vU N b a c d f e
theorem adm(N:Nat)(c:List (Bs×Int))(a:List ab)(d b:Int)(p o:Bs)(h:Tot (vV N c a d b p o) (λz=>∃(g:Bs)(k:List (Bs×Int))(m:List ab)(i:Int)(j:Int)(rest:List ai),z.1.dimR=.str g∧z.2=some [.mp .sn k]::some [.ul .atype m,.mr 0,.int .i64 i,.int .i64 j]::rest∧kA c a d b p o (g,k,m,i,j))):∃r,fh c a d b p o r:=FnK.finO (css:=[[.mp .sn c],[.ul .atype a,.mr 0,.int .i64 d,.int .i64 b]]) aeC (N:=N) (by kernel_rfl) h λ_ ⟨g,k,m,i,j,_,e,f,q⟩=>⟨(g,k,m,i,j),e,⟨_,f⟩,q⟩
noncomputable def agd:av:=kf (P:=Tryz.prog) 2 [bK] [] [] [] [qA]
def aeD:IR:=Rs [Mi 6 0] (Sq (Rs [Mv 11 2,Pp (.bin 12 .neq 11 (kS [])),Mv 13 12,Gt 13 (.mov 14 1),Gt 13 (.call 15 59 [14,kS [46]]),Gt 13 (.un 16 .not 15),Pa 17 13 16] (Cn 17 (Rs [Mv 19 0,Nk 20 19,Fa 21 1 20,Lo 22 21,Mv 23 2,Pp (.bin 24 .add 23 (kS [46])),Mv 25 1,Bi 26 .add 24 25,Pp (.mget 27 .sn true (.t 22) (.t 26)),Mv 18 27,Ex_ 28 0 18,Ex_ 29 1 18,Mv 7 28,Mv 8 29] (Rs [Mv 30 8] (Cn 30 (Rs [Mv 31 7,Mv 6 31] .ret) .skip))) .skip)) (Rs [Mv 33 0,Nk 34 33,Fa 35 1 34,Lo 36 35,Mv 37 1,Pp (.mget 38 .sn true (.t 36) (.t 37)),Mv 32 38,Ex_ 39 0 32,Ex_ 40 1 32,Mv 9 39,Mv 10 40] (Rs [Mv 41 0,Mv 42 10,Un 43 42,Ca 44 27 [41,43,kI 4]] (Rs [Mv 45 9,Mv 6 45] .ret))))
def aeE:List RV:=[.t 6]
theorem aeF:FnC Tryz.prog agd [27,2000027] 2 wP Tryz.f47 aeD aeE:=pB Tryz.func47
def vW(N:Nat)(a:List (Bs×Int))(b:List ab)(c d:Int)(e j:Bs):Ro:=
 let p:=(!decide (j=([]:Bs)))
 let g:=λy x v C w=>(some (.int .i64 y,[some [.mp .sn x],some [.ul .atype v,.mr 0,.int .i64 C,.int .i64 w]]):Ro)
 cond p (
  af (gJ e ([46]:Bs)) (λ(q:Bool)=>
   cond (!q) (
    chk (decide (Aa j+Aa ([46]:Bs)<=9223372036854775807)) (
     let m:=(j++([46]:Bs))
     chk (decide (Aa m+Aa e<=9223372036854775807)) (
      let D:=(dv (k:=.sn) a (m++e))
      let B:=(CI (aX (k:=.sn) a (m++e)))
      cond B (
       g D a b c d) (
       let A:=(dv (k:=.sn) a e)
       let t:=(CI (aX (k:=.sn) a e))
       af (ap a b c d (!t) 4) (λf=>
        g A f.1 f.2.1 f.2.2.1 f.2.2.2))))) (
    let r:=(dv (k:=.sn) a e)
    let E:=(CI (aX (k:=.sn) a e))
    af (ap a b c d (!E) 4) (λh=>
     g r h.1 h.2.1 h.2.2.1 h.2.2.2)))) (
  let u:=(dv (k:=.sn) a e)
  let o:=(CI (aX (k:=.sn) a e))
  af (ap a b c d (!o) 4) (λi=>
   g u i.1 i.2.1 i.2.2.1 i.2.2.2))
def vX(N:Nat)(b:List (Bs×Int))(a:List ab)(c d:Int)(f e:Bs):Ro:=vW N b a c d f e
theorem adn(N:Nat)(c:List (Bs×Int))(a:List ab)(d b:Int)(p o:Bs)(h:Tot (vX N c a d b p o) (λz=>∃(g:Int)(k:List (Bs×Int))(m:List ab)(i:Int)(j:Int)(rest:List ai),z.1.dimR=.int .i64 g∧z.2=some [.mp .sn k]::some [.ul .atype m,.mr 0,.int .i64 i,.int .i64 j]::rest∧gG c a d b p o (g,k,m,i,j))):∃r,gI c a d b p o r:=FnK.finO (css:=[[.mp .sn c],[.ul .atype a,.mr 0,.int .i64 d,.int .i64 b]]) aeF (N:=N) (by kernel_rfl) h λ_ ⟨g,k,m,i,j,_,e,f,q⟩=>⟨(g,k,m,i,j),e,⟨_,f⟩,q⟩
noncomputable def ag4:av:=kf (P:=Tryz.prog) 2 [oK,afy] [] [] [] [yU,fD]
def age:IR:=Rs [Mi 6 0] (Rs [Ca 8 41 [],Mv 9 1,Ca 10 45 [8,9],Mv 7 10] (Sq (Rs [Mv 11 7,Bc 12 .geq 11 1,Mv 13 12,Gt 13 (.mov 14 7),Gt 13 (.bin 15 .leq 14 (kI 8)),Pa 16 13 15] (Cn 16 (Rs [Mv 17 0,Mv 18 7,Pp (.bld 19 [vI 0,vS,fu .str true,vI 0,fu .str true,.bool false,vS,vI 0,fu .afield true,fu (.num .i64) true] [(0,1,18)]),Ca 20 46 [17,19],Mv 6 20] .ret) .skip)) (Rs [Mv 21 0,Mv 22 1,Mv 23 2,Ca 24 47 [21,22,23],Mv 6 24] .ret)))
def agf:List RV:=[.t 6]
theorem agh:FnC Tryz.prog ag4 [46,47,2000046,2000047] 2 xM Tryz.f28 age agf:=pB Tryz.func28
def xc(N:Nat)(b:List (Bs×Int))(a:List ab)(c d:Int)(j k:Bs):Ro:=
 let h:=λm p q o r=>(some (.int .i64 m,[some [.mp .sn p],some [.ul .atype q,.mr 0,.int .i64 o,.int .i64 r]]):Ro)
 af (gf) (λ(t:Bss)=>
  af (aZ t j) (λ(i:Int)=>
   cond (decide (1<=i)) (
    cond (decide (i<=8)) (
     af (c6 b a c d ⟨i,([]:Bs),([]:Bss),0,([]:Bss),false,([]:Bs),0,([]:List aA),([]:List Int)⟩) (λe=>
      h e.1 e.2.1 e.2.2.1 e.2.2.2.1 e.2.2.2.2)) (
     af (gI b a c d j k) (λf=>
      h f.1 f.2.1 f.2.2.1 f.2.2.2.1 f.2.2.2.2))) (
    af (gI b a c d j k) (λg=>
     h g.1 g.2.1 g.2.2.1 g.2.2.2.1 g.2.2.2.2))))
def xd(N:Nat)(b:List (Bs×Int))(a:List ab)(c d:Int)(f e:Bs):Ro:=xc N b a c d f e
theorem aeG(N:Nat)(c:List (Bs×Int))(a:List ab)(d b:Int)(p o:Bs)(h:Tot (xd N c a d b p o) (λz=>∃(g:Int)(k:List (Bs×Int))(m:List ab)(i:Int)(j:Int)(rest:List ai),z.1.dimR=.int .i64 g∧z.2=some [.mp .sn k]::some [.ul .atype m,.mr 0,.int .i64 i,.int .i64 j]::rest∧iw c a d b p o (g,k,m,i,j))):∃r,iX c a d b p o r:=FnK.finO (css:=[[.mp .sn c],[.ul .atype a,.mr 0,.int .i64 d,.int .i64 b]]) agh (N:=N) (by kernel_rfl) h λ_ ⟨g,k,m,i,j,_,e,f,q⟩=>⟨(g,k,m,i,j),e,⟨_,f⟩,q⟩
noncomputable def aeH:av:=kf (P:=Tryz.prog) 2 [wU] [] [] [] []
def ado:IR:=Rs [Ms 4 []] (Rs [Lq 5 1,Mv 6 0,Lo 7 2,Ca 8 61 [5,6,7],Mv 4 8] .ret)
def adp:List RV:=[.t 4]
theorem adq:FnC Tryz.prog aeH [61,2000061] 3 vt Tryz.f64 ado adp:=pB Tryz.func64
def uU(N:Nat)(c:List (Bs×Int))(b:List ab)(d e:Int)(a g:Bs):Ro:=
 af (fh c b d e g a) (λf=>
  some (.str f.1,[some [.mp .sn f.2.1],some [.ul .atype f.2.2.1,.mr 0,.int .i64 f.2.2.2.1,.int .i64 f.2.2.2.2],some [.str a]]))
def uV(N:Nat)(b:List (Bs×Int))(a:List ab)(d e:Int)(c f:Bs):Ro:=uU N b a d e c f
theorem acm(N:Nat)(b:List (Bs×Int))(a:List ab)(d g:Int)(c t:Bs)(h:Tot (uV N b a d g c t) (λz=>∃(i:Bs)(o:List (Bs×Int))(p:List ab)(k:Int)(m:Int)(j:Bs)(rest:List ai),z.1.dimR=.str i∧z.2=some [.mp .sn o]::some [.ul .atype p,.mr 0,.int .i64 k,.int .i64 m]::some [.str j]::rest∧rR b a d g c t (i,o,p,k,m,j))):∃r,jB b a d g c t r:=FnK.finO (css:=[[.mp .sn b],[.ul .atype a,.mr 0,.int .i64 d,.int .i64 g],[.str c]]) adq (N:=N) (by kernel_rfl) h λ_ ⟨i,o,p,k,m,j,_,e,f,q⟩=>⟨(i,o,p,k,m,j),e,⟨_,f⟩,q⟩
noncomputable def acn:av:=kf (P:=Tryz.prog) 2 [bK] [] [] [] [wC]
def aa7:IR:=Rs [Ms 3 []] (Sq (.reg [Lq 4 1,Mv 5 0,Ca 6 75 [5],Un 7 6,Fo [] [0,1] (.call 8 27 [4,7,kI 6])] [[],[],[1],[1,2],rg 0 3]) (Rs [Mv 9 0,Mv 3 9] .ret))
def aa8:List RV:=[.t 3]
theorem aa9:FnC Tryz.prog acn [27,2000027] 2 tj Tryz.f85 aa7 aa8:=pB Tryz.func85
def sm(N:Nat)(b:List (Bs×Int))(a:List ab)(c d:Int)(f:Bs):Ro:=
 af (lF f) (λ(g:Bool)=>
  af (ap b a c d (!g) 6) (λe=>
   some (.str f,[some [.mp .sn e.1],some [.ul .atype e.2.1,.mr 0,.int .i64 e.2.2.1,.int .i64 e.2.2.2]])))
def sq(N:Nat)(b:List (Bs×Int))(a:List ab)(c d:Int)(e:Bs):Ro:=sm N b a c d e
theorem zP(N:Nat)(b:List (Bs×Int))(a:List ab)(c d:Int)(o:Bs)(h:Tot (sq N b a c d o) (λz=>∃(g:Bs)(k:List (Bs×Int))(m:List ab)(i:Int)(j:Int)(rest:List ai),z.1.dimR=.str g∧z.2=some [.mp .sn k]::some [.ul .atype m,.mr 0,.int .i64 i,.int .i64 j]::rest∧qq b a c d o (g,k,m,i,j))):∃r,gL b a c d o r:=FnK.finO (css:=[[.mp .sn b],[.ul .atype a,.mr 0,.int .i64 c,.int .i64 d]]) aa9 (N:=N) (by kernel_rfl) h λ_ ⟨g,k,m,i,j,_,e,f,q⟩=>⟨(g,k,m,i,j),e,⟨_,f⟩,q⟩
theorem ks(g:List (List UInt8×Int))(h:List ab)(e d:Int)(b:Bool)(c:Int):∃r,ap g h e d b c r:=by
 apply adj 1;unfold vP vN;dsimp only;refine ac (λf=>ac (λa=>aj ⟨_,_,_,_,_,rfl,rfl,?_⟩) λa=>aj ⟨_,_,_,_,_,rfl,rfl,?_⟩) λf=>aj ⟨_,_,_,_,_,rfl,rfl,?_⟩
 ·simp only[gF,ak,f,beq_iff_eq.1 a,and_self,if_true]
 ·have:e≠0:=by simpa using a
  simp only[gF,ak,this,and_false,if_false]
 ·simp only[gF,ak,f,false_and,if_false,B3]
theorem db(m:MS)(b:Bool)(c:Int):∃r,ap m.1 m.2.1 m.2.2.1 m.2.2.2 b c r:=ks _ _ _ _ b c
theorem dc{m:MS}{b:Bool}{c:Int}{r:MS}(h:ap m.1 m.2.1 m.2.2.1 m.2.2.2 b c r):r=ak m b c:=h.2
theorem anQ(c:List (List UInt8×Int))(a:List ab)(e d:Int)(t:ab)(o:a.length<=60):∃r,c6 c a e d t r:=by
 apply af8 1;unfold yb ya;dsimp only;refine ag (ks _ _ _ _ _ _) ?_;rintro _ ⟨-,rfl⟩;have k:decide ((60:Int)<=(a.length:Int))=decide (60<=a.length):=by
  by_cases h:60<=a.length;·rw[decide_eq_true h,decide_eq_true (by omega)]
  ·rw[decide_eq_false h,decide_eq_false (by omega)]
 rw[k];by_cases h:e≠0∨60<=a.length
 ·have g:(ak (c,a,e,d) (decide (60<=a.length)) 3).2.2.1 ≠0:=by
   simp only[ak];by_cases b:e=0;·rw[if_pos ⟨decide_eq_true (by rcases h with h|h;exact absurd b h;exact h),b⟩];decide
   ·rw[if_neg (λj=>b j.2)];exact b
  refine ac (λ_=>aj ⟨_,_,_,_,_,_,rfl,rfl,?_⟩) (λf=>absurd (by simpa using f) g);simp only[lT,aR];rw[if_pos h]
 ·have b:e=0:=by omega
  have i:¬60<=a.length:=by omega
  subst b;have m:ak (c,a,(0:Int),d) (decide (60<=a.length)) 3=(c,a,0,d):=by simp only[ak,decide_eq_false i,B3,false_and,if_false]
  rw[m];refine ac (λf=>absurd f (by simp)) (λ_=>?_);refine vck ?_ (decide_eq_true (by simp;omega));refine aj ⟨_,_,_,_,_,_,rfl,rfl,?_⟩;simp only[lT,aR];rw[if_neg h];have:IntKind.i64.wrap (((a++[t]).length:Int)-1)=(a.length:Int):=by rw[ax _ (by simp;omega)];simp
  rw[this]
theorem anR(m:MS)(t:ab)(a:m.2.1.length<=60):∃r,c6 m.1 m.2.1 m.2.2.1 m.2.2.2 t r:=anQ _ _ _ _ t a
theorem anS{m:MS}{t:ab}{r:Int×MS}(h:c6 m.1 m.2.1 m.2.2.1 m.2.2.2 t r):r=aR m t:=h.2
theorem anT(b:List (List UInt8×Int))(c:List ab)(e d:Int)(n:aa)(a:n.names.length<=1000000):∃r,iY b c e d n r:=by apply aez 1;unfold w9 w7;rw[bo];refine ag (kW n _ a) ?_;rintro _ ⟨-,rfl⟩;refine ag (ks _ _ _ _ _ _) ?_;rintro _ ⟨-,rfl⟩;exact aj ⟨_,_,_,_,_,_,rfl,rfl,rfl⟩
theorem asu(k:Nat)(s:List UInt8):(Go.Lib.splitK [46] 0 k s).length<=k+1:=by
 induction k generalizing s with
 |zero=>simp[Go.Lib.splitK]
 |succ k a=>
  unfold Go.Lib.splitK;split;·simp
  ·simpa using a _
theorem ahx(s:List UInt8)(d:s.length<=100000):(Go.Lib.split s [46]).length<=1000000∧∀x∈Go.Lib.split s [46],x.length<=1000000:=by
 have a:=asu (Go.Lib.count s [46]) s;have c:Go.Lib.count s [46]<=s.length:=by rw[Go.Lib.count_one];exact List.count_le_length
 refine⟨AH a (by omega),λx b=>?_⟩;have:=ac3 _ s x b;omega
theorem adr(j:List (List UInt8×Int))(g:List ab)(e d:Int)(name a:List UInt8)(y:name.length<=1000)(A:a.length<=10000):∃r,fh j g e d name a r:=by
 apply adm 1;unfold vV vU;dsimp only;refine ag (xx _ 46) ?_;rintro _ ⟨-,rfl⟩
 have b:∀c:List UInt8,c.length<=100000->c=(if dq name 46=false∧a≠[] then a++[46]++name else name)->
   Tot (af (iA c [46]) λv=>af (aD v) λw=>af (ap j g e d w 6) λf=>
    (some (.str c,[some [.mp .sn f.1],some [.ul .atype f.2.1,.mr 0,.int .i64 f.2.2.1,.int .i64 f.2.2.2]]):Ro))
    (λz=>∃(p:Bs)(q:List (Bs×Int))(o:List ab)(t u:Int)(rest:List ai),z.1.dimR=.str p∧z.2=some [.mp .sn q]::some [.ul .atype o,.mr 0,.int .i64 t,.int .i64 u]::rest∧kA j g e d name a (p,q,o,t,u)):=by
  intro c m x;refine ag (aqk c m) ?_;rintro _ ⟨-,rfl⟩;refine ag (aio _ (ahx c m).1 (ahx c m).2) ?_;rintro _ ⟨-,rfl⟩;refine ag (ks _ _ _ _ _ _) ?_;rintro _ ⟨-,rfl⟩;refine aj ⟨_,_,_,_,_,_,rfl,rfl,?_⟩;simp only[kA,bJ];rw[<-x]
 refine ac (λi=>ac (λk=>?_) λk=>?_) λi=>?_
 ·refine vck ?_ (decide_eq_true (by simp;omega));refine vck ?_ (decide_eq_true (by simp;omega));refine b _ (by simp;omega) ?_;rw[if_pos ⟨by simpa using i,by simpa using k⟩]
 ·refine b _ (by omega) ?_;rw[if_neg (λh=>h.2 (by simpa using k))]
 ·refine b _ (by omega) ?_;rw[if_neg (λh=>absurd (h.1.symm.trans (show dq name 46=true by simpa using i)) (by decide))]
theorem ajQ(c:List (List UInt8×Int))(j:List ab)(e d:Int)(s a:List UInt8)(w:s.length<=1000)(x:a.length<=10000):∃r,gI c j e d s a r:=by
 apply adn 1;unfold vX vW;dsimp only
 have b:¬(a≠[]∧dq s 46=false∧(aX (k:=.sn) c (a++[46]++s)).isSome=true)->
   Tot (af (ap c j e d (!(aX (k:=.sn) c s).isSome) 4) λf=>(some (.int .i64 (dv (k:=.sn) c s),[some [.mp .sn f.1],some [.ul .atype f.2.1,.mr 0,.int .i64 f.2.2.1,.int .i64 f.2.2.2]]):Ro))
    (λz=>∃(p:Int)(u:List (Bs×Int))(v:List ab)(q t:Int)(rest:List ai),z.1.dimR=.int .i64 p∧z.2=some [.mp .sn u]::some [.ul .atype v,.mr 0,.int .i64 q,.int .i64 t]::rest∧gG c j e d s a (p,u,v,q,t)):=by
  intro g;refine ag (ks _ _ _ _ _ _) ?_;rintro _ ⟨-,rfl⟩;refine aj ⟨_,_,_,_,_,_,rfl,rfl,?_⟩;simp only[gG,ga];rw[if_neg g]
 refine ac (λo=>?_) λo=>b (λh=>h.1 (by simpa using o))
 refine ag (xx _ 46) ?_;rintro _ ⟨-,rfl⟩;refine ac (λm=>?_) λm=>b (λh=>absurd (h.2.1.symm.trans (show dq s 46=true by simpa using m)) (by decide))
 refine vck ?_ (decide_eq_true (by simp;omega));refine vck ?_ (decide_eq_true (by simp;omega));refine ac (λi=>?_) λi=>b (λh=>by rw[i] at h;exact absurd h.2.2 (by decide))
 refine aj ⟨_,_,_,_,_,_,rfl,rfl,?_⟩;simp only[gG,ga];rw[if_pos ⟨by simpa using o,by simpa using m,i⟩]
theorem alK(j:List (List UInt8×Int))(g:List ab)(e d:Int)(s a:List UInt8)(k:g.length<=60)(f:s.length<=1000)(i:a.length<=10000):∃r,iX j g e d s a r:=by
 apply aeG 1;unfold xd xc;dsimp only;refine ag aa2 ?_;rintro _ ⟨-,rfl⟩;refine ag (aap _ _ (by decide)) ?_;rintro _ ⟨-,rfl⟩;refine ac (λb=>ac (λc=>?_) λc=>?_) λb=>?_
 ·refine ag (anQ _ _ _ _ _ k) ?_;rintro _ ⟨-,rfl⟩;refine aj ⟨_,_,_,_,_,_,rfl,rfl,?_⟩;simp only[iw,dE];rw[if_pos ⟨of_decide_eq_true b,of_decide_eq_true c⟩];rfl
 ·refine ag (ajQ _ _ _ _ _ _ f i) ?_;rintro _ ⟨-,rfl⟩;refine aj ⟨_,_,_,_,_,_,rfl,rfl,?_⟩;simp only[iw,dE];rw[if_neg (λh=>of_decide_eq_false c h.2)]
 ·refine ag (ajQ _ _ _ _ _ _ f i) ?_;rintro _ ⟨-,rfl⟩;refine aj ⟨_,_,_,_,_,_,rfl,rfl,?_⟩;simp only[iw,dE];rw[if_neg (λh=>of_decide_eq_false b h.1)]
theorem ads(p:List (List UInt8×Int))(t:List ab)(e d:Int)(n:aa)(A:n.l.length<=1000):∃r,fj p t e d n r:=by
 apply adl 2000;unfold vR jF;refine ag (ks _ _ _ _ _ _) ?_;rintro _ ⟨-,rfl⟩;refine a8 (λx=>match x with|(a,l,c,i,m)=>l=n.l∧c=(n.l.length:Int)∧(0<=i∧i<=(n.l.length:Int))∧a=(n.l.take i.toNat).map aa.s∧rP n.l (ak (p,t,e,d) (!(n.kind==5)) 2)=rP (n.l.drop i.toNat) m) (λx=>((n.l.length:Int)-x.2.2.2.1).toNat) ?_ _ _ ⟨rfl,rfl,⟨by simp,by simp⟩,by simp,by simp⟩ (by simp;omega);rintro g ⟨a,l,c,i,m⟩ ⟨rfl,rfl,⟨o,y⟩,rfl,f⟩ q;dsimp only at q;unfold lv;dsimp only;refine ac (λj=>?_) (λj=>aj ⟨_,_,_,_,_,_,rfl,rfl,?_⟩)
 ·have b:i<(n.l.length:Int):=of_decide_eq_true j;have k:i.toNat<n.l.length:=by omega
  have w:=iZ (d:=(am .jnode:aa)) ⟨o,b⟩;rw[w] at f;refine vck ?_ (by simp[ixl,o,b]);refine ag (db m _ _) ?_;intro r u;obtain rfl:=dc u;refine vck ?_ (decide_eq_true (by simp;omega));have v:IntKind.i64.wrap (i+1)=i+1:=ax (i+1) (by omega);rw[v];refine q _ ⟨rfl,rfl,⟨by dsimp only;omega,by dsimp only;omega⟩,?_,?_⟩ (by simp only;omega);·dsimp only;rw[show (i+1).toNat=i.toNat+1 by omega,List.take_succ,BL,Ab k,Af,Ab k];rfl
  ·exact f
 ·have h:(n.l.length:Int)<=i:=by have:=of_decide_eq_false j;omega
  rw[mU h] at f;simp only[nC,b9];rw[f,Bv (by omega)];rfl
theorem asv(c:List (List UInt8×Int))(a:List ab)(e d:Int)(sp s:List UInt8)(b:s.length<=1000)(f:sp.length<=10000):∃r,jB c a e d sp s r:=by apply acm 1;unfold uV uU;refine ag (adr _ _ _ _ _ _ b f) ?_;rintro _ ⟨-,rfl⟩;exact aj ⟨_,_,_,_,_,_,_,rfl,rfl,rfl⟩
theorem aqy(b:List (List UInt8×Int))(a:List ab)(e d:Int)(s:List UInt8)(c:s.length<=1000):∃r,gL b a e d s r:=by apply zP 1;unfold sq sm;refine ag (ac4 _ (by omega)) ?_;rintro _ ⟨-,rfl⟩;refine ag (ks _ _ _ _ _ _) ?_;rintro _ ⟨-,rfl⟩;exact aj ⟨_,_,_,_,_,_,rfl,rfl,rfl⟩
structure qU(k:Nat)(m:MS):Prop where
 cap:m.2.1.length<=60
 map:fQ m
 d0:0<=m.2.2.2∧m.2.2.2<=20
 dk:21-m.2.2.2.toNat=k
theorem qU.keep{k:Nat}{m m':MS}(h:qU k m)(q:a6 m m'):qU k m':=⟨q.cap h.cap,q.map h.map,by rw[q.dep];exact h.d0,by rw[q.dep];exact h.dk⟩
def TT(k:Nat):Prop:=∀(m:MS)(n:aa)(a:List UInt8),qU k m->aE n->a.length<=10000-300*k->∃r,cR m.1 m.2.1 m.2.2.1 m.2.2.2 n a r
theorem yx{k:Nat}{m:MS}{n:aa}{a:List UInt8}{r:Int×MS}(h:cR m.1 m.2.1 m.2.2.1 m.2.2.2 n a r)(g:qU k m):r=bh k m n a:=by have:=h.2;unfold ix aq at this;rw[g.dk] at this;exact this
theorem alL{k:Nat}(y:TT k)(m:MS)(n:aa)(kind:Int)(u a:List UInt8)(g:qU k m)(j:aE n)(G:a.length<=10000-300*k):∃r,fg m.1 m.2.1 m.2.2.1 m.2.2.2 n kind u a r:=by
 apply adf 1;unfold vH vG;rw[bo];refine ag (anR m _ g.cap) ?_;intro b A;have f:=anS A;have B:a6 m b.2:=by rw[f];exact mP _ _
 refine ag (kW n u (by have:=j.sizes;omega)) ?_;intro o D;have p:o=ao n u:=D.2;refine ag (db b.2 _ _) ?_;intro v C;have h:=dc C;have w:a6 m v:=by rw[h];exact B.trans (ay _ _ _)
 rw[bo];refine ag (y v o.1 a (g.keep w) (by rw[p];exact dK j) G) ?_;intro c E;have q:=yx E (g.keep w);have F:a6 b.2 c.2:=by rw[q,h];exact(ay _ _ _).trans (fU k _ _ _)
 have x:de (aq m.2.2.2) m n kind u a=(b.1,if c.2.2.2.1=0 then atT c.2 b.1 (ahU · c.1) else c.2):=by simp only[de,aq,g.dk];rw[show aR m (bk kind)=b from f.symm,<-p,<-h,<-q]
 refine ac (λi=>?_) (λi=>aj ⟨_,_,_,_,_,_,rfl,rfl,?_⟩)
 ·have e:c.2.2.2.1=0:=by simpa using i
  have d:0<=b.1∧b.1<(c.2.2.1.length:Int):=by have:=yM (m:=m) (t:=bk kind) (m':=c.2) (by rw[show aR m (bk kind)=b from f.symm];exact F) e;rw[show aR m (bk kind)=b from f.symm] at this;exact this
  refine vck ?_ (decide_eq_true (by omega));refine vck ?_ (by simp[d.1,d.2]);refine vck ?_ (decide_eq_true (by omega));dsimp only;refine vck ?_ (by simp);refine aj ⟨_,_,_,_,_,_,rfl,rfl,?_⟩;show (_:Int×MS)=de (aq m.2.2.2) m n kind u a;rw[x,if_pos e];rfl
 ·have e:¬c.2.2.2.1=0:=by simpa using i
  show (_:Int×MS)=de (aq m.2.2.2) m n kind u a;rw[x,if_neg e]
theorem anU(n:Nat):((n:Int)==0)=decide (n=0):=by
 by_cases h:n=0;·subst h;rfl
 ·rw[decide_eq_false h];simpa using h
theorem anV(c n:Nat):decide ((c:Int)<(n:Int))=decide (c<n):=by
 by_cases h:c<n;·rw[decide_eq_true h,decide_eq_true (by omega)]
 ·rw[decide_eq_false h,decide_eq_false (by omega)]
theorem aqz{k:Nat}(hT:TT k)(m:MS)(n:aa)(a:List UInt8)(g:qU k m)(hn:aE n)(ha:a.length<=10000-300*k):∃r,kh m.1 m.2.1 m.2.2.1 m.2.2.2 n a r:=by
 apply adi 100;unfold vM jE;obtain⟨b2,b0,b4,Y⟩:=hn.sizes;refine ag (anR m _ g.cap) ?_;intro c h1;have I:=anS h1;have q1:a6 m c.2:=by rw[I];exact mP _ _
 dsimp only;refine ag (db c.2 _ _) ?_;intro r2 h2;have P:=dc h2;refine ag (db r2 _ _) ?_;intro S h3;have M:=dc h3;rw[anU] at P;rw[show (30:Int)=((30:Nat):Int) from rfl,anV] at M;have q3:a6 c.2 S:=by rw[M,P];exact(ay _ _ _).trans (ay _ _ _)
 have H:∀(J:List Int)(m':MS),cg (bh k) a n.l [] [] S=(J,m')->cP (aq m.2.2.2) m n a=(c.1,if m'.2.2.1=0 then atT m' c.1 (rQ · J) else m'):=by intro J m' h;simp only[cP,aq,g.dk];rw[show aR m (bk 14)=c from I.symm,<-P,<-M,h]
 have Q:∀m':MS,a6 c.2 m'->m'.2.2.1=0->0<=c.1∧c.1<(m'.2.1.length:Int):=by intro m' q A;have:=yM (m:=m) (t:=bk 14) (m':=m') (by rw[show aR m (bk 14)=c from I.symm];exact q) A;rw[show aR m (bk 14)=c from I.symm] at this;exact this
 refine a8 (λx=>match x with|(v,D,l,xs,C,i,B,y,e,d,j)=>v=a∧D=c.1∧xs=n.l∧C=(n.l.length:Int)∧(0<=i∧i<=(n.l.length:Int))∧a6 c.2 (B,y,e,d)∧(l.length:Int)<=i∧cg (bh k) a n.l [] [] S=cg (bh k) a (n.l.drop i.toNat) l j (B,y,e,d)) (λx=>((n.l.length:Int)-x.2.2.2.2.2.1).toNat) ?_ _ _ ⟨rfl,rfl,rfl,rfl,⟨by simp,by simp⟩,q3,by simp,by simp⟩ (by simp;omega);rintro w ⟨v,D,l,xs,C,i,B,y,e,d,j⟩ ⟨rfl,rfl,rfl,rfl,⟨i1,i2⟩,q,hl,f⟩ ih;dsimp only at ih;unfold lr;dsimp only;have gm:qU k (B,y,e,d):=g.keep (q1.trans q);refine ac (λO=>?_) (λO=>?_)
 ·have E:i<(n.l.length:Int):=of_decide_eq_true O;have hd:=iZ (d:=(am .jnode:aa)) ⟨i1,E⟩;have F:aE (n.l.getD i.toNat (am .jnode)):=aE.getD Y _;rw[hd] at f;refine vck ?_ (by simp[ixl,i1,E]);rw[bo];generalize n.l.getD i.toNat (am .jnode)=x at f F;refine ac (λX=>?_) (λX=>?_)
  ·have p:¬e=0:=by simpa using X
   refine ac (λh=>absurd (by simpa using h) p) (λ_=>aj ⟨_,_,_,_,_,_,rfl,rfl,?_⟩);rw[cg,if_neg p] at f;show (_:Int×MS)=cP (aq m.2.2.2) m n v;rw[H _ _ f,if_neg p]
  ·have p:e=0:=by simpa using X
   rw[cg,if_pos p] at f;dsimp only at f;refine ag (hT (B,y,e,d) x v gm F ha) ?_;intro b h4;have G:=yx h4 gm;rw[<-G] at f;have q4:a6 c.2 b.2:=by rw[G];exact q.trans (fU k _ _ _)
   refine ac (λL=>?_) (λL=>?_)
   ·have o:¬b.2.2.2.1=0:=by simpa using L
    refine ac (λh=>absurd (by simpa using h) o) (λ_=>aj ⟨_,_,_,_,_,_,rfl,rfl,?_⟩);rw[if_neg o] at f;show (_:Int×MS)=cP (aq m.2.2.2) m n v;rw[H _ _ f,if_neg o]
   ·have o:b.2.2.2.1=0:=by simpa using L
    rw[if_pos o] at f;have hr:0<=b.1∧b.1<(b.2.2.1.length:Int):=by have:=abn k (B,y,e,d) x v (by rw[<-G];exact o) gm.map;rw[<-G] at this;exact this
    have ew:IntKind.i64.wrap (i+1)=i+1:=ax (i+1) (by omega);refine vck ?_ (decide_eq_true (by omega));refine akc (by simp) (apc _ _) ?_;rintro _ ⟨-,rfl⟩;refine vck ?_ (BF _);refine vck ?_ (decide_eq_true (by omega));refine vck ?_ (by simp[hr.1,hr.2]);refine vck ?_ (decide_eq_true (by omega));refine vck ?_ (BF _);rw[ew]
    have next:∀u:MS,u=ak b.2 ((b.2.2.1.getD b.1.toNat (am .atype)).kind==14||dv (k:=.sb) j (hY b.2.2.1 b.1)) 6->Tot (chk (decide ((Aa l+Aa ([b.1]:List Int))*8<=140737488355328)) (w (v,c.1,l++[b.1],n.l,(n.l.length:Int),i+1,u.1,u.2.1,u.2.2.1,u.2.2.2,cm (k:=.sb) j (hY b.2.2.1 b.1) true)))
      (λz=>∃(y0:Int)(y1:List (Bs×Int))(y2:List ab)(y3 y4:Int)(rest:List ai),z.1.dimR=.int .i64 y0∧z.2=some [.mp .sn y1]::some [.ul .atype y2,.mr 0,.int .i64 y3,.int .i64 y4]::rest∧nD m.1 m.2.1 m.2.2.1 m.2.2.2 n v (y0,y1,y2,y3,y4)):=by
     intro u e6;refine vck ?_ (decide_eq_true (by simp;omega));refine ih _ ⟨rfl,rfl,rfl,rfl,⟨by dsimp only;omega,by dsimp only;omega⟩,?_,by simp;omega,?_⟩ (by simp only;omega);·show a6 c.2 u;rw[e6];exact q4.trans (ay _ _ _)
     ·rw[f,e6]
    refine ac (λW=>?_) (λW=>?_);·refine ag (db b.2 _ _) ?_;intro u N;exact next u (by rw[dc N,W];rfl)
    ·refine ag (db b.2 _ _) ?_;intro u N;exact next u (by rw[dc N,W];rfl)
 ·have R:(n.l.length:Int)<=i:=by have:=of_decide_eq_false O;omega
  rw[mU R,cg] at f;refine ac (λZ=>?_) (λZ=>aj ⟨_,_,_,_,_,_,rfl,rfl,?_⟩)
  ·have A:e=0:=by simpa using Z
   obtain⟨k1,k2⟩:=Q _ q A;dsimp only at k2;refine vck ?_ (decide_eq_true (by omega));refine vck ?_ (by simp[k1,k2]);refine vck ?_ (decide_eq_true (by omega));refine vck ?_ (by simp);refine aj ⟨_,_,_,_,_,_,rfl,rfl,?_⟩;show (_:Int×MS)=cP (aq m.2.2.2) m n v;rw[H _ _ f,if_pos A];rfl
  ·have A:¬e=0:=by simpa using Z
   show (_:Int×MS)=cP (aq m.2.2.2) m n v;rw[H _ _ f,if_neg A]
def OT(k:Nat):Prop:=∀(m:MS)(n:aa)(kind:Int)(a:List UInt8),qU k m->aE n->9<=kind∧kind<=11->a.length<=9700-300*k->∃r,fc m.1 m.2.1 m.2.2.1 m.2.2.2 n kind a r
theorem aqA{k:Nat}(W:k<=21)(B:TT k)(I:OT k)(m:MS)(n:aa)(a:List UInt8)(g:qU k m)(p:aE n)(C:a.length<=9700-300*k):∃r,kj m.1 m.2.1 m.2.2.1 m.2.2.2 n a r:=by
 have F:a.length<=10000-300*k:=by omega
 apply adg 1;unfold vK vJ;dsimp only;rw[bo];refine ag (kW n _ (by have:=p.sizes;omega)) ?_;intro e J;have G:e=ao n [116,121,112,101]:=J.2;refine ag (db m _ _) ?_;intro b N;have D:=dc N;have i:qU k b:=g.keep (by rw[D];exact ay _ _ _);have S:b.2.2.2=m.2.2.2:=by rw[D];rfl
 have v:aE e.1:=by rw[G];exact dK p
 have d:ch (aq m.2.2.2) m n a=(if e.1.kind≠4 then bh k b e.1 a
 else if e.1.s=[114,101,99,111,114,100] then cQ (bh k) b n 9 a
 else if e.1.s=[101,110,117,109] then cQ (bh k) b n 10 a
 else if e.1.s=[102,105,120,101,100] then cQ (bh k) b n 11 a
 else if e.1.s=[97,114,114,97,121] then de (bh k) b n 12 [105,116,101,109,115] a
 else if e.1.s=[109,97,112] then de (bh k) b n 13 [118,97,108,117,101,115] a
 else dE b e.1.s a):=by simp only[ch,aq,g.dk];rw[<-G,<-D]
 have fin:∀(r:Int×MS),r=ch (aq m.2.2.2) m n a->Tot (some (.int .i64 r.1,[some [.mp .sn r.2.1],some [.ul .atype r.2.2.1,.mr 0,.int .i64 r.2.2.2.1,.int .i64 r.2.2.2.2]]):Ro) (λz=>∃(t:Int)(w:List (Bs×Int))(q:List ab)(x A:Int)(rest:List ai),z.1.dimR=.int .i64 t∧z.2=some [.mp .sn w]::some [.ul .atype q,.mr 0,.int .i64 x,.int .i64 A]::rest∧kC m.1 m.2.1 m.2.2.1 m.2.2.2 n a (t,w,q,x,A)):=
  λr h=>aj ⟨_,_,_,_,_,_,rfl,rfl,h⟩
 have own:∀(s:List UInt8)(kind:Int),bE ([]::b8) s=kind->9<=kind∧kind<=11->ch (aq m.2.2.2) m n a=cQ (bh k) b n kind a->e.1.s=s->
   Tot (af (gf) λQ=>af (aZ Q e.1.s) λR=>af (fc b.1 b.2.1 b.2.2.1 b.2.2.2 n R a) λj=>(some (.int .i64 j.1,[some [.mp .sn j.2.1],some [.ul .atype j.2.2.1,.mr 0,.int .i64 j.2.2.2.1,.int .i64 j.2.2.2.2]]):Ro)) (λz=>∃(t:Int)(w:List (Bs×Int))(q:List ab)(x A:Int)(rest:List ai),z.1.dimR=.int .i64 t∧z.2=some [.mp .sn w]::some [.ul .atype q,.mr 0,.int .i64 x,.int .i64 A]::rest∧kC m.1 m.2.1 m.2.2.1 m.2.2.2 n a (t,w,q,x,A)):=by
  intro s kind H E L f;refine ag aa2 ?_;rintro _ ⟨-,rfl⟩;rw[f];refine ag (aap _ _ (by decide)) ?_;rintro _ ⟨-,rfl⟩;rw[H];refine ag (I b n kind a i p E C) ?_;intro j P;have o:j=cQ (aq b.2.2.2) b n kind a:=P.2;unfold aq at o;rw[i.dk] at o;exact fin j (by rw[L,o])
 refine ac (λc=>?_) (λc=>?_);·rw[bo];refine ag (B b e.1 a i v F) ?_;intro O M;refine fin O ?_;rw[d,if_pos (by simpa using c)];exact yx M i
 rw[if_neg (by simpa using c)] at d;refine ac (λc=>?_) (λc=>?_);·have f:=of_decide_eq_true c;rw[if_pos f] at d;exact own _ 9 (by decide) (by decide) d f
 rw[if_neg (of_decide_eq_false c)] at d;refine ac (λc=>?_) (λc=>?_);·have f:=of_decide_eq_true c;rw[if_pos f] at d;exact own _ 10 (by decide) (by decide) d f
 rw[if_neg (of_decide_eq_false c)] at d;refine ac (λc=>?_) (λc=>?_);·have f:=of_decide_eq_true c;rw[if_pos f] at d;exact own _ 11 (by decide) (by decide) d f
 rw[if_neg (of_decide_eq_false c)] at d;have y:∀{r:Int×MS}{kind:Int}{u:List UInt8},fg b.1 b.2.1 b.2.2.1 b.2.2.2 n kind u a r->r=de (bh k) b n kind u a:=by intro r kind u h;have o:r=de (aq b.2.2.2) b n kind u a:=h.2;unfold aq at o;rw[i.dk] at o;exact o
 refine ac (λc=>?_) (λc=>?_);·rw[if_pos (of_decide_eq_true c)] at d;refine ag (alL B b n _ _ a i p F) ?_;intro r h;exact fin r (by rw[d];exact y h)
 rw[if_neg (of_decide_eq_false c)] at d;refine ac (λc=>?_) (λc=>?_);·rw[if_pos (of_decide_eq_true c)] at d;refine ag (alL B b n _ _ a i p F) ?_;intro r h;exact fin r (by rw[d];exact y h)
 rw[if_neg (of_decide_eq_false c)] at d;refine ag (alK _ _ _ _ _ _ i.cap (by have:=v.sizes;omega) (by omega)) ?_;intro r h;refine fin r ?_;rw[d];exact h.2
theorem ajR{k:Nat}(hk:k<=20)(Q:1<=k->TT k)(S:1<=k->OT k):TT (k+1):=by
 intro m n a g F ha;apply aet 1;unfold w6 w5;dsimp only;have hd:=g.d0;have J:=g.dk
 have fin:∀(x:Int)(m':MS),m'.2.2.2=m.2.2.2->((x,m'):Int×MS)=bh (k+1) m n a->Tot (some (.int .i64 x,[some [.mp .sn m'.1],some [.ul .atype m'.2.1,.mr 0,.int .i64 m'.2.2.1,.int .i64 m'.2.2.2]]):Ro) (λz=>∃(w:Int)(y:List (Bs×Int))(o:List ab)(A C:Int)(rest:List ai),z.1.dimR=.int .i64 w∧z.2=some [.mp .sn y]::some [.ul .atype o,.mr 0,.int .i64 A,.int .i64 C]::rest∧ix m.1 m.2.1 m.2.2.1 m.2.2.2 n a (w,y,o,A,C)):=
  λx m' _ h=>aj ⟨_,_,_,_,_,_,rfl,rfl,by show (x,m')=aq m.2.2.2 m n a;unfold aq;rw[J];exact h⟩
 refine ac (λO=>?_) (λO=>?_);·refine fin 0 m rfl ?_;unfold bh;rw[if_pos (by simpa using O)]
 have I:m.2.2.1=0:=by simpa using O
 have Z:IntKind.i64.wrap (m.2.2.2+1)=m.2.2.2+1:=ax _ (by omega);rw[Z];refine ag (db (bZ m (m.2.2.2+1)) _ _) ?_;intro d W;have E:d=ak (bZ m (m.2.2.2+1)) (decide (20<m.2.2.2+1)) 3:=dc W;have X:a6 (bZ m (m.2.2.2+1)) d:=by rw[E];exact ay _ _ _
 have j:∀m':MS,a6 d m'->IntKind.i64.wrap (m'.2.2.2-1)=m.2.2.2:=by intro m' q;have u:=(X.trans q).dep;have Y:m'.2.2.2=m.2.2.2+1:=u;rw[Y,ax _ (by omega)];omega
 have P:bh (k+1) m n a=(if d.2.2.1≠0 then (0,bZ d m.2.2.2) else
   (
    (if n.kind=4 then dE d n.s a else if n.kind=5 then cP (bh k) d n a else if n.kind=6 then ch (bh k) d n a else (0,ak d true 2)).1,
    bZ (if n.kind=4 then dE d n.s a else if n.kind=5 then cP (bh k) d n a else if n.kind=6 then ch (bh k) d n a else (0,ak d true 2)).2 m.2.2.2)):=by
  rw[bh,if_neg (by simpa using I)];rw[<-E]
 refine ac (λu=>?_) (λu=>?_);·rw[j d (a6.refl _)];refine fin 0 (bZ d m.2.2.2) rfl ?_;rw[P,if_pos (by simpa using u)]
 have p:d.2.2.1=0:=by simpa using u
 rw[if_neg (by simpa using p)] at P;have R:=eO (m:=bZ m (m.2.2.2+1)) (b:=decide (20<m.2.2.2+1)) (c:=3) (by rw[<-E];exact p);have ad:¬(20<m.2.2.2+1):=of_decide_eq_false R.1;have t:d=bZ m (m.2.2.2+1):=E.trans R.2;have v:qU k d:=by rw[t];exact⟨g.cap,g.map,⟨by show 0<=m.2.2.2+1;omega,by show m.2.2.2+1<=20;omega⟩,by show 21-(m.2.2.2+1).toNat=k;omega⟩
 have i:1<=k:=by omega
 have ae:d.2.2.2=m.2.2.2+1:=by rw[t];rfl
 have G:a.length<=10000-300*k:=by omega
 have f:∀r:Int×MS,a6 d r.2->r=(if n.kind=4 then dE d n.s a else if n.kind=5 then cP (bh k) d n a else if n.kind=6 then ch (bh k) d n a else (0,ak d true 2))->
   Tot (some (.int .i64 r.1,[some [.mp .sn r.2.1],some [.ul .atype r.2.2.1,.mr 0,.int .i64 r.2.2.2.1,.int .i64 (IntKind.i64.wrap (r.2.2.2.2-1))]]):Ro) (λz=>∃(w:Int)(y:List (Bs×Int))(o:List ab)(A C:Int)(rest:List ai),z.1.dimR=.int .i64 w∧z.2=some [.mp .sn y]::some [.ul .atype o,.mr 0,.int .i64 A,.int .i64 C]::rest∧ix m.1 m.2.1 m.2.2.1 m.2.2.2 n a (w,y,o,A,C)):=by
  intro r q e;rw[j r.2 q];refine fin r.1 (bZ r.2 m.2.2.2) rfl ?_;rw[P,<-e]
 refine ac (λM=>?_) (λM=>?_)
 ·have B:n.kind=4:=by simpa using M
  refine ag (alK _ _ _ _ _ _ v.cap (by have:=F.sizes;omega) (by omega)) ?_;intro r h;have e:r=dE d n.s a:=h.2;exact f r (by rw[e];exact afc _ _ _) (by rw[if_pos B];exact e)
 have B:¬n.kind=4:=by simpa using M
 refine ac (λH=>?_) (λH=>?_)
 ·have D:n.kind=5:=by simpa using H
  rw[bo];refine ag (aqz (Q i) d n a v F G) ?_;intro r h;have e:r=cP (aq d.2.2.2) d n a:=h.2;unfold aq at e;rw[v.dk] at e;exact f r (by rw[e];exact aiV (fU k) _ _ _) (by rw[if_neg B,if_pos D];exact e)
 have D:¬n.kind=5:=by simpa using H
 refine ac (λN=>?_) (λN=>?_)
 ·have L:n.kind=6:=by simpa using N
  rw[bo];refine ag (aqA (by omega) (Q i) (S i) d n a v F (by omega)) ?_;intro r h;have e:r=ch (aq d.2.2.2) d n a:=h.2;unfold aq at e;rw[v.dk] at e;exact f r (by rw[e];exact aiY (fU k) _ _ _) (by rw[if_neg B,if_neg D,if_pos L];exact e)
 have L:¬n.kind=6:=by simpa using N
 refine ag (db d _ _) ?_;intro r h;have e:=dc h;exact f (0,r) (by rw[e];exact ay _ _ _) (by rw[if_neg B,if_neg D,if_neg L,e])
theorem anW(m:MS)(sp:List UInt8)(n:aa)(p:aE n)(y:sp.length<=10000):∃r,bN m.1 m.2.1 m.2.2.1 m.2.2.2 sp n r:=by
 apply o8 2000;unfold jc cj;rw[bo];refine ag (kW n _ (by have:=p.sizes;omega)) ?_;intro v L;have q:v=ao n [97,108,105,97,115,101,115]:=L.2;have B:aE v.1:=by rw[q];exact dK p
 obtain⟨W,Y,S,Q⟩:=B.sizes;refine ac (λg=>?_) (λg=>aj ⟨_,_,_,_,_,_,_,rfl,rfl,?_⟩)
 ·rw[bo];refine ag (ads _ _ _ _ _ (by omega)) ?_;intro a N;have u:a=b9 m v.1:=N.2;have E:az (bO sp) m n=dr (bO sp) a.1 [] a.2:=by
   simp only[az];rw[<-q,if_pos g,<-u]
  have Z:a.1.length<=8:=by rw[u];simp[b9];omega
  have R:∀s∈a.1,s.length<=1000:=by intro s H;rw[u] at H;simp only[b9,AE] at H;obtain⟨c,w,rfl⟩:=H;have:=(Q c w).sizes;omega
  dsimp only;refine a8 (λx=>match x with|(l,I,j,i,F,t,e,d,f)=>I=a.1∧j=(a.1.length:Int)∧(0<=i∧i<=(a.1.length:Int))∧f=sp∧(l.length:Int)<=i∧az (bO sp) m n=dr (bO sp) (a.1.drop i.toNat) l (F,t,e,d)) (λx=>((a.1.length:Int)-x.2.2.2.1).toNat) ?_ _ _ ⟨rfl,rfl,⟨by simp,by simp⟩,rfl,by simp,by simp[E]⟩ (by simp;omega);rintro D ⟨l,I,j,i,F,t,e,d,f⟩ ⟨rfl,rfl,⟨J,X⟩,rfl,O,b⟩ G;dsimp only at G;unfold cU;dsimp only;refine ac (λg=>?_) (λg=>aj ⟨_,_,_,_,_,_,_,rfl,rfl,?_⟩)
  ·have k:i<(a.1.length:Int):=of_decide_eq_true g;have P:=iZ (d:=(am .str:List UInt8)) ⟨J,k⟩;have o:(a.1.getD i.toNat (am .str)).length<=1000:=by
    have p:i.toNat<a.1.length:=by omega
    refine R _ ?_;rw[Af,Ab p];exact AK _
   rw[P] at b;refine vck ?_ (by simp[ixl,J,k]);have M:IntKind.i64.wrap (i+1)=i+1:=ax (i+1) (by omega);rw[M];generalize a.1.getD i.toNat (am .str)=x at b o;refine ac (λC=>?_) (λC=>?_)
   ·have h:e=0:=by simpa using C
    rw[dr,if_pos h] at b;refine ag (asv _ _ _ _ _ _ o y) ?_;rintro _ ⟨-,rfl⟩;refine vck ?_ (decide_eq_true (by simp;omega));exact G _ ⟨rfl,rfl,⟨by dsimp only;omega,by dsimp only;omega⟩,rfl,by simp;omega,b⟩ (by simp only;omega)
   ·have h:¬e=0:=by simpa using C
    rw[dr,if_neg h] at b;exact G _ ⟨rfl,rfl,⟨by dsimp only;omega,by dsimp only;omega⟩,rfl,by dsimp only;omega,b⟩ (by simp only;omega)
  ·have A:(a.1.length:Int)<=i:=by have:=of_decide_eq_false g;omega
   rw[mU A,dr] at b;show _=_;rw[show az (bO f) (m.1,m.2.1,m.2.2.1,m.2.2.2) n=(l,(F,t,e,d)) from b];rfl
 ·have E:az (bO sp) m n=([],m):=by
   simp only[az];rw[<-q,if_neg (by rw[g];decide)]
  show _=_;rw[show az (bO sp) (m.1,m.2.1,m.2.2.1,m.2.2.2) n=([],m) from E];rfl
theorem anX(m:MS)(n:aa)(o:aE n):∃r,cb m.1 m.2.1 m.2.2.1 m.2.2.2 n r:=by
 apply n9 2000;unfold ij bW;rw[bo];refine ag (kW n _ (by have:=o.sizes;omega)) ?_;intro u I;have p:u=ao n [97,108,105,97,115,101,115]:=I.2;have y:aE u.1:=by rw[p];exact dK o
 obtain⟨R,W,Q,O⟩:=y.sizes;refine ac (λf=>?_) (λf=>aj ⟨_,_,_,_,_,_,rfl,rfl,?_⟩)
 ·rw[bo];refine ag (ads _ _ _ _ _ (by omega)) ?_;intro a L;have t:a=b9 m u.1:=L.2;have C:az fb m n=dr fb a.1 [] a.2:=by
   simp only[az];rw[<-p,if_pos f,<-t]
  have X:a.1.length<=8:=by rw[t];simp[b9];omega
  have P:∀s∈a.1,s.length<=1000:=by intro s F;rw[t] at F;simp only[b9,AE] at F;obtain⟨c,v,rfl⟩:=F;have:=(O c v).sizes;omega
  dsimp only;refine a8 (λx=>match x with|(l,G,h,i,D,q,e,d)=>G=a.1∧h=(a.1.length:Int)∧(0<=i∧i<=(a.1.length:Int))∧(l.length:Int)<=i∧az fb m n=dr fb (a.1.drop i.toNat) l (D,q,e,d)) (λx=>((a.1.length:Int)-x.2.2.2.1).toNat) ?_ _ _ ⟨rfl,rfl,⟨by simp,by simp⟩,by simp,by simp[C]⟩ (by simp;omega);rintro B ⟨l,G,h,i,D,q,e,d⟩ ⟨rfl,rfl,⟨H,S⟩,M,b⟩ E;dsimp only at E;unfold cJ;dsimp only;refine ac (λf=>?_) (λf=>aj ⟨_,_,_,_,_,_,rfl,rfl,?_⟩)
  ·have j:i<(a.1.length:Int):=of_decide_eq_true f;have N:=iZ (d:=(am .str:List UInt8)) ⟨H,j⟩;have k:(a.1.getD i.toNat (am .str)).length<=1000:=by
    have o:i.toNat<a.1.length:=by omega
    refine P _ ?_;rw[Af,Ab o];exact AK _
   rw[N] at b;refine vck ?_ (by simp[ixl,H,j]);have J:IntKind.i64.wrap (i+1)=i+1:=ax (i+1) (by omega);rw[J];generalize a.1.getD i.toNat (am .str)=x at b k;refine ac (λA=>?_) (λA=>?_)
   ·have g:e=0:=by simpa using A
    rw[dr,if_pos g] at b;refine ag (aqy _ _ _ _ _ k) ?_;rintro _ ⟨-,rfl⟩;refine vck ?_ (decide_eq_true (by simp;omega));exact E _ ⟨rfl,rfl,⟨by dsimp only;omega,by dsimp only;omega⟩,by simp;omega,b⟩ (by simp only;omega)
   ·have g:¬e=0:=by simpa using A
    rw[dr,if_neg g] at b;exact E _ ⟨rfl,rfl,⟨by dsimp only;omega,by dsimp only;omega⟩,by dsimp only;omega,b⟩ (by simp only;omega)
  ·have w:(a.1.length:Int)<=i:=by have:=of_decide_eq_false f;omega
   rw[mU w,dr] at b;exact(show az fb (m.1,m.2.1,m.2.2.1,m.2.2.2) n=(l,(D,q,e,d)) from b).symm
 ·have C:az fb m n=([],m):=by
   simp only[az];rw[<-p,if_neg (by rw[f];decide)]
  exact(show az fb (m.1,m.2.1,m.2.2.1,m.2.2.2) n=([],m) from C).symm
theorem arD{k:Nat}(C:TT k)(m:MS)(names:List (List UInt8×Bool))(n:aa)(a:List UInt8)(g:qU k m)(h:aE n)(X:a.length<=10000-300*k):∃r,km m.1 m.2.1 m.2.2.1 m.2.2.2 names n a r:=by
 apply ade 1;unfold vE vD;simp only[bo];have e:n.names.length<=1000000:=by have:=h.sizes;omega
 refine ag (db m _ _) ?_;intro H I;have B:=dc I;refine ag (anT _ _ _ _ n e) ?_;intro d L;have o:d=iv H n:=L.2;have Y:d.1.length<=100:=by rw[o];exact(dK h).sizes.1
 refine ag (ac4 _ (by omega)) ?_;intro N J;have t:N=cf d.1:=J.2;refine ag (db d.2 _ _) ?_;intro Q M;have u:=dc M;refine ag (db Q _ _) ?_;intro S E;have v:=dc E;refine ag (kW n _ e) ?_;intro x P;have p:x=ao n [116,121,112,101]:=P.2;refine ag (db S _ _) ?_;intro y G;have A:=dc G;have w:a6 m y:=by rw[A,v,u,t,o,B,p];exact alo m n names
 refine ag (C y x.1 a (g.keep w) (by rw[p];exact dK h) X) ?_;intro i W;have O:=yx W (g.keep w);refine ag (kW n _ e) ?_;intro f D;have F:f=ao n [100,101,102,97,117,108,116]:=D.2;refine ag (anX i.2 n h) ?_;intro b j;have q:b=az fb i.2 n:=j.2;refine aj ⟨⟨d.1,b.1,i.1,f.2,f.1⟩,_,_,_,_,_,_,?_,rfl,?_⟩;·generalize f.1=c;cases c;rfl
 ·have R:cZ (aq m.2.2.2) m n names a=(⟨d.1,b.1,i.1,f.2,f.1⟩,b.2,cm (k:=.sb) names d.1 true):=by
   simp only[cZ,aq,g.dk];rw[<-B,<-o,<-t,<-u,<-v,<-p,<-A,<-O,<-F,<-q]
  show _=((cZ (aq m.2.2.2) m n names a).1,msX (cZ (aq m.2.2.2) m n names a).2.1 (cZ (aq m.2.2.2) m n names a).2.2)
  rw[R];rfl
theorem aoN{k:Nat}(hT:TT k)(m:MS)(S:Int)(t1:List UInt8)(X:List (List UInt8))(Y:Int)(Q:List (List UInt8))(t5:Bool)(t6:List UInt8)(R:Int)(Z:List Int)(n:aa)(a:List UInt8)(g:qU k m)(P:aE n)(ha:a.length<=10000-300*k):∃r,fZ m.1 m.2.1 m.2.2.1 m.2.2.2 S t1 X Y Q t5 t6 R [] Z n a r:=by
 apply ach 100;unfold uT iQ;rw[bo];refine ag (kW n _ (by have:=P.sizes;omega)) ?_;intro b h1;have e1:b=ao n [102,105,101,108,100,115]:=h1.2;have F:aE b.1:=by rw[e1];exact dK P
 obtain⟨s1,s2,s3,s4⟩:=F.sizes;refine ag (db m _ _) ?_;intro r2 h2;have W:=dc h2;dsimp only;refine ag (db r2 _ _) ?_;intro r3 h3;have B:=dc h3;rw[show (30:Int)=((30:Nat):Int) from rfl,anV] at B;have q3:a6 m r3:=by rw[B,W];exact(ay _ _ _).trans (ay _ _ _)
 have fe:bX (aq m.2.2.2) m [] n a=cp (bh k) a b.1.l [] [] r3:=by simp only[bX,aq,g.dk];rw[<-e1,<-W,<-B]
 refine a8 (λx=>match x with|(o,xs,t,i,p,j,e,d,H,O,N,M,G,y,A,w,fs,D,names)=>o=a∧xs=b.1.l∧t=(b.1.l.length:Int)∧(0<=i∧i<=(b.1.l.length:Int))∧a6 m (p,j,e,d)∧(H=S∧O=t1∧N=X∧M=Y∧G=Q∧y=t5∧A=t6∧w=R∧D=Z)∧(fs.length:Int)<=i∧bX (aq m.2.2.2) m [] n a=cp (bh k) a (b.1.l.drop i.toNat) fs names (p,j,e,d)) (λx=>((b.1.l.length:Int)-x.2.2.2.1).toNat) ?_ _ _ ⟨rfl,rfl,rfl,⟨by simp,by simp⟩,q3,⟨rfl,rfl,rfl,rfl,rfl,rfl,rfl,rfl,rfl⟩,by simp,by simp[fe]⟩ (by simp;omega);rintro J ⟨o,xs,t,i,p,j,e,d,H,O,N,M,G,y,A,w,fs,D,names⟩ ⟨rfl,rfl,rfl,⟨i1,i2⟩,q,⟨rfl,rfl,rfl,rfl,rfl,rfl,rfl,rfl,rfl⟩,hl,c⟩ L;dsimp only at L;unfold kJ;dsimp only;refine ac (λC=>?_) (λC=>aj ⟨_,_,_,_,_,_,_,_,_,_,_,_,_,_,_,rfl,rfl,?_⟩)
 ·have u:i<(b.1.l.length:Int):=of_decide_eq_true C;have hd:=iZ (d:=(am .jnode:aa)) ⟨i1,u⟩;have v:aE (b.1.l.getD i.toNat (am .jnode)):=aE.getD s4 _;rw[hd] at c;refine vck ?_ (by simp[ixl,i1,u]);have ew:IntKind.i64.wrap (i+1)=i+1:=ax (i+1) (by omega);rw[ew,bo];generalize b.1.l.getD i.toNat (am .jnode)=x at c v;refine ac (λI=>?_) (λI=>?_)
  ·have f:e=0:=by simpa using I
   have gm:qU k (p,j,e,d):=g.keep q;refine ag (arD hT (p,j,e,d) names x o gm v ha) ?_;rintro _ ⟨-,rfl⟩;have ed:aq d=bh k:=by have h:=gm.dk;dsimp only at h;unfold aq;rw[h]
   dsimp only[msX];rw[ed,atS];rw[cp,if_pos f] at c;refine vck ?_ (decide_eq_true (by simp;omega));refine L _ ⟨rfl,rfl,rfl,⟨by dsimp only;omega,by dsimp only;omega⟩,?_,⟨rfl,rfl,rfl,rfl,rfl,rfl,rfl,rfl,rfl⟩,by simp;omega,c⟩ (by simp only;omega);exact q.trans (aiW (fU k) (p,j,e,d) x names o)
  ·have f:¬e=0:=by simpa using I
   rw[cp,if_neg f] at c;exact L _ ⟨rfl,rfl,rfl,⟨by dsimp only;omega,by dsimp only;omega⟩,q,⟨rfl,rfl,rfl,rfl,rfl,rfl,rfl,rfl,rfl⟩,by dsimp only;omega,c⟩ (by simp only;omega)
 ·have E:(b.1.l.length:Int)<=i:=by have:=of_decide_eq_false C;omega
  rw[mU E,cp] at c;show _=msX (bX (aq m.2.2.2) m [] n o).2 (H,O,N,M,G,y,A,w,(bX (aq m.2.2.2) m [] n o).1,D);rw[c];rfl
theorem anY(m:MS)(Y:Int)(t1:List UInt8)(t2:List (List UInt8))(t3:Int)(t4:List (List UInt8))(A:Bool)(w:List UInt8)(X:Int)(t8:List aA)(t9:List Int)(n:aa)(R:aE n):∃r,fE m.1 m.2.1 m.2.2.1 m.2.2.2 Y t1 t2 t3 t4 A w X t8 t9 n r:=by
 apply aa6 100;unfold tI gT;rw[bo];have j:n.names.length<=1000000:=by have:=R.sizes;omega
 refine ag (kW n _ j) ?_;intro G h1;have S:G=ao n [115,121,109,98,111,108,115]:=h1.2;have J:aE G.1:=by rw[S];exact dK R
 obtain⟨s1,s2,s3,s4⟩:=J.sizes;refine ag (db m _ _) ?_;intro r2 h2;have e2:=dc h2;rw[bo];refine ag (ads _ _ _ _ _ (by omega)) ?_;intro a h3;have E:a=b9 r2 G.1:=h3.2;have hl:a.1.length<=8:=by rw[E];simp[b9];omega
 have hx:∀s∈a.1,s.length<=1000:=by intro s Q;rw[E] at Q;simp only[b9,AE] at Q;obtain⟨c,H,rfl⟩:=Q;have:=(s4 c H).sizes;omega
 dsimp only;refine ag (db a.2 _ _) ?_;intro r4 h4;have Z:=dc h4;rw[anU] at Z;refine ag (db r4 _ _) ?_;intro O h5;have e5:=dc h5;rw[show (30:Int)=((30:Nat):Int) from rfl,anV] at e5;have p:bP m n A w=(if (ao n [100,101,102,97,117,108,116]).2 =true then ((a.1,true,(ao n [100,101,102,97,117,108,116]).1.s),ak (ak (lf [] a.1 O) (!((ao n [100,101,102,97,117,108,116]).1.kind ==4)) 2) (!decide (0<=bE a.1 (ao n [100,101,102,97,117,108,116]).1.s)) 6) else ((a.1,A,w),lf [] a.1 O)):=by simp only[bP];rw[<-S,<-e2,<-E,<-Z,<-e5]
 refine a8 (λx=>match x with|(b,xs,k,i,o0,W,e,d,y,D,B,C,u4,f,g,t,v,u)=>b=n∧xs=a.1∧k=(a.1.length:Int)∧(0<=i∧i<=(a.1.length:Int))∧(y=Y∧D=t1∧B=t2∧C=t3∧u4=a.1∧f=A∧g=w∧t=X∧v=t8∧u=t9)∧lf [] a.1 O=lf (a.1.take i.toNat) (a.1.drop i.toNat) (o0,W,e,d)) (λx=>((a.1.length:Int)-x.2.2.2.1).toNat) ?_ _ _ ⟨rfl,rfl,rfl,⟨by simp,by simp⟩,⟨rfl,rfl,rfl,rfl,rfl,rfl,rfl,rfl,rfl,rfl⟩,by simp⟩ (by simp;omega);rintro L ⟨b,xs,k,i,o0,W,e,d,y,D,B,C,u4,f,g,t,v,u⟩ ⟨rfl,rfl,rfl,⟨N,i2⟩,⟨rfl,rfl,rfl,rfl,rfl,rfl,rfl,rfl,rfl,rfl⟩,o⟩ ih;dsimp only at ih;unfold ka;dsimp only;refine ac (λF=>?_) (λF=>?_)
 ·have q:i<(a.1.length:Int):=of_decide_eq_true F;have h:i.toNat<a.1.length:=by omega
  have hd:=iZ (d:=(am .str:List UInt8)) ⟨N,q⟩;have ht:a.1.take (i+1).toNat=a.1.take i.toNat++[a.1.getD i.toNat (am .str)]:=by rw[show (i+1).toNat=i.toNat+1 by omega,List.take_succ,Ab h,Af,Ab h];rfl
  have P:(a.1.getD i.toNat (am .str)).length<=1000:=by refine hx _ ?_;rw[Af,Ab h];exact AK _
  rw[hd,lf,<-ht] at o;refine vck ?_ (by simp[ixl,N,q]);have ew:IntKind.i64.wrap (i+1)=i+1:=ax (i+1) (by omega);rw[ew];generalize a.1.getD i.toNat (am .str)=x at o P;refine ag (ac4 _ (by omega)) ?_;rintro _ ⟨-,rfl⟩;refine ag (ks _ _ _ _ _ _) ?_;rintro _ ⟨-,rfl⟩;refine vck ?_ (by simp[N];omega);rw[BS];refine ag (afT _ _ (by rw[Bw];omega)) ?_;rintro _ ⟨-,rfl⟩;refine ag (ks _ _ _ _ _ _) ?_;rintro _ ⟨-,rfl⟩;exact ih _ ⟨rfl,rfl,rfl,⟨by dsimp only;omega,by dsimp only;omega⟩,⟨rfl,rfl,rfl,rfl,rfl,rfl,rfl,rfl,rfl,rfl⟩,o⟩ (by simp only;omega)
 ·have I:(a.1.length:Int)<=i:=by have:=of_decide_eq_false F;omega
  rw[mU I,lf] at o;rw[o] at p;rw[bo];refine ag (kW b _ j) ?_;rintro _ ⟨-,rfl⟩;refine ac (λM=>?_) (λM=>aj ⟨_,_,_,_,_,_,_,_,_,_,_,_,_,_,_,rfl,rfl,?_⟩);·rw[if_pos M] at p;refine ag (ks _ _ _ _ _ _) ?_;rintro _ ⟨-,rfl⟩;refine ag (afT _ _ (by omega)) ?_;rintro _ ⟨-,rfl⟩;refine ag (ks _ _ _ _ _ _) ?_;rintro _ ⟨-,rfl⟩;refine aj ⟨_,_,_,_,_,_,_,_,_,_,_,_,_,_,_,rfl,rfl,?_⟩;show _=msX (bP m b f g).2 (y,D,B,C,(bP m b f g).1.1,(bP m b f g).1.2.1,(bP m b f g).1.2.2,t,v,u);rw[p];rfl
  ·rw[if_neg (by rw[M];decide)] at p;show _=msX (bP m b f g).2 (y,D,B,C,(bP m b f g).1.1,(bP m b f g).1.2.1,(bP m b f g).1.2.2,t,v,u);rw[p];rfl
theorem atc{k:Nat}(hk:k<=20)(hT:TT k):OT k:=by
 intro m n kind a g H Q ha;apply af0 1;unfold xZ xY;simp only[bo];have y:n.names.length<=1000000:=by have:=H.sizes;omega
 refine ag (anT _ _ _ _ n y) ?_;intro j h1;have e1:j=iv m n:=h1.2;have l1:j.1.length<=100:=by rw[e1];exact(dK H).sizes.1
 refine ag (kW n _ y) ?_;intro B h2;have e2:B=ao n [110,97,109,101,115,112,97,99,101]:=h2.2;have l2:B.1.s.length<=100:=by rw[e2];exact(dK H).sizes.1
 have q1:a6 m j.2:=by rw[e1];exact zZ _ _
 have c:cQ (aq m.2.2.2) m n kind a=(if B.2=true then gb (bh k) m n kind (bJ (ak j.2 (!(B.1.kind==4)) 2) j.1 B.1.s) else gb (bh k) m n kind (bJ j.2 j.1 a)):=by simp only[cQ,aq,g.dk];rw[<-e1,<-e2]
 have c0:∀w:List UInt8×MS,a6 m w.2->w.1.length<=a.length+201->cQ (aq m.2.2.2) m n kind a=gb (bh k) m n kind w->True:=λ_ _ _ _=>trivial
 refine ac (λhc=>?_) (λhc=>?_);refine ag (db j.2 _ _) ?_;intro r3 h3;have e3:=dc h3;refine ag (adr _ _ _ _ _ _ (by omega) (by omega)) ?_;intro w h4;have C:w=bJ r3 j.1 B.1.s:=h4.2;have qw:a6 m w.2:=by rw[C,e3];exact(q1.trans (ay _ _ _)).trans (uq _ _ _)
 have lw:w.1.length<=a.length+201:=by have:=alu r3 j.1 B.1.s;rw[C];omega
 have fw:cQ (aq m.2.2.2) m n kind a=gb (bh k) m n kind w:=by rw[c,if_pos hc,C,e3]
 rotate_left
 refine ag (adr _ _ _ _ _ _ (by omega) (by omega)) ?_;intro w h4;have C:w=bJ j.2 j.1 a:=h4.2;have qw:a6 m w.2:=by rw[C];exact q1.trans (uq _ _ _)
 have lw:w.1.length<=a.length+201:=by have:=alu j.2 j.1 a;rw[C];omega
 have fw:cQ (aq m.2.2.2) m n kind a=gb (bh k) m n kind w:=by rw[c,if_neg (by rw[hc];decide),C]
 all_goals
  clear c;have c3:=alv w.1;refine ag (aru _ (by omega)) ?_;rintro _ ⟨-,rfl⟩;refine ag (anW w.2 (aC w.1) n H (by omega)) ?_;intro r6 h6;obtain rfl:r6=((az (bO (aC w.1)) w.2 n).1,msX (az (bO (aC w.1)) w.2 n).2 (aC w.1)):=h6.2;have qa:a6 m (az (bO (aC w.1)) w.2 n).2 :=qw.trans (lH (z6 _) _ _);generalize Y:az (bO (aC w.1)) w.2 n=L at qa;dsimp only[msX];refine ag (db L.2 _ _) ?_;intro r7 h7;have e7:=dc h7;have q7:a6 m r7:=by rw[e7];exact qa.trans (ay _ _ _)
  refine ag (anR r7 _ (q7.cap g.cap)) ?_;intro b h8;have O:=anS h8;have q8:a6 m b.2:=by rw[O];exact q7.trans (mP _ _)
  have c:cQ (aq m.2.2.2) m n kind a=(if b.2.2.2.1=0 then (b.1,rC (bh k) (cm (k:=.sn) b.2.1 w.1 b.1,b.2.2) n kind (aC w.1) w.1 L.1 b.1) else (0,b.2)):=by rw[fw];simp only[gb];rw[Y,<-e7,<-O]
  refine ac (λZ=>aj ⟨_,_,_,_,_,_,rfl,rfl,?_⟩) (λZ=>?_);·show (_:Int×MS)=cQ (aq m.2.2.2) m n kind a;rw[c,if_neg (by simpa using Z)]
  have I:b.2.2.2.1=0:=by simpa using Z
  rw[if_pos I] at c;obtain⟨z1,z2,z3⟩:=add_zero (m:=r7) (t:=⟨kind,w.1,L.1,0,[],false,[],0,[],[]⟩) (by rw[<-O];exact I);rw[<-O] at z3;have a1:0<=b.1∧b.1<(b.2.2.1.length:Int):=by rw[z3];refine⟨Int.natCast_nonneg _,?_⟩;simp only[AD,Av,AA];omega
  have g8:qU k ((cm (k:=.sn) b.2.1 w.1 b.1,b.2.2):MS):=by
   have N:=g.keep q8;refine⟨N.cap,λx i J=>?_,N.d0,N.dk⟩;dsimp only at J ⊢;rw[mA] at J;split at J;·have hi:=Au J;rw[<-hi];exact a1
   ·exact N.map x i J
  have S:(aC w.1).length<=10000-300*k:=by omega
  have G:∀m':MS,a6 ((cm (k:=.sn) b.2.1 w.1 b.1,b.2.2):MS) m'->0<=b.1∧b.1<(m'.2.1.length:Int):=by intro m' q;have h:=q.len;dsimp only at h;omega
  refine ac (λP=>?_) (λP=>?_)
  ·have k9:kind=9:=by simpa using P
   refine ag (aoN hT (cm (k:=.sn) b.2.1 w.1 b.1,b.2.2) kind w.1 L.1 0 [] false [] 0 [] n (aC w.1) g8 H S) ?_;intro r hr;have X:=hr.2;unfold mO aq at X;rw[g8.dk] at X;obtain rfl:=X;have E:=ahi (fU k) (cm (k:=.sn) b.2.1 w.1 b.1,b.2.2) [] n (aC w.1);rw[rC,if_pos k9] at c;dsimp only at c;generalize hf:bX (bh k) (cm (k:=.sn) b.2.1 w.1 b.1,b.2.2) [] n (aC w.1)=f at c E;dsimp only[msX];have e:=G _ E;refine ac (λo=>?_) (λo=>aj ⟨_,_,_,_,_,_,rfl,rfl,?_⟩);·refine vck ?_ (decide_eq_true (by omega));refine vck ?_ (by simp[e.1,e.2]);refine vck ?_ (decide_eq_true (by omega));refine vck ?_ (by simp);refine aj ⟨_,_,_,_,_,_,rfl,rfl,?_⟩;show (_:Int×MS)=cQ (aq m.2.2.2) m n kind a;rw[c,if_pos (by simpa using o)];rfl
   ·show (_:Int×MS)=cQ (aq m.2.2.2) m n kind a;rw[c,if_neg (by simpa using o)]
  rw[rC,if_neg (show ¬kind=9 by simpa using P)] at c;refine ac (λF=>?_) (λF=>?_)
  ·rw[if_pos (show kind=10 by simpa using F)] at c;refine ag (anY (cm (k:=.sn) b.2.1 w.1 b.1,b.2.2) kind w.1 L.1 0 [] false [] 0 [] [] n H) ?_;intro r hr;obtain rfl:=hr.2;have E:=afd (cm (k:=.sn) b.2.1 w.1 b.1,b.2.2) n false [];dsimp only at c;generalize hf:bP (cm (k:=.sn) b.2.1 w.1 b.1,b.2.2) n false []=f at c E;dsimp only[msX];have e:=G _ E;refine ac (λo=>?_) (λo=>aj ⟨_,_,_,_,_,_,rfl,rfl,?_⟩);·refine vck ?_ (decide_eq_true (by omega));refine vck ?_ (by simp[e.1,e.2]);refine vck ?_ (decide_eq_true (by omega));refine vck ?_ (by simp);refine aj ⟨_,_,_,_,_,_,rfl,rfl,?_⟩;show (_:Int×MS)=cQ (aq m.2.2.2) m n kind a;rw[c,if_pos (by simpa using o)];rfl
   ·show (_:Int×MS)=cQ (aq m.2.2.2) m n kind a;rw[c,if_neg (by simpa using o)]
  ·rw[if_neg (show ¬kind=10 by simpa using F)] at c;dsimp only at c;refine ag (kW n _ y) ?_;intro d an;have ae:d=ao n [115,105,122,101]:=an.2;rw[<-ae] at c;refine ag (db ((cm (k:=.sn) b.2.1 w.1 b.1,b.2.2):MS) _ _) ?_;intro u R;have M:=dc (m:=((cm (k:=.sn) b.2.1 w.1 b.1,b.2.2):MS)) R;rw[<-M] at c;have W:a6 ((cm (k:=.sn) b.2.1 w.1 b.1,b.2.2):MS) u:=by rw[M];exact ay _ _ _
   have es:(if 5000<(if d.1.n<0 then 0 else d.1.n) then 5000 else (if d.1.n<0 then 0 else d.1.n))=aiR d.1.n:=by
    unfold aiR;split;·rename_i h;simp[h]
    ·rfl
   refine ac (λp=>?_) (λp=>?_);refine ag (db u _ _) ?_;intro v A;have D:v=ak u (decide (d.1.n<0)||decide (5000<d.1.n)) 6:=by rw[dc A,p];rfl
   rotate_left
   refine ag (db u _ _) ?_;intro v A;have D:v=ak u (decide (d.1.n<0)||decide (5000<d.1.n)) 6:=by rw[dc A,p];rfl
   all_goals
    rw[<-D] at c;have E:a6 ((cm (k:=.sn) b.2.1 w.1 b.1,b.2.2):MS) v:=by rw[D];exact W.trans (ay _ _ _)
    have e:=G _ E;rw[es];refine ac (λo=>?_) (λo=>aj ⟨_,_,_,_,_,_,rfl,rfl,?_⟩);·refine vck ?_ (decide_eq_true (by omega));refine vck ?_ (by simp[e.1,e.2]);refine vck ?_ (decide_eq_true (by omega));refine vck ?_ (by simp);refine aj ⟨_,_,_,_,_,_,rfl,rfl,?_⟩;show (_:Int×MS)=cQ (aq m.2.2.2) m n kind a;rw[c,if_pos (by simpa using o)];rfl
    ·show (_:Int×MS)=cQ (aq m.2.2.2) m n kind a;rw[c,if_neg (by simpa using o)]
theorem ajS:∀k,k<=20->TT (k+1)
 |0,h=>ajR h (λa=>absurd a (by decide)) (λa=>absurd a (by decide))
 |k+1,h=>ajR h (λ_=>ajS k (by omega)) (λ_=>atc h (ajS k (by omega)))
noncomputable def ik:av:=gH (ah1 (P:=Tryz.prog) []) (kf (P:=Tryz.prog) 2 [iW] [] [] [] [ahp])
def aco:IR:=Rs [Bi 46 .lss 45 44] (Sq (Cn 46 .skip (.exit 2)) (Sq (.block 3 (Rs [Mv 47 45,Mv 7 47] (.wk [Mv 48 6,Nk 49 48,Pp (.fdw 50 8 (.t 49)),⟨none,.ldw 51 1 false (.t 50),some ([2],[])⟩,Mv 52 7,Mv 53 6,Nk 54 53,Pp (.fdw 55 8 (.t 54)),⟨none,.ldw 56 1 false (.t 55),some ([2],[])⟩,Mv 57 7,Pp (.ixa 58 .afield (.t 56) (.t 57)),Fa 59 4 58,⟨none,.ld 60 5 true false (.t 59),some ([],[])⟩,Pp (.call (some 61) 15 [.t 60]),Pp (.ixa 62 .afield (.t 51) (.t 52))] [[],[0],[0,1],[0,1,2],[],[],[5],[5,6],[5,6,7],[],[5,6,7,8,9],[5,6,7,8,9,10],[5,6,7,8,9,10,11],[5,6,7,8,9,10,11,12],[0,1,2,3,4,5,6,7,8,9,10,11,12,13]] [Fa 63 4 62] (.ste 5 (.t 63) (.t 61)) []))) (Rg [Bc 64 .add 45 1,Mv 45 64])))
def aav:IR:=Rg [Bc 65 .add 30 1,Mv 30 65]
def qd:IR:=Rs [Bi 31 .lss 30 29] (Sq (Cn 31 .skip (.exit 0)) (Sq (.block 1 (Rs [Mv 32 30,Mv 5 32] (Rs [Mv 33 4,Nk 34 33,Fa 35 0 34,Fa 36 0 35,Lo 37 36,Mv 38 5,Pp (.ixw 39 .atype 37 38),Mv 6 39] (Rs [Mv 40 6,Nk 41 40,Pp (.fdw 42 8 41),Pp (.ldw 43 1 false 42),Ll 44 43,Mi 45 0] (.block 2 (.loop [2,4,6,29,30,44,45,1000000] 4 aco)))))) aav))
def uW:IR:=Sq (.gh (.cls (.cell 1 0)) (.gh (.fz (.cell 1 0)) (Rg [Mv 66 4,Nk 67 66,Fa 68 0 67,Pp (.ld 69 1 true false 68),Fz 2 1 69,Mi 3 0]))) .ret
def anZ:IR:=Rs [Bx 1 0,Pp (.alr 2 1),Mi 3 0] (Rs [Pp (.mkm 8 .sn),Pp (.bld 9 [.ul .atype ([]:List ab),.nilm,vI 0,vI 0] [(1,1,8)]),Pp (.box 10 9),Mv 4 10] (Rs [Mv 11 4,Ld 12 5 true 1,Ca 13 14 [11,12,kS []]] (Sq (Rs [Mv 14 4,Nk 15 14,Fa 16 2 15,Lo 17 16,Bc 18 .neq 17 0] (Cn 18 (Sq (.reg [Pp (.bld 19 [fu .atype true] []),Mv 20 4,Nk 21 20,Fa 22 2 21,Fo [1] [] (.ld 23 1 false false 22),Fz 2 1 19,Mv 3 23] [[],[],[1],[1,2],[1,2,3],[0],rg 0 5]) .ret) .skip)) (Sq (Sq (.gh (.opn (.cell 1 0)) (Rg [Mv 24 4,Nk 25 24,Fa 26 0 25,Fa 27 0 26,Lo 28 27,Pp (.lnw 29 28),Mi 30 0])) (.block 0 (.loop [2,4,29,30,1000001] 4 qd))) uW))))
def zt:List RV:=[.cell 2 1 true,.t 3]
theorem an0:anj Tryz.prog ik [14,2000014] 0 ahm Tryz.f8 anZ zt:=atR Tryz.func8
def sK(R:IR->(Ex->St->Ro)->St->Ro)(a:St->Ro):Ex->St->Ro:=(ce a [2,4,29,30,1000001] 4 (aG 0 (bR (R uW) (fin zt))))
abbrev jd:Type:=(Int×Int×List (Bs×Int)×Nat×Int×Int×List ab)
def dj(x:jd):St:={env:=(.undef::.undef::.raw 1::.undef::.ptr 1 0::(U 24 (.int .i64 x.1::.int .i64 x.2.1::(U 39 [])))),hp:=[some [.mp .sn x.2.2.1],some [.sw .atype 2 x.2.2.2.1,.mr 0,.int .i64 x.2.2.2.2.1,.int .i64 x.2.2.2.2.2.1],some [.rw .atype x.2.2.2.2.2.2],none]}
def amj(R:IR->(Ex->St->Ro)->St->Ro)(b a:St->Ro):Ex->St->Ro:=(ce a [2,4,6,29,30,44,45,1000000] 4 (aG 2 (aG 1 (bR (R aav) (sK R b)))))
abbrev sL:Type:=(Nat×Int×Int×Int×Int×List (Bs×Int)×Nat×Int×Int×List ab)
def od(x:sL):St:={env:=(.undef::.undef::.raw 1::.undef::.ptr 1 0::.undef::.wp 2 .atype x.1 0::(U 22 (.int .i64 x.2.1::.int .i64 x.2.2.1::(U 13 (.int .i64 x.2.2.2.1::.int .i64 x.2.2.2.2.1::(U 24 [])))))),hp:=[some [.mp .sn x.2.2.2.2.2.1],some [.sw .atype 2 x.2.2.2.2.2.2.1,.mr 0,.int .i64 x.2.2.2.2.2.2.2.1,.int .i64 x.2.2.2.2.2.2.2.2.1],some [.rw .atype x.2.2.2.2.2.2.2.2.2],none]}
def sM(N:Nat)(b:St->Ro):(St->Ro)->St->Ro:=λa s=>run ik N aco (amj (run ik N) b a) s
def pp(N:Nat)(d:jd->Ro)(c:sL->Ro)(x:sL):Ro:=
 let o:Nat:=x.1;let p:Int:=x.2.1;let k:Int:=x.2.2.1;let j:Int:=x.2.2.2.1;let b:Int:=x.2.2.2.2.1;let f:List (Bs×Int):=x.2.2.2.2.2.1;let e:Nat:=x.2.2.2.2.2.2.1;let g:Int:=x.2.2.2.2.2.2.2.1;let h:Int:=x.2.2.2.2.2.2.2.2.1;let a:List ab:=x.2.2.2.2.2.2.2.2.2
 cond (decide (b<j)) (
  chk (decide (o<Aa a)) (
   let r:=(Ak a o (am .atype)).fields
   chk (decide (o<Aa a)) (
    let q:=(Ak a o (am .atype)).fields
    chk (ixl b q) (
     let t:=(Ak q (Ae b) (am .afield))
     af (lE (reJ t.df)) (λ(i:aa)=>
      chk (ixl b r) (
       let m:=(Ak r (Ae b) (am .afield))
       chk ((aiz [.int .i64 i.kind,.int .i64 i.n,.str i.s,.sl .jnode (.may false) i.l,.sl .str (.may false) i.names] [.int .i64 m.df.kind,.int .i64 m.df.n,.str m.df.s,.sl .jnode (.may false) m.df.l,.sl .str (.may false) m.df.names]&&true)) (
        let v:=(Aj .i64 (b+1))
        c (o,p,k,j,v,f,e,g,h,a)))))))) (
  let u:=(Aj .i64 (k+1))
  d (p,u,f,e,g,h,a))
theorem ak4(N:Nat)(a:St->Ro):LB (sM N a) od (pp N (λy=>a (dj y))):=λ_ _=>by kernel_rfl
def sN(N:Nat):(St->Ro)->St->Ro:=λa s=>run ik N qd (sK (run ik N) a) s
def rm(N:Nat)(h:jd->Ro)(i:sL->Ro)(x:jd):Ro:=
 let g:Int:=x.1;let b:Int:=x.2.1;let d:List (Bs×Int):=x.2.2.1;let c:Nat:=x.2.2.2.1;let e:Int:=x.2.2.2.2.1;let f:Int:=x.2.2.2.2.2.1;let a:List ab:=x.2.2.2.2.2.2
 cond (decide (b<g)) (
  chk ((decide (0<=b)&&decide (b<↑c))) (
   chk (decide ((Ae b)<Aa a)) (
    let j:=(Ak a (Ae b) (am .atype)).fields;let k:=(↑(Aa j):Int)
    i ((Ae b),g,b,k,0,d,c,e,f,a)))) (
  chk (As c (Aa a)) (
   some (.tup [.agg [.sl .atype (.may false) a],.int .i64 0],[some [.mp .sn d],some [.sl .atype .own a,.mr 0,.int .i64 e,.int .i64 f],none,none])))
def sO(N:Nat)(a:jd->Ro)(x:jd):Ro:=rm N a (λz=>aO N (pp N a) z) x
def xC(N:Nat)(a:St->Ro):List (Nat×(St->Ro)):=(d5 ik N qd (sK (run ik N) a)++(d5 ik N uW (fin zt)++[]))
theorem ak5(N:Nat):∀(a:St->Ro)(x:jd),sN N a (dj x)=sO N (λy=>a (dj y)) x:=by
 intro a x;have b:∀C:Nat->St->Ro,dn C ik N qd (sK (dn C ik N) a) (dj x)=rm N (λy=>a (dj y)) (λz=>C 1000000 (od z)) x:=by intro C;kernel_rfl
 have h:sN N a (dj x)=rm N (λy=>a (dj y)) (λz=>bg N (sM N a) (od z)) x:=(kP (C:=mz (xC N a)) (eY (bV (l:=(xC N a)) (by kernel_rfl))) (qn (iU (np (eY (iu (bV (l:=(xC N a)) (by kernel_rfl)))) rfl))) _).trans ((b _).trans (by kernel_rfl));have c:(λz=>bg N (sM N a) (od z))=(λz=>aO N (pp N (λy=>a (dj y))) z):=funext λz=>bz (od) (sM N a) (pp N (λy=>a (dj y))) (ak4 N a) N z
 rw[h,c];rfl
def qV(N:Nat)(d:aa)(c:jd->Ro):Ro:=
 af (cR ([]:List (Bs×Int)) ([]:List ab) 0 0 (reJ d) ([]:Bs)) (λa=>
  cond (!(a.2.2.2.1==0)) (
   some (.tup [.agg [.sl .atype (.may true) ([]:List ab)],.int .i64 a.2.2.2.1],[some [.mp .sn a.2.1],some [.ul .atype a.2.2.1,.mr 0,.int .i64 a.2.2.2.1,.int .i64 a.2.2.2.2]])) (
   chk (decide (0<Aa a.2.2.1)) (
    let b:=(↑(Aa a.2.2.1):Int)
    c (b,0,a.2.1,(Aa a.2.2.1),a.2.2.2.1,a.2.2.2.2,a.2.2.1))))
def agi(N:Nat)(a:aa):Ro:=qV N a (λz=>aO N (sO N) z)
theorem amk(N:Nat)(a:aa)(h:Tot (agi N a) (λz=>∃(c:List ab)(d:Int)(rest:List ai),z.1.dimR=.tup [.agg [.sl .atype (.may false) c],.int .i64 d]∧z.2=rest∧wc a (c,d))):∃r,rS a r:=ah0.fin (p:=λr=>wc a r) an0 (N:=N) ((cV _ (by kernel_rfl) rfl (λC=>qV N a (λz=>C 1000001 (dj z))) (λC=>by kernel_rfl)).trans (A3 (b:=qV N a (λz=>bg N (sN N) (dj z))) (by kernel_rfl) (congrArg (qV N a) (funext λz=>bz (dj) (sN N) (sO N) (ak5 N) N z)))) h λ_ ⟨c,d,_,e,_,q⟩=>⟨(c,d),e,q⟩
theorem agH:qU 21 m0:=⟨by decide,ai2.map,by decide,by decide⟩
theorem aqB(l:List V):aiz l l=true:=by simp[aiz]
theorem arE(n:aa)(I:aE n):∃r,rS n r:=by
 obtain⟨N,Y⟩:∃N:Nat,N=100:=⟨_,rfl⟩
 apply amk N;unfold agi qV;simp only[bo];refine ag (ajS 20 (by decide) m0 n [] agH I (by simp)) ?_;intro k L;have y:k=bh 21 m0 n []:=yx L agH;have w:fT n=(if k.2.2.2.1=0 then (k.2.2.1,0) else ([],k.2.2.2.1)):=by rw[y];rfl
 refine ac (λf=>aj ⟨[],k.2.2.2.1,_,rfl,rfl,?_⟩) (λf=>?_);·show _=fT n;rw[w,if_neg (by simpa using f)]
 have J:k.2.2.2.1=0:=by simpa using f
 rw[if_pos J] at w;have c:=afh I (by rw[<-y];exact J);rw[<-y] at c;clear y L;refine vck ?_ (decide_eq_true c.pos);obtain⟨h,A⟩:∃h,k.2.2.1=h:=⟨_,rfl⟩
 rw[A] at c w ⊢;have Q:=c.cap;refine a8 (λx=>match x with|(b,i,G,l,e,d,a)=>b=(h.length:Int)∧(0<=i∧i<=(h.length:Int))∧l=h.length∧a=h) (λx=>((h.length:Int)-x.2.1).toNat) ?_ _ _ ⟨rfl,⟨by simp,by simp⟩,rfl,rfl⟩ (by simp;omega);rintro F ⟨b,i,G,l,e,d,a⟩ ⟨rfl,⟨X,Z⟩,rfl,rfl⟩ P;dsimp only at P;unfold sO rm;dsimp only;refine ac (λf=>?_) (λf=>?_)
 ·have H:i<(a.length:Int):=of_decide_eq_true f;have g:i.toNat<a.length:=by omega
  have B:a[i.toNat]? =some (a.getD i.toNat (am .atype)):=by rw[Af,Ab g];rfl
  have m:=c.tok _ (Ai B);refine vck ?_ (by simp[X,H]);refine vck ?_ (decide_eq_true g);generalize a.getD i.toNat (am .atype)=t at B m ⊢;have W:a.getD i.toNat (am .atype)=t:=by rw[Af,B];rfl
  have S:=m.fl;refine a8 (λx=>match x with|(R,b,o,O,j,G,l,e,d,u)=>R=i.toNat∧b=(a.length:Int)∧o=i∧O=(t.fields.length:Int)∧(0<=j∧j<=(t.fields.length:Int))∧l=a.length∧u=a) (λx=>((t.fields.length:Int)-x.2.2.2.2.1).toNat) ?_ _ _ ⟨rfl,rfl,rfl,rfl,⟨by simp,by simp⟩,rfl,rfl⟩ (by simp;omega);rintro v ⟨R,b,o,O,j,G,l,e,d,u⟩ ⟨rfl,rfl,rfl,rfl,⟨M,j2⟩,rfl,rfl⟩ p;dsimp only at p;unfold pp;dsimp only;refine ac (λf=>?_) (λf=>?_)
  ·have q:j<(t.fields.length:Int):=of_decide_eq_true f;rw[W];refine vck ?_ (decide_eq_true g);refine vck ?_ (decide_eq_true g);refine vck ?_ (by simp[ixl,M,q]);have D:j.toNat<t.fields.length:=by omega
   have E:=m.fs (t.fields.getD j.toNat (am .afield)) (by rw[Af,Ab D];exact AK _);rw[bo];refine ag (aso _ E.df) ?_;rintro _ ⟨-,rfl⟩;refine vck ?_ (by simp[ixl,M,q]);refine vck ?_ (by simp only[aqB,Bool.and_self]);have C:IntKind.i64.wrap (j+1)=j+1:=ax (j+1) (by omega);rw[C];exact p _ ⟨rfl,rfl,rfl,rfl,⟨by first|omega|(dsimp only;omega),by first|omega|(dsimp only;omega)⟩,rfl,rfl⟩ (by simp only;omega)
  ·have C:IntKind.i64.wrap (o+1)=o+1:=ax (o+1) (by omega);rw[C];exact P _ ⟨rfl,⟨by first|omega|(dsimp only;omega),by first|omega|(dsimp only;omega)⟩,rfl,rfl⟩ (by simp only;omega)
 ·refine vck ?_ (BF _);exact aj ⟨_,_,_,rfl,rfl,by show _=fT n;rw[w]⟩
end Go.Proofs.YtkinflmjagfapaaGreatDoor
end
