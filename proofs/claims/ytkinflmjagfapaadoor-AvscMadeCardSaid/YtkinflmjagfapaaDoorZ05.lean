import Derived.Test.YtkinflmjagfapaaDoorChecked
import Derived.ChangeArms
import Derived.ChangeSlices
import Derived.WideShapes
import Derived.WideKeyArgs
import Derived.KernelRfl
import Derived.Test.YtkinflmjagfapaaDoorZ02
import Derived.Test.YtkinflmjagfapaaDoorZ03
import Derived.Test.YtkinflmjagfapaaDoorZ04
open Array renaming getElem?_eq_getElem→Am
open Go.IntKind renaming wrap→Ao,signed→Bb,bits→Br,max→B2,min→Cm
open Go.World renaming cell?→Bn
open Int renaming toNat→Ag,tmod→Bl,tmod_eq_emod_of_nonneg→By,tdiv_eq_ediv_of_nonneg→BW,mul_le_mul_of_nonneg_right→Ci,tmod_nonneg→C8,emod_lt_of_pos→Dk
open List renaming length→Aa,getElem?_eq_getElem→Ac,getElem?_eq_some_iff→Ad,mem_of_getElem?→Af,getD_eq_getElem?_getD→Ah,getElem?_append_right→An,getElem?_append_left→Ap,getD→Aq,mem_append→Ay,mem_singleton→Az,length_set→AB,length_cons→AD,length_append→AG,mem_cons→AL,getElem_mem→AO,length_nil→AQ,getElem?_eq_none→AU,getElem?_cons_zero→AZ,take→A4,mem_of_mem_take→A7,drop→A8,cons_append→Bo,not_mem_nil→Bp,mem_of_mem_drop→Bu,length_take→Bv,length_drop→BA,drop_zero→B4,nil_append→Cf,set_cons_succ→Cg,take_of_length_le→Cp,set_cons_zero→CI,drop_succ_cons→De,mem_or_eq_of_mem_set→Dx
open Nat renaming le_refl→Aj,lt_or_ge→AE,le_trans→AF,zero_add→AW,zero_le→Bj,beq_refl→BL
open Option renaming getD_some→A5,bind_eq_some_iff→BC
open Option.some renaming injEq→Ae
open UInt8 renaming ofNat→BG
set_option linter.all false
set_option maxRecDepth 100000
noncomputable section
namespace Go.Proofs.YtkinflmjagfapaaDoor
open Go.AM
theorem cW(k n:Int)(s:List UInt8)(h:s.length<=100):iE (.mk k n s [] []):=.mk _ _ _ _ _ h (by simp) (by simp) (by simp) (by simp) (by simp) (by simp[aN]) (by simp[aN])
theorem tW(k n:Int)(l:List aa)(h:l.length<=7)(a:∀c∈l,iE c)(b:k≠6):iE (.mk k n [] l []):=.mk _ _ _ _ _ (by simp) h (by simp) (by simp) (λh=>absurd h b) a (by simp[aN]) (by simp[aN])
theorem ve(k n:Int)(l:List aa)(names:List (List UInt8))(f:names.length=l.length)(h:l.length<=7)(d:ce names)(e:∀c∈l,iE c)
  (b:aN [115,105,122,101] (λc=>c.n<=af6) names l) (a:aN [110,97,109,101] (λc=>iR c.s) names l):iE (.mk k n [] l names):=.mk _ _ _ _ _ (by simp) h (by omega) d (λ_=>f) e b a
theorem dr:∀l m:List aa,co (l++m)=co l+co m
 | [],m=>by simp[co]
 |c::l,m=>by simp only[Bo,co,dr l m];omega
theorem agI(l:List aa)(n:Nat):co (A8 0 (A4 n l))<=co l:=by rw[B4];have:=dr (l.take n) (l.drop n);rw[List.take_append_drop] at this;omega
theorem yI{l:List (List UInt8)}(h:ce l)(i:Nat):(l.getD i (ao .str)).length<=100:=agH h i
theorem afd(a:List UInt8)(n j t:Int)(d:List UInt8)(o:List aa)(h:List (List UInt8))(hp:kP a n)(I:iE (.mk j t d o h)):∃r,hZ a n j t d o h r:=by
 obtain⟨L,O,E,P,N,M⟩:=I.kids;apply ta 1;unfold nP eh;dsimp only;have one:∀(e B v:Int)(x:List UInt8)(y:List aa)(w:List (List UInt8)),kP a e->Tot (dU 1 (j,t,d,o,h,a,e,B,v,x,y,w)) (λz=>∃(u i:Int)(f:List UInt8)(g:List aa)(p:List (List UInt8))(k:List UInt8)(q:Int)(rest:List ah),z.1.dimR=.agg [.int .i64 u,.int .i64 i,.str f,.sl .jnode (.may false) g,.sl .str (.may false) p]∧z.2=some [.sl .u8 (.may false) k,.int .i64 q]::rest∧dE a n j t d o h (u,i,f,g,p,k,q)):=by
  intro e B v x y w hp';unfold dU;dsimp only
  repeat' (first|(with_reducible refine af ?_ ?_<;>(intro c;(try simp only[bnl] at c);(try revert c;intro _)))|with_reducible refine cI ?_ ?_|with_reducible refine ak ?_|(refine ac (afA _ _ _ _ _ _ E (by omega)) ?_;rintro r ⟨-,C⟩;clear C)|(refine ac (cz _) ?_;rintro _ ⟨-,rfl⟩;dsimp only)|fail)
  all_goals exact⟨_,_,_,_,_,_,_,_,rfl,rfl,cW _ _ _ (by simp),rfl,rfl,hp'⟩
 have A:∀(e B v:Int)(x:List UInt8)(y:List aa)(w:List (List UInt8)),kP a e->Tot (f9 1 (j,t,d,o,h,a,e,B,v,x,y,w)) (λz=>∃(u i:Int)(f:List UInt8)(g:List aa)(p:List (List UInt8))(k:List UInt8)(q:Int)(rest:List ah),z.1.dimR=.agg [.int .i64 u,.int .i64 i,.str f,.sl .jnode (.may false) g,.sl .str (.may false) p]∧z.2=some [.sl .u8 (.may false) k,.int .i64 q]::rest∧dE a n j t d o h (u,i,f,g,p,k,q)):=by
  intro e B v x y w hp';unfold f9;dsimp only
  repeat' (first|(with_reducible refine af ?_ ?_<;>(intro c;(try simp only[bnl] at c);(try revert c;intro _)))|with_reducible refine cI ?_ ?_|with_reducible refine ak ?_|(refine ac (afA _ _ _ _ _ _ E (by omega)) ?_;rintro r ⟨-,C⟩;clear C)|(refine ac (cz _) ?_;rintro _ ⟨-,rfl⟩;dsimp only)|fail)
  all_goals exact⟨_,_,_,_,_,_,_,_,rfl,rfl,cW _ _ _ (by simp),rfl,rfl,hp'⟩
 have zero:∀(b:Bool),Tot (f8 1 (j,t,d,o,h,d,b,a,n,0,0,[],[],[])) (λz=>∃(u i:Int)(f:List UInt8)(g:List aa)(p:List (List UInt8))(k:List UInt8)(q:Int)(rest:List ah),z.1.dimR=.agg [.int .i64 u,.int .i64 i,.str f,.sl .jnode (.may false) g,.sl .str (.may false) p]∧z.2=some [.sl .u8 (.may false) k,.int .i64 q]::rest∧dE a n j t d o h (u,i,f,g,p,k,q)):=by
  intro b;unfold f8 fj;dsimp only;have G:ce ([([]:List UInt8),([100]:List UInt8),([195,164]:List UInt8)]:List (List UInt8)):=by simp[ce]
  repeat' (first|(with_reducible refine af ?_ ?_<;>(intro c;(try simp only[bnl] at c);(try revert c;intro _)))|with_reducible refine cI ?_ ?_|with_reducible refine ak ?_|(refine ac (mi _ _ _ hp (by omega) (by omega)) ?_;rintro⟨m,J,e⟩ ⟨-,H,F,rfl,D⟩;dsimp only at H F D ⊢)|(refine ac (cz _) ?_;rintro _ ⟨-,rfl⟩;dsimp only)|fail)
  all_goals first|exact⟨_,_,_,_,_,_,_,_,rfl,rfl,cW _ _ _ (Bj _),rfl,rfl,hp⟩|exact⟨_,_,_,_,_,_,_,_,rfl,rfl,cW _ _ _ (Bj _),rfl,rfl,D⟩|exact⟨_,_,_,_,_,_,_,_,rfl,rfl,cW _ _ _ (yI G _),rfl,rfl,D⟩|exact one _ _ _ _ _ _ hp|exact A _ _ _ _ _ _ hp|(first|(simp only[bnl,lnl];done)|(simp only[bnl,lnl];omega))|skip
 repeat' (first|(with_reducible refine af ?_ ?_<;>(intro c;(try simp only[bnl] at c);(try revert c;intro _)))|with_reducible refine cI ?_ ?_|with_reducible refine ak ?_|fail)
 all_goals first|exact zero _|exact A _ _ _ _ _ _ hp
def abg(deep:Int):Prop:=∀(a:List UInt8)(n:Int)(b:List (List UInt8)),kP a n->ce b->b.length+lE (5-deep.toNat)<=100000->∃r,cl a n b deep r
theorem tb{deep:Int}(h:0<=deep∧deep<=4):lE (5-deep.toNat)=1+4*lE (5-(deep+1).toNat):=by
 have:5-deep.toNat=(5-(deep+1).toNat)+1:=by omega
 rw[this];rfl
theorem tc{deep:Int}(h:0<=deep∧deep<=4):oo (5-deep.toNat)=50+4*oo (5-(deep+1).toNat):=by
 have:5-deep.toNat=(5-(deep+1).toNat)+1:=by omega
 rw[this];rfl
theorem sK:∀n,20<=oo n
 |0=>Aj _
 |n+1=>by have:=sK n;simp only[oo];omega
theorem agJ(deep:Int)(O:0<=deep∧deep<=3)(y:abg (deep+1))(a:List UInt8)(n:Int)(p:List (List UInt8))(hp:kP a n)(h:ce p)(Q:p.length+lE (5-deep.toNat)<=100000):∃r,jb a n p deep r:=by
 have N:=tb (deep:=deep) (by omega);have P:=tc (deep:=deep) (by omega);have H:=sK (5-(deep+1).toNat);have x:IntKind.i64.wrap (deep+1)=deep+1:=ax (deep+1) (by omega);apply uY 1;unfold pE pD;dsimp only;have B:ce ([([105,110,116]:List UInt8),([115,116,114,105,110,103]:List UInt8)]:List (List UInt8)):=by simp[ce]
 refine ac (cz _) ?_;rintro _ ⟨-,rfl⟩;refine ac (mi _ _ _ hp (by omega) (by omega)) ?_;rintro⟨m,z,M⟩ ⟨-,I,C,rfl,w⟩;dsimp only at I C w ⊢;refine af (λ_=>?_) (λ_=>?_)
 ·refine ac (mi _ _ _ w (by omega) (by omega)) ?_;rintro⟨m',z,E⟩ ⟨-,v,t,rfl,j⟩;dsimp only at v t j ⊢;refine vck ?_;refine ac (cz _) ?_;rintro _ ⟨-,rfl⟩;dsimp only;refine vck ?_;rw[x];refine ac (y _ _ _ j h (by omega)) ?_;rintro⟨F,L,A,G,D,q,J,u⟩ ⟨-,⟨k,e⟩,rfl,f,g,o⟩;dsimp only at k e f g o ⊢;rw[cV] at e;have d:∀c∈([aa.mk 4 0 [110,117,108,108] [] []]++[aa.mk 4 0 (Aq ([([105,110,116]:List UInt8),([115,116,114,105,110,103]:List UInt8)]:List (List UInt8)) (Ag m') (ao .str)) [] []]),iE c:=by
   intro c b;simp only[Bo,Cf,AL,Bp,or_false] at b;rcases b with rfl|rfl;·exact cW _ _ _ (by simp)
   ·exact cW _ _ _ (yI B _)
  repeat' (first|(with_reducible refine af ?_ ?_<;>(intro i;(try simp only[bnl] at i);(try revert i;intro _)))|with_reducible refine cI ?_ ?_|with_reducible refine ak ?_|fail)
  ·first|(simp only[bnl,lnl];done)|(simp only[bnl,lnl];omega)
  ·refine⟨_,_,_,_,_,_,_,_,_,rfl,rfl,⟨tW _ _ _ (by simp) ?_ (by simp),by simp only[cV,dr,co];omega⟩,rfl,f,g,by simp only;omega⟩;intro c b;rcases Ay.1 b with b|b;·exact d c b
   ·simp only[Az] at b;subst b;exact k
  ·exact⟨_,_,_,_,_,_,_,_,_,rfl,rfl,⟨tW _ _ _ (by simp) d (by simp),by simp only[cV,dr,co];omega⟩,rfl,f,g,by simp only;omega⟩
 ·rw[x];refine ac (y _ _ _ w h (by omega)) ?_;rintro⟨F,L,A,G,D,q,J,u⟩ ⟨-,⟨k,e⟩,rfl,f,g,o⟩;dsimp only at k e f g o ⊢;rw[cV] at e
  repeat' (first|(with_reducible refine af ?_ ?_<;>(intro i;(try simp only[bnl] at i);(try revert i;intro _)))|with_reducible refine cI ?_ ?_|with_reducible refine ak ?_|fail)
  ·first|(simp only[bnl,lnl];done)|(simp only[bnl,lnl];omega)
  ·refine⟨_,_,_,_,_,_,_,_,_,rfl,rfl,⟨tW _ _ _ (by simp) ?_ (by simp),by simp only[cV,dr,co];omega⟩,rfl,f,g,by simp only;omega⟩;intro c b;simp only[Bo,Cf,AL,Bp,or_false] at b;rcases b with rfl|rfl;·exact cW _ _ _ (by simp)
   ·exact k
  ·refine⟨_,_,_,_,_,_,_,_,_,rfl,rfl,⟨tW _ _ _ (by simp) ?_ (by simp),by simp only[cV,dr,co];omega⟩,rfl,f,g,by simp only;omega⟩;intro c b;simp only[Az] at b;subst b;exact cW _ _ _ (by simp)
theorem zD(deep:Int)(f:0<=deep∧deep<=3)(hT:abg (deep+1))(a:List UInt8)(n:Int)(y:List (List UInt8))(name:List UInt8)(hp:kP a n)(A:ce y)(t:name.length<=100∧iR name)(hl:y.length+lE (5-deep.toNat)<=100001):∃r,fp a n y name deep r:=by
 have hN:=tb (deep:=deep) (by omega);have hM:=tc (deep:=deep) (by omega);have b5:=sK (5-(deep+1).toNat);have ed:IntKind.i64.wrap (deep+1)=deep+1:=ax (deep+1) (by omega);apply tS 100;unfold oV eP;refine ac (mi _ _ _ hp (by omega) (by omega)) ?_;rintro⟨m,a',n'⟩ ⟨-,m1,m2,rfl,m3⟩;dsimp only at m1 m2 m3 ⊢
 refine cn (λx=>match x with|(w,o,i,m',P,n2,j,G,E,J,L,H,k0,k1,Y,l,k4)=>w=name∧o=deep∧0<=i∧i<=m∧m'=m∧P=a'∧kP a' n2∧ce j∧(j.length:Int)<=y.length+i*lE (5-(deep+1).toNat)∧k0=5∧k1=0∧Y=[]∧k4=[]∧(l.length:Int)=i∧(∀c∈l,iE c)∧(co l:Int)<=i*(oo (5-(deep+1).toNat)+3:Nat)) (λx=>(m-x.2.2.1).toNat) ?_ _ _
  ⟨rfl,rfl,by simp,m1,rfl,rfl,m3,A,by simp,rfl,rfl,rfl,rfl,rfl,by simp,by simp[co]⟩ (by simp only;omega)
 rintro e ⟨w,o,i,m',P,n2,j,G,E,J,L,H,k0,k1,Y,l,k4⟩ ⟨rfl,rfl,i1,i2,rfl,rfl,N,i4,i5,rfl,rfl,rfl,rfl,i6,i7,i8⟩ R;dsimp only at R;have ei:i<m'->IntKind.i64.wrap (i+1)=i+1:=λh=>ax (i+1) (by omega)
 generalize Z:lE (5-(o+1).toNat)=q at*
 generalize I:oo (5-(o+1).toNat)=p at*
 have ci:i*((p+3:Nat):Int)<=4*((p+3:Nat):Int):=Ci (by omega) (by omega);have b0:i*(q:Int)<=4*q:=Ci (by omega) (by omega);have al:ce ([]:List (List UInt8)):=by simp[ce]
 unfold gT;dsimp only;refine af (λh=>?_) (λh=>?_)
 ·have h:=of_decide_eq_true h;rw[ed];have b1:(i+1)*(q:Int)<=4*q:=Ci (by omega) (by omega);have b2:(i+1)*(q:Int)=i*q+q:=by rw[Int.add_mul,Int.one_mul]
  have C:(i+1)*((p+3:Nat):Int)=i*((p+3:Nat):Int)+((p+3:Nat):Int):=by rw[Int.add_mul,Int.one_mul]
  refine ac (hT _ _ _ N i4 (by rw[Z];omega)) ?_;rintro⟨t0,t1,t2,t3,t4,b4,n3,v⟩ ⟨-,⟨z,g⟩,rfl,X,h4,S⟩;dsimp only at z g X h4 S ⊢;rw[cV] at g;rw[Z] at S;rw[I] at g;refine vck ?_;refine ac (cz _) ?_;rintro _ ⟨-,rfl⟩;refine ac (qr _ _ _ _) ?_;rintro _ ⟨-,rfl⟩;dsimp only;refine ac (mi _ _ _ X (by omega) (by omega)) ?_;rintro⟨mm,B,n4⟩ ⟨-,D,M,rfl,k⟩;dsimp only at D M k ⊢
  have next:∀(u:Int)(c:aa),kP B u->iE c->szJ c<=p+3->Tot (e (w,o,IntKind.i64.wrap (i+1),m',B,u,v,G,E,J,L,H,5,0,[],l++[c],[])) _:=λu c F b bY=>R (w,o,IntKind.i64.wrap (i+1),m',B,u,v,G,E,J,L,H,5,0,[],l++[c],[])
   (by
    simp only[ei h,AG,AD,AQ];refine⟨trivial,trivial,by omega,by omega,trivial,trivial,F,h4,by omega,trivial,trivial,trivial,trivial,by omega,?_,by rw[dr,C];simp only[co];omega⟩;intro d f;rcases Ay.1 f with f|f;·exact i7 d f
    ·simp only[Az] at f;subst f;exact b) (by simp only[ei h];omega)
  have O:iE (.mk 4 0 ([102]++[BG (Ag (Ao .u8 (Ao .i64 (97+i))))]) [] []):=cW _ _ _ (by simp);refine af (λ_=>?_) (λ_=>?_)
  ·refine vck ?_;refine ac (afd _ _ _ _ _ _ _ k z) ?_;rintro⟨d0,d1,d2,d3,d4,a4,u⟩ ⟨-,q1,W,rfl,Q⟩;dsimp only at q1 W Q ⊢;rw[cV] at W;refine vck ?_;refine vck ?_;refine next _ _ Q (ve _ _ _ _ (by simp) (by simp) (by simp[ce]) ?_ (by simp[aN]) (by simp[aN,iR,aa.s])) (by simp only[cV,dr,co];omega)
   intro c b;simp only[Bo,Cf,AL,Bp,or_false] at b;rcases b with rfl|rfl|rfl;·exact O
   ·exact z
   ·exact q1
  ·refine vck ?_;refine next _ _ k (ve _ _ _ _ (by simp) (by simp) (by simp[ce]) ?_ (by simp[aN]) (by simp[aN,iR,aa.s])) (by simp only[cV,dr,co];omega)
   intro c b;simp only[AL,Bp,or_false] at b;rcases b with rfl|rfl;·exact O
   ·exact z
 ·refine ac (cz _) ?_;rintro _ ⟨-,rfl⟩;refine ac (cz _) ?_;rintro _ ⟨-,rfl⟩;refine ac (cz _) ?_;rintro _ ⟨-,rfl⟩;refine ac (qr _ _ _ _) ?_;rintro _ ⟨-,rfl⟩;dsimp only;refine ak ⟨_,_,_,_,_,_,_,_,_,rfl,rfl,⟨⟨ve _ _ _ _ (by simp) (by simp) (by simp[ce]) ?_ (by simp[aN]) (by simp[aN];exact t.2),by simp only[cV,dr,co];omega⟩,rfl,N,i4,by simp only;omega⟩,by simp only;omega⟩;intro c b;simp only[AL,Bp,or_false] at b;rcases b with rfl|rfl|rfl|rfl;·exact cW _ _ _ (by simp)
  ·exact cW _ _ _ t.1
  ·exact cW _ _ _ (by simp)
  ·exact tW _ _ _ (by omega) i7 (by decide)
theorem abh(deep:Int)(hd:0<=deep∧deep<=4)(Y:deep<=3->abg (deep+1)):abg deep:=by
 intro a n o hp t hl;have hN:=tb (deep:=deep) (by omega);have hM:=tc (deep:=deep) (by omega);have dp:=sK (5-(deep+1).toNat);have ed:IntKind.i64.wrap (deep+1)=deep+1:=ax (deep+1) (by omega);apply wB 1;unfold qo gD;dsimp only;have w8:ce ([([105,110,116]:List UInt8),([108,111,110,103]:List UInt8),([115,116,114,105,110,103]:List UInt8),([98,121,116,101,115]:List UInt8),([98,111,111,108,101,97,110]:List UInt8),([110,117,108,108]:List UInt8),([102,108,111,97,116]:List UInt8),([100,111,117,98,108,101]:List UInt8)]:List (List UInt8)):=by simp[ce]
 have bx:∀(k q:Int),deep<=3->kP a q->Tot (fF 1 (deep,k,a,q,o,0,0,[],[],[])) (λz=>∃(C u:Int)(F:List UInt8)(G:List aa)(v:List (List UInt8))(A:List UInt8)(I:Int)(y:List (List UInt8))(rest:List ah),z.1.dimR=.agg [.int .i64 C,.int .i64 u,.str F,.sl .jnode (.may false) G,.sl .str (.may false) v]∧z.2=some [.sl .u8 (.may false) A,.int .i64 I]::some [.sl .str .own y]::rest∧dx a n o deep (C,u,F,G,v,A,I,y)):=by
  intro k q i hp';have Y:=Y i;unfold fF;dsimp only;refine vck ?_;refine vck ?_;generalize R:([78]:List UInt8)++[(BG (Ag (Ao .u8 (Ao .i64 (97+(Bl (↑(Aa o):Int) 26))))))]=J;have D:J.length<=100:=by subst R;simp
  have L:iR J:=by subst R;simp[iR]
  have j:ce (o++[J]):=by
   intro x M;rcases Ay.1 M with M|M;·exact t x M
   ·simp only[Az] at M;subst M;exact D
  have g:(o++[J]).length=o.length+1:=by simp
  refine af (λ_=>?_) (λ_=>af (λ_=>?_) (λ_=>?_))
  ·refine ac (cz _) ?_;rintro _ ⟨-,rfl⟩;refine ac (cz _) ?_;rintro _ ⟨-,rfl⟩;refine ac (mi _ _ _ hp' (by omega) (by omega)) ?_;rintro⟨P,a3,n4⟩ ⟨-,B,H,rfl,f⟩;dsimp only at B H f ⊢;refine ac (qr _ _ _ _) ?_;rintro _ ⟨-,rfl⟩;dsimp only;refine ak ⟨_,_,_,_,_,_,_,_,_,rfl,rfl,⟨ve _ _ _ _ (by simp) (by simp) (by simp[ce]) ?_ (by simp[aN];show _<=(255:Int);simp only[aa.n];omega) (by simp[aN];exact L),by simp only[cV,dr,co];omega⟩,rfl,f,j,by simp only[g];omega⟩;intro c e;simp only[AL,Bp,or_false] at e;rcases e with rfl|rfl|rfl;·exact cW _ _ _ (by simp)
   ·exact cW _ _ _ D
   ·exact cW _ _ _ (by simp)
  ·refine ac (cz _) ?_;rintro _ ⟨-,rfl⟩;refine ac (cz _) ?_;rintro _ ⟨-,rfl⟩;refine ac (cz _) ?_;rintro _ ⟨-,rfl⟩;refine ac (mi _ _ _ hp' (by omega) (by omega)) ?_;rintro⟨P,a3,n4⟩ ⟨-,B,H,rfl,f⟩;dsimp only at B H f ⊢;have em:IntKind.i64.wrap (1+P)=1+P:=ax (1+P) (by omega);rw[em];refine vck ?_;refine ac (cz _) ?_;rintro _ ⟨-,rfl⟩;refine ac (cz _) ?_;rintro _ ⟨-,rfl⟩;refine ac (qr _ _ _ _) ?_;rintro _ ⟨-,rfl⟩;dsimp only;refine ac (mi _ _ _ f (by omega) (by omega)) ?_;rintro⟨m5,a5,n5⟩ ⟨-,b0,bY,rfl,X⟩;dsimp only at b0 bY X ⊢;have bn:∀c∈(A8 0 (A4 (Ag (1+P)) ([aa.mk 4 0 [88] [] [],aa.mk 4 0 [89] [] [],aa.mk 4 0 [90] [] []]:List aa))),iE c:=by
    intro c e;rw[B4] at e;have e:=A7 e;simp only[AL,Bp,or_false] at e;rcases e with rfl|rfl|rfl<;>exact cW _ _ _ (by simp)
   have b4:(A8 0 (A4 (Ag (1+P)) ([aa.mk 4 0 [88] [] [],aa.mk 4 0 [89] [] [],aa.mk 4 0 [90] [] []]:List aa))).length<=7:=by simp only[BA,Bv,AD,AQ];omega
   have a1:=tW 5 0 _ b4 bn (by decide);have Q:=agI ([aa.mk 4 0 [88] [] [],aa.mk 4 0 [89] [] [],aa.mk 4 0 [90] [] []]:List aa) (Ag (1+P));simp only[co,cV] at Q;refine af (λ_=>?_) (λ_=>?_)
   ·refine vck ?_;refine ac (cz _) ?_;rintro _ ⟨-,rfl⟩;dsimp only;refine vck ?_;refine ak ⟨_,_,_,_,_,_,_,_,_,rfl,rfl,⟨ve _ _ _ _ (by simp) (by simp) (by simp[ce]) ?_ (by simp[aN]) (by simp[aN];exact L),by simp only[cV,dr,co];have:=Q;omega⟩,rfl,X,j,by simp only[g];omega⟩;intro c e;simp only[Bo,Cf,AL,Bp,or_false] at e;rcases e with rfl|rfl|rfl|rfl;·exact cW _ _ _ (by simp)
    ·exact cW _ _ _ D
    ·exact a1
    ·exact cW _ _ _ (by simp)
   ·refine ak ⟨_,_,_,_,_,_,_,_,_,rfl,rfl,⟨ve _ _ _ _ (by simp) (by simp) (by simp[ce]) ?_ (by simp[aN]) (by simp[aN];exact L),by simp only[cV,dr,co];have:=Q;omega⟩,rfl,X,j,by simp only[g];omega⟩;intro c e;simp only[AL,Bp,or_false] at e;rcases e with rfl|rfl|rfl;·exact cW _ _ _ (by simp)
    ·exact cW _ _ _ D
    ·exact a1
  ·refine ac (zD deep (by omega) Y _ _ _ _ hp' j ⟨D,L⟩ ?_) ?_;·rw[g];omega
   rintro⟨t0,t1,t2,t3,t4,a4,n3,a9⟩ ⟨-,⟨⟨d,E⟩,rfl,S,W,h5⟩,h6⟩;dsimp only at d E S W h5 h6 ⊢;rw[g] at h6;exact ak ⟨_,_,_,_,_,_,_,_,_,rfl,rfl,⟨d,E⟩,rfl,S,W,by simp only;omega⟩
 have one:∀(k q:Int)(b:Bool),deep<=3->kP a q->(b=true->0<o.length)->Tot (fG 1 (deep,k,b,a,q,o,0,0,[],[],[])) (λz=>∃(C u:Int)(F:List UInt8)(G:List aa)(v:List (List UInt8))(A:List UInt8)(I:Int)(y:List (List UInt8))(rest:List ah),z.1.dimR=.agg [.int .i64 C,.int .i64 u,.str F,.sl .jnode (.may false) G,.sl .str (.may false) v]∧z.2=some [.sl .u8 (.may false) A,.int .i64 I]::some [.sl .str .own y]::rest∧dx a n o deep (C,u,F,G,v,A,I,y)):=by intro k q b i hp' Z;unfold fG iq;dsimp only;refine af (λd=>?_) (λd=>bx _ _ i hp');have Z:=Z d;have N:∃r,aL a q (o.length:Int) r:=aev _ _ _ hp' (by omega);refine ac N ?_;rintro⟨P,a3,n4⟩ ⟨-,B,H,rfl,f⟩;dsimp only at B H f ⊢;refine vck ?_;refine ac (cz _) ?_;rintro _ ⟨-,rfl⟩;exact ak ⟨_,_,_,_,_,_,_,_,_,rfl,rfl,⟨cW _ _ _ (yI t _),by simp only[cV,dr,co];omega⟩,rfl,f,t,by simp only;omega⟩
 have zero:∀(k q:Int),0<=k->(8<=k->deep<=3)->kP a q->Tot (iM 1 (deep,k,a,q,o,0,0,[],[],[])) (λz=>∃(C u:Int)(F:List UInt8)(G:List aa)(v:List (List UInt8))(A:List UInt8)(I:Int)(y:List (List UInt8))(rest:List ah),z.1.dimR=.agg [.int .i64 C,.int .i64 u,.str F,.sl .jnode (.may false) G,.sl .str (.may false) v]∧z.2=some [.sl .u8 (.may false) A,.int .i64 I]::some [.sl .str .own y]::rest∧dx a n o deep (C,u,F,G,v,A,I,y)):=by
  intro k q hk b2 hp';unfold iM iu;dsimp only;refine af (λd=>?_) (λd=>?_);·have d:=of_decide_eq_true d;refine vck ?_;refine ac (cz _) ?_;rintro _ ⟨-,rfl⟩;exact ak ⟨_,_,_,_,_,_,_,_,_,rfl,rfl,⟨cW _ _ _ (yI w8 _),by simp only[cV,dr,co];omega⟩,rfl,hp',t,by simp only;omega⟩
  have i:=b2 (by have:=of_decide_eq_false d;omega);have Y:=Y i;rw[ed]
  have tab:∀(w w2:List UInt8),w.length<=100->w2.length<=100->¬w2=[115,105,122,101]->¬w2=[110,97,109,101]->∀(J:List UInt8),J.length<=100->¬J=[115,105,122,101]->¬J=[110,97,109,101]->Tot (ae (aO w) (λr3=>ae (cl a q o (deep+1)) (λO=>
     ae (dQ true ([J,w2]:List (List UInt8)) true ([⟨r3.1,r3.2.1,r3.2.2.1,r3.2.2.2.1,r3.2.2.2.2⟩,⟨O.1,O.2.1,O.2.2.1,O.2.2.2.1,O.2.2.2.2.1⟩]:List aa)) (λp=>
      some (V.agg [.int .i64 p.1,.int .i64 p.2.1,.str p.2.2.1,.sl .jnode (.may p.2.2.2.1) p.2.2.2.2.1,.sl .str (.may p.2.2.2.2.2.1) p.2.2.2.2.2.2],([some [.sl .u8 (.may false) O.2.2.2.2.2.1,.int .i64 O.2.2.2.2.2.2.1],some [.sl .str .own O.2.2.2.2.2.2.2],some [.int .i64 p.1,.int .i64 p.2.1,.str p.2.2.1,.sl .jnode (.may p.2.2.2.1) p.2.2.2.2.1,.sl .str (.may p.2.2.2.2.2.1) p.2.2.2.2.2.2]]:List ah)))))) (λz=>∃(C u:Int)(F:List UInt8)(G:List aa)(v:List (List UInt8))(A:List UInt8)(I:Int)(y:List (List UInt8))(rest:List ah),z.1.dimR=.agg [.int .i64 C,.int .i64 u,.str F,.sl .jnode (.may false) G,.sl .str (.may false) v]∧z.2=some [.sl .u8 (.may false) A,.int .i64 I]::some [.sl .str .own y]::rest∧dx a n o deep (C,u,F,G,v,A,I,y)):=by
   intro w w2 hw c2 bs b3 J R ar bl;refine ac (cz _) ?_;rintro _ ⟨-,rfl⟩;refine ac (Y _ _ _ hp' t (by omega)) ?_;rintro⟨t0,t1,t2,t3,t4,a4,n3,a9⟩ ⟨-,⟨d,E⟩,rfl,S,W,h5⟩;dsimp only at d E S W h5 ⊢;rw[cV] at E;refine ac (qr _ _ _ _) ?_;rintro _ ⟨-,rfl⟩;dsimp only;refine ak ⟨_,_,_,_,_,_,_,_,_,rfl,rfl,⟨ve _ _ _ _ (by simp) (by simp) ?_ ?_ (by simp[aN,bs,ar]) (by simp[aN,b3,bl]),by simp only[cV,dr,co];omega⟩,rfl,S,W,by simp only;omega⟩;·intro x M;simp only[AL,Bp,or_false] at M;rcases M with rfl|rfl<;>assumption
   ·intro c e;simp only[AL,Bp,or_false] at e;rcases e with rfl|rfl;·exact cW _ _ _ hw
    ·exact d
  refine af (λ_=>?_) (λ_=>af (λ_=>?_) (λ_=>af (λ_=>?_) (λ_=>af (λ_=>one _ _ _ i hp' λZ=>?_) (λ_=>one _ _ _ i hp' λZ=>by cases Z))));·exact tab _ _ (by simp) (by simp) (by simp) (by simp) _ (by simp) (by simp) (by simp)
  ·exact tab _ _ (by simp) (by simp) (by simp) (by simp) _ (by simp) (by simp) (by simp)
  ·refine ac (agJ deep (by omega) Y _ _ _ hp' t hl) ?_;rintro⟨t0,t1,t2,t3,t4,a4,n3,a9⟩ ⟨-,d,rfl,S,W,h5⟩;exact ak ⟨_,_,_,_,_,_,_,_,_,rfl,rfl,d,rfl,S,W,h5⟩
  ·have:=of_decide_eq_true Z;omega
 refine ac (mi _ _ _ hp (by omega) (by omega)) ?_;rintro⟨m,a',q⟩ ⟨-,m1,m2,rfl,m3⟩;dsimp only at m1 m2 m3 ⊢;have t8:0<=Bl m 8∧Bl m 8<8:=⟨C8 _ m1,Int.tmod_lt_of_pos _ (by omega)⟩
 refine af (λd=>zero _ _ t8.1 (λh=>by omega) m3) (λd=>?_);have d:=of_decide_eq_false d;refine ac (aij _ _) ?_;rintro⟨b,a2,n2⟩ ⟨-,rfl,rfl⟩;dsimp only;exact af (λ_=>zero _ _ t8.1 (λh=>by omega) m3) (λ_=>zero _ _ m1 (λ_=>by omega) m3)
theorem acv:∀(k:Nat)(deep:Int),deep+k=4->0<=deep->abg deep
 |0,deep,h,a=>abh deep (by omega) (λb=>by omega)
 |k+1,deep,h,a=>abh deep (by omega) (λ_=>acv k (deep+1) (by omega) (by omega))
theorem agK(a:List UInt8)(n:Int)(hp:kP a n):∃r,iH a n r:=by apply tV 1;unfold o5 oZ;refine ac (zD 0 (by omega) (acv 3 1 (by omega) (by omega)) _ _ _ _ hp (by simp[ce]) ⟨by simp,by simp[iR]⟩ (by simp[lE])) ?_;rintro⟨j,h,i,f,g,c,o,d⟩ ⟨-,⟨b,rfl,e,m,k⟩,p⟩;exact ak ⟨_,_,_,_,_,_,_,_,rfl,rfl,b,rfl,e⟩
theorem ri{name:List UInt8}{q:aa->Prop}(l:List aa):aN name q [] l:=by cases l<;>simp[aN]
theorem vf{name:List UInt8}{q:aa->Prop}{d:aa}:∀{names:List (List UInt8)}{l:List aa}{i:Nat},aN name q names l->(∀c,l[i]? =some c->q c->q d)->aN name q names (l.set i d)
 | [],l,i,_,_=>ri _
 |x::b,[],i,_,_=>by simp[aN]
 |x::b,c::l,0,h,a=>by simp only[aN,CI] at h ⊢;exact⟨λe=>a c rfl (h.1 e),h.2⟩
 |x::b,c::l,i+1,h,a=>by simp only[aN,Cg] at h ⊢;exact⟨h.1,vf h.2 λc f=>a c (by simpa using f)⟩
theorem vg{name:List UInt8}{q:aa->Prop}:∀{names:List (List UInt8)}{l:List aa}{i:Nat},names.length=l.length->aN name q names l->aN name q (names.take i++names.drop (i+1)) (l.take i++l.drop (i+1))
 | [],[],i,_,_=>by simp[aN]
 |x::b,c::l,0,_,h=>by simp only[aN] at h;simpa using h.2
 |x::b,c::l,i+1,a,h=>by simp only[aN] at h;simp only[List.take_succ_cons,De,Bo,aN];exact⟨h.1,vg (by simpa using a) h.2⟩
theorem vh{name:List UInt8}{q:aa->Prop}{d:aa}:∀{names:List (List UInt8)}{l:List aa},names.length<=l.length->aN name q names l->aN name q names (l++[d])
 | [],l,_,_=>ri _
 |x::b,[],a,_=>by simp at a
 |x::b,c::l,a,h=>by simp only[aN,Bo] at h ⊢;exact⟨h.1,vh (by simpa using a) h.2⟩
theorem aim(l:List aa)(i:Nat)(d:aa)(h:i<l.length):co (l.set i d)+szJ l[i]=co l+szJ d:=by
 induction l generalizing i with
 |nil=>simp at h
 |cons c l a=>
  cases i with
  |zero=>simp[co];omega
  |succ i=>have:=a i (by simpa using h);simp only[Cg,co,List.getElem_cons_succ] at this ⊢;omega
theorem ain(l:List aa)(i:Nat):co (l.take i++l.drop (i+1))<=co l:=by
 induction l generalizing i with
 |nil=>simp[co]
 |cons c l a=>
  cases i with
  |zero=>simp[co]
  |succ i=>have:=a i;simp only[List.take_succ_cons,De,Bo,co] at this ⊢;omega
theorem nQ{n:aa}(k m:Int)(s:List UInt8)(b:m<=255)(a:s.length<=100)(c:iR s)(d:k≠6):sD n (.mk k m s [] []):=by
 intro _;refine⟨.mk _ _ _ _ _ a (by simp) (by simp) (by simp) (by simp) (by simp) (by simp[aN]) (by simp[aN]),?_,λ_=>b,λ_=>c⟩;have:0<szJ n:=by cases n;simp[cV]
 simp only[cV,co];omega
theorem acw{n:aa}:sD n (.mk 5 0 [] n.l []):=by intro d;obtain⟨k,m,s,l,names⟩:=n;obtain⟨i,e,f,g,h,a⟩:=d.kids;refine⟨.mk _ _ _ _ _ (by simp) (by simp only[aa.l];omega) (by simp) (by simp) (by simp) (λc b=>(a c b).up (by omega)) (ri _) (ri _),?_,λ_=>(show (0:Int)<=255 by decide),λ_=>by simp[aa.s,iR]⟩;simp only[cV,aa.l];omega
theorem dw.every{b:Nat}{k n:Int}{s:List UInt8}{l:List aa}{names:List (List UInt8)}(h:dw b (.mk k n s l names)):
  aN [115,105,122,101] (λc=>c.n<=af6) names l∧aN [110,97,109,101] (λc=>iR c.s) names l:=by
 cases h with
 |mk _ _ _ _ _ e g i j f m d a=>exact⟨d,a⟩
theorem aio{n:aa}(i:Nat)(d:n.names.length=n.l.length):sD n (.mk n.kind n.n n.s (n.l.take i++n.l.drop (i+1)) (n.names.take i++n.names.drop (i+1))):=by
 intro f;obtain⟨k,m,s,l,names⟩:=n;obtain⟨r,g,u,o,v,j⟩:=f.kids;obtain⟨p,t⟩:=f.every;have d:names.length=l.length:=d;have a:(names.take i++names.drop (i+1)).length=(l.take i++l.drop (i+1)).length:=by simp;omega
 have e:(l.take i++l.drop (i+1)).length<=l.length:=by simp;omega
 have sub:∀{α:Type}{l:List α}{x:α},x∈l.take i++l.drop (i+1)->x∈l:=by
  intro α l x b;rcases Ay.1 b with b|b;·exact A7 b
  ·exact Bu b
 refine⟨.mk _ _ _ _ _ r (AF e (AF g (by omega))) (Nat.le_of_eq a) (λx b=>o x (sub b)) (λ_=>a) (λc q=>(j c (sub q)).up (by omega)) (vg d p) (vg d t),?_,λh=>h,λh=>h⟩;have:=ain l i;simp only[cV,aa.l];omega
theorem aip{n:aa}(i:Nat)(b:i<n.l.length)(p:n.kind=5):sD n (.mk n.kind n.n n.s (n.l++[n.l.getD i (ao .jnode)]) n.names):=by
 intro g;obtain⟨k,m,s,l,names⟩:=n;obtain⟨q,t,e,j,u,d⟩:=g.kids;obtain⟨o,r⟩:=g.every;have b:i<l.length:=b;have f:l.getD i (ao .jnode)∈l:=by rw[Ah,Ac b];exact AO b
 have v:=abW l _ f;refine⟨.mk _ _ _ _ _ q (by simp only[aa.l,AG,AD,AQ];omega) (by simp only[aa.l,aa.names,AG];omega) j (λh=>by have:k=5:=p;have:k=6:=h;omega) ?_ (vh e o) (vh e r),?_,λh=>h,λh=>h⟩
 ·intro c a;rcases Ay.1 a with a|a;·exact(d c a).up (by omega)
  ·simp only[Az] at a;subst a;exact(d _ f).up (by omega)
 ·simp only[cV,aa.l,dr,co];omega
theorem aiq{n r:aa}(i:Nat)(b:i<n.l.length)(d:sD (n.l.getD i (ao .jnode)) r):sD n (.mk n.kind n.n n.s (n.l.set i r) n.names):=by
 intro g;obtain⟨k,m,s,l,names⟩:=n;obtain⟨o,z,B,q,p,f⟩:=g.kids;obtain⟨t,x⟩:=g.every;have b:i<l.length:=b;have u:l.getD i (ao .jnode)=l[i]:=by rw[Ah,Ac b];rfl
 have d:sD l[i] r:=by rw[<-u];exact d
 obtain⟨j,C,v,w⟩:=d (f _ (AO b));have y:=aim l i r b;have A:=abW l _ (AO b);refine⟨.mk _ _ _ _ _ o (by simp only[aa.l,AB];omega) (by simp only[aa.l,aa.names,AB];omega) q (λh=>by simp only[aa.l,aa.names,AB];exact p h) ?_ (vf t ?_) (vf x ?_),?_,λh=>h,λh=>h⟩
 ·intro c a;rcases Dx a with a|rfl;·exact(f c a).up (by omega)
  ·exact j
 ·intro c a e;have a:l[i]? =some c:=a;rw[Ac b] at a;cases a;exact v e
 ·intro c a e;have a:l[i]? =some c:=a;rw[Ac b] at a;cases a;exact w e
 ·simp only[cV,aa.l];omega
abbrev ka:List (List UInt8):=[[105,110,116],[115,116,114,105,110,103],[114,101,99,111,114,100],[101,110,117,109],[110,117,108,108],[120],[78,97],[115,46,84,111,112],[97,45,98],[],[109,97,112],[97,114,114,97,121],[102,105,120,101,100],[84,111,112],[115,46,78,97],[78,46,98]]
theorem yw(i:Nat):(ka.getD i (ao .str)).length<=100∧iR (ka.getD i (ao .str)):=by
 by_cases h:i<16
 ·have:∀i:Fin 16,(ka.getD i.val (ao .str)).length<=100∧iR (ka.getD i.val (ao .str)):=by decide
  exact this ⟨i,h⟩
 ·rw[Ah,AU (by simp;omega)];exact⟨by decide,by decide⟩
theorem agL(b:Int)(A:0<=b∧b<=255):∀(d:List UInt8)(n:aa),iE n->d.length<=100->∃r,bA n d b r:=by
 intro d;induction d with
 |nil=>
  intro n D _;apply rX 1;unfold oT oS;dsimp only;have t:IntKind.u8.wrap (b.tdiv 8)=b / 8:=by rw[BW A.1,ol _ (by omega)]
  have q:(IntKind.i64.wrap (b / 8)).tmod 16=(b / 8)%16:=by rw[ax _ (by omega),By (by omega)]
  refine af (λ_=>?_) (λh=>by simp at h)
  repeat' (first|(with_reducible refine af ?_ ?_<;>(intro i;(try simp only[bnl] at i);(try revert i;intro _)))|with_reducible refine cI ?_ ?_|with_reducible refine ak ?_|fail)
  ·exact⟨.mk 3 (IntKind.i64.wrap b) [] [] [],_,rfl,rfl,nQ _ _ _ (by rw[ax _ (by omega)];omega) (by simp) (by simp[iR]) (by decide)⟩
  ·exact⟨.mk 1 0 [] [] [],_,rfl,rfl,nQ _ _ _ (by decide) (by simp) (by simp[iR]) (by decide)⟩
  ·exact⟨.mk 5 0 [] n.l [],_,rfl,rfl,acw⟩
  ·rfl
  ·rw[t];show ixl ((IntKind.i64.wrap (b / 8)).tmod 16) ka=true;rw[q];refine ixt ?_;show _∧_<(16:Int);omega
  ·have:=yw (((IntKind.i64.wrap (IntKind.u8.wrap (b.tdiv 8))).tmod (16:Int)).toNat);exact⟨.mk 4 0 (ka.getD (((IntKind.i64.wrap (IntKind.u8.wrap (b.tdiv 8))).tmod (16:Int)).toNat) (ao .str)) [] [],_,rfl,rfl,nQ _ _ _ (by decide) this.1 this.2 (by decide)⟩
 |cons a d E=>
  intro n D H;have p:d.length<=100:=by simp at H;omega
  apply rX 1;unfold oT oS;dsimp only;refine af (λh=>?_) (λ_=>?_);·exfalso;simp at h;omega
  refine af (λj=>?_) (λj=>?_)
  ·have t:IntKind.u8.wrap (b.tdiv 8)=b / 8:=by rw[BW A.1,ol _ (by omega)]
   have q:(IntKind.i64.wrap (b / 8)).tmod 16=(b / 8)%16:=by rw[ax _ (by omega),By (by omega)]
   repeat' (first|(with_reducible refine af ?_ ?_<;>(intro i;(try simp only[bnl] at i);(try revert i;intro _)))|with_reducible refine cI ?_ ?_|with_reducible refine ak ?_|fail)
   ·exact⟨.mk 3 (IntKind.i64.wrap b) [] [] [],_,rfl,rfl,nQ _ _ _ (by rw[ax _ (by omega)];omega) (by simp) (by simp[iR]) (by decide)⟩
   ·exact⟨.mk 1 0 [] [] [],_,rfl,rfl,nQ _ _ _ (by decide) (by simp) (by simp[iR]) (by decide)⟩
   ·exact⟨.mk 5 0 [] n.l [],_,rfl,rfl,acw⟩
   ·rfl
   ·rw[t];show ixl ((IntKind.i64.wrap (b / 8)).tmod 16) ka=true;rw[q];refine ixt ?_;show _∧_<(16:Int);omega
   ·have:=yw (((IntKind.i64.wrap (IntKind.u8.wrap (b.tdiv 8))).tmod (16:Int)).toNat);exact⟨.mk 4 0 (ka.getD (((IntKind.i64.wrap (IntKind.u8.wrap (b.tdiv 8))).tmod (16:Int)).toNat) (ao .str)) [] [],_,rfl,rfl,nQ _ _ _ (by decide) this.1 this.2 (by decide)⟩
  have j:(n.l.length:Int)≠0:=by simpa using j
  obtain⟨e,f⟩:∃k,Bl (Ao .i64 (a.toNat:Int)) (n.l.length:Int)=k:=⟨_,rfl⟩
  have L:=a.toNat_lt;have w:0<=e∧e<(n.l.length:Int):=by rw[ax _ (by omega),By (by omega)] at f;exact⟨f▸Int.emod_nonneg _ j,f▸Dk _ (by omega)⟩
  have kids:n.l.length<=7∧n.names.length<=n.l.length∧∀c∈n.l,iE c:=by obtain⟨k,m,s,l,names⟩:=n;obtain⟨I,B,C,M,J,v⟩:=D.kids;exact⟨B,C,v⟩
  obtain⟨B,C,v⟩:=kids;have g:e.toNat<n.l.length:=by omega
  have o:iE (n.l.getD e.toNat (ao .jnode)):=by rw[Ah,Ac g];exact v _ (AO g)
  have G:Aq (a::d) (Ag 0) (ao .u8)=a:=rfl;have x:A8 (Ag 1) (A4 (Aa (a::d)) (a::d))=d:=by simp
  have u:Ao .i64 (e+1)=e+1:=ax _ (by omega);have y:(e+1).toNat=e.toNat+1:=by omega
  have z:∀{α:Type}(l:List α),A4 (l.length-(e.toNat+1)) (A8 (e.toNat+1) l)=A8 (e.toNat+1) l:=by intro α l;exact Cp (by simp)
  simp only[G,f,x,Cf,AQ,AW,cq,u,y,z]
  repeat' (first|(with_reducible refine af ?_ ?_<;>(intro i;(try simp only[bnl] at i);(try revert i;intro _)))|with_reducible refine cI ?_ ?_|with_reducible refine ak ?_|(refine ac (E _ o p) (λr F=>?_))|fail)
  all_goals first
   |exact⟨.mk n.kind n.n n.s _ _,_,rfl,rfl,aiq _ g F.2⟩
   |exact⟨.mk n.kind n.n n.s _ _,_,rfl,rfl,aio _ (by omega)⟩
   |exact⟨.mk n.kind n.n n.s _ _,_,rfl,rfl,aip _ g (by assumption)⟩
   |exact ixt w
   |(simp;done)
   |(simp;omega)
   |(rw[beq_eq_false_iff_ne.2 j];rfl)
theorem abi(n:aa)(B:aC n)(u:∀t∈(hY n).1,t.fields=[]):∃r,iU n r:=by
 obtain⟨N,G⟩:∃N:Nat,N=100:=⟨_,rfl⟩
 apply aaT N;unfold tA jS;simp only[cq];refine ac (aa9 20 (by decide) m0 n [] yH B (by simp)) ?_;intro h A;have o:h=aS 21 m0 n []:=rn A yH;have b:hY n=(if h.2.2.2.1=0 then (h.2.2.1,0) else ([],h.2.2.2.1)):=by rw[o];rfl
 refine af (λg=>ak ⟨[],h.2.2.2.1,_,rfl,rfl,?_⟩) (λg=>?_);·show _=hY n;rw[b,if_neg (by simpa using g)]
 have y:h.2.2.2.1=0:=by simpa using g
 rw[if_pos y] at b;have f:=yh B (by rw[<-o];exact y);rw[<-o] at f;rw[b] at u;clear o A;refine vck ?_ (decide_eq_true f.pos);obtain⟨j,v⟩:∃j,h.2.2.1=j:=⟨_,rfl⟩
 rw[v] at f u b ⊢;have z:=f.cap;refine cn (λx=>match x with|(m,i,C,l,e,d,c)=>m=(j.length:Int)∧(0<=i∧i<=(j.length:Int))∧l=j.length∧c=j) (λx=>((j.length:Int)-x.2.1).toNat) ?_ _ _ ⟨rfl,⟨by simp,by simp⟩,rfl,rfl⟩ (by simp;omega);rintro a ⟨m,i,C,l,e,d,c⟩ ⟨rfl,⟨E,F⟩,rfl,rfl⟩ w;dsimp only at w;unfold lk kq;dsimp only;refine af (λg=>?_) (λg=>?_)
 ·have q:i<(c.length:Int):=of_decide_eq_true g;have k:i.toNat<c.length:=by omega
  refine vck ?_ (by simp[E,q]);refine vck ?_ (decide_eq_true k);have p:(c.getD i.toNat (ao .atype)).fields=[]:=by rw[Ah,Ac k];exact u _ (AO k)
  rw[p];obtain⟨M,rfl⟩:∃M,N=M+1:=⟨N-1,by omega⟩
  show Tot (eK (M+1) a (b8 M (eK (M+1) a)) _) _;unfold eK;dsimp only;refine af (λg=>absurd g (by simp)) (λ_=>?_);have D:IntKind.i64.wrap (i+1)=i+1:=ax (i+1) (by omega);rw[D];exact w _ ⟨rfl,⟨by first|omega|(dsimp only;omega),by first|omega|(dsimp only;omega)⟩,rfl,rfl⟩ (by simp only;omega)
 ·refine vck ?_ (BL _);exact ak ⟨_,_,_,rfl,rfl,by show _=hY n;rw[b]⟩
theorem aew:hY ⟨4,0,[105,110,116],[],[]⟩=([fb 3],0):=by kernel_rfl
theorem ahB:hY ⟨4,0,[120],[],[]⟩=([],4):=by kernel_rfl
theorem afB(s:List UInt8)(a:s.length<=100):aC ⟨4,0,s,[],[]⟩:=
 .mk _ _ _ _ _ a (by simp) (by simp) (λx b=>by cases b) (λh=>by cases h) (λc d=>by cases d) (by simp[aN]) (by simp[aN])
theorem afe:∃r,kG r:=by apply aaU 1;unfold tC tB;refine ac (abi _ (afB _ (by decide)) (by rw[aew];intro t a;rw[Az.1 a];rfl)) ?_;rintro d ⟨-,b⟩;obtain rfl:d=([fb 3],0):=b.trans aew;refine ac (abi _ (afB _ (by decide)) (by rw[ahB];intro t a;cases a)) ?_;rintro c ⟨-,e⟩;obtain rfl:c=([],4):=e.trans ahB;refine af (λ_=>?_) (λh=>absurd h (by decide));refine af (λ_=>?_) (λh=>absurd h (by decide));refine vck ?_ (by decide);refine af (λ_=>?_) (λh=>absurd h (by decide));refine af (λ_=>?_) (λh=>absurd h (by decide));refine ac (ahq _ (by decide)) ?_;rintro _ ⟨-,rfl⟩;refine af (λ_=>?_) (λh=>absurd h (by decide));refine ac (afx _ _) ?_;rintro _ ⟨-,rfl⟩;exact ak ⟨_,_,rfl,rfl,by show decide _=true;decide⟩
abbrev yx(p q:List UInt8)(h:Int):V×List ah->Prop:=λz=>∃(a:Bool)(rest:List ah),z.1.dimR=.bool a∧z.2=rest∧fm p q h (a)
theorem rounds(N:Nat)(hN:N=100)(p q:List UInt8)(h:Int)(Z:List ab)(C:yg Z)(l:List UInt8)(pl:Int):Tot (b8 N (ee N) (Z,0,l,pl)) (yx p q h):=by
 have b6:=C.cap;refine cn (λx=>match x with|(c,i,F,B)=>c=Z∧0<=i∧i<=(Z.length:Int)) (λx=>((Z.length:Int)-x.2.1).toNat) ?_ _ _ ⟨rfl,by simp,by simp⟩ (by simp;omega);rintro O ⟨c,i,F,B⟩ ⟨rfl,i1,i2⟩ ih;dsimp only at ih;unfold ee iK;dsimp only;refine af (λg=>?_) (λg=>ak ⟨_,_,rfl,rfl,by have:=C.pos;simp[fm];omega⟩);have a9:i<(c.length:Int):=of_decide_eq_true g;have b1:i.toNat<c.length:=by omega
 refine vck ?_ (ixt ⟨i1,a9⟩);have ht:c[i.toNat]? =some (c.getD i.toNat (ao .atype)):=by rw[Ah,Ac b1];rfl
 have b:=C.tok _ (Af ht);generalize c.getD i.toNat (ao .atype)=t at ht b ⊢;have cs:=b.fl;have bY:=b.bl;have next:∀(l2:List UInt8)(S:Int),Tot (O (c,Ao .i64 (i+1),l2,S)) (yx p q h):=λl2 S=>by rw[ax (i+1) (by omega)];exact ih _ ⟨rfl,by first|omega|(dsimp only;omega),by first|omega|(dsimp only;omega)⟩ (by simp only;omega)
 refine cn (λx=>match x with|(f,v,k0,j,L,y,M,J,I,H,z,w,k,F,B)=>f=c∧i=v∧(k0=t.kind∧j=t.name∧y=t.items∧z=t.fields∧w=t.branches)∧0<=k∧k<=i) (λx=>(i-x.2.2.2.2.2.2.2.2.2.2.2.2.1).toNat) ?_ _ _ ⟨rfl,rfl,⟨rfl,rfl,rfl,rfl,rfl⟩,by simp,i1⟩ (by simp;omega);rintro G ⟨f,v,k0,j,L,y,M,J,I,H,z,w,k,F,B⟩ ⟨rfl,rfl,⟨rfl,rfl,rfl,rfl,rfl⟩,o,j2⟩ Y;dsimp only at Y;unfold gt iJ;dsimp only;refine af (λg=>?_) (λg=>?_)
 ·have E:k<i:=of_decide_eq_true g;have d:k.toNat<f.length:=by omega
  have n1:∀(l2:List UInt8)(S:Int),Tot (G (f,i,t.kind,t.name,L,t.items,M,J,I,H,t.fields,t.branches,Ao .i64 (k+1),l2,S)) (yx p q h):=λl2 S=>by rw[ax (k+1) (by omega)];exact Y _ ⟨rfl,rfl,⟨rfl,rfl,rfl,rfl,rfl⟩,by first|omega|(dsimp only;omega),by first|omega|(dsimp only;omega)⟩ (by simp only;omega)
  refine af (λhn=>?_) (λhn=>n1 _ _);refine vck ?_ (ixt ⟨o,by omega⟩);refine af (λa=>?_) (λa=>n1 _ _);exfalso;have a:=of_decide_eq_true a;have hu:f[k.toNat]? =some (f.getD k.toNat (ao .atype)):=by rw[Ah,Ac d];rfl
  have:=C.nm _ _ _ _ ht hu (by simpa using hn) a.symm;omega
 refine cn (λx=>match x with|(D,v,k0,j,L,y,M,J,I,H,z,w,k,F,B)=>D=f∧i=v∧(k0=t.kind∧j=t.name∧y=t.items∧z=t.fields∧w=t.branches)∧0<=k∧k<=(t.fields.length:Int)) (λx=>((t.fields.length:Int)-x.2.2.2.2.2.2.2.2.2.2.2.2.1).toNat) ?_ _ _ ⟨rfl,rfl,⟨rfl,rfl,rfl,rfl,rfl⟩,by simp,by simp⟩ (by simp;omega);rintro a3 ⟨D,v,k0,j,L,y,M,J,I,H,z,w,k,F,B⟩ ⟨rfl,rfl,⟨rfl,rfl,rfl,rfl,rfl⟩,o,j2⟩ Q;dsimp only at Q;unfold gp iI;dsimp only;refine af (λg=>?_) (λg=>?_)
 ·have E:k<(t.fields.length:Int):=of_decide_eq_true g;have d:k.toNat<t.fields.length:=by omega
  have bs:t.fields[k.toNat]? =some (t.fields.getD k.toNat (ao .afield)):=by rw[Ah,Ac d];rfl
  have P:=b.fs _ (Af bs);refine vck ?_ (ixt ⟨o,E⟩);refine af (λa=>absurd (of_decide_eq_true a) (by have:=P.typ;omega)) (λ_=>?_);refine vck ?_ (ixt ⟨o,E⟩);refine af (λa=>absurd (of_decide_eq_true a) (by have:=P.typ;omega)) (λ_=>?_);refine vck ?_ (ixt ⟨o,E⟩);refine af (λa=>absurd (of_decide_eq_true a) P.nm) (λ_=>?_);refine cn (λx=>match x with|(e,v,k0,j,L,y,M,J,I,H,z,w,k',m,F,B)=>e=D∧i=v∧(k0=t.kind∧j=t.name∧y=t.items∧z=t.fields∧w=t.branches)∧k'=k∧0<=m∧m<=k) (λx=>(k-x.2.2.2.2.2.2.2.2.2.2.2.2.2.1).toNat) ?_ _ _ ⟨rfl,rfl,⟨rfl,rfl,rfl,rfl,rfl⟩,rfl,by simp,o⟩ (by simp;omega);rintro a4 ⟨e,v,k0,j,L,y,M,J,I,H,z,w,k',m,F,B⟩ ⟨rfl,rfl,⟨rfl,rfl,rfl,rfl,rfl⟩,rfl,m1,m2⟩ R;dsimp only at R;unfold gk;dsimp only;refine af (λg=>?_) (λg=>?_)
  ·have hm:m<k':=of_decide_eq_true g;have W:m.toNat<t.fields.length:=by omega
   refine vck ?_ (ixt ⟨m1,by omega⟩);refine vck ?_ (ixt ⟨o,E⟩);refine af (λa=>?_) (λa=>?_);·exfalso;have a:=of_decide_eq_true a;have hd:=List.pairwise_iff_getElem.1 b.fn m.toNat k'.toNat (by simpa using W) (by simpa using d) (by omega);rw[List.getElem_map,List.getElem_map] at hd;simp only[Ah,Ac W,Ac d,A5] at a;exact hd a
   ·rw[ax (m+1) (by omega)];exact R _ ⟨rfl,rfl,⟨rfl,rfl,rfl,rfl,rfl⟩,rfl,by first|omega|(dsimp only;omega),by first|omega|(dsimp only;omega)⟩ (by simp only;omega)
  ·rw[ax (k'+1) (by omega)];exact Q _ ⟨rfl,rfl,⟨rfl,rfl,rfl,rfl,rfl⟩,by first|omega|(dsimp only;omega),by first|omega|(dsimp only;omega)⟩ (by simp only;omega)
 refine cn (λx=>match x with|(e,v,k0,j,L,y,M,J,I,H,z,w,k,F,B)=>e=D∧i=v∧(k0=t.kind∧j=t.name∧y=t.items∧z=t.fields∧w=t.branches)∧0<=k∧k<=(t.branches.length:Int)) (λx=>((t.branches.length:Int)-x.2.2.2.2.2.2.2.2.2.2.2.2.1).toNat) ?_ _ _ ⟨rfl,rfl,⟨rfl,rfl,rfl,rfl,rfl⟩,by simp,by simp⟩ (by simp;omega);rintro a2 ⟨e,v,k0,j,L,y,M,J,I,H,z,w,k,F,B⟩ ⟨rfl,rfl,⟨rfl,rfl,rfl,rfl,rfl⟩,o,j2⟩ X;dsimp only at X;unfold gl;dsimp only;refine af (λg=>?_) (λg=>?_)
 ·have E:k<(t.branches.length:Int):=of_decide_eq_true g;have d:k.toNat<t.branches.length:=by omega
  obtain⟨b0,u,hu,bx⟩:=b.br (t.branches.getD k.toNat (ao (.num .i64))) (by rw[Ah,Ac d];exact AO _);have bY:(t.branches.getD k.toNat (ao (.num .i64)):Int).toNat<e.length:=(Ad.1 hu).1;have a5:(t.branches.getD k.toNat (ao (.num .i64)):Int)<(e.length:Int):=by omega
  refine vck ?_ (ixt ⟨o,E⟩);refine af (λa=>absurd (of_decide_eq_true a) (by omega)) (λ_=>?_);refine vck ?_ (ixt ⟨o,E⟩);refine af (λa=>absurd (of_decide_eq_true a) (by omega)) (λ_=>?_);refine vck ?_ (ixt ⟨o,E⟩);refine vck ?_ (ixt ⟨b0,a5⟩);refine af (λa=>?_) (λa=>?_);·exfalso;rw[Ah,hu] at a;exact bx (by simpa using a)
  ·rw[ax (k+1) (by omega)];exact X _ ⟨rfl,rfl,⟨rfl,rfl,rfl,rfl,rfl⟩,by first|omega|(dsimp only;omega),by first|omega|(dsimp only;omega)⟩ (by simp only;omega)
 ·have hit:=b.items;have cx:=b.kind;have A:=b.named;refine af (λa=>absurd (of_decide_eq_true a) (by omega)) (λ_=>?_);refine af (λa=>absurd (of_decide_eq_true a) (by omega)) (λ_=>?_);refine af (λa=>absurd (of_decide_eq_true a) (by omega)) (λ_=>?_);refine af (λa=>absurd (of_decide_eq_true a) (by omega)) (λ_=>?_);refine af (λh9=>?_) (λh9=>?_)
  ·have h9:t.kind=9:=by simpa using h9
   refine af (λa=>absurd (A.2 (by omega)) (by simpa using a)) (λ_=>next _ _)
  ·have h9:¬t.kind=9:=by simpa using h9
   refine af (λr=>?_) (λr=>?_)
   ·have r:t.kind=10:=by simpa using r
    refine af (λa=>absurd (A.2 (by omega)) (by simpa using a)) (λ_=>next _ _)
   ·have r:¬t.kind=10:=by simpa using r
    refine af (λa=>?_) (λ_=>next _ _);exfalso;by_cases ad:t.kind=11;·have:=A.2 (by omega);simp[ad,this] at a
    ·have:t.name=[]:=by
      by_cases hn:t.name=[]
      ·exact hn
      ·have:=A.1 hn;omega
     simp[ad,this] at a
theorem aex(p q:List UInt8)(h:Int)(z:0<=h∧h<=255):∃r,rP p q h r:=by
 obtain⟨N,C⟩:∃N:Nat,N=100:=⟨_,rfl⟩
 apply xC N;unfold qU hH;dsimp only;refine ac afe ?_;rintro _ ⟨-,rfl⟩;refine af (λh=>absurd h (by simp)) (λ_=>?_);refine af (λ_=>ak ⟨_,_,rfl,rfl,rfl⟩) (λe=>?_);refine af (λ_=>ak ⟨_,_,rfl,rfl,rfl⟩) (λb=>?_);have e:=of_decide_eq_false e;have b:=of_decide_eq_false b;refine ac (aik p) ?_;rintro _ ⟨-,rfl⟩;refine ac (agK p 0 ⟨by omega,by omega,by omega⟩) ?_;rintro⟨H,J,E,I,G,D,F⟩ ⟨-,⟨g,w⟩, -, -⟩;dsimp only at g w ⊢;have fin:∀(n:aa),aC n->∀(k:(List ab×Int)->Ro),(∀r,r.2≠0->r.1=[]->Tot (k r) (yx p q h))->(∀r,r.2=0->yg r.1->Tot (k r) (yx p q h))->Tot (ae (jn n) k) (yx p q h):=by
  intro n g k v A;refine ac (ahz n g) ?_;rintro r ⟨-,u⟩;by_cases a:r.2=0;·refine A r a ?_;rw[show r=hY n from u] at a ⊢;exact aii g a
  ·refine v r a ?_;rw[show r=hY n from u] at a ⊢;exact ahy a
 have c:∀(r:List ab×Int)(x:Ro)(o:List ah),r.2≠0->r.1=[]->Tot (cond (!(r.2==0)) (some (.bool ((r.1.length:Int)==0),o)) x) (yx p q h):=by intro r x o a d;refine af (λ_=>ak ⟨_,_,rfl,rfl,by rw[d];rfl⟩) (λj=>absurd (by simpa using j) a)
 have f:∀(r:List ab×Int)(x:Ro)(l:List UInt8)(m:Int),r.2=0->yg r.1->Tot (cond (!(r.2==0)) x (b8 N (ee N) (r.1,0,l,m))) (yx p q h):=by intro r x l m a d;refine af (λj=>absurd a (by simpa using j)) (λ_=>rounds N C p q h r.1 d l m)
 refine af (λ_=>?_) (λ_=>?_)
 ·refine ac (agL (Ao .u8 (Int.tdiv h 2)) (by
   rw[BW z.1,ol _ (by omega)];omega) q _ g (by omega)) ?_
  rintro t ⟨-,i⟩;obtain⟨i,B, -, -⟩:=i g;have y:aa.mk t.kind t.n t.s t.l t.names=t:=by cases t;rfl
  rw[y];exact fin t i _ (λr a d=>c r _ _ a d) (λr a d=>f r _ _ _ a d)
 ·exact fin _ (g.up (by decide)) _ (λr a d=>c r _ _ a d) (λr a d=>f r _ _ _ a d)
theorem aff(p q:List UInt8)(h:Int):lf Tryd.prog np [.sl .u8 (.may false) p,.sl .u8 (.may false) q,.int .u8 h] (.bool true):=by
 by_cases e:0<=h∧h<=255;·obtain⟨r,f,rfl⟩:=aex p q h e;exact f
 ·refine⟨[],λw g a k i c d b=>absurd ?_ e⟩;have j:2<a.size:=by simp at c;omega
  have:=(b 2 (.int .u8 h) a[2] rfl (Am j)).inRange;simpa [V.inRange,Cm,B2,Bb,Br] using this
section
open Go.ChangeShapes Go.WideShapes Go.AM
theorem afC{α:Type}{p:Nat->α->Prop}:∀n,(∀i,i<n->∃x,p i x)->∃l:List α,l.length=n∧∀i x,l[i]? =some x->p i x
 |0,_=>⟨[],rfl,by simp⟩
 |n+1,h=>by
  obtain⟨l,c,e⟩:=afC n λi b=>h i (by omega)
  obtain⟨x,d⟩:=h n (by omega);refine⟨l++[x],by simp[c],λi y a=>?_⟩;rcases AE i l.length with b|b;·rw[Ap b] at a;exact e i y a
  ·rw[An b] at a;have f:i=n:=by
    have:=(Ad.1 a).1;simp at this;omega
   subst f;have:x=y:=by simpa [c] using a
   exact this▸d
section
variable{H:Type}{enc:TypeId×Value->H}{w:World}{base:Nat}{held:Bool}
theorem aiZ(k:EK){t e:TypeId}(W:Tryd.prog.underlying t=some (.slice e))(Y:Tryd.prog.cellsOf e=k.sz){n:Nat}{cs:List Value}{x:DataW H×List MemPlace}
  (D:∀m,m+1=n->∀es y,DataW.trod enc Tryd.prog w base (λ_=>true) held m e es=some y->∃x:Ty k,∀(j:Nat) v u,(AM.enc k x)[j]? =some v->es[j]? =some u->VRel (nB w).I id 0 w v u)
  (h:DataW.trod enc Tryd.prog w base (λ_=>true) held n t cs=some x):∃(xs:List (Ty k))(cv:Value),cs=[cv]∧VRel (nB w).I id 0 w (.sl k (.may false) xs) cv:=by
 have F:0<k.sz:=by cases k<;>simp[EK.sz]
 rcases DataW.trod_slice W h with⟨rfl, -⟩|⟨a,o,cap,A,rest,m,rfl,rfl, -,hb,hl,N,Q,r,G, -⟩
 ·exact⟨[],_,rfl,.sln _ _⟩
 obtain⟨ad,P⟩:=G rfl;rw[Y] at r P;by_cases R:cap=0
 ·subst R;obtain rfl:o=0:=by omega
  exact⟨[],_,rfl,.sle _ _ a (by simp)⟩
 have first:∃es y,w.cells? base (a.add (0*k.sz)) k.sz=some es∧DataW.trod enc Tryd.prog w base (λ_=>true) held m e es=some y:=by
  by_cases J:o=0
  ·have c:=P 0 (by omega);rw[J] at c;have d:0<rest.length:=by omega
   rw[Ac d,BC] at c;obtain⟨es,f,q⟩:=c;exact⟨es,_,f,q⟩
  ·have c:=r 0 (by omega);have d:0<A.length:=by omega
   rw[Ac d,BC] at c;obtain⟨es,f,q⟩:=c;exact⟨es,_,f,q⟩
 have g:a.spot=none:=by
  obtain⟨es,y,c, -⟩:=first
  obtain⟨d,f,q⟩:=World.cells?_some c;have C:=q 0 F;rw[Ac (by omega)] at C;simp only[Nat.zero_mul,Addr.add,if_true,Bn] at C;split at C
  ·cases hs:a.spot with
   |none=>rfl
   |some s=>simp[hs] at C
  ·cases C
 obtain⟨b,z,L⟩:=a;simp only at g;subst g;obtain⟨xs,E,B⟩:=afC (α:=Ty k) (p:=λi x=>∀j v,(AM.enc k x)[j]? =some v->∃u,w.cell? ⟨b,z+i*k.sz+j,none⟩=some u∧VRel (nB w).I id 0 w v u) o (by
  intro i X;have c:=r i X;rw[Ac (by omega),BC] at c;obtain⟨es,d,f⟩:=c;obtain⟨x,Z⟩:=D m rfl es _ f;obtain⟨q,C,h6⟩:=World.cells?_some d;refine⟨x,λj v O=>?_⟩;have S:j<k.sz:=by
   have:=(Ad.1 O).1
   rwa [ba] at this
  have M:=h6 j S;rw[Ac (by omega),add_plain,add_plain] at M;exact⟨_,M,Z j v _ O (Ac (by omega))⟩)
 refine⟨xs,_,rfl,.sl k (.may false) xs b z o cap E (by omega) (by unfold maxLen at N;unfold cR;exact N) (by simp) (λi j=>(w.cell? ⟨b,z+i*k.sz+j,none⟩).getD undef) ?_ ?_ ?_⟩;·intro i x j c d;obtain⟨u,f, -⟩:=B i x c j _ (Ac d);show (w.cell? _).isSome=true;rw[f];rfl
 ·intro i x j c d;obtain⟨u,f, -⟩:=B i x c j _ (Ac d);rw[f];rfl
 ·intro i x j v c d;obtain⟨u,f,q⟩:=B i x c j v d;rw[f];exact q
theorem agM{n:Nat}{cs:List Value}{x:DataW H×List MemPlace}(h:DataW.trod enc Tryd.prog w base (λ_=>true) held n 22 cs=some x):
  ∃(xs:List UInt8)(cv:Value),cs=[cv]∧VRel (nB w).I id 0 w (.sl .u8 (.may false) xs) cv:=
 aiZ .u8 Tryd.underlying22 (by kernel_rfl) (λm g es y e=>by
  obtain⟨c,rfl, -,d⟩:=DataW.trod_int Tryd.underlying5 e;have f:0<=c∧c<=255:=by simpa [Lit.wf,Cm,B2,Bb,Br] using d
  refine⟨BG c.toNat,λj v u b a=>?_⟩;obtain rfl:j=0:=by have:=(Ad.1 a).1;simpa using this
  simp only[AM.enc,AZ,Ae] at b a;subst b a;have:((BG c.toNat).toNat:Int)=c:=by rw[UInt8.toNat_ofNat'];omega
  rw[this];exact .int _ _ (by simpa [Lit.wf] using d)) h
theorem abj{r:Reach}{j:Nat}{v:Value}{d:DataW H}{p:List MemPlace}(g:Value.okWide Tryd.prog w r j 22 v)(h:DataW.Trod enc Tryd.prog w base (λ_=>true) held 22 v d p):
  ∃xs:List UInt8,VRel (nB w).I id 0 w (.sl .u8 (.may false) xs) v:=by
 obtain⟨a,b,cap,rfl⟩:=okWide_slice Tryd.underlying22 g;obtain⟨c,f⟩:=h;obtain⟨xs,cv,e,i⟩:=agM f;have e:[Value.slice a b cap]=[cv]:=e;cases e;exact⟨xs,i⟩
end
end
end Go.Proofs.YtkinflmjagfapaaDoor
end
