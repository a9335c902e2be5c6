import Derived.Test.YtndccphabnjkhaaGreatChecked
import Derived.KernelRfl
import Derived.Test.YtndccphabnjkhaaGreatZ02
open BitVec renaming ofInt→AV,allOnes→Di,xor_allOnes→DW
open Bool renaming and_eq_true→Ac,not_false→A9,eq_iff_iff→BD,and_true→Cl
open Eq renaming trans→AE
open Go.IntKind renaming wrap→Ab,signed→AU,bits→A8,max→Bz,min→BU
open Int renaming toNat→Ad,toNat_natCast→AC,tmod→Bd,tdiv→BO,fdiv_eq_ediv_of_nonneg→Cb,natCast_nonneg→CR,le_of_lt→DA,toNat_zero→DM,pow_pos→DR
open List renaming length→Aa,length_cons→Af,getElem?_eq_getElem→Ah,getD→Ai,length_append→Aj,length_nil→Ak,drop→An,take→Ao,getD_eq_getElem?_getD→Ar,mem_singleton→Av,append_assoc→AB,take_length→AQ,length_drop→AT,drop_eq_getElem_cons→AX,length_singleton→Bb,foldl_cons→Bf,drop_zero→Bm,length_take→BE,getD_cons_zero→BH,drop_eq_nil_of_le→B6,foldl_nil→Cc,take_succ_cons→Cp,getD_cons_succ→Cq,length_pos_iff→Cr,drop_take→Ct,tail_cons→CX,take_zero→C4,drop_drop→Dj,length_eq_zero_iff→Dn
open List.cons renaming injEq→CS
open Nat renaming le_refl→Ap,lt_or_ge→AH,mod_eq_of_lt→Bn,mul_comm→BZ,pow_succ→B5,div_lt_of_lt_mul→Ch,add_assoc→CC,pow_le_pow_right→CG,mul_one→CI,shiftLeft_eq→CJ,add_sub_cancel→CQ,shiftLeft_add_eq_or_of_lt→CV,add_comm→C2,div_add_mod→Db,and_two_pow_sub_one_eq_mod→DE
open Option renaming getD_some→Bo
open Option.some renaming injEq→Ae
open Prod.mk renaming injEq→Al
open UInt8 renaming ofNat→Az,toNat→AY,toNat_lt→BT
set_option linter.all false
set_option maxRecDepth 100000
noncomputable section
namespace Go.Proofs.YtndccphabnjkhaaGreat
open Go.AM
def F11(x:List UInt8×Int×Int):V×List aJ:=
 match dL (10-x.2.2.toNat) (x.1.drop x.2.2.toNat) with
 |some (u,m)=>(.tup [.int .u64 ((x.2.1.toNat+128^x.2.2.toNat*u:Nat):Int),.int .i64 ((x.2.2.toNat+m:Nat):Int),.int .i64 0],[])
 |none=>(.tup [.int .u64 0,.int .i64 0,.int .i64 2],[])
theorem aAP(v c n:Nat)(i:v<128^n)(m:c<128)(l:n<=9)(j:n=9->c<=1):
  bC .or .u64 (v:Int) (iu .u64 (c:Int) ((7*n:Nat):Int))=((v+128^n*c:Nat):Int)∧v+128^n*c<2^64∧(n<9->v+128^n*c<128^(n+1)):=by
 have hp:128^n=2^(7*n):=by rw[Nat.pow_mul]
 have b:v+128^n*c<128^(n+1):=by
  rw[B5]
  calc v+128^n*c<128^n+128^n*c:=by omega
   _=128^n*(c+1):=by rw[Nat.mul_add,CI,C2]
   _<=128^n*128:=Nat.mul_le_mul_left _ (by omega)
 have d:v+128^n*c<2^64:=by
  by_cases e:n=9
  ·subst e;have:=j rfl;have k:128^9*c<=128^9*1:=Nat.mul_le_mul_left _ this;have h:(128:Nat)^9=9223372036854775808:=by decide
   omega
  ·have k:(128:Nat)^(n+1)<=128^9:=CG (by omega) (by omega);have h:(128:Nat)^9=9223372036854775808:=by decide
   omega
 have a:c*2^(7*n)=128^n*c:=by rw[hp,BZ]
 refine⟨?_,d,λ_=>b⟩;rw[arx .u64 rfl _ _ (by show 7*n<=64;omega)];have f:c*2^(7*n)%2^IntKind.u64.bits=c*2^(7*n):=Bn (by rw[a];show _<2^64;omega);rw[f,au7 .u64 rfl _ _ (by show _<2^64;omega) (by rw[a];show _<2^64;omega)]
 congr 1
 rw[Nat.or_comm,<-CJ,<-CV (by rw[<-hp];exact i),CJ,a,C2]
theorem axl(s:List UInt8)(n:Nat)(d:n<10)(b:n<s.length):dL (10-n) (s.drop n)=
  if n=9∧1<(s.getD n 0).toNat then none
  else if (s.getD n 0).toNat<128 then some ((s.getD n 0).toNat,1)
  else match dL (10-(n+1)) (s.drop (n+1)) with
   |some (v,m)=>some ((s.getD n 0).toNat%128+128*v,m+1)
   |none=>none:=by
 have c:s.drop n=s.getD n 0::s.drop (n+1):=by rw[AX b];simp[Ai,b]
 rw[c,show 10-n=(10-(n+1))+1 by omega];simp only[dL];have e:(10-(n+1)=0∧1<(s.getD n 0).toNat)↔(n=9∧1<(s.getD n 0).toNat):=by omega
 by_cases a:n=9∧1<(s.getD n 0).toNat;·rw[if_pos a,if_pos (e.2 a)]
 ·rw[if_neg a,if_neg (λh=>a (e.1 h))];rfl
structure aJG(s:List UInt8)(w i:Int):Prop where
 ex:∃n v:Nat,i=(n:Int)∧w=(v:Int)∧n<=10∧n<=s.length∧(n<=9->v<128^n)
theorem arM(N:Nat)(s:List UInt8)(H:s.length<=cw)(R:20<N):adf N s=some (.tup [.int .u64 (aU s).1,.int .i64 (aU s).2.1,.int .i64 (aU s).2.2],[]):=by
 have Y:(s.length:Int)<=9223372036854775807:=by unfold cw at H;omega
 have key:aN N (mz N) (s,0,0)=some (F11 (s,0,0)):=by
  refine nO (λx=>x.1=s∧aJG s x.2.1 x.2.2) (λx=>11-x.2.2.toNat) F11 ?_ N _ ⟨rfl,⟨0,0,rfl,rfl,by omega,by omega,by intro;simp⟩⟩ (by simp;omega);rintro rec ⟨e,X,v3⟩ ⟨z,⟨n,v,A,y,Z,hl,J⟩⟩ f;simp only at z y A f ⊢;subst z y A;simp only[mz,F11,AC];by_cases d:n<e.length
  ·have j:decide ((n:Int)<(e.length:Int))=true:=by simpa using d
   have O:decide ((0:Int)<=(n:Int))=true:=decide_eq_true (CR _);by_cases l:n<10
   ·have q:decide ((n:Int)<10)=true:=by simp;omega
    rw[axl e n l d];simp only[ixl,j,O,q,Cl,cond_true,aed,Ar,Ah d,Bo];generalize e[n]=c;have hc:=c.toNat_lt;have M:Ab .u64 ((c.toNat:Nat):Int)=(c.toNat:Int):=vN .u64 rfl _ (by show _<2^64;omega);have C:Bd (c.toNat:Int) 128=((c.toNat%128:Nat):Int):=xp _ _;have B:Ab .i64 (7*(n:Int))=((7*n:Nat):Int):=by rw[aQ _ (by omega)];norm_cast
    have D:Ab .i64 ((n:Int)+1)=((n+1:Nat):Int):=by rw[aQ _ (by omega)];rfl
    have Q:decide ((0:Int)<=((7*n:Nat):Int))=true:=decide_eq_true (CR _);have F:(!((128:Int)==0))=true:=rfl;have I:decide ((c.toNat:Int)<128)=decide (c.toNat<128):=by rw[BD,decide_eq_true_iff,decide_eq_true_iff];omega
    have E:decide (1<(c.toNat:Int))=decide (1<c.toNat):=by rw[BD,decide_eq_true_iff,decide_eq_true_iff];omega
    have back:(n=9->c.toNat<=1)->cond (decide (c.toNat<128)) (some (V.tup [.int .u64 (bC .or .u64 (v:Int) (iu .u64 ((c.toNat%128:Nat):Int) ((7*n:Nat):Int))),.int .i64 ((n+1:Nat):Int),.int .i64 0],([]:List aJ)))
       (rec (e,bC .or .u64 (v:Int) (iu .u64 ((c.toNat%128:Nat):Int) ((7*n:Nat):Int)),((n+1:Nat):Int)))=
      some (match (if n=9∧1<c.toNat then none else if c.toNat<128 then some (c.toNat,1) else match dL (10-(n+1)) (e.drop (n+1)) with|some (v,m)=>some (c.toNat%128+128*v,m+1)|none=>none:Option (Nat×Nat)) with
       |some (u,m)=>(V.tup [.int .u64 ((v+128^n*u:Nat):Int),.int .i64 ((n+m:Nat):Int),.int .i64 0],[])
       |none=>(.tup [.int .u64 0,.int .i64 0,.int .i64 2],[])):=by
     intro k;obtain⟨G,S,P⟩:=aAP v (c.toNat%128) n (J (by omega)) (by omega) (by omega) (λh=>by have:=k h;omega);have w:¬(n=9∧1<c.toNat):=by rintro⟨L,W⟩;have:=k L;omega
     rw[if_neg w,G];by_cases b:c.toNat<128;·have:c.toNat%128=c.toNat:=Bn b;simp only[b,decide_true,cond_true,if_true,this]
     ·simp only[b,decide_false,cond_false,if_false];have a:n<9:=by
       rcases AH n 9 with h|h;·exact h
       ·have:=k (by omega);omega
      rw[f (e,((v+128^n*(c.toNat%128):Nat):Int),((n+1:Nat):Int)) ⟨rfl,⟨n+1,_,rfl,rfl,by omega,by omega,λ_=>P a⟩⟩ (by simp;omega)];simp only[F11,AC];cases dL (10-(n+1)) (e.drop (n+1)) with
      |none=>rfl
      |some p=>obtain⟨u,m⟩:=p;simp only[Ae,Al,and_true];rw[B5,Nat.mul_add,<-Nat.mul_assoc,CC,show n+1+m=n+(m+1) by omega]
    simp only[ixl,M,C,B,D,Q,F,I,E,A9,aed];by_cases a:n=9
    ·have r:((n:Int)==9)=true:=by simp[a]
     simp only[r,cond_true];by_cases i:1<c.toNat;·rw[if_pos ⟨a,i⟩,decide_eq_true i];rfl
     ·rw[decide_eq_false i];exact back (λ_=>by omega)
    ·have r:((n:Int)==9)=false:=by simp;omega
     simp only[r,cond_false];exact back (λh=>absurd h a)
   ·have q:decide ((n:Int)<10)=false:=by simp;omega
    obtain rfl:n=10:=by omega
    simp only[j,q,cond_true,cond_false];rfl
  ·have j:decide ((n:Int)<(e.length:Int))=false:=by simpa using d
   simp only[j,cond_false];rw[B6 (by omega)];cases 10-n<;>rfl
 show aN N (mz N) (s,0,0)=_;rw[key];simp only[F11,aU,DM,Bm,Nat.sub_zero];cases dL 10 s with
 |none=>rfl
 |some p=>simp
theorem apE(N:Nat)(s:List UInt8)(I:s.length<=cw)(S:20<N):abt N s=some (.tup [.int .u64 (aU s).1,.int .i64 (aU s).2.1,.int .i64 (aU s).2.2],[]):=by
 have Z:(s.length:Int)<=9223372036854775807:=by unfold cw at I;omega
 have key:aN N (kN N) (s,0,0)=some (F11 (s,0,0)):=by
  refine nO (λx=>x.1=s∧aJG s x.2.1 x.2.2) (λx=>11-x.2.2.toNat) F11 ?_ N _ ⟨rfl,⟨0,0,rfl,rfl,by omega,by omega,by intro;simp⟩⟩ (by simp;omega);rintro rec ⟨d,Y,v3⟩ ⟨z,⟨n,v,A,y,hn,hl,L⟩⟩ e;simp only at z y A e ⊢;subst z y A;simp only[kN,F11,AC];by_cases l:n<10
  ·have j:decide ((n:Int)<10)=true:=by simp;omega
   by_cases i:n<d.length
   ·have D:decide ((n:Int)<(d.length:Int))=true:=by simpa using i
    have r:((n:Int)==(d.length:Int))=false:=by simp;omega
    have P:decide ((0:Int)<=(n:Int))=true:=decide_eq_true (CR _);rw[axl d n l i];simp only[ixl,r,D,P,j,Cl,cond_false,cond_true,aed,Ar,Ah i,Bo];generalize d[n]=c;have hc:=c.toNat_lt;have O:Ab .u64 ((c.toNat:Nat):Int)=(c.toNat:Int):=vN .u64 rfl _ (by show _<2^64;omega);have C:Bd (c.toNat:Int) 128=((c.toNat%128:Nat):Int):=xp _ _;have B:Ab .i64 (7*(n:Int))=((7*n:Nat):Int):=by rw[aQ _ (by omega)];norm_cast
    have E:Ab .i64 ((n:Int)+1)=((n+1:Nat):Int):=by rw[aQ _ (by omega)];rfl
    have R:decide ((0:Int)<=((7*n:Nat):Int))=true:=decide_eq_true (CR _);have G:(!((128:Int)==0))=true:=rfl;have J:decide ((c.toNat:Int)<128)=decide (c.toNat<128):=by rw[BD,decide_eq_true_iff,decide_eq_true_iff];omega
    have F:decide (1<(c.toNat:Int))=decide (1<c.toNat):=by rw[BD,decide_eq_true_iff,decide_eq_true_iff];omega
    have back:(n=9->c.toNat<=1)->cond (decide (c.toNat<128)) (some (V.tup [.int .u64 (bC .or .u64 (v:Int) (iu .u64 ((c.toNat%128:Nat):Int) ((7*n:Nat):Int))),.int .i64 ((n+1:Nat):Int),.int .i64 0],([]:List aJ)))
       (rec (d,bC .or .u64 (v:Int) (iu .u64 ((c.toNat%128:Nat):Int) ((7*n:Nat):Int)),((n+1:Nat):Int)))=
      some (match (if n=9∧1<c.toNat then none else if c.toNat<128 then some (c.toNat,1) else match dL (10-(n+1)) (d.drop (n+1)) with|some (v,m)=>some (c.toNat%128+128*v,m+1)|none=>none:Option (Nat×Nat)) with
       |some (u,m)=>(V.tup [.int .u64 ((v+128^n*u:Nat):Int),.int .i64 ((n+m:Nat):Int),.int .i64 0],[])
       |none=>(.tup [.int .u64 0,.int .i64 0,.int .i64 2],[])):=by
     intro k;obtain⟨H,W,Q⟩:=aAP v (c.toNat%128) n (L (by omega)) (by omega) (by omega) (λh=>by have:=k h;omega);have w:¬(n=9∧1<c.toNat):=by rintro⟨M,X⟩;have:=k M;omega
     rw[if_neg w,H];by_cases b:c.toNat<128;·have:c.toNat%128=c.toNat:=Bn b;simp only[b,decide_true,cond_true,if_true,this]
     ·simp only[b,decide_false,cond_false,if_false];have a:n<9:=by
       rcases AH n 9 with h|h;·exact h
       ·have:=k (by omega);omega
      rw[e (d,((v+128^n*(c.toNat%128):Nat):Int),((n+1:Nat):Int)) ⟨rfl,⟨n+1,_,rfl,rfl,by omega,by omega,λ_=>Q a⟩⟩ (by simp;omega)];simp only[F11,AC];cases dL (10-(n+1)) (d.drop (n+1)) with
      |none=>rfl
      |some p=>obtain⟨u,m⟩:=p;simp only[Ae,Al,and_true];rw[B5,Nat.mul_add,<-Nat.mul_assoc,CC,show n+1+m=n+(m+1) by omega]
    simp only[ixl,O,C,B,E,R,G,J,F,A9,aed];by_cases a:n=9
    ·have q:((n:Int)==9)=true:=by simp[a]
     simp only[q,cond_true];by_cases f:1<c.toNat;·rw[if_pos ⟨a,f⟩,decide_eq_true f];rfl
     ·rw[decide_eq_false f];exact back (λ_=>by omega)
    ·have q:((n:Int)==9)=false:=by simp;omega
     simp only[q,cond_false];exact back (λh=>absurd h a)
   ·have r:((n:Int)==(d.length:Int))=true:=by simp;omega
    simp only[r,j,cond_true];rw[B6 (by omega)];cases 10-n<;>rfl
  ·have j:decide ((n:Int)<10)=false:=by simp;omega
   obtain rfl:n=10:=by omega
   simp only[j,cond_false];rfl
 show aN N (kN N) (s,0,0)=_;rw[key];simp only[F11,aU,DM,Bm,Nat.sub_zero];cases dL 10 s with
 |none=>rfl
 |some p=>simp
theorem aEr:∀(k v:Nat),v<128^(k+1)->da (k+1) v=da k v
 |0,v,h=>by simp at h;simp[da,h]
 |k+1,v,h=>by
  rw[da]
  conv=>rhs;rw[da]
  split;·rfl
  ·rw[aEr k (v / 128) (by rw[B5] at h;exact Ch (by rw[BZ];exact h))]
theorem axm(v:Nat)(h:v<2^64)(a:128<=v):da 9 v=Az (v%128+128)::da 9 (v / 128):=by
 rw[da,if_neg (by omega),aEr 8 (v / 128)];have:(2:Nat)^64<=128*128^9:=by decide
 exact Ch (by omega)
theorem aAQ(v:Nat)(h:v<128):da 9 v=[Az v]:=by rw[da,if_pos h]
def F13(x:Int×List UInt8):V×List aJ:=(.str (x.2++da 9 x.1.toNat),[])
structure aMH(w:Int)(b:List UInt8):Prop where
 ex:∃v:Nat,w=(v:Int)∧v<2^64∧v<128^(10-b.length)∧b.length<=9
theorem alp(N:Nat)(p:Int)(hp:0<=p∧p<=18446744073709551615)(B:2^64<N):xx N p=some (.str (dP p),[]):=by
 obtain⟨v,rfl⟩:∃v:Nat,p=(v:Int):=⟨p.toNat,by omega⟩
 have u:v<2^64:=by omega
 show aN N (lz N) ((v:Int),([]:List UInt8))=some (F13 ((v:Int),[]));refine nO (λx=>aMH x.1 x.2) (λx=>x.1.toNat) F13 ?_ N _ ⟨v,rfl,u,?_,by simp⟩ (by simp;omega)
 ·rintro rec ⟨w,b⟩ ⟨v,rfl,e,i,q⟩ a;simp only at i q a ⊢;simp only[lz,F13,AC];by_cases d:128<=v
  ·have f:decide ((128:Int)<=(v:Int))=true:=decide_eq_true (by omega);have r:Bd (v:Int) 128=((v%128:Nat):Int):=xp _ _;have l:Ab .u64 (((v%128:Nat):Int)+128)=((v%128+128:Nat):Int):=by rw[cp _ (by omega)];rfl
   have j:Ab .u8 ((v%128+128:Nat):Int)=((v%128+128:Nat):Int):=jW _ (by omega);have y:ey .u64 (v:Int) 7=((v / 128:Nat):Int):=qp .u64 v 7 (by decide);have k:∀c:UInt8,decide ((b.length+[c].length)*1<=140737488355328)=true:=λc=>decide_eq_true (by simp;omega)
   have m:decide ((0:Int)<=7)=true:=rfl;have z:(!((128:Int)==0))=true:=rfl;simp only[f,cond_true,r,l,j,y,m,AC,tL z,tL (k _),aed];have A:2<=10-b.length:=by
    rcases AH (10-b.length) 2 with h|h;·have:(128:Nat)^(10-b.length)<=128^1:=CG (by omega) (by omega);omega
    ·exact h
   rw[a (((v / 128:Nat):Int),b++[Az (v%128+128)]) ⟨v / 128,rfl,by omega,?_,by simp;omega⟩ (by simp;omega)];·simp only[F13,AC];rw[axm v e d,AB];rfl
   ·simp only[Aj,Bb];refine Ch ?_;rw[show 10-b.length=(10-(b.length+1))+1 by omega,B5,BZ] at i;exact i
  ·have f:decide ((128:Int)<=(v:Int))=false:=decide_eq_false (by omega);have j:Ab .u8 (v:Int)=(v:Int):=jW _ (by omega);have k:∀c:UInt8,decide ((b.length+[c].length)*1<=140737488355328)=true:=λc=>decide_eq_true (by simp;omega)
   simp only[f,cond_false,j,AC,tL (k _)];rw[aAQ v (by omega)]
 ·have:(2:Nat)^64<=128^10:=by decide
  simp;omega
theorem arN:∀(k v:Nat),(da k v).length<=k+1
 |0,v=>by simp[da]
 |k+1,v=>by
  rw[da];split;·simp
  ·have:=arN k (v / 128);simp;omega
theorem yZ(v:Nat)(j:v<2^64):pj (v+999999) (v:Int)=some (.str (dP v),[]):=by
 simp only[pj,adK,dP,AC];by_cases a:v<128;·have d:decide ((v:Int)<128)=true:=decide_eq_true (by omega);have e:Ab .u8 (v:Int)=(v:Int):=jW _ (by omega);simp only[d,cond_true,e,AC];rw[aAQ v a]
 ·have d:decide ((v:Int)<128)=false:=decide_eq_false (by omega);have i:Bd (v:Int) 128=((v%128:Nat):Int):=xp _ _;have k:BO (v:Int) 128=((v / 128:Nat):Int):=ajb _ _;have f:Ab .u64 ((v / 128:Nat):Int)=((v / 128:Nat):Int):=cp _ (by omega);have e:Ab .u8 ((v%128:Nat):Int)=((v%128:Nat):Int):=jW _ (by omega);have q:Ab .u8 (((v%128:Nat):Int)+128)=((v%128+128:Nat):Int):=by rw[jW _ (by omega)];rfl
  have p:(!((128:Int)==0))=true:=rfl;have m:decide (1000000<=v+999999-v / 128)=true:=decide_eq_true (by omega);have b:∀(c:UInt8)(l:List UInt8),l.length<=10->decide ([c].length+l.length<=9223372036854775807)=true:=λc l h=>decide_eq_true (by simp;omega)
  simp only[d,cond_false,k,i,f,e,q,AC,tL p,tL m,tL (b _ _ (arN 9 (v / 128)))];rw[axm v j (by omega)];rfl
theorem afS:∀(m v:Nat),v<=m->v<2^64->aH Tryz.prog 58 [.int .u64 (v:Int)] (.str (dP v)):=by
 intro m;induction m with
 |zero=>intro v h d;refine adL (v+999999) (aas _ ?_) _ (yZ v d);intro c a;have:=of_decide_eq_true a;omega
 |succ m f=>
  intro v h d;refine adL (v+999999) (aas _ ?_) _ (yZ v d);intro c a;have a:=of_decide_eq_true a;refine aH.fits λi=>?_
  have e:=i _ (Av.2 rfl);simp only[V.fits,BU,Bz,AU,A8] at e;simp at e;obtain⟨b,rfl⟩:∃b:Nat,c=(b:Int):=⟨c.toNat,by omega⟩
  exact f b (by omega) (by omega)
def F28(x:List UInt8×Int×Int):V×List aJ:=(.int .u64 (ix x.1),[])
structure aJH(s:List UInt8)(w i:Int):Prop where
 ex:∃j:Nat,i=(j:Int)-1∧j<=s.length∧w=((adb (s.drop j)%2^64:Nat):Int)
theorem aLM(a c:Nat)(e:a<2^64)(f:c<256):bC .or .u64 (iu .u64 (a:Int) 8) (c:Int)=(((a*256+c)%2^64:Nat):Int):=by
 have d:iu .u64 (a:Int) 8=((a*2^8%2^64:Nat):Int):=arx .u64 rfl a 8 (by decide);have b:a*2^8%2^64=(a%2^56) <<<8:=by rw[CJ];omega
 rw[d,b,au7 .u64 rfl _ _ (by rw[CJ];show _<2^64;omega) (by show _<2^64;omega)]
 congr 1
 rw[<-CV (by omega),CJ];omega
theorem aAR(s:List UInt8)(j:Nat)(h:j<s.length):adb (s.drop j)=(s.getD j 0).toNat+256*adb (s.drop (j+1)):=by rw[AX h,adb];simp[Ai,h]
theorem atB(N:Nat)(s:List UInt8)(l:s.length<=cw)(u:s.length<N):yT N s=some (.int .u64 (ix s),[]):=by
 have w:(s.length:Int)<=9223372036854775807:=by unfold cw at l;omega
 have q:Ab .i64 ((s.length:Int)-1)=(s.length:Int)-1:=aQ _ (by omega);simp only[yT,tQ,q];refine nO (λx=>x.1=s∧aJH s x.2.1 x.2.2) (λx=>(x.2.2+1).toNat) F28 ?_ N _ ⟨rfl,s.length,rfl,by omega,by simp[adb]⟩ (by simp;omega);rintro rec ⟨b,v,z⟩ ⟨e,j,f,y,d⟩ a;simp only at e d f a ⊢;subst e d f;simp only[wG,F28];by_cases B:0<j
 ·obtain⟨i,rfl⟩:∃i,j=i+1:=⟨j-1,by omega⟩
  have m:((i+1:Nat):Int)-1=(i:Int):=by omega
  have c:decide ((0:Int)<=(i:Int))=true:=decide_eq_true (by omega);have p:decide ((i:Int)<(b.length:Int))=true:=decide_eq_true (by omega);have r:decide ((0:Int)<=8)=true:=rfl;have A:=(b.getD i 0).toNat_lt;have k:Ab .u64 (((b.getD i 0).toNat:Nat):Int)=((b.getD i 0).toNat:Int):=cp _ (by omega);have h:Ab .i64 ((i:Int)-1)=(i:Int)-1:=aQ _ (by omega);simp only[ixl,m,c,p,r,Cl,cond_true,aed,AC,k,h];rw[aLM _ _ (Nat.mod_lt _ (by decide)) (by omega)];rw[a _ ⟨rfl,i,rfl,by omega,?_⟩ (by simp only;omega)];·rfl
  ·simp only;rw[aAR b i (by omega)]
   congr 1
   omega
 ·obtain rfl:j=0:=by omega
  have c:decide ((0:Int)<=((0:Nat):Int)-1)=false:=rfl;simp only[c,cond_false,Bm,ix]
theorem avy(N:Nat)(s:List UInt8)(m:s.length<=cw)(v:s.length<N):ab0 N s=some (.int .u64 (ix s),[]):=by
 have y:(s.length:Int)<=9223372036854775807:=by unfold cw at m;omega
 have u:Ab .i64 ((s.length:Int)-1)=(s.length:Int)-1:=aQ _ (by omega);simp only[ab0,vX,u];refine nO (λx=>x.1=s∧aJH s x.2.1 x.2.2) (λx=>(x.2.2+1).toNat) F28 ?_ N _ ⟨rfl,s.length,rfl,by omega,by simp[adb]⟩ (by simp;omega);rintro rec ⟨b,w,A⟩ ⟨f,j,h,z,e⟩ a;simp only at f e h a ⊢;subst f e h;simp only[yU,F28];by_cases B:0<j
 ·obtain⟨i,rfl⟩:∃i,j=i+1:=⟨j-1,by omega⟩
  have p:((i+1:Nat):Int)-1=(i:Int):=by omega
  have d:decide ((0:Int)<=(i:Int))=true:=decide_eq_true (by omega);have r:decide ((i:Int)<(b.length:Int))=true:=decide_eq_true (by omega);have q:=(b.getD i 0).toNat_lt;have l:Ab .u64 (((b.getD i 0).toNat:Nat):Int)=((b.getD i 0).toNat:Int):=cp _ (by omega);have k:Ab .i64 ((i:Int)-1)=(i:Int)-1:=aQ _ (by omega);simp only[ixl,p,d,r,Cl,cond_true,aed,AC,l,k];rw[a _ ⟨rfl,i,rfl,by omega,?_⟩ (by simp only;omega)];·rfl
  ·simp only;rw[aAR b i (by omega),tM,tM];generalize adb (b.drop (i+1))=L;generalize (b.getD i 0).toNat=c at q;omega
 ·obtain rfl:j=0:=by omega
  have d:decide ((0:Int)<=((0:Nat):Int)-1)=false:=rfl;simp only[d,cond_false,Bm,ix]
theorem avz(N:Nat)(p:Int):abZ N p=some (.int .i64 (pi p),[]):=by
 simp only[abZ,aqJ,pi];by_cases h:p=1;·subst h;rfl
 ·have:(p==1)=false:=by simpa using h
  rw[this,if_neg h];rfl
def F25(x:Int×Int×List UInt8×Int):V×List aJ:=(.str (x.2.2.1++hY (x.2.1-x.2.2.2).toNat x.1.toNat),[])
structure aLN(n w:Int)(b:List UInt8)(i:Int):Prop where
 ex:∃v:Nat,w=(v:Int)∧v<2^64
 i0:0<=i
 bl:(b.length:Int)=i
theorem avA(N:Nat)(p n:Int)(hp:0<=p∧p<=18446744073709551615)(B:n<=1000)(A:1000<N):ag2 N p n=some (.str (kM p n),[]):=by
 show aN N (pI N) (p,n,([]:List UInt8),0)=_;have key:aN N (pI N) (p,n,([]:List UInt8),0)=some (F25 (p,n,([]:List UInt8),0)):=by
  refine nO (λx=>x.2.1=n∧aLN n x.1 x.2.2.1 x.2.2.2) (λx=>(n-x.2.2.2).toNat) F25 ?_ N _ ⟨rfl,⟨p.toNat,by simp;omega,by omega⟩,by simp,by simp⟩ (by simp;omega);rintro rec ⟨D,d,y,a⟩ ⟨i,⟨v,f,C⟩,u,r⟩ b;simp only at i f u r b ⊢;subst i f;simp only[pI,F25];by_cases h:a<d
  ·have e:decide (a<d)=true:=decide_eq_true h;have q:(!((256:Int)==0))=true:=rfl;have w:Bd (v:Int) 256=((v%256:Nat):Int):=xp _ _;have k:Ab .u8 ((v%256:Nat):Int)=((v%256:Nat):Int):=jW _ (by omega);have j:BO (v:Int) 256=((v / 256:Nat):Int):=ajb _ _;have l:Ab .u64 ((v / 256:Nat):Int)=((v / 256:Nat):Int):=cp _ (by omega);have z:Ab .i64 (a+1)=a+1:=aQ _ (by omega);have m:∀c:UInt8,decide (y.length+[c].length<=9223372036854775807)=true:=λc=>decide_eq_true (by simp;omega)
   simp only[e,cond_true,w,k,j,l,z,tL q,tL (m _),AC];rw[b _ ⟨rfl,⟨v / 256,rfl,by omega⟩,by simp only;omega,by simp;omega⟩ (by simp only;omega)];simp only[F25,AC];rw[show (d-a).toNat=(d-(a+1)).toNat+1 by omega,hY,AB];rfl
  ·have e:decide (a<d)=false:=decide_eq_false h;simp only[e,cond_false];rw[show (d-a).toNat=0 by omega];simp[hY]
 rw[key];simp[F25,kM]
theorem axn:∀(k:Nat)(s:List UInt8)(v n:Nat),dL k s=some (v,n)->1<=n∧n<=s.length∧n<=k∧v<128^(k-1)*2
 |0,s,v,n,h=>by simp[dL] at h
 |k+1,[],v,n,h=>by simp[dL] at h
 |k+1,c::r,v,n,h=>by
  simp only[dL] at h;have p:=c.toNat_lt;split at h;·simp at h
  ·rename_i f;split at h
   ·rename_i d;simp only[Ae,Al] at h;obtain⟨rfl,rfl⟩:=h;refine⟨Ap _,by simp,by omega,?_⟩;rw[CQ];cases k with
    |zero=>simp;omega
    |succ k=>rw[B5];have:=Nat.pow_pos (n:=k) (show 0<128 by omega);omega
   ·split at h
    ·rename_i b i e;simp only[Ae,Al] at h;obtain⟨rfl,rfl⟩:=h;obtain⟨l,j,m,a⟩:=axn k r b i e;refine⟨by omega,by simp;omega,by omega,?_⟩;rw[CQ];cases k with
     |zero=>omega
     |succ k=>rw[CQ] at a;rw[B5];omega
    ·simp at h
theorem abv{s:List UInt8}{v n:Nat}(h:dL 10 s=some (v,n)):1<=n∧n<=s.length∧n<=10∧v<2^64:=by
 obtain⟨b,a,c,d⟩:=axn 10 s v n h;refine⟨b,a,c,?_⟩;have:(128:Nat)^(10-1)*2=2^64:=by decide
 omega
def za(r:bi):V:=.agg [.int .i64 r.num,.int .i64 r.wire,.int .u64 r.n,.str r.s,.str r.raw]
theorem ax9(N:Nat)(s:List UInt8)(w:s.length<=cw):(aeg N s).map (·.1)=some (.tup [za (eP s).1,.int .i64 (eP s).2]):=by
 simp only[aeg,atv,cw] at w ⊢;cases h:dL 10 s with
 |none=>simp[aU,eP,fx,h,yG,za]
 |some p=>
  obtain⟨t,n⟩:=p;obtain⟨M,G,O,E⟩:=abv h;have b:aU s=((t:Int),(n:Int),0):=by simp[aU,h]
  have q:Ab .u64 (BO (t:Int) 8)=((t / 8:Nat):Int):=by rw[show BO (t:Int) 8=((t / 8:Nat):Int) from ajb _ _,cp _ (by omega)]
  have l:Bd (t:Int) 8=((t%8:Nat):Int):=xp _ _;have j:Ab .i64 ((t%8:Nat):Int)=((t%8:Nat):Int):=aQ _ (by omega);have m:Ab .i64 ((t / 8:Nat):Int)=((t / 8:Nat):Int):=aQ _ (by omega);simp only[b,q,l,j,m,AC,AQ,Bm];have L:(s.drop n).length=s.length-n:=AT;have H:t / 8<2^61:=by omega
  have x:t%8<8:=by omega
  simp only[eP,fx,h];generalize t / 8=A at*
  generalize t%8=B at*
  generalize s.drop n=r at*
  have c:B=0∨B=1∨B=2∨B=5∨(B≠0∧B≠1∧B≠2∧B≠5):=by omega
  clear q l j m x b;by_cases a:A<1∨536870911<A
  ·rcases a with a|a;·simp(disch:=omega) only[aX,za,yG]
   ·simp(disch:=omega) only[aX,za,yG]
  cases f:dL 10 r with
  |none=>
   have b:aU r=(0,0,2):=by simp[aU,f]
   rcases c with rfl|rfl|rfl|rfl|⟨y,u,D,z⟩
   ·simp(disch:=omega) only[aX,za,yG,b]
   ·by_cases e:r.length<8;all_goals simp(disch:=omega) only[aX,za,yG,b,pi]
    rw[iv (show (n:Int)+8=((n+8:Nat):Int) by omega)];rfl
   ·simp(disch:=omega) only[aX,za,yG,b]
   ·by_cases e:r.length<4;all_goals simp(disch:=omega) only[aX,za,yG,b,pi]
    rw[iv (show (n:Int)+4=((n+4:Nat):Int) by omega)];rfl
   ·simp(disch:=omega) only[aX,za,yG,b]
  |some p=>
   obtain⟨v,k⟩:=p;obtain⟨I,F,P,J⟩:=abv f;have d:aU r=((v:Int),(k:Int),0):=by simp[aU,f]
   rcases c with rfl|rfl|rfl|rfl|⟨y,u,D,z⟩
   ·simp(disch:=omega) only[aX,za,yG,d];rw[iv (show (n:Int)+k=((n+k:Nat):Int) by omega)];rfl
   ·by_cases e:r.length<8;all_goals simp(disch:=omega) only[aX,za,yG,d,pi]
    rw[iv (show (n:Int)+8=((n+8:Nat):Int) by omega)];rfl
   ·have C:(r.drop k).length=r.length-k:=AT;by_cases e:(r.drop k).length<v;all_goals simp(disch:=omega) only[aX,za,yG,d]
    have i:((r.drop k).take v).length=v:=by rw[BE];omega
    simp(disch:=omega) only[aX,i];rw[iv (show (n:Int)+k+v=((n+k+v:Nat):Int) by omega)];rfl
   ·by_cases e:r.length<4;all_goals simp(disch:=omega) only[aX,za,yG,d,pi]
    rw[iv (show (n:Int)+4=((n+4:Nat):Int) by omega)];rfl
   ·simp(disch:=omega) only[aX,za,yG,d]
theorem oQ(s:List UInt8)(m:Nat)(h:m<=s.length):(s.take m).length=m:=by rw[BE];omega
theorem ajl{s:List UInt8}{r:bi}(h:fx s=some r):1<=r.raw.length∧r.raw.length<=s.length∧r.raw=s.take r.raw.length:=by
 have key:∀m,1<=m->m<=s.length->r.raw=s.take m->1<=r.raw.length∧r.raw.length<=s.length∧r.raw=s.take r.raw.length:=by
  intro m e b d;have:r.raw.length=m:=by rw[d,oQ s m b]
  rw[this];exact⟨e,b,d⟩
 unfold fx at h;cases c:dL 10 s with
 |none=>simp[c] at h
 |some p=>
  obtain⟨t,n⟩:=p;obtain⟨e,b,d,w⟩:=abv c;have x:(s.drop n).length=s.length-n:=AT;simp only[c] at h;split at h;·simp at h
  ·split at h
   ·cases a:dL 10 (s.drop n) with
    |none=>simp[a] at h
    |some q=>obtain⟨v,k⟩:=q;obtain⟨i,f,l,j⟩:=abv a;simp only[a,Ae] at h;exact key (n+k) (by omega) (by omega) (by rw[<-h])
   ·split at h
    ·cases a:dL 10 (s.drop n) with
     |none=>simp[a] at h
     |some q=>
      obtain⟨v,k⟩:=q;obtain⟨i,f,l,j⟩:=abv a;have u:((s.drop n).drop k).length=(s.drop n).length-k:=AT;simp only[a] at h;split at h;·simp at h
      ·simp only[Ae] at h;exact key (n+k+v) (by omega) (by omega) (by rw[<-h])
    ·split at h
     ·split at h;·simp at h
      ·simp only[Ae] at h;exact key (n+8) (by omega) (by omega) (by rw[<-h])
     ·split at h
      ·split at h;·simp at h
       ·simp only[Ae] at h;exact key (n+4) (by omega) (by omega) (by rw[<-h])
      ·simp at h
theorem aqO:∀(k j:Nat)(s:List UInt8),s.length<=k->s.length<=j->eQ k s=eQ j s
 |0,j,s,h,_=>by obtain rfl:s=[]:=Dn.1 (by omega);cases j<;>rfl
 |k+1,j,[],_,_=>by cases j<;>rfl
 |k+1,0,c::s,_,h=>by simp at h
 |k+1,j+1,c::s,b,a=>by
  simp only[eQ];cases d:fx (c::s) with
  |none=>rfl
  |some r=>have:=(ajl d).1;simp only;rw[aqO k j _ (by simp at b ⊢;omega) (by simp at a ⊢;omega)]
theorem vZ(s:List UInt8)(a:s≠[]):eQ s.length s=match fx s with
  |none=>none
  |some r=>(eQ (s.drop r.raw.length).length (s.drop r.raw.length)).map (r::·):=by
 cases s with
 |nil=>exact absurd rfl a
 |cons c s=>
  simp only[Af,eQ];cases b:fx (c::s) with
  |none=>rfl
  |some r=>have:=(ajl b).1;simp only;rw[aqO s.length ((c::s).drop r.raw.length).length _ (by simp;omega) (Ap _)];cases eQ ((c::s).drop r.raw.length).length ((c::s).drop r.raw.length)<;>rfl
def tT(x:List UInt8×List bi):V:=
 match eQ x.1.length x.1 with
 |some l=>.tup [.sl .record (.may false) (x.2++l),.int .i64 0]
 |none=>.tup [.sl .record (.may false) ([]:List bi),.int .i64 2]
theorem atC(l:List bi):tT ([],l)=.tup [.sl .record (.may false) l,.int .i64 0]:=by simp[tT,eQ]
theorem fK{s:List UInt8}(l:List bi)(a:s≠[])(h:fx s=none):tT (s,l)=.tup [.sl .record (.may false) ([]:List bi),.int .i64 2]:=by simp only[tT];rw[vZ s a,h]
theorem oR{s:List UInt8}(l:List bi)(a:s≠[]){r:bi}(h:fx s=some r):tT (s,l)=tT (s.drop r.raw.length,l++[r]):=by simp only[tT];rw[vZ s a,h];dsimp only;generalize eQ (s.drop r.raw.length).length (s.drop r.raw.length)=o;cases o<;>simp
theorem axo(s:List UInt8):V.tup [.sl .record (.may false) (fT s).1,.int .i64 (fT s).2]=if 5000<s.length then V.tup [.sl .record (.may false) ([]:List bi),.int .i64 3] else tT (s,[]):=by
 unfold fT tT;split;·rfl
 ·cases eQ s.length s<;>simp
structure aEs(n:Nat)(x:List UInt8×List bi):Prop where
 le:x.1.length+x.2.length<=n
theorem atD(N:Nat)(s:List UInt8)(j:s.length<=cw)(i:s.length<N):(yW N s).map (·.1)=some (.tup [.sl .record (.may false) (fT s).1,.int .i64 (fT s).2]):=by
 rw[axo];simp only[yW,tR,cw] at j ⊢;by_cases p:5000<s.length;·simp(disch:=omega) only[aX,]
 ·simp(disch:=omega) only[aX,];refine af6 (aEs 5000) (λx=>x.1.length) tT ?_ N _ ⟨by simp;omega⟩ i;rintro rec ⟨d,f⟩ ⟨h⟩ a;simp only at h a ⊢;simp only[wJ];by_cases c:d=[]
  ·subst c;rw[atC];rfl
  ·simp only[c,decide_false,A9,cond_true];cases b:fx d with
   |none=>rw[fK f c b];simp only[eP,b];rfl
   |some r=>
    obtain⟨l,k,m⟩:=ajl b;have e:eP d=(r,0):=by simp[eP,b]
    rw[oR f c b,<-a (d.drop r.raw.length,f++[r]) ⟨by simp;omega⟩ (by simp;omega)];simp(disch:=omega) only[aX,e,EK.bytes,jU,Bb]
theorem arO(N:Nat)(s:List UInt8)(E:s.length<=cw)(C:s.length<N):(wK N s).map (·.1)=some (.tup [.sl .record (.may false) (fT s).1,.int .i64 (fT s).2]):=by
 rw[axo];simp only[wK,rz,cw] at E ⊢;by_cases Q:5000<s.length;·simp(disch:=omega) only[aX,]
 ·simp(disch:=omega) only[aX,];refine af6 (aEs 5000) (λx=>x.1.length) tT ?_ N _ ⟨by simp;omega⟩ C;rintro rec ⟨s,l⟩ ⟨j⟩ c;simp only at j c ⊢;simp only[uK];by_cases f:s=[]
  ·subst f;rw[atC];rfl
  have y:0<s.length:=Cr.2 f;cases m:dL 10 s with
  |none=>
   have F:fx s=none:=by simp[fx,m]
   rw[fK l f F];have h:aU s=(0,0,2):=by simp[aU,m]
   simp(disch:=omega) only[aX,h]
  |some p=>
  obtain⟨t,n⟩:=p;obtain⟨Y,P,Z,M⟩:=abv m;have h:aU s=((t:Int),(n:Int),0):=by simp[aU,m]
  have z:Ab .u64 (BO (t:Int) 8)=((t / 8:Nat):Int):=by rw[show BO (t:Int) 8=((t / 8:Nat):Int) from ajb _ _,cp _ (by omega)]
  have u:Bd (t:Int) 8=((t%8:Nat):Int):=xp _ _;have r:Ab .i64 ((t%8:Nat):Int)=((t%8:Nat):Int):=aQ _ (by omega);have w:Ab .i64 ((t / 8:Nat):Int)=((t / 8:Nat):Int):=aQ _ (by omega);simp only[h,z,u,r,w,AC,AQ,Bm];have X:(s.drop n).length=s.length-n:=AT;have R:t / 8<2^61:=by omega
  have G:t%8<8:=by omega
  have b:fx s=(if t / 8<1∨536870911<t / 8 then none
   else if t%8=0 then
    match dL 10 (s.drop n) with
    |none=>none
    |some (v,k)=>some ⟨(t / 8:Nat),0,(v:Nat),[],s.take (n+k)⟩
   else if t%8=2 then
    match dL 10 (s.drop n) with
    |none=>none
    |some (v,k)=>if ((s.drop n).drop k).length<v then none else some ⟨(t / 8:Nat),2,0,((s.drop n).drop k).take v,s.take (n+k+v)⟩
   else if t%8=1 then
    if (s.drop n).length<8 then none else some ⟨(t / 8:Nat),1,ix ((s.drop n).take 8),[],s.take (n+8)⟩
   else if t%8=5 then
    if (s.drop n).length<4 then none else some ⟨(t / 8:Nat),5,ix ((s.drop n).take 4),[],s.take (n+4)⟩
   else none):=by unfold fx;rw[m];rfl
  generalize t / 8=A at*
  generalize t%8=B at*
  have q:B=0∨B=1∨B=2∨B=5∨(B≠0∧B≠1∧B≠2∧B≠5):=by omega
  clear z u r w G h m;by_cases a:A<1∨536870911<A;·rw[if_pos a] at b;rw[fK l f b];rcases a with a|a<;>simp(disch:=omega) only[aX,]
  rw[if_neg a] at b;cases i:dL 10 (s.drop n) with
  |none=>
   have h:aU (s.drop n)=(0,0,2):=by simp[aU,i]
   rcases q with rfl|rfl|rfl|rfl|⟨H,D,L,I⟩
   ·simp(disch:=omega) only[aX,i] at b;rw[fK l f b];simp(disch:=omega) only[aX,h]
   ·by_cases j:(s.drop n).length<8;all_goals simp(disch:=omega) only[aX,] at b
    ·rw[fK l f b];simp(disch:=omega) only[aX,]
    ·rw[oR l f b,<-c (s.drop (s.take (n+8)).length,l++[_]) ⟨by simp;omega⟩ (by simp;omega)];have d:(s.take (n+8)).length=n+8:=oQ _ _ (by omega);have e:(s.drop n).take 8=(s.take (n+8)).drop n:=by rw[Ct];congr 1;omega
     simp(disch:=omega) only[aX,EK.bytes,jU,Bb,d,e,iv (show (n:Int)+8=((n+8:Nat):Int) by omega)];rfl
   ·simp(disch:=omega) only[aX,i] at b;rw[fK l f b];simp(disch:=omega) only[aX,h]
   ·by_cases j:(s.drop n).length<4;all_goals simp(disch:=omega) only[aX,] at b
    ·rw[fK l f b];simp(disch:=omega) only[aX,]
    ·rw[oR l f b,<-c (s.drop (s.take (n+4)).length,l++[_]) ⟨by simp;omega⟩ (by simp;omega)];have d:(s.take (n+4)).length=n+4:=oQ _ _ (by omega);have e:(s.drop n).take 4=(s.take (n+4)).drop n:=by rw[Ct];congr 1;omega
     simp(disch:=omega) only[aX,EK.bytes,jU,Bb,d,e,iv (show (n:Int)+4=((n+4:Nat):Int) by omega)];rfl
   ·simp(disch:=omega) only[aX,i] at b;rw[fK l f b];simp(disch:=omega) only[aX,h]
  |some p=>
   obtain⟨v,k⟩:=p;obtain⟨S,O,g3,W⟩:=abv i;have h:aU (s.drop n)=((v:Int),(k:Int),0):=by simp[aU,i]
   have J:((s.drop n).drop k).length=(s.drop n).length-k:=AT;rcases q with rfl|rfl|rfl|rfl|⟨H,D,L,I⟩
   ·simp(disch:=omega) only[aX,i] at b;rw[oR l f b,<-c (s.drop (s.take (n+k)).length,l++[_]) ⟨by simp;omega⟩ (by simp;omega)];have d:(s.take (n+k)).length=n+k:=oQ _ _ (by omega);simp(disch:=omega) only[aX,h,EK.bytes,jU,Bb,d,iv (show (n:Int)+k=((n+k:Nat):Int) by omega)];rfl
   ·by_cases j:(s.drop n).length<8;all_goals simp(disch:=omega) only[aX,] at b
    ·rw[fK l f b];simp(disch:=omega) only[aX,]
    ·rw[oR l f b,<-c (s.drop (s.take (n+8)).length,l++[_]) ⟨by simp;omega⟩ (by simp;omega)];have d:(s.take (n+8)).length=n+8:=oQ _ _ (by omega);have e:(s.drop n).take 8=(s.take (n+8)).drop n:=by rw[Ct];congr 1;omega
     simp(disch:=omega) only[aX,EK.bytes,jU,Bb,d,e,iv (show (n:Int)+8=((n+8:Nat):Int) by omega)];rfl
   ·by_cases j:((s.drop n).drop k).length<v;all_goals simp(disch:=omega) only[aX,i] at b
    ·rw[fK l f b];simp(disch:=omega) only[aX,h]
    ·rw[oR l f b,<-c (s.drop (s.take (n+k+v)).length,l++[_]) ⟨by simp;omega⟩ (by simp;omega)];have d:(s.take (n+k+v)).length=n+k+v:=oQ _ _ (by omega);have e:((s.drop n).drop k).take v=(s.take (n+k+v)).drop (n+k):=by rw[Ct,Dj];congr 1;omega
     simp(disch:=omega) only[aX,h,EK.bytes,jU,Bb,d,e,iv (show (n:Int)+k+v=((n+k+v:Nat):Int) by omega),iv (show (n:Int)+k=((n+k:Nat):Int) by omega)];rfl
   ·by_cases j:(s.drop n).length<4;all_goals simp(disch:=omega) only[aX,] at b
    ·rw[fK l f b];simp(disch:=omega) only[aX,]
    ·rw[oR l f b,<-c (s.drop (s.take (n+4)).length,l++[_]) ⟨by simp;omega⟩ (by simp;omega)];have d:(s.take (n+4)).length=n+4:=oQ _ _ (by omega);have e:(s.drop n).take 4=(s.take (n+4)).drop n:=by rw[Ct];congr 1;omega
     simp(disch:=omega) only[aX,EK.bytes,jU,Bb,d,e,iv (show (n:Int)+4=((n+4:Nat):Int) by omega)];rfl
   ·simp(disch:=omega) only[aX,i] at b;rw[fK l f b];simp(disch:=omega) only[aX,h]
theorem aIt(n i:Nat)(a:i<8):Ab .u8 (ey .u64 (n:Int) (8*(i:Int)))=((n / 2^(8*i)%256:Nat):Int):=by rw[show (8*(i:Int))=((8*i:Nat):Int) by norm_cast,qp .u64 n (8*i) (by show 8*i<=64;omega),aEk];omega
theorem agi:∀(k v:Nat),(hY k v).length=k
 |0,v=>rfl
 |k+1,v=>by simp[hY,agi k]
def aFr(x:Int×Int×Int×List UInt8×List UInt8×List UInt8×List UInt8×Int×Int):V:=
 .str (x.2.2.2.2.2.1++(x.2.2.2.2.2.2.1++hY (x.2.2.2.2.2.2.2.1-x.2.2.2.2.2.2.2.2).toNat (x.2.2.1.toNat / 2^(8*x.2.2.2.2.2.2.2.2.toNat))))
structure aLO(x:Int×Int×Int×List UInt8×List UInt8×List UInt8×List UInt8×Int×Int):Prop where
 tl:x.2.2.2.2.2.1.length<=10
 bl:(x.2.2.2.2.2.2.1.length:Int)=x.2.2.2.2.2.2.2.2
 le:x.2.2.2.2.2.2.2.2<=x.2.2.2.2.2.2.2.1∧x.2.2.2.2.2.2.2.1<=8
 n0:0<=x.2.2.1
theorem am6(N:Nat)(A:10<N)(t:List UInt8)(y:t.length<=10)(k:Nat)(F:k<=8)(a b n:Int)(v:0<=n)(s r:List UInt8):
  (aN N (vY N) (a,b,n,s,r,t,([]:List UInt8),(k:Int),0)).map (·.1)=some (.str (t++hY k n.toNat)):=by
 refine(af6 aLO (λx=>(x.2.2.2.2.2.2.2.1-x.2.2.2.2.2.2.2.2).toNat) aFr ?_ N _ ⟨y,by simp,by simp;omega,v⟩ (by simp;omega)).trans ?_
 ·rintro rec ⟨E,C,l,G,B,z,q,c,f⟩ ⟨j,u,w,p⟩ d;simp only at j u w p d ⊢;obtain⟨i,rfl⟩:∃i:Nat,f=(i:Int):=⟨q.length,u.symm⟩
  obtain⟨m,rfl⟩:∃m:Nat,l=(m:Int):=⟨l.toNat,by omega⟩
  simp only[vY,aFr,cw,EK.bytes,jU];by_cases h:(i:Int)<c
  ·have e:=aIt m i (by omega);simp(disch:=omega) only[aX,Bb,e];rw[d _ ⟨j,by simp;omega,by simp;omega,p⟩ (by simp;omega)];simp only[aFr,AC]
   rw[show (c-(i:Int)).toNat=(c-((i:Int)+1)).toNat+1 by omega,hY,iv (show (i:Int)+1=((i+1:Nat):Int) by omega),Nat.div_div_eq_div_mul,
    show 2^(8*i)*256=2^(8*(i+1)) by rw[Nat.mul_add,Nat.pow_add]]
   simp
  ·simp(disch:=omega) only[aX,];have D:z.length+q.length<=9223372036854775807:=by omega
   rw[show (c-(i:Int)).toNat=0 by omega];simp[hY]
 ·simp[aFr]
theorem fA(v:Int):(dP v).length<=10:=arN 9 _
theorem xU(v n:Int):(kM v n).length=n.toNat:=agi _ _
theorem aya(N:Nat)(d:10<N)(a b n:Int)(s r:List UInt8)(p:-9223372036854775808<=b∧b<=9223372036854775807)(f:0<=n)(k:s.length<=9223372036854000000):
  (aeh N a b n s r).map (·.1)=some (.str (dE ⟨a,b,n,s,r⟩)):=by
 simp only[aeh,yY,dE,cw];by_cases l:a<1;·simp(disch:=omega) only[aX,or_true,true_or]
 by_cases j:536870911<a;·simp(disch:=omega) only[aX,or_true,true_or]
 have c:b=0∨b=1∨b=2∨b=5∨(b≠0∧b≠1∧b≠2∧b≠5):=by omega
 have m:=fA n;rcases c with rfl|rfl|rfl|rfl|⟨u,w,v,i⟩
 ·have e:bC .and .i64 0 7=0:=by decide
  have h:=fA (a*8+0%8);simp(disch:=omega) only[aX,e];have h:=fA (a*8+0);simp(disch:=omega) only[aX,];simp
 ·have e:bC .and .i64 1 7=1:=by decide
  simp(disch:=omega) only[aX,e,pi];exact am6 N d _ (fA _) 8 (by omega) _ _ _ f _ _
 ·have e:bC .and .i64 2 7=2:=by decide
  have h:=fA (a*8+2);have q:=fA (s.length:Int);simp(disch:=omega) only[aX,e,Aj];simp
 ·have e:bC .and .i64 5 7=5:=by decide
  simp(disch:=omega) only[aX,e,pi];exact am6 N d _ (fA _) 4 (by omega) _ _ _ f _ _
 ·simp(disch:=omega) only[aX,]
theorem avB(N:Nat)(a b n:Int)(s r:List UInt8)(m:-9223372036854775808<=b∧b<=9223372036854775807)(j:s.length<=9223372036854000000):
  (ab3 N a b n s r).map (·.1)=some (.str (dE ⟨a,b,n,s,r⟩)):=by
 simp only[ab3,aqN,dE,cw];by_cases k:a<1;·simp(disch:=omega) only[aX,or_true,true_or]
 by_cases f:536870911<a;·simp(disch:=omega) only[aX,or_true,true_or]
 have d:b=0∨b=1∨b=2∨b=5∨(b≠0∧b≠1∧b≠2∧b≠5):=by omega
 have l:=fA n;have i:(kM n 4).length=4:=xU n 4;have h:(kM n 8).length=8:=xU n 8;rcases d with rfl|rfl|rfl|rfl|⟨q,v,u,e⟩
 ·have c:=fA (a*8+0);simp(disch:=omega) only[aX,];simp
 ·have c:=fA (a*8+1);simp(disch:=omega) only[aX,];simp
 ·have c:=fA (a*8+2);have p:=fA (s.length:Int);simp(disch:=omega) only[aX,Aj];simp
 ·have c:=fA (a*8+5);simp(disch:=omega) only[aX,];simp
 ·simp(disch:=omega) only[aX,]
theorem atE(a:List UInt8):aH Tryz.prog 197 [.str a] (.tup [.int .u64 ((aU a).1),.int .i64 ((aU a).2.1),.int .i64 ((aU a).2.2)]):=by
 refine aH.fits λb=>?_
 have r0:=qq (b (.str a) (by simp));exact axO ath 1000 a (arM 1000 a (by unfold cw;omega) (by omega))
theorem arP(a:List UInt8):aH Tryz.prog 56 [.str a] (.tup [.int .u64 ((aU a).1),.int .i64 ((aU a).2.1),.int .i64 ((aU a).2.2)]):=by
 refine aH.fits λb=>?_
 have r0:=qq (b (.str a) (by simp));exact avj arH 1000 a (apE 1000 a (by unfold cw;omega) (by omega))
theorem am7(a:Int):aH Tryz.prog 192 [.int .u64 a] (.str (dP a)):=by
 refine aH.fits λb=>?_
 have r0:=oL (b (.int .u64 a) (by simp));exact arK amZ (2^64+1) a (alp (2^64+1) a r0 (by omega))
theorem alq(a:Int):aH Tryz.prog 58 [.int .u64 a] (.str (dP a)):=by
 refine aH.fits λb=>?_
 have r0:=oL (b (.int .u64 a) (by simp));obtain⟨v,rfl⟩:∃v:Nat,a=(v:Int):=⟨a.toNat,by omega⟩
 exact afS v v (Ap _) (by omega)
theorem akG(a:Int):aH Tryz.prog 193 [.int .i64 a] (.int .i64 (pi a)):=by
 refine aH.fits λb=>?_
 have r0:=abk (b (.int .i64 a) (by simp));exact aC6 axQ 1000 a (avz _ a)
theorem avC(a:List UInt8):aH Tryz.prog 198 [.str a] (.int .u64 (ix a)):=by
 refine aH.fits λb=>?_
 have r0:=qq (b (.str a) (by simp));exact aAz avl (a.length+1) a (atB _ a (by unfold cw;omega) (by omega))
theorem ayb(a:List UInt8):aH Tryz.prog 57 [.str a] (.int .u64 (ix a)):=by
 refine aH.fits λb=>?_
 have r0:=qq (b (.str a) (by simp));exact aC8 axV (a.length+1) a (avy _ a (by unfold cw;omega) (by omega))
theorem aAS(a:List UInt8):aH Tryz.prog 156 [.str a] (.tup [.agg [.int .i64 (((eP a).1).num),.int .i64 (((eP a).1).wire),.int .u64 (((eP a).1).n),.str (((eP a).1).s),.str (((eP a).1).raw)],.int .i64 ((eP a).2)]):=by
 refine aH.fits λb=>?_
 have r0:=qq (b (.str a) (by simp));obtain⟨hp,h⟩:=amL (ax9 1000 a (by unfold cw;omega));exact aFp (aAG akG atE avC) 1000 a h
theorem avD(a:List UInt8):aH Tryz.prog 102 [.str a] (.tup [.sl .record (.may false) ((fT a).1),.int .i64 ((fT a).2)]):=by
 refine aH.fits λb=>?_
 have r0:=qq (b (.str a) (by simp));obtain⟨hp,h⟩:=amL (atD (a.length+1) a (by unfold cw;omega) (by omega));exact aAI (avq aAS) (a.length+1) a h
theorem atF(a:List UInt8):aH Tryz.prog 19 [.str a] (.tup [.sl .record (.may false) ((fT a).1),.int .i64 ((fT a).2)]):=by
 refine aH.fits λb=>?_
 have r0:=qq (b (.str a) (by simp));obtain⟨hp,h⟩:=amL (arO (a.length+1) a (by unfold cw;omega) (by omega));exact ax5 (atx arP ayb) (a.length+1) a h
theorem ayc(b a:Int)(e:decide ((a:Int)<=1000)=true):aH Tryz.prog 59 [.int .u64 b,.int .i64 a] (.str (kM b a)):=by
 refine aH.fits λd=>?_
 have r0:=oL (d (.int .u64 b) (by simp));have f:=abk (d (.int .i64 a) (by simp));have c:a<=1000:=of_decide_eq_true e;exact aC9 axY 1001 b a (avA _ b a r0 c (by omega))
theorem aAT(b c d:Int)(a e:List UInt8)(l:decide (Aa a<=9223372036854000000)=true):aH Tryz.prog 148 [.agg [.int .i64 b,.int .i64 c,.int .u64 d,.str a,.str e]] (.str (dE ⟨b,c,d,a,e⟩)):=by
 refine aH.fits λf=>?_
 have r0:=yE (f (.agg [.int .i64 b,.int .i64 c,.int .u64 d,.str a,.str e]) (by simp)) (b) (by simp);have k:=yE (f (.agg [.int .i64 b,.int .i64 c,.int .u64 d,.str a,.str e]) (by simp)) (c) (by simp);have j:=amM (f (.agg [.int .i64 b,.int .i64 c,.int .u64 d,.str a,.str e]) (by simp)) (d) (by simp);have m:=yF (f (.agg [.int .i64 b,.int .i64 c,.int .u64 d,.str a,.str e]) (by simp)) (a) (by simp);have p:=yF (f (.agg [.int .i64 b,.int .i64 c,.int .u64 d,.str a,.str e]) (by simp)) (e) (by simp);have i:a.length<=9223372036854000000:=of_decide_eq_true l;obtain⟨hp,h⟩:=amL (aya 1000 (by omega) b c d a e k j.1 i);exact aFq (aAK am7 akG) 1000 b c d a e h
theorem ayd(b c d:Int)(a e:List UInt8)(k:decide (Aa a<=9223372036854000000)=true):aH Tryz.prog 20 [.agg [.int .i64 b,.int .i64 c,.int .u64 d,.str a,.str e]] (.str (dE ⟨b,c,d,a,e⟩)):=by
 refine aH.fits λf=>?_
 have r0:=yE (f (.agg [.int .i64 b,.int .i64 c,.int .u64 d,.str a,.str e]) (by simp)) (b) (by simp);have j:=yE (f (.agg [.int .i64 b,.int .i64 c,.int .u64 d,.str a,.str e]) (by simp)) (c) (by simp);have l:=amM (f (.agg [.int .i64 b,.int .i64 c,.int .u64 d,.str a,.str e]) (by simp)) (d) (by simp);have m:=yF (f (.agg [.int .i64 b,.int .i64 c,.int .u64 d,.str a,.str e]) (by simp)) (a) (by simp);have p:=yF (f (.agg [.int .i64 b,.int .i64 c,.int .u64 d,.str a,.str e]) (by simp)) (e) (by simp);have i:a.length<=9223372036854000000:=of_decide_eq_true k;obtain⟨hp,h⟩:=amL (avB 1000 b c d a e j i);exact aDg (ax7 alq ayc) 1000 b c d a e h
def am8:Nat->List V->Option (Bool×V):=λ_ _=>none
def zb:aI:=(eW am8)
theorem arQ:cE zb []:=(cK _ _)
theorem atG:bB Tryz.prog zb:=by intro f vs hp v hp' h;obtain⟨h, -⟩:=dw h;simp[am8] at h
def akH:IR:=Rs [Pp (.mov 2 (kU 0))] (Rs [Mv 3 0,Pp (.cvi 4 .u32 3),Pp (.cvi 5 .i32 4),Pp (.cvi 6 .i64 5),Pp (.cvi 7 .u64 6),Mv 2 7] .ret)
theorem avE:(bL Tryz.prog [] 0 akH (Tryz.f199.body.getD .skip)&&dD Tryz.prog aE Tryz.f199.results.toList)=true:=by kernel_rfl
theorem atH:Tryz.f199.body=some (Tryz.f199.body.getD .skip):=by kernel_rfl
def akI(N:Nat)(a:Int):Ro:=let b:=(Ab .i32 (Ab .u32 a));let c:=(Ab .u64 (Ab .i64 b));some (vU c,[])
def wL(N:Nat)(a:Int):Ro:=akI N a
theorem avF(N:Nat)(a:Int):callF zb N 8 aE akH [.int .u64 a] []=wL N a:=by kernel_rfl
theorem aye(c:bB Tryz.prog zb)(N:Nat)(a:Int){v:V}{hp:List aJ}(h:wL N a=some (v,hp)):aH Tryz.prog 199 [.int .u64 a] v:=by have b:=avE;simp only[Ac] at b;exact⟨hp,ez c arQ Tryz.func199 atH b.1 b.2 (by decide) ((avF N a).trans h)⟩
def aqP:Nat->List V->Option (Bool×V):=λ_ _=>none
def ab4:aI:=(eW aqP)
theorem atI:cE ab4 []:=(cK _ _)
theorem avG:bB Tryz.prog ab4:=by intro f vs hp v hp' h;obtain⟨h, -⟩:=dw h;simp[aqP] at h
def am9:IR:=Rs [Mi 2 0] (Sq (Rs [Mv 3 0] (.block 0 (Sq (Rs [Bc 5 .eql 3 1,Mv 4 5] (Cn 4 .skip (Rs [Bc 6 .eql 3 10,Mv 4 6] (Cn 4 .skip (Rg [Bc 7 .eql 3 12,Mv 4 7]))))) (Cn 4 (Rs [Mi 2 1] .ret) (Sq (Rs [Bc 9 .eql 3 2,Mv 8 9] (Cn 8 .skip (Rs [Bc 10 .eql 3 9,Mv 8 10] (Cn 8 .skip (Rg [Bc 11 .eql 3 11,Mv 8 11]))))) (Cn 8 (Rs [Mi 2 5] .ret) (Sq (Rs [Bc 13 .eql 3 14,Mv 12 13] (Cn 12 .skip (Rs [Bc 14 .eql 3 15,Mv 12 14] (Cn 12 .skip (Rg [Bc 15 .eql 3 16,Mv 12 15]))))) (Cn 12 (Rs [Mi 2 2] .ret) (Sq (Rs [Bc 17 .eql 3 3,Mv 16 17] (Cn 16 .skip (Rs [Bc 18 .eql 3 4,Mv 16 18] (Cn 16 .skip (Rs [Bc 19 .eql 3 5,Mv 16 19] (Cn 16 .skip (Rs [Bc 20 .eql 3 6,Mv 16 20] (Cn 16 .skip (Rs [Bc 21 .eql 3 7,Mv 16 21] (Cn 16 .skip (Rs [Bc 22 .eql 3 8,Mv 16 22] (Cn 16 .skip (Rs [Bc 23 .eql 3 13,Mv 16 23] (Cn 16 .skip (Rg [Bc 24 .eql 3 17,Mv 16 24]))))))))))))))) (Cn 16 (Rs [Mi 2 0] .ret) .skip)))))))))) (Rs [Mi 2 (-1)] .ret))
theorem ayf:(bL Tryz.prog [] 0 am9 (Tryz.f158.body.getD .skip)&&dD Tryz.prog aE Tryz.f158.results.toList)=true:=by kernel_rfl
theorem avH:Tryz.f158.body=some (Tryz.f158.body.getD .skip):=by kernel_rfl
def aeV(N:Nat)(a:Int):Ro:=cond (a==1) (some (vI 1,[])) (cond (a==10) (some (vI 1,[])) (cond (a==12) (some (vI 1,[])) (cond (a==2) (some (vI 5,[])) (cond (a==9) (some (vI 5,[])) (cond (a==11) (some (vI 5,[])) (cond (a==14) (some (vI 2,[])) (cond (a==15) (some (vI 2,[])) (cond (a==16) (some (vI 2,[])) (cond (a==3) (some (vI 0,[])) (cond (a==4) (some (vI 0,[])) (cond (a==5) (some (vI 0,[])) (cond (a==6) (some (vI 0,[])) (cond (a==7) (some (vI 0,[])) (cond (a==8) (some (vI 0,[])) (cond (a==13) (some (vI 0,[])) (cond (a==17) (some (vI 0,[])) (some (vI (-1),[]))))))))))))))))))
def aeW(N:Nat)(a:Int):Ro:=aeV N a
theorem ayg(N:Nat)(a:Int):callF ab4 N 25 aE am9 [.int .i64 a] []=aeW N a:=by kernel_rfl
theorem aAU(c:bB Tryz.prog ab4)(N:Nat)(a:Int){v:V}{hp:List aJ}(h:aeW N a=some (v,hp)):aH Tryz.prog 158 [.int .i64 a] v:=by have b:=ayf;simp only[Ac] at b;exact⟨hp,ez c atI Tryz.func158 avH b.1 b.2 (by decide) ((ayg N a).trans h)⟩
def axp:Nat->List V->Option (Bool×V):=λf vs=>match f,vs with
 |199,[.int .u64 a]=>some (true,.int .u64 (wD a))
 |_,_=>none
def agj:aI:=(eW axp)
theorem ayh:cE agj []:=(cK _ _)
theorem aAV(b:∀(a:Int),aH Tryz.prog 199 [vU a] (vU (wD a))):bB Tryz.prog agj:=by
 intro f vs hp v hp' c;obtain⟨h,d⟩:=dw c;subst d;unfold axp at h;split at h;·simp only[Ae,Al] at h;obtain⟨e,rfl⟩:=h;exact((b _).dim rfl).frame rfl rfl _
 ·simp at h
def atJ:IR:=Rs [Pp (.mov 4 (kU 0))] (Sq (Rs [Mv 7 0] (.block 0 (Sq (Rs [Bc 9 .eql 7 3,Mv 8 9] (Cn 8 .skip (Rg [Bc 10 .eql 7 17,Mv 8 10]))) (Cn 8 (Rs [Mv 11 1,Ca 12 199 [11],Mv 4 12] .ret) (Sq (Rs [Bc 14 .eql 7 5,Mv 13 14] (Cn 13 .skip (Rs [Bc 15 .eql 7 9,Mv 13 15] (Cn 13 .skip (Rs [Bc 16 .eql 7 2,Mv 13 16] (Cn 13 .skip (Rg [Bc 17 .eql 7 11,Mv 13 17]))))))) (Cn 13 (Rs [Mv 18 1,Pp (.cvi 19 .u32 18),Pp (.cvi 20 .u64 19),Mv 4 20] .ret) (Rs [Bc 22 .eql 7 13,Mv 21 22] (Cn 21 (Rs [Mv 23 1,Pp (.mx 24 true 23 (kU 1)),Mv 4 24] .ret) (Rs [Bc 26 .eql 7 7,Mv 25 26] (Cn 25 (Rs [Mv 27 1,Pp (.cvi 28 .u32 27),Pp (.cvi 29 .i32 28),Mv 5 29] (Rs [Mv 30 5,Pp (.bin 31 .shl 30 (kU 1)),Mv 32 5,Pp (.bin 33 .shr 32 (kU 31)),Bi 34 .xor 31 33,Pp (.cvi 35 .u32 34),Pp (.cvi 36 .u64 35),Mv 4 36] .ret)) (Rs [Bc 38 .eql 7 8,Mv 37 38] (Cn 37 (Rs [Mv 39 1,Pp (.cvi 40 .i64 39),Mv 6 40] (Rs [Mv 41 6,Pp (.bin 42 .shl 41 (kU 1)),Mv 43 6,Pp (.bin 44 .shr 43 (kU 63)),Bi 45 .xor 42 44,Pp (.cvi 46 .u64 45),Mv 4 46] .ret)) .skip)))))))))))) (Rs [Mv 47 1,Mv 4 47] .ret))
theorem aDh:(bL Tryz.prog [] 0 atJ (Tryz.f160.body.getD .skip)&&dD Tryz.prog aR Tryz.f160.results.toList)=true:=by kernel_rfl
theorem aAW:Tryz.f160.body=some (Tryz.f160.body.getD .skip):=by kernel_rfl
def ajm(N:Nat)(b a:Int):Ro:=cond (b==3) (some (vU (wD a),[])) (cond (b==17) (some (vU (wD a),[])) (cond (b==5) (let f:=(Ab .u64 (Ab .u32 a));some (vU f,[])) (cond (b==9) (let g:=(Ab .u64 (Ab .u32 a));some (vU g,[])) (cond (b==2) (let h:=(Ab .u64 (Ab .u32 a));some (vU h,[])) (cond (b==11) (let i:=(Ab .u64 (Ab .u32 a));some (vU i,[])) (cond (b==13) (let j:=(if 1<a then 1 else a);some (vU j,[])) (cond (b==7) (let e:=(Ab .i32 (Ab .u32 a));let k:=(bC .xor .i32 (iu .i32 e 1) (ey .i32 e 31));let l:=(Ab .u64 (Ab .u32 k));some (vU l,[])) (cond (b==8) (let m:=(iu .i64 (Ab .i64 a) 1);let c:=(ey .i64 (Ab .i64 a) 63);let d:=(Ab .u64 (bC .xor .i64 m c));some (vU d,[])) (some (vU a,[]))))))))))
def ajn(N:Nat)(a b:Int):Ro:=ajm N a b
theorem aDi(N:Nat)(a b:Int):callF agj N 48 aR atJ [.int .i64 a,.int .u64 b] []=ajn N a b:=by kernel_rfl
theorem aFs(d:bB Tryz.prog agj)(N:Nat)(a b:Int){v:V}{hp:List aJ}(h:ajn N a b=some (v,hp)):aH Tryz.prog 160 [.int .i64 a,.int .u64 b] v:=by have c:=aDh;simp only[Ac] at c;exact⟨hp,ez d ayh Tryz.func160 aAW c.1 c.2 (by decide) ((aDi N a b).trans h)⟩
def aqQ:Nat->List V->Option (Bool×V):=λf vs=>match f,vs with
 |199,[.int .u64 a]=>some (true,.int .u64 (wD a))
 |_,_=>none
def ab5:aI:=(eW aqQ)
theorem atK:cE ab5 []:=(cK _ _)
theorem avI(b:∀(a:Int),aH Tryz.prog 199 [vU a] (vU (wD a))):bB Tryz.prog ab5:=by
 intro f vs hp v hp' c;obtain⟨h,d⟩:=dw c;subst d;unfold aqQ at h;split at h;·simp only[Ae,Al] at h;obtain⟨e,rfl⟩:=h;exact((b _).dim rfl).frame rfl rfl _
 ·simp at h
def ana:IR:=Rs [Mb 4 false] (Sq (Rs [Mv 5 0] (.block 0 (Sq (Rs [Bc 7 .eql 5 3,Mv 6 7] (Cn 6 .skip (Rs [Bc 8 .eql 5 7,Mv 6 8] (Cn 6 .skip (Rs [Bc 9 .eql 5 11,Mv 6 9] (Cn 6 .skip (Rg [Bc 10 .eql 5 17,Mv 6 10]))))))) (Cn 6 (Rs [Mv 11 1,Mv 12 1,Ca 13 199 [12],Bi 14 .eql 11 13,Mv 4 14] .ret) (Sq (Rs [Bc 16 .eql 5 5,Mv 15 16] (Cn 15 .skip (Rs [Bc 17 .eql 5 9,Mv 15 17] (Cn 15 .skip (Rg [Bc 18 .eql 5 2,Mv 15 18]))))) (Cn 15 (Rs [Mv 19 1,Pp (.bin 20 .shr 19 (kU 32)),Pp (.bin 21 .eql 20 (kU 0)),Mv 4 21] .ret) (Rs [Bc 23 .eql 5 13,Mv 22 23] (Cn 22 (Rs [Mv 24 1,Pp (.bin 25 .leq 24 (kU 1)),Mv 4 25] .ret) (Sq (Rs [Bc 27 .eql 5 4,Mv 26 27] (Cn 26 .skip (Rs [Bc 28 .eql 5 8,Mv 26 28] (Cn 26 .skip (Rs [Bc 29 .eql 5 12,Mv 26 29] (Cn 26 .skip (Rs [Bc 30 .eql 5 6,Mv 26 30] (Cn 26 .skip (Rs [Bc 31 .eql 5 10,Mv 26 31] (Cn 26 .skip (Rg [Bc 32 .eql 5 1,Mv 26 32]))))))))))) (Cn 26 (Rs [Mb 4 true] .ret) .skip)))))))))) (Rs [Mb 4 false] .ret))
theorem ayi:(bL Tryz.prog [] 0 ana (Tryz.f190.body.getD .skip)&&dD Tryz.prog aR Tryz.f190.results.toList)=true:=by kernel_rfl
theorem avJ:Tryz.f190.body=some (Tryz.f190.body.getD .skip):=by kernel_rfl
def aeX(N:Nat)(a b:Int):Ro:=let c:=(some (vB (b==(wD b)),[]):Ro);let d:=(some (vB ((ey .u64 b 32)==0),[]):Ro);cond (a==3) (c) (cond (a==7) (c) (cond (a==11) (c) (cond (a==17) (c) (cond (a==5) (d) (cond (a==9) (d) (cond (a==2) (d) (cond (a==13) (some (vB (decide (b<=1)),[])) (cond (a==4) (some (vB true,[])) (cond (a==8) (some (vB true,[])) (cond (a==12) (some (vB true,[])) (cond (a==6) (some (vB true,[])) (cond (a==10) (some (vB true,[])) (cond (a==1) (some (vB true,[])) (some (vB false,[])))))))))))))))
def aeY(N:Nat)(a b:Int):Ro:=aeX N a b
theorem ayj(N:Nat)(a b:Int):callF ab5 N 33 aR ana [.int .i64 a,.int .u64 b] []=aeY N a b:=by kernel_rfl
theorem aAX(d:bB Tryz.prog ab5)(N:Nat)(a b:Int){v:V}{hp:List aJ}(h:aeY N a b=some (v,hp)):aH Tryz.prog 190 [.int .i64 a,.int .u64 b] v:=by have c:=ayi;simp only[Ac] at c;exact⟨hp,ez d atK Tryz.func190 avJ c.1 c.2 (by decide) ((ayj N a b).trans h)⟩
end Go.Proofs.YtndccphabnjkhaaGreat
namespace Go.AM
theorem aJ6(a b:Int)(h:0<=b∧b<=64):ey .u64 a b=a / (2^b.toNat:Nat):=by
 unfold ey;rw[show min b.toNat IntKind.u64.bits=b.toNat from by show min _ 64=_;omega,Cb _ (DA (DR (by omega)))]
 norm_cast
theorem aJ7(a b:Int)(h:0<=b∧b<=32):ey .i32 a b=a / (2^b.toNat:Nat):=by
 unfold ey;rw[show min b.toNat IntKind.i32.bits=b.toNat from by show min _ 32=_;omega,Cb _ (DA (DR (by omega)))]
 norm_cast
theorem aJ8(a b:Int)(h:0<=b∧b<=64):ey .i64 a b=a / (2^b.toNat:Nat):=by
 unfold ey;rw[show min b.toNat IntKind.i64.bits=b.toNat from by show min _ 64=_;omega,Cb _ (DA (DR (by omega)))]
 norm_cast
theorem aJ9(k:Nat)(b:k<=32)(a:Int)(d:0<=a∧a<=4294967295):bC .and .u32 a ((2^k-1:Nat):Int)=a%(2^k:Nat):=by
 obtain⟨n,rfl⟩:∃n:Nat,a=(n:Int):=⟨a.toNat,by omega⟩
 have hp:2^k<=2^32:=CG (by omega) b;have c:0<2^k:=Nat.pow_pos (by omega);rw[aAg .u32 rfl _ _ (by show _<2^32;omega) (by show _<2^32;omega),DE]
 norm_cast
theorem anb(k:Nat)(a b:Int)(h:0<=a∧a<=4294967295)(d:a%(2^k:Nat)=0)(i:0<=b∧b<(2^k:Nat))(f:k<=32):bC .or .u32 a b=a+b:=by
 obtain⟨n,rfl⟩:∃n:Nat,a=(n:Int):=⟨a.toNat,by omega⟩
 obtain⟨m,rfl⟩:∃m:Nat,b=(m:Int):=⟨b.toNat,by omega⟩
 have hp:2^k<=2^32:=CG (by omega) f;have c:m<2^k:=by omega
 have e:n%2^k=0:=by norm_cast at d
 rw[au7 .u32 rfl _ _ (by show _<2^32;omega) (by show _<2^32;omega)];have:n=(n / 2^k) <<<k:=by rw[CJ];have:=Db n (2^k);rw[e,BZ] at this;omega
 rw[this,<-CV c]
 norm_cast
theorem aDj(a:Int)(b:0<=a∧a<=18446744073709551615):bC .xor .u64 a 18446744073709551615=18446744073709551615-a:=by
 obtain⟨n,rfl⟩:∃n:Nat,a=(n:Int):=⟨a.toNat,by omega⟩
 have h:=aAf .u64 rfl n 18446744073709551615 (by show _<2^64;omega) (by decide);have e:n ^^^18446744073709551615=18446744073709551615-n:=by
  have:(BitVec.ofNat 64 n ^^^Di 64).toNat=(~~~ (BitVec.ofNat 64 n)).toNat:=by rw[DW]
  rw[BitVec.toNat_xor,BitVec.toNat_not,BitVec.toNat_ofNat,Bn (by omega:n<2^64)] at this;simpa using this
 rw[e] at h;rw[show (18446744073709551615:Int)=((18446744073709551615:Nat):Int) from rfl,h];omega
theorem xor_zero(k:IntKind)(b:k.signed=false)(a:Int)(c:0<=a∧a<(2^k.bits:Nat)):bC .xor k a 0=a:=by
 obtain⟨n,rfl⟩:∃n:Nat,a=(n:Int):=⟨a.toNat,by omega⟩
 have h:=aAf k b n 0 (by omega) (Nat.pow_pos (by omega));rw[show (0:Int)=((0:Nat):Int) from rfl,h,Nat.xor_zero]
end Go.AM
namespace Go.Proofs.YtndccphabnjkhaaGreat
open Go.AM
theorem arR(N:Nat)(p:Int)(hp:0<=p∧p<=18446744073709551615):wL N p=some (.int .u64 (wD p),[]):=by
 simp only[wL,akI,amT,sL,qn,qo,mD,tM]
 congr 3
 split<;>omega
theorem aFt(k:Int):k=1∨k=2∨k=3∨k=4∨k=5∨k=6∨k=7∨k=8∨k=9∨k=10∨k=11∨k=12∨k=13∨k=14∨k=15∨k=16∨k=17∨(k<1∨17<k):=by omega
set_option maxHeartbeats 4000000 in
theorem atL(N:Nat)(k:Int):aeW N k=some (.int .i64 (dO k),[]):=by
 show aeV N k=_;rw[tN];rcases aFt k with rfl|rfl|rfl|rfl|rfl|rfl|rfl|rfl|rfl|rfl|rfl|rfl|rfl|rfl|rfl|rfl|rfl|h;case inr.inr.inr.inr.inr.inr.inr.inr.inr.inr.inr.inr.inr.inr.inr.inr.inr=>simp only[aeV,af7];rcases h with h|h<;>simp(disch:=omega) only[aX,]
 all_goals first|rfl|simp(disch:=omega) only[aX,]
theorem axq(a:Int):(((AV 32 a).toNat:Nat):Int)=a%4294967296:=by rw[BitVec.toNat_ofInt];exact Int.toNat_of_nonneg (Int.emod_nonneg _ (by decide))
theorem aGT(a:Int):bC .xor .i32 a 0=Ab .i32 a:=by have e:bC .xor .i32 a 0=Ab .i32 ((AV 32 a ^^^0#32).toNat:Nat):=rfl;rw[e,BitVec.xor_zero,axq,qo,qo];omega
theorem aGU(a:Int):bC .xor .i32 a (-1)=Ab .i32 (-1-a):=by
 have e:bC .xor .i32 a (-1)=Ab .i32 ((AV 32 a ^^^Di 32).toNat:Nat):=by show Ab .i32 ((AV 32 a ^^^AV 32 (-1)).toNat:Nat)=_;rw[show AV 32 (-1)=Di 32 from by decide]
 have d:(AV 32 a).toNat<4294967296:=(AV 32 a).isLt;have b:=axq a;rw[e,DW,BitVec.toNat_not,qo,qo];have c:((2^32-1-(AV 32 a).toNat:Nat):Int)=4294967296-1-a%4294967296:=by
  rw[<-b];generalize (AV 32 a).toNat=q at*
  omega
 rw[c];omega
theorem axr(a:Int):(((AV 64 a).toNat:Nat):Int)=a%18446744073709551616:=by rw[BitVec.toNat_ofInt];exact Int.toNat_of_nonneg (Int.emod_nonneg _ (by decide))
theorem aGV(a:Int):bC .xor .i64 a 0=Ab .i64 a:=by have e:bC .xor .i64 a 0=Ab .i64 ((AV 64 a ^^^0#64).toNat:Nat):=rfl;rw[e,BitVec.xor_zero,axr,mD,mD];omega
theorem aGW(a:Int):bC .xor .i64 a (-1)=Ab .i64 (-1-a):=by
 have e:bC .xor .i64 a (-1)=Ab .i64 ((AV 64 a ^^^Di 64).toNat:Nat):=by show Ab .i64 ((AV 64 a ^^^AV 64 (-1)).toNat:Nat)=_;rw[show AV 64 (-1)=Di 64 from by decide]
 have d:(AV 64 a).toNat<18446744073709551616:=(AV 64 a).isLt;have b:=axr a;rw[e,DW,BitVec.toNat_not,mD,mD];have c:((2^64-1-(AV 64 a).toNat:Nat):Int)=18446744073709551616-1-a%18446744073709551616:=by
  rw[<-b];generalize (AV 64 a).toNat=q at*
  omega
 rw[c];omega
theorem aMI(n:Int)(d:0<=n∧n<=18446744073709551615):
  Ab .u64 (Ab .u32 (bC .xor .i32 (iu .i32 (Ab .i32 (Ab .u32 n)) 1) (ey .i32 (Ab .i32 (Ab .u32 n)) 31)))=(if n%4294967296<2147483648 then n%4294967296*2 else (4294967295-n%4294967296)*2+1):=by
 have a:Ab .i32 (Ab .u32 n)=if n%4294967296<2147483648 then n%4294967296 else n%4294967296-4294967296:=by simp only[qo,qn];split<;>omega
 have c:ey .i32 (Ab .i32 (Ab .u32 n)) 31=if n%4294967296<2147483648 then 0 else -1:=by rw[a,aJ7 _ _ (by omega)];show _ / (2147483648:Int)=_;split<;>omega
 have b:iu .i32 (Ab .i32 (Ab .u32 n)) 1=Ab .i32 ((Ab .i32 (Ab .u32 n))*2):=rfl;rw[c,b,a];by_cases h:n%4294967296<2147483648;·rw[if_pos h,if_pos h,if_pos h,aGT];simp only[qo,qn,tM];omega
 ·rw[if_neg h,if_neg h,if_neg h,aGU];simp only[qo,qn,tM];omega
theorem aMJ(n:Int)(d:0<=n∧n<=18446744073709551615):
  Ab .u64 (bC .xor .i64 (iu .i64 (Ab .i64 n) 1) (ey .i64 (Ab .i64 n) 63))=(if n<9223372036854775808 then n*2 else (18446744073709551615-n)*2+1):=by
 have a:Ab .i64 n=if n<9223372036854775808 then n else n-18446744073709551616:=by simp only[mD,qn];split<;>omega
 have c:ey .i64 (Ab .i64 n) 63=if n<9223372036854775808 then 0 else -1:=by rw[a,aJ8 _ _ (by omega)];show _ / (9223372036854775808:Int)=_;split<;>omega
 have b:iu .i64 (Ab .i64 n) 1=Ab .i64 ((Ab .i64 n)*2):=rfl;rw[c,b,a];by_cases h:n<9223372036854775808;·rw[if_pos h,if_pos h,if_pos h,aGV];simp only[mD,qn,tM];omega
 ·rw[if_neg h,if_neg h,if_neg h,aGW];simp only[mD,qn,tM];omega
set_option maxHeartbeats 4000000 in
theorem ayk(N:Nat)(k n:Int)(b:0<=n∧n<=18446744073709551615):ajn N k n=some (.int .u64 (toR k n),[]):=by
 show ajm N k n=_;have d:=aMI n b;have a:=aMJ n b;have c:Ab .u64 (Ab .u32 n)=n%4294967296:=by rw[qn,cp _ (by omega)]
 simp only[ajm,d,a,c];rw[avb];unfold toD;simp only[<-amT];clear d a c;rcases aFt k with rfl|rfl|rfl|rfl|rfl|rfl|rfl|rfl|rfl|rfl|rfl|rfl|rfl|rfl|rfl|rfl|rfl|h;case inr.inr.inr.inr.inr.inr.inr.inr.inr.inr.inr.inr.inr.inr.inr.inr.inr=>rcases h with h|h<;>simp(disch:=omega) only[aX,]
 all_goals first|rfl|simp(disch:=omega) only[aX,]
set_option maxHeartbeats 4000000 in
theorem atM(N:Nat)(k n:Int)(c:0<=n∧n<=18446744073709551615):aeY N k n=some (.bool (yH k n),[]):=by
 show aeX N k n=_;have b:(ey .u64 n 32==0)=decide (n<4294967296):=by rw[aJ6 _ _ (by omega)];show (n / 4294967296==0)=_;rw[BD];simp;omega
 have a:(n==wD n)=decide (n=wD n):=by rw[BD];simp
 simp only[aeX,b,a];rw[af8];unfold azF;simp only[<-amT];clear b a;rcases aFt k with rfl|rfl|rfl|rfl|rfl|rfl|rfl|rfl|rfl|rfl|rfl|rfl|rfl|rfl|rfl|rfl|rfl|h;case inr.inr.inr.inr.inr.inr.inr.inr.inr.inr.inr.inr.inr.inr.inr.inr.inr=>rcases h with h|h<;>simp(disch:=omega) only[aX,]
 all_goals first|rfl|simp(disch:=omega) only[aX,]
theorem agk(a:Int):aH Tryz.prog 199 [.int .u64 a] (.int .u64 (wD a)):=by
 refine aH.fits λb=>?_
 have r0:=oL (b (.int .u64 a) (by simp));exact aye atG 1000 a (arR _ a r0)
theorem avK(a:Int):aH Tryz.prog 158 [.int .i64 a] (.int .i64 (dO a)):=by
 refine aH.fits λb=>?_
 have r0:=abk (b (.int .i64 a) (by simp));exact aAU avG 1000 a (atL _ a)
theorem aAY(a b:Int):aH Tryz.prog 160 [.int .i64 a,.int .u64 b] (.int .u64 (toR a b)):=by
 refine aH.fits λc=>?_
 have r0:=abk (c (.int .i64 a) (by simp));have d:=oL (c (.int .u64 b) (by simp));exact aFs (aAV agk) 1000 a b (ayk _ a b d)
theorem avL(a b:Int):aH Tryz.prog 190 [.int .i64 a,.int .u64 b] (.bool (yH a b)):=by
 refine aH.fits λc=>?_
 have r0:=abk (c (.int .i64 a) (by simp));have d:=oL (c (.int .u64 b) (by simp));exact aAX (avI agk) 1000 a b (atM _ a b d)
def anc:Nat->List V->Option (Bool×V):=λ_ _=>none
def zc:aI:=(eW anc)
theorem arS:cE zc []:=(cK _ _)
theorem atN:bB Tryz.prog zc:=by intro f vs hp v hp' h;obtain⟨h, -⟩:=dw h;simp[anc] at h
def akJ:IR:=Rs [Pp (.mov 4 (.c (.int .u8 0)))] (Rs [Mv 5 0,Mv 6 1,Bi 7 .shr 5 6,Pp (.bin 8 .and 7 (.c (.int .u32 63))),Pp (.bin 9 .or (.c (.int .u32 128)) 8),Pp (.cvi 10 .u8 9),Mv 4 10] .ret)
theorem avM:(bL Tryz.prog [] 0 akJ (Tryz.f241.body.getD .skip)&&dD Tryz.prog aR Tryz.f241.results.toList)=true:=by kernel_rfl
theorem atO:Tryz.f241.body=some (Tryz.f241.body.getD .skip):=by kernel_rfl
def akK(N:Nat)(b a:Int):Ro:=chk (decide (0<=a)) (let c:=(bC .and .u32 (ey .u32 b a) 63);let d:=(Ab .u8 (bC .or .u32 128 c));some (.int .u8 d,[]))
def wM(N:Nat)(a b:Int):Ro:=akK N a b
theorem avN(N:Nat)(a b:Int):callF zc N 11 aR akJ [.int .u32 a,.int .i64 b] []=wM N a b:=by kernel_rfl
theorem ayl(d:bB Tryz.prog zc)(N:Nat)(a b:Int){v:V}{hp:List aJ}(h:wM N a b=some (v,hp)):aH Tryz.prog 241 [.int .u32 a,.int .i64 b] v:=by have c:=avM;simp only[Ac] at c;exact⟨hp,ez d arS Tryz.func241 atO c.1 c.2 (by decide) ((avN N a b).trans h)⟩
def aqR(N:Nat):Nat->List V->Option (Bool×V):=λf vs=>match f,vs with
 |226,[.int .u32 a]=>some ((decide ((a:Int)=65533)&&decide (0<N)),.str (aeH a))
 |241,[.int .u32 a,.int .i64 b]=>some ((decide (0<=(b:Int))&&decide ((b:Int)<=32)),.int .u8 (nR a b))
 |_,_=>none
def ab6(N:Nat):aI:=(eW (aqR N))
theorem atP(N:Nat):cE (ab6 N) []:=(cK _ _)
theorem ahD(N:Nat)(d:∀(a:Int),(decide ((a:Int)=65533)&&decide (0<N))=true->aH Tryz.prog 226 [.int .u32 a] (vT (aeH a)))(c:∀(a:Int)(b:Int),(decide (0<=(b:Int))&&decide ((b:Int)<=32))=true->aH Tryz.prog 241 [.int .u32 a,vI b] (.int .u8 (nR a b))):bB Tryz.prog (ab6 N):=by
 intro f vs hp v hp' j;obtain⟨h,i⟩:=dw j;subst i;unfold aqR at h;split at h;·simp only[Ae,Al] at h;obtain⟨e,rfl⟩:=h;exact((d _ e).dim rfl).frame rfl rfl _
 ·simp only[Ae,Al] at h;obtain⟨e,rfl⟩:=h;exact((c _ _ e).dim rfl).frame rfl rfl _
 ·simp at h
def ane:IR:=Rs [Ms 2 []] (Sq (.block 0 (Rs [Mv 4 0,Pp (.bin 5 .lss 4 (.c (.int .u32 128))),Mv 3 5] (Cn 3 (Rs [Mv 6 0,Pp (.cvi 7 .u8 6),Pp (.bsl 8 .u8 [7] false),Pp (.b2s 9 8),Mv 2 9] .ret) (Rs [Mv 11 0,Pp (.bin 12 .lss 11 (.c (.int .u32 2048))),Mv 10 12] (Cn 10 (Rs [Mv 13 0,Pp (.bin 14 .shr 13 (kU 6)),Pp (.bin 15 .or (.c (.int .u32 192)) 14),Pp (.cvi 16 .u8 15),Mv 17 0,Ca 18 241 [17,kI 0],Pp (.bsl 19 .u8 [16,18] false),Pp (.b2s 20 19),Mv 2 20] .ret) (Rs [Mv 22 0,Pp (.bin 23 .geq 22 (.c (.int .u32 55296))),Mv 24 23,Gt 24 (.mov 25 0),Gt 24 (.bin 26 .lss 25 (.c (.int .u32 57344))),Pa 27 24 26,Mv 28 27,Gf 28 (.mov 29 0),Gf 28 (.bin 30 .gtr 29 (.c (.int .u32 1114111))),Po 31 28 30,Mv 21 31] (Cn 21 (Rs [Ca 32 226 [.c (.int .u32 65533)],Mv 2 32] .ret) (Rs [Mv 34 0,Pp (.bin 35 .lss 34 (.c (.int .u32 65536))),Mv 33 35] (Cn 33 (Rs [Mv 36 0,Pp (.bin 37 .shr 36 (kU 12)),Pp (.bin 38 .or (.c (.int .u32 224)) 37),Pp (.cvi 39 .u8 38),Mv 40 0,Ca 41 241 [40,kI 6],Mv 42 0,Ca 43 241 [42,kI 0],Pp (.bsl 44 .u8 [39,41,43] false),Pp (.b2s 45 44),Mv 2 45] .ret) .skip))))))))) (Rs [Mv 46 0,Pp (.bin 47 .shr 46 (kU 18)),Pp (.bin 48 .or (.c (.int .u32 240)) 47),Pp (.cvi 49 .u8 48),Mv 50 0,Ca 51 241 [50,kI 12],Mv 52 0,Ca 53 241 [52,kI 6],Mv 54 0,Ca 55 241 [54,kI 0],Pp (.bsl 56 .u8 [49,51,53,55] false),Pp (.b2s 57 56),Mv 2 57] .ret))
theorem aym:(bL Tryz.prog [] 0 ane (Tryz.f226.body.getD .skip)&&dD Tryz.prog aE Tryz.f226.results.toList)=true:=by kernel_rfl
theorem avO:Tryz.f226.body=some (Tryz.f226.body.getD .skip):=by kernel_rfl
def anf(N:Nat)(a:Int):Ro:=let b:=(some (vT (aeH 65533),[]):Ro);let d:=λc=>(some (vT ([(Az (Ad (Ab .u8 c))),(Az (Ad (nR a 6))),(Az (Ad (nR a 0)))]:Bs),[]):Ro);let e:=λc=>(some (vT ([(Az (Ad (Ab .u8 c))),(Az (Ad (nR a 12))),(Az (Ad (nR a 6))),(Az (Ad (nR a 0)))]:Bs),[]):Ro);cond (decide (a<128)) (some (vT ([(Az (Ad (Ab .u8 a)))]:Bs),[])) (cond (decide (a<2048)) (let f:=(bC .or .u32 192 (ey .u32 a 6));chk (decide (0<=(0:Int))&&decide ((0:Int)<=32)) (some (vT ([(Az (Ad (Ab .u8 f))),(Az (Ad (nR a 0)))]:Bs),[]))) (cond (decide (55296<=a)) (cond (decide (a<57344)) (chk (decide ((65533:Int)=65533)&&decide (0<N)) (b)) (cond (decide (1114111<a)) (chk (decide ((65533:Int)=65533)&&decide (0<N)) (b)) (cond (decide (a<65536)) (let g:=(bC .or .u32 224 (ey .u32 a 12));chk (decide (0<=(6:Int))&&decide ((6:Int)<=32)) (chk (decide (0<=(0:Int))&&decide ((0:Int)<=32)) (d g))) (let h:=(bC .or .u32 240 (ey .u32 a 18));chk (decide (0<=(12:Int))&&decide ((12:Int)<=32)) (chk (decide (0<=(6:Int))&&decide ((6:Int)<=32)) (chk (decide (0<=(0:Int))&&decide ((0:Int)<=32)) (e h))))))) (cond (decide (1114111<a)) (chk (decide ((65533:Int)=65533)&&decide (0<N)) (b)) (cond (decide (a<65536)) (let i:=(bC .or .u32 224 (ey .u32 a 12));chk (decide (0<=(6:Int))&&decide ((6:Int)<=32)) (chk (decide (0<=(0:Int))&&decide ((0:Int)<=32)) (d i))) (let j:=(bC .or .u32 240 (ey .u32 a 18));chk (decide (0<=(12:Int))&&decide ((12:Int)<=32)) (chk (decide (0<=(6:Int))&&decide ((6:Int)<=32)) (chk (decide (0<=(0:Int))&&decide ((0:Int)<=32)) (e j))))))))
def zd(N:Nat)(a:Int):Ro:=anf N a
theorem ayn(N:Nat)(a:Int):callF (ab6 N) N 58 aE ane [.int .u32 a] []=zd N a:=by kernel_rfl
theorem ang(N:Nat)(c:bB Tryz.prog (ab6 N))(a:Int){v:V}{hp:List aJ}(h:zd N a=some (v,hp)):aH Tryz.prog 226 [.int .u32 a] v:=by have b:=aym;simp only[Ac] at b;exact⟨hp,ez c (atP N) Tryz.func226 avO b.1 b.2 (by decide) ((ayn N a).trans h)⟩
def akL:Nat->List V->Option (Bool×V):=λf vs=>match f,vs with
 |226,[.int .u32 a]=>some (true,.str (aeH a))
 |_,_=>none
def lm:aI:=(eW akL)
theorem apF:cE lm []:=(cK _ _)
theorem arT(b:∀(a:Int),aH Tryz.prog 226 [.int .u32 a] (vT (aeH a))):bB Tryz.prog lm:=by
 intro f vs hp v hp' c;obtain⟨h,d⟩:=dw c;subst d;unfold akL at h;split at h;·simp only[Ae,Al] at h;obtain⟨e,rfl⟩:=h;exact((b _).dim rfl).frame rfl rfl _
 ·simp at h
def adM:IR:=Sq (Rs [Mv 42 5,Mv 43 3,Bi 44 .lss 42 43] (Cn 44 .skip (.exit 1))) (Sq (.block 2 (Rg [Mv 47 2,Pp (.bin 48 .shl 47 (kU 6)),Mv 49 0,Mv 50 5,Pp (.idx 51 49 50),Pp (.bin 52 .and 51 (.c (.int .u8 63))),Pp (.cvi 53 .u32 52),Bi 54 .or 48 53,Mv 2 54])) (Rg [Mv 45 5,Bc 46 .add 45 1,Mv 5 46]))
def adN:IR:=Sq (Sq (.reg [Mv 55 2,Ca 56 226 [55],Mv 57 0,Mv 58 3,Pp (.subs 59 57 none (some 58)),Bi 60 .neq 56 59] [[],[0],[],[],[2,3],rg 0 4]) (Cn 60 (Rs [Pp (.mov 2 (.c (.int .u32 0))),Mi 3 0] .ret) .skip)) (Rs [Mv 61 2,Mv 62 3,Mv 2 61,Mv 3 62] .ret)
def abw:IR:=Rs [Pp (.mov 2 (.c (.int .u32 0))),Mi 3 0] (Rs [Mv 6 0,Pp (.idx 7 6 (kI 0)),Mv 4 7] (Sq (.block 0 (Rs [Mv 9 4,Pp (.bin 10 .lss 9 (.c (.int .u8 128))),Mv 8 10] (Cn 8 (Rs [Mv 11 4,Pp (.cvi 12 .u32 11),Mv 2 12,Mi 3 1] .ret) (Rs [Mv 14 4,Pp (.bin 15 .shr 14 (kU 5)),Pp (.bin 16 .eql 15 (.c (.int .u8 6))),Mv 13 16] (Cn 13 (Rg [Mv 17 4,Pp (.bin 18 .and 17 (.c (.int .u8 31))),Pp (.cvi 19 .u32 18),Mv 2 19,Mi 3 2]) (Rs [Mv 21 4,Pp (.bin 22 .shr 21 (kU 4)),Pp (.bin 23 .eql 22 (.c (.int .u8 14))),Mv 20 23] (Cn 20 (Rg [Mv 24 4,Pp (.bin 25 .and 24 (.c (.int .u8 15))),Pp (.cvi 26 .u32 25),Mv 2 26,Mi 3 3]) (Rs [Mv 28 4,Pp (.bin 29 .shr 28 (kU 3)),Pp (.bin 30 .eql 29 (.c (.int .u8 30))),Mv 27 30] (Cn 27 (Rg [Mv 31 4,Pp (.bin 32 .and 31 (.c (.int .u8 7))),Pp (.cvi 33 .u32 32),Mv 2 33,Mi 3 4]) .skip))))))))) (Sq (Rs [Mv 34 3,Bc 35 .eql 34 0,Mv 36 35,Gf 36 (.mov 37 3),Gf 36 (.mov 38 0),Gf 36 (.lens 39 38),Gf 36 (.bin 40 .gtr 37 39),Po 41 36 40] (Cn 41 (Rs [Pp (.mov 2 (.c (.int .u32 0))),Mi 3 0] .ret) .skip)) (Sq (Rs [Mi 5 1] (.block 1 (.loop [0,2,3,5,1000000] 0 adM))) adN))))
theorem atQ:(bL Tryz.prog [] 0 abw (Tryz.f202.body.getD .skip)&&dD Tryz.prog dF Tryz.f202.results.toList)=true:=by kernel_rfl
theorem arU:Tryz.f202.body=some (Tryz.f202.body.getD .skip):=by kernel_rfl
def atR(R:TRr)(a:TS):TE:=(bu a [0,2,3,5,1000000] 0 (aP 1 (kseq (R adN) (fin dF))))
abbrev cG:Type:=(Bs×Int×Int×Int)
def qC:cG->St:=λ(a,b,c,d)=>{env:=(vT a::.undef::.int .u32 b::vI c::.undef::vI d::(U 57 [])),hp:=[]}
def ze(N:Nat):TS->TS:=λa s=>run lm N adM (atR (run lm N) a) s
def eF(N:Nat)(a:cG->Ro):cG->Ro:=λ(c,e,b,d)=>cond (decide (d<b)) (chk (ixl d c) (let f:=(↑(AY (Ai c (Ad d) 0)):Int);let g:=(Ab .u32 (bC .and .u8 f 63));let h:=(bC .or .u32 (iu .u32 e 6) g);let i:=(Ab .i64 (d+1));a (c,h,b,i))) (chk (decide (0<=b)&&decide (b<=(↑(Aa c):Int))) (let j:=(An 0 (Ao (Ad b) c));let k:=(!decide ((aeH e)=j));cond k (some (.tup [.int .u32 0,vI 0],[])) (some (.tup [.int .u32 e,vI b],[]))))
theorem arV(N:Nat):LB (ze N) qC (eF N):=λ_ _=>by kernel_rfl
def pJ(N:Nat)(a:Bs)(d:cG->Ro):Ro:=let b:=(some (.tup [.int .u32 0,vI 0],[]):Ro);chk (decide ((0:Int)<↑(Aa a))) (let c:=(↑(AY (Ai a (Ad 0) 0)):Int);cond (decide (c<128)) (some (.tup [.int .u32 (Ab .u32 c),vI 1],[])) (cond ((ey .u8 c 5)==6) (let j:=(Ab .u32 (bC .and .u8 c 31));cond (2==0) (b) (let k:=(↑(Aa a):Int);cond (decide (k<2)) (b) (d (a,j,2,1)))) (cond ((ey .u8 c 4)==14) (let e:=(Ab .u32 (bC .and .u8 c 15));cond (3==0) (b) (let f:=(↑(Aa a):Int);cond (decide (f<3)) (b) (d (a,e,3,1)))) (cond ((ey .u8 c 3)==30) (let g:=(Ab .u32 (bC .and .u8 c 7));cond (4==0) (b) (let h:=(↑(Aa a):Int);cond (decide (h<4)) (b) (d (a,g,4,1)))) (cond (0==0) (b) (let i:=(↑(Aa a):Int);cond (decide (i<0)) (b) (d (a,0,0,1))))))))
def uL(N:Nat)(a:Bs):Ro:=pJ N a (λz=>aN N (eF N) z)
def ayo(N:Nat):List (Nat×(TS)):=cU lm N abw (fin dF)++[]
theorem atS(N:Nat)(a:Bs):callF lm N 63 dF abw [.str a] []=uL N a:=
 ((bK (ayo N) (by kernel_rfl) rfl (λC=>pJ N a (λz=>C 1000000 (qC z))) (λC=>by kernel_rfl)).trans (AE (b:=pJ N a (λz=>aZ N (ze N) (qC z))) (by kernel_rfl) (congrArg (pJ N a) (funext λz=>aW (qC) (ze N) (eF N) (arV N) N z))))
theorem avP(c:bB Tryz.prog lm)(N:Nat)(a:Bs){v:V}{hp:List aJ}(h:uL N a=some (v,hp)):aH Tryz.prog 202 [.str a] v:=by have b:=atQ;simp only[Ac] at b;exact⟨hp,ez c apF Tryz.func202 arU b.1 b.2 (by decide) ((atS N a).trans h)⟩
def akM:Nat->List V->Option (Bool×V):=λf vs=>match f,vs with
 |202,[.str a]=>some ((!decide (a=[])),.tup [.int .u32 ((fy a).1),.int .i64 ((fy a).2)])
 |_,_=>none
def ln:aI:=(eW akM)
theorem apG:cE ln []:=(cK _ _)
theorem arW(b:∀(a:Bs),(!decide (a=[]))=true->aH Tryz.prog 202 [vT a] (.tup [.int .u32 ((fy a).1),vI ((fy a).2)])):bB Tryz.prog ln:=by
 intro f vs hp v hp' c;obtain⟨h,d⟩:=dw c;subst d;unfold akM at h;split at h;·simp only[Ae,Al] at h;obtain⟨e,rfl⟩:=h;exact((b _ e).dim rfl).frame rfl rfl _
 ·simp at h
def aeZ:IR:=Sq (Rs [Mv 5 0,Pp (.bin 6 .neq 5 (kS []))] (Cn 6 .skip (.exit 0))) (.block 1 (Rs [Mv 8 0,Ca 9 202 [8],Mv 7 9,Ex_ 10 0 7,Ex_ 11 1 7,Mv 3 10,Mv 4 11] (Sq (Rs [Mv 12 4,Bc 13 .eql 12 0] (Cn 13 (Rs [Mb 2 false] .ret) .skip)) (Rg [Mv 14 0,Mv 15 4,Pp (.subs 16 14 (some 15) none),Mv 0 16]))))
def ae0:IR:=Rs [Mb 2 true] .ret
def abx:IR:=Rs [Mb 2 false] (Sq (.block 0 (.loop [0,1000000] 0 aeZ)) ae0)
theorem atT:(bL Tryz.prog [] 0 abx (Tryz.f172.body.getD .skip)&&dD Tryz.prog aE Tryz.f172.results.toList)=true:=by kernel_rfl
theorem arX:Tryz.f172.body=some (Tryz.f172.body.getD .skip):=by kernel_rfl
def atU(R:TRr)(a:TS):TE:=(bu a [0,1000000] 0 (aP 0 (kseq (R ae0) (fin aE))))
abbrev f6:Type:=(Bs)
def qD(x:f6):St:={env:=(vT x::(U 16 [])),hp:=[]}
def zf(N:Nat):TS->TS:=λa s=>run ln N aeZ (atU (run ln N) a) s
def nV(N:Nat)(a:f6->Ro)(x:f6):Ro:=let b:Bs:=x;let c:=(!decide (b=[]));cond c (chk (!decide (b=[])) (cond (((fy b).2)==0) (some (vB false,[])) (chk (decide (0<=((fy b).2))&&decide (((fy b).2)<=(↑(Aa b):Int))) (let d:=(An (Ad ((fy b).2)) (Ao (Aa b) b));a (d))))) (some (vB true,[]))
theorem arY(N:Nat):LB (zf N) qD (nV N):=λ_ _=>by kernel_rfl
def uM(N:Nat)(a:Bs)(b:f6->Ro):Ro:=b (a)
def aby(N:Nat)(a:Bs):Ro:=uM N a (λz=>aN N (nV N) z)
def ayp(N:Nat):List (Nat×(TS)):=cU ln N abx (fin aE)++[]
theorem atV(N:Nat)(a:Bs):callF ln N 17 aE abx [.str a] []=aby N a:=
 ((bK (ayp N) (by kernel_rfl) rfl (λC=>uM N a (λz=>C 1000000 (qD z))) (λC=>by kernel_rfl)).trans (AE (b:=uM N a (λz=>aZ N (zf N) (qD z))) (by kernel_rfl) (congrArg (uM N a) (funext λz=>aW (qD) (zf N) (nV N) (arY N) N z))))
theorem avQ(c:bB Tryz.prog ln)(N:Nat)(a:Bs){v:V}{hp:List aJ}(h:aby N a=some (v,hp)):aH Tryz.prog 172 [.str a] v:=by have b:=atT;simp only[Ac] at b;exact⟨hp,ez c apG Tryz.func172 arX b.1 b.2 (by decide) ((atV N a).trans h)⟩
theorem aej(a:UInt8)(n:Nat)(h:n<256):(Az n=a)↔(n=a.toNat):=by
 constructor;·rintro rfl;simp;omega
 ·intro h;subst h;simp
theorem aM3(a b:UInt8)(v:Nat)(e:v<32)(d:a.toNat=192+v):
  gly (v*64+b.toNat%64)=[a,b]↔(128<=b.toNat∧b.toNat<=191∧128<=v*64+b.toNat%64):=by
 have f:=BT b;unfold gly;by_cases c:v*64+b.toNat%64<128
 ·rw[if_pos c];constructor;·intro h;simp at h
  ·omega
 ·rw[if_neg c,if_pos (by omega)];simp only[CS,and_true];rw[aej _ _ (by omega),aej _ _ (by omega)];omega
theorem aM4(a b c:UInt8)(v:Nat)(k:v<16)(i:a.toNat=224+v)(r:Nat)(j:r=(v*64+b.toNat%64)*64+c.toNat%64):
  gly r=[a,b,c]↔(128<=b.toNat∧b.toNat<=191∧128<=c.toNat∧c.toNat<=191∧2048<=r∧¬(55296<=r∧r<=57343)):=by
 have l:=BT b;have m:=BT c;unfold gly;by_cases d:r<128
 ·rw[if_pos d];constructor;·intro h;simp at h
  ·omega
 by_cases e:r<2048
 ·rw[if_neg d,if_pos e];constructor;·intro h;simp at h
  ·omega
 by_cases f:(55296<=r∧r<57344)∨1114111<r
 ·rw[if_neg d,if_neg e,if_pos f];constructor;·intro h;simp only[CS,and_true] at h;obtain⟨rfl,rfl,rfl⟩:=h;simp at i j;omega
  ·omega
 ·rw[if_neg d,if_neg e,if_neg f,if_pos (by omega)];simp only[CS,and_true];rw[aej _ _ (by omega),aej _ _ (by omega),aej _ _ (by omega)];omega
theorem aM5(a b c d:UInt8)(v:Nat)(p:v<8)(k:a.toNat=240+v)(r:Nat)(m:r=((v*64+b.toNat%64)*64+c.toNat%64)*64+d.toNat%64):
  gly r=[a,b,c,d]↔(128<=b.toNat∧b.toNat<=191∧128<=c.toNat∧c.toNat<=191∧128<=d.toNat∧d.toNat<=191∧65536<=r∧r<=1114111):=by
 have q:=BT b;have u:=BT c;have l:=BT d;unfold gly;by_cases e:r<128
 ·rw[if_pos e];constructor;·intro h;simp at h
  ·omega
 by_cases f:r<2048
 ·rw[if_neg e,if_pos f];constructor;·intro h;simp at h
  ·omega
 by_cases i:(55296<=r∧r<57344)∨1114111<r
 ·rw[if_neg e,if_neg f,if_pos i];constructor;·intro h;simp at h
  ·omega
 by_cases j:r<65536
 ·rw[if_neg e,if_neg f,if_neg i,if_pos j];constructor;·intro h;simp at h
  ·omega
 ·rw[if_neg e,if_neg f,if_neg i,if_neg j];simp only[CS,and_true];rw[aej _ _ (by omega),aej _ _ (by omega),aej _ _ (by omega),aej _ _ (by omega)];omega
theorem arZ(n v:Nat)(s:List UInt8):(dV n v s).2 <=s.length:=by
 unfold dV;split;·simp
 ·dsimp only;split;·dsimp only;omega
  ·simp
theorem aAZ(s:List UInt8):(fU s).2 <=s.length:=by
 unfold fU;split;·simp
 ·rename_i c t;split;·simp
  ·split;·exact arZ _ _ _
   ·split;·exact arZ _ _ _
    ·split;·exact arZ _ _ _
     ·simp
theorem ab7:∀(k:Nat)(s:List UInt8),s.length<=k->aeI k s=aeI s.length s
 |k,[],h=>by cases k<;>rfl
 |0,_::_,h=>by simp at h
 |k+1,c::s,h=>by
  have d:s.length+1<=k+1:=h;show (if (fU (c::s)).2 =0 then false else aeI k ((c::s).drop (fU (c::s)).2))=(if (fU (c::s)).2 =0 then false else aeI s.length ((c::s).drop (fU (c::s)).2))
  split;·rfl
  ·rename_i hp;have b:((c::s).drop (fU (c::s)).2).length<=s.length:=by simp;omega
   rw[ab7 k _ (by omega)];by_cases a:s.length=k;·rw[a];exact(ab7 k _ (by omega)).symm
   ·exact(ab7 s.length _ b).symm
termination_by k=>k
decreasing_by all_goals (try simp_wf);all_goals omega
theorem aqS(c:UInt8)(s:List UInt8):lw (c::s)=if (fU (c::s)).2 =0 then false else lw ((c::s).drop (fU (c::s)).2):=by
 show (if (fU (c::s)).2 =0 then false else aeI s.length ((c::s).drop (fU (c::s)).2))=_;split;·rfl
 ·exact ab7 _ _ (by simp;omega)
theorem ar0(N:Nat)(r k:Int)(e:0<=r∧r<=4294967295)(f:0<=k∧k<=32):wM N r k=some (.int .u8 (nR r k),[]):=by
 obtain⟨p,rfl⟩:∃p:Nat,r=(p:Int):=⟨r.toNat,by omega⟩
 obtain⟨j,rfl⟩:∃j:Nat,k=(j:Int):=⟨k.toNat,by omega⟩
 have d:=qp .u32 p j (by show j<=32;omega);have a:p / 2^j<=p:=Nat.div_le_self _ _;simp only[wM,akK,nR,AC,d];generalize p / 2^j=q at a;have c:bC .and .u32 (q:Int) 63=((q%64:Nat):Int):=aJ9 6 (by omega) _ (by omega);have b:bC .or .u32 128 ((q%64:Nat):Int)=128+((q%64:Nat):Int):=anb 6 128 _ (by omega) (by decide) (by omega) (by omega);simp(disch:=omega) only[aX,c,b];rfl
theorem agl(N:Nat)(r:Int)(u:0<=r∧r<=4294967295)(l:(r<65536∧(r<55296∨57344<=r))∨0<N):zd N r=some (.str (aeH r),[]):=by
 obtain⟨p,rfl⟩:∃p:Nat,r=(p:Int):=⟨r.toNat,by omega⟩
 have k:ey .u32 (p:Int) 6=((p / 64:Nat):Int):=qp .u32 p 6 (by decide);have b:ey .u32 (p:Int) 12=((p / 4096:Nat):Int):=qp .u32 p 12 (by decide);have a:ey .u32 (p:Int) 18=((p / 262144:Nat):Int):=qp .u32 p 18 (by decide);have i:nR (p:Int) 0=((128+p%64:Nat):Int):=by simp[nR]
 have f:nR (p:Int) 6=((128+p / 64%64:Nat):Int):=by simp[nR]
 have c:nR (p:Int) 12=((128+p / 4096%64:Nat):Int):=by simp[nR]
 simp only[zd,anf,aeH,AC,gly,k,b,a,i,f,c];by_cases w:p<128;·simp(disch:=omega) only[aX,]
 by_cases q:p<2048;·have e:bC .or .u32 192 ((p / 64:Nat):Int)=((192+p / 64:Nat):Int):=(anb 6 192 _ (by omega) (by decide) (by omega) (by omega)).trans (by omega);simp(disch:=omega) only[aX,e]
 have d:∀v:1114111<p∨(55296<=p∧p<57344),0<N:=by omega
 by_cases j:1114111<p;·have:=d (.inl j);simp(disch:=omega) only[aX,];rfl
 by_cases h:55296<=p∧p<57344;·have:=d (.inr h);simp(disch:=omega) only[aX,];rfl
 by_cases x:p<65536;·have e:bC .or .u32 224 ((p / 4096:Nat):Int)=((224+p / 4096:Nat):Int):=(anb 5 224 _ (by omega) (by decide) (by omega) (by omega)).trans (by omega);by_cases m:55296<=p<;>simp(disch:=omega) only[aX,e]
 ·have e:bC .or .u32 240 ((p / 262144:Nat):Int)=((240+p / 262144:Nat):Int):=(anb 4 240 _ (by omega) (by decide) (by omega) (by omega)).trans (by omega);simp(disch:=omega) only[aX,e]
theorem atW(k:Nat)(b:k<=8)(a:Nat)(c:a<256):bC .and .u8 (a:Int) ((2^k-1:Nat):Int)=((a%2^k:Nat):Int):=by have d:2^k<=2^8:=CG (by omega) b;have e:1<=2^k:=Nat.one_le_two_pow;rw[aAg .u8 rfl a (2^k-1) c (by show 2^k-1<2^8;omega),DE]
theorem aLP(v c:Nat)(a:v<2^26)(b:c<64):bC .or .u32 (iu .u32 (v:Int) 6) (c:Int)=((v*64+c:Nat):Int):=by
 have e:iu .u32 (v:Int) 6=((v*64:Nat):Int):=by rw[show (6:Int)=((6:Nat):Int) by rfl,arx .u32 rfl v 6 (by decide)];show ((v*64%2^32:Nat):Int)=_;rw[Bn (by omega)]
 rw[e,anb 6 ((v*64:Nat):Int) c (by omega) (by omega) (by omega) (by omega)];omega
theorem sh(N:Nat)(rec:(List UInt8×Int×Int×Int)->Option (V×List aJ))(s:List UInt8)(v n i:Nat)(b:v<2^26)(h:i<n)(f:n<=s.length)(e:n<=4):
  eF N rec (s,(v:Int),(n:Int),(i:Int))=rec (s,((v*64+(s.getD i 0).toNat%64:Nat):Int),(n:Int),((i+1:Nat):Int)):=by
 have d:(s.getD i 0).toNat<256:=BT _;have c:bC .and .u8 (((s.getD i 0).toNat:Nat):Int) 63=(((s.getD i 0).toNat%64:Nat):Int):=atW 6 (by omega) _ d;have a:=aLP v ((s.getD i 0).toNat%64) b (by omega);simp only[eF];simp(disch:=omega) only[aX,c,a];rfl
theorem anh(N:Nat)(rec:(List UInt8×Int×Int×Int)->Option (V×List aJ))(s:List UInt8)(v n:Nat)(a:n<=s.length):
  eF N rec (s,(v:Int),(n:Int),(n:Int))=if gly v=s.take n then some (.tup [.int .u32 v,.int .i64 n],[]) else some (.tup [.int .u32 0,.int .i64 0],[]):=by
 simp only[eF,aeH];by_cases h:gly v=s.take n;·simp(disch:=omega) only[aX,h,decide_true]
 ·simp(disch:=omega) only[aX,h,decide_false]
theorem lP{α R:Type}(n:Nat)(B:(α->Option R)->α->Option R)(x:α):aN (n+1) B x=B (aN n B) x:=rfl
theorem aKa(M:Nat)(a b:UInt8)(t:List UInt8)(v:Nat)(c:v<32):
  aN (M+5) (eF (M+5)) (a::b::t,(v:Int),((2:Nat):Int),((1:Nat):Int))=some (.tup [.int .u32 (dV 2 v (a::b::t)).1,.int .i64 (dV 2 v (a::b::t)).2],[]):=by
 rw[lP,sh _ _ _ _ 2 1 (by omega) (by omega) (by simp) (by omega),lP,anh _ _ _ _ 2 (by simp)];simp only[dV,Cq,BH];rw[if_neg (show ¬(a::b::t).length<2 by simp)];simp only[Cp,C4,CX,Bf,Cc];by_cases h:gly (v*64+b.toNat%64)=[a,b]
 ·simp only[h,if_true]
 ·simp only[h,if_false];rfl
theorem aKb(M:Nat)(a b c:UInt8)(t:List UInt8)(v:Nat)(d:v<32):
  aN (M+5) (eF (M+5)) (a::b::c::t,(v:Int),((3:Nat):Int),((1:Nat):Int))=some (.tup [.int .u32 (dV 3 v (a::b::c::t)).1,.int .i64 (dV 3 v (a::b::c::t)).2],[]):=by
 rw[lP,sh _ _ _ _ 3 1 (by omega) (by omega) (by simp) (by omega),lP,sh _ _ _ _ 3 2 (by omega) (by omega) (by simp) (by omega),lP,anh _ _ _ _ 3 (by simp)];simp only[dV,Cq,BH];rw[if_neg (show ¬(a::b::c::t).length<3 by simp)];simp only[Cp,C4,CX,Bf,Cc];by_cases h:gly ((v*64+b.toNat%64)*64+c.toNat%64)=[a,b,c]
 ·simp only[h,if_true]
 ·simp only[h,if_false];rfl
theorem aKc(M:Nat)(a b c d:UInt8)(t:List UInt8)(v:Nat)(e:v<32):
  aN (M+5) (eF (M+5)) (a::b::c::d::t,(v:Int),((4:Nat):Int),((1:Nat):Int))=some (.tup [.int .u32 (dV 4 v (a::b::c::d::t)).1,.int .i64 (dV 4 v (a::b::c::d::t)).2],[]):=by
 rw[lP,sh _ _ _ _ 4 1 (by omega) (by omega) (by simp) (by omega),lP,sh _ _ _ _ 4 2 (by omega) (by omega) (by simp) (by omega),lP,sh _ _ _ _ 4 3 (by omega) (by omega) (by simp) (by omega),lP,anh _ _ _ _ 4 (by simp)];simp only[dV,Cq,BH];rw[if_neg (show ¬(a::b::c::d::t).length<4 by simp)];simp only[Cp,C4,CX,Bf,Cc];by_cases h:gly (((v*64+b.toNat%64)*64+c.toNat%64)*64+d.toNat%64)=[a,b,c,d]
 ·simp only[h,if_true]
 ·simp only[h,if_false];rfl
theorem apH(M:Nat)(s:List UInt8)(p:s≠[])(a:s.length<=9223372036854775807):
  uL (M+5) s=some (.tup [.int .u32 (fy s).1,.int .i64 (fy s).2],[]):=by
 obtain⟨c,t,rfl⟩:=List.exists_cons_of_ne_nil p;have i:c.toNat<256:=BT _;have r:ey .u8 (c.toNat:Int) 5=((c.toNat / 32:Nat):Int):=qp .u8 c.toNat 5 (by decide);have k:ey .u8 (c.toNat:Int) 4=((c.toNat / 16:Nat):Int):=qp .u8 c.toNat 4 (by decide);have l:ey .u8 (c.toNat:Int) 3=((c.toNat / 8:Nat):Int):=qp .u8 c.toNat 3 (by decide);have f:bC .and .u8 (c.toNat:Int) 31=((c.toNat%32:Nat):Int):=atW 5 (by omega) _ i;have h:bC .and .u8 (c.toNat:Int) 15=((c.toNat%16:Nat):Int):=atW 4 (by omega) _ i;have u:bC .and .u8 (c.toNat:Int) 7=((c.toNat%8:Nat):Int):=atW 3 (by omega) _ i;rw[Af] at a;simp only[uL,pJ,fy,fU,Af,DM,BH,r,k,l,f,h,u];by_cases v:c.toNat<128;·simp(disch:=omega) only[aX,];rfl
 by_cases m:c.toNat / 32=6
 ·match t with
  | []=>simp(disch:=omega) only[aX,dV,Af,Ak];rfl
  |b::t=>rw[Af] at a;simp(disch:=omega) only[aX,m,Af];exact aKa M c b t _ (by omega)
 by_cases q:c.toNat / 16=14
 ·match t with
  | []=>simp(disch:=omega) only[aX,dV,Af,Ak];rfl
  | [b]=>simp(disch:=omega) only[aX,dV,Af,Ak];rfl
  |b::d::t=>rw[Af,Af] at a;simp(disch:=omega) only[aX,q,Af];exact aKb M c b d t _ (by omega)
 by_cases j:c.toNat / 8=30
 ·match t with
  | []=>simp(disch:=omega) only[aX,dV,Af,Ak];rfl
  | [b]=>simp(disch:=omega) only[aX,dV,Af,Ak];rfl
  | [b,d]=>simp(disch:=omega) only[aX,dV,Af,Ak];rfl
  |b::d::e::t=>rw[Af,Af,Af] at a;simp(disch:=omega) only[aX,j,Af];exact aKc M c b d e t _ (by omega)
 ·simp(disch:=omega) only[aX,];rfl
theorem apI(N:Nat)(s:List UInt8)(i:s.length<=9223372036854775807)(h:s.length<N):aby N s=some (.bool (lw s),[]):=by
 show aN N (nV N) s=_;refine nO (λx:List UInt8=>x.length<=9223372036854775807) (λx=>x.length) (λx=>(V.bool (lw x),([]:List aJ))) ?_ N s i h;rintro rec x k a;match x with
 | []=>rfl
 |c::t=>
  have d:=aAZ (c::t);have l:(fy (c::t)).2 =((fU (c::t)).2 :Int):=rfl;have b:decide (c::t=[])=false:=by simp
  have f:(c::t).length=t.length+1:=rfl;have j:(c::t).length<=9223372036854775807:=k;simp only[nV,aqS];generalize (fy (c::t)).2 =p at l;by_cases hp:(fU (c::t)).2 =0;·rw[if_pos hp];simp(disch:=omega) only[aX,b]
  ·rw[if_neg hp];have e:p.toNat=(fU (c::t)).2 :=by omega
   simp(disch:=omega) only[aX,b,e];exact a ((c::t).drop (fU (c::t)).2) (by simp only[AT];omega) (by simp only[AT];omega)
theorem agm(b a:Int)(d:(decide (0<=(a:Int))&&decide ((a:Int)<=32))=true):aH Tryz.prog 241 [.int .u32 b,.int .i64 a] (.int .u8 (nR b a)):=by
 refine aH.fits λe=>?_
 have r0:=aAh (e (.int .u32 b) (by simp));have c:0<=a∧a<=32:=by simpa using d
 exact ayl atN 1000 b a (ar0 1000 b a r0 c)
theorem als:aH Tryz.prog 226 [.int .u32 65533] (.str (aeH 65533)):=
 ang 0 (ahD 0 (by intro a h;simp at h) agm) 65533 (agl 0 65533 (by omega) (.inl (by omega)))
theorem avR(a:Int):aH Tryz.prog 226 [.int .u32 a] (.str (aeH a)):=by
 refine aH.fits λd=>?_
 have r0:=aAh (d (.int .u32 a) (by simp));refine ang 1 (ahD 1 (λb h=>?_) agm) a (agl 1 a r0 (.inr (by omega)));have c:b=65533:=by simpa using h
 subst c;exact als
theorem ar1(a:List UInt8)(d:(!decide (a=[]))=true):aH Tryz.prog 202 [.str a] (.tup [.int .u32 ((fy a).1),.int .i64 ((fy a).2)]):=by
 refine aH.fits λc=>?_
 have r0:=qq (c (.str a) (by simp));have b:a≠[]:=by simpa using d
 exact avP (arT avR) 1000 a (apH 995 a b r0)
theorem ar2(a:List UInt8):aH Tryz.prog 172 [.str a] (.bool (lw a)):=by
 refine aH.fits λb=>?_
 have r0:=qq (b (.str a) (by simp));exact avQ (arW ar1) (a.length+1) a (apI (a.length+1) a r0 (by omega))
abbrev ani:=List bi×Int
def ae1(a:Bs)(r:ani):Prop:=aH Tryz.prog 19 [vT a] (.tup [vF .record r.1,vI r.2])∧atf a r
def aA0:bA Tryz.prog:=.mk 19 λ
 | [.str a]=>pk (ae1 a) λr=>.tup [vF .record r.1,vI r.2]
 |_=>none
def aek(a:bi)(r:Bs):Prop:=aH Tryz.prog 20 [.agg (enc .record a)] (vT r)∧axN a r
def atX:bA Tryz.prog:=.mk 20 λ
 | [.agg [.int .i64 a,.int .i64 b,.int .u64 c,.str d,.str e]]=>pk (aek (⟨a,b,c,d,e⟩)) λr=>.str r
 |_=>none
abbrev ahE:=PMs×Bool
def pK(a:List PMs)(b:List PEn)(c:Bs)(r:ahE):Prop:=aH Tryz.prog 41 [.agg [vF .pms a,vF .pen b],vT c] (.tup [.agg (enc .pms r.1),vB r.2])∧adG a b c r
def avS:bA Tryz.prog:=.mk 41 λ
 | [.agg [.sl .pms (.may _) a,.sl .pen (.may _) b],.str c]=>pk (pK a b c) λr=>.tup [.agg (enc .pms r.1),vB r.2]
 |_=>none
abbrev aA1:=PFl×Bool
def v7(a r:Int):Prop:=aH Tryz.prog 53 [vI a] (vI r)∧abm a r
def aDk:bA Tryz.prog:=.mk 53 λ
 | [.int .i64 a]=>pk (v7 a) λr=>vI r
 |_=>none
def tU(a:Bs)(r:Bool):Prop:=aH Tryz.prog 74 [vT a] (vB r)∧yJ a r
def aA2:bA Tryz.prog:=.mk 74 λ
 | [.str a]=>pk (tU a) λr=>.bool r
 |_=>none
abbrev aDl:=List ca×Int×Bs×Int
def ab8(a:List et)(r:aDl):Prop:=aH Tryz.prog 76 [vF .src a] (.tup [vF .fil r.1,vI r.2.1,vT r.2.2.1,vI r.2.2.2])∧abp a r
def aDm:bA Tryz.prog:=.mk 76 λ
 | [.sl .src (.may _) a]=>pk (ab8 a) λr=>.tup [vF .fil r.1,vI r.2.1,vT r.2.2.1,vI r.2.2.2]
 |_=>none
abbrev ayq:=List PMs×List PEn×Int×Bs
def wN(a:List ca)(r:ayq):Prop:=aH Tryz.prog 77 [vF .fil a] (.tup [.agg [vF .pms r.1,vF .pen r.2.1],vI r.2.2.1,vT r.2.2.2])∧xv a r
def ayr:bA Tryz.prog:=.mk 77 λ
 | [.sl .fil (.may _) a]=>pk (wN a) λr=>.tup [.agg [vF .pms r.1,vF .pen r.2.1],vI r.2.2.1,vT r.2.2.2]
 |_=>none
def ag4(a:Bs)(r:ani):Prop:=aH Tryz.prog 102 [vT a] (.tup [vF .record r.1,vI r.2])∧avd a r
def aDn:bA Tryz.prog:=.mk 102 λ
 | [.str a]=>pk (ag4 a) λr=>.tup [vF .record r.1,vI r.2]
 |_=>none
abbrev aA3:=Int×Int
def zg(a:Bs)(r:aA3):Prop:=aH Tryz.prog 125 [vT a] (.tup [.int .u32 r.1,vI r.2])∧aga a r
def aA4:bA Tryz.prog:=.mk 125 λ
 | [.str a]=>pk (zg a) λr=>.tup [.int .u32 r.1,vI r.2]
 |_=>none
abbrev acn:=List et×List ca×Int×Bs×Int
def kp(a:List et)(b:List ca)(c:Int)(d:Bs)(e:Int)(f:Bs)(g:Bss)(r:acn):Prop:=bq Tryz.prog 126 [.ptr 0 0,vT f,vF .str g] [[vF .src a,vO .fil b,vI c,vT d,vI e]] (.tup []) [[vF .src r.1,vO .fil r.2.1,vI r.2.2.1,vT r.2.2.2.1,vI r.2.2.2.2]]∧pH a b c d e f g r
def aco:de Tryz.prog:=.mk 126 λ
 | [.ptr 0 0,.str f,.sl .str (.may _) g],[[.sl .src (.may false) a,.sl .fil .own b,.int .i64 c,.str d,.int .i64 e]]=>pk (kp a b c d e f g) λr=>(.tup [],[[vF .src r.1,vO .fil r.2.1,vI r.2.2.1,vT r.2.2.2.1,vI r.2.2.2.2]])
 |_,_=>none
abbrev atY:=List PNm
def uN(a:List ca)(r:atY):Prop:=aH Tryz.prog 127 [vF .fil a] (vF .nms r)∧akx a r
def atZ:bA Tryz.prog:=.mk 127 λ
 | [.sl .fil (.may _) a]=>pk (uN a) λr=>vF .nms r
 |_=>none
def ab9(a:PEn)(r:Int):Prop:=aH Tryz.prog 128 [.agg (enc .pen a)] (vI r)
def aDo:bA Tryz.prog:=.mk 128 λ
 | [.agg [.str a,.sl .pvl (.may _) b]]=>pk (ab9 (⟨a,b⟩)) λr=>vI r
 |_=>none
abbrev avT:=List PEn
def uO(a:List PEn)(b:PEn)(r:avT):Prop:=aH Tryz.prog 129 [vF .pen a,.agg (enc .pen b)] (vF .pen r)∧adF a b r
def avU:bA Tryz.prog:=.mk 129 λ
 | [.sl .pen (.may _) c,.agg [.str a,.sl .pvl (.may _) b]]=>pk (uO c (⟨a,b⟩)) λr=>vF .pen r
 |_=>none
abbrev avV:=PMs×Int
def uP(a:List ca)(b:PNm)(r:avV):Prop:=aH Tryz.prog 130 [vF .fil a,.agg (enc .nms b)] (.tup [.agg (enc .pms r.1),vI r.2])∧vy a b r
def avW:bA Tryz.prog:=.mk 130 λ
 | [.sl .fil (.may _) m,.agg [.str c,.int .i64 d,.str e,.sl .ffld (.may _) f,.sl .str (.may _) g,.sl .fmsg (.may _) h,.sl .pen (.may _) i,.sl .u2 (.may _) j,.sl .str (.may _) k,.str l,.sl .pvl (.may _) a,.str b]]=>pk (uP m (⟨c,d,.mk e f g h i j k,⟨l,a⟩,b⟩)) λr=>.tup [.agg (enc .pms r.1),vI r.2]
 |_=>none
abbrev apJ:=List PMs
def pl(a:List PMs)(b:PMs)(r:apJ):Prop:=aH Tryz.prog 131 [vF .pms a,.agg (enc .pms b)] (vF .pms r)∧yR a b r
def apK:bA Tryz.prog:=.mk 131 λ
 | [.sl .pms (.may _) d,.agg [.str a,.sl .pfl (.may _) b,.sl .str (.may _) c]]=>pk (pl d (⟨a,b,c⟩)) λr=>vF .pms r
 |_=>none
def fL(a:Int)(r:Bs):Prop:=aH Tryz.prog 134 [vI a] (vT r)∧ahw a r
def aqT:bA Tryz.prog:=.mk 134 λ
 | [.int .i64 a]=>pk (fL a) λr=>.str r
 |_=>none
def aca(a b r:Int):Prop:=aH Tryz.prog 137 [vI a,vU b] (vU r)∧abn a b r
def aDp:bA Tryz.prog:=.mk 137 λ
 | [.int .i64 a,.int .u64 b]=>pk (aca a b) λr=>vU r
 |_=>none
def qi(a:bi)(r:Bs):Prop:=aH Tryz.prog 148 [.agg (enc .record a)] (vT r)∧aAt a r
def axs:bA Tryz.prog:=.mk 148 λ
 | [.agg [.int .i64 a,.int .i64 b,.int .u64 c,.str d,.str e]]=>pk (qi (⟨a,b,c,d,e⟩)) λr=>.str r
 |_=>none
def lp(a r:Int):Prop:=aH Tryz.prog 153 [vU a] (vU r)∧qt a r
def ays:bA Tryz.prog:=.mk 153 λ
 | [.int .u64 a]=>pk (lp a) λr=>vU r
 |_=>none
def v8(a r:Int):Prop:=aH Tryz.prog 158 [vI a] (vI r)∧ave a r
def ag5:bA Tryz.prog:=.mk 158 λ
 | [.int .i64 a]=>pk (v8 a) λr=>vI r
 |_=>none
def anj(a b r:Int):Prop:=aH Tryz.prog 160 [vI a,vU b] (vU r)∧aAu a b r
def aGX:bA Tryz.prog:=.mk 160 λ
 | [.int .i64 a,.int .u64 b]=>pk (anj a b) λr=>vU r
 |_=>none
def adj(a:Bs)(r:Bool):Prop:=aH Tryz.prog 172 [vT a] (vB r)∧arE a r
def ayt:bA Tryz.prog:=.mk 172 λ
 | [.str a]=>pk (adj a) λr=>.bool r
 |_=>none
abbrev ajo:=Bs×Bool×List et×List ca×Int×Bs×Int
def iz(a:List et)(b:List ca)(c:Int)(d:Bs)(e:Int)(f:Bs)(r:ajo):Prop:=bq Tryz.prog 176 [.ptr 0 0,vT f] [[vF .src a,vO .fil b,vI c,vT d,vI e]] (.tup [vT r.1,vB r.2.1]) [[vF .src r.2.2.1,vO .fil r.2.2.2.1,vI r.2.2.2.2.1,vT r.2.2.2.2.2.1,vI r.2.2.2.2.2.2]]∧ji a b c d e f r
def ajp:de Tryz.prog:=.mk 176 λ
 | [.ptr 0 0,.str f],[[.sl .src (.may false) a,.sl .fil .own b,.int .i64 c,.str d,.int .i64 e]]=>pk (iz a b c d e f) λr=>(.tup [vT r.1,vB r.2.1],[[vF .src r.2.2.1,vO .fil r.2.2.2.1,vI r.2.2.2.2.1,vT r.2.2.2.2.2.1,vI r.2.2.2.2.2.2]])
 |_,_=>none
abbrev aA5:=Bs×Bss×List aS×List PEn×Int×Int
def zh(a:Bs)(r:aA5):Prop:=aH Tryz.prog 177 [vT a] (.tup [.agg [vT r.1,vF .str r.2.1,vF .fmsg r.2.2.1,vF .pen r.2.2.2.1],vI r.2.2.2.2.1,vI r.2.2.2.2.2])∧yP a r
def aA6:bA Tryz.prog:=.mk 177 λ
 | [.str a]=>pk (zh a) λr=>.tup [.agg [vT r.1,vF .str r.2.1,vF .fmsg r.2.2.1,vF .pen r.2.2.2.1],vI r.2.2.2.2.1,vI r.2.2.2.2.2]
 |_=>none
def gI(a:List et)(b:List ca)(c:Int)(d:Bs)(e f:Int)(g:Bs)(h:Int)(r:acn):Prop:=bq Tryz.prog 178 [.ptr 0 0,vI f,vT g,vI h] [[vF .src a,vO .fil b,vI c,vT d,vI e]] (.tup []) [[vF .src r.1,vO .fil r.2.1,vI r.2.2.1,vT r.2.2.2.1,vI r.2.2.2.2]]∧xT a b c d e f g h r
def ank:de Tryz.prog:=.mk 178 λ
 | [.ptr 0 0,.int .i64 f,.str g,.int .i64 h],[[.sl .src (.may false) a,.sl .fil .own b,.int .i64 c,.str d,.int .i64 e]]=>pk (gI a b c d e f g h) λr=>(.tup [],[[vF .src r.1,vO .fil r.2.1,vI r.2.2.1,vT r.2.2.2.1,vI r.2.2.2.2]])
 |_,_=>none
def eM(a:Bss)(b:Bs)(r:Bool):Prop:=aH Tryz.prog 179 [vF .str a,vT b] (vB r)∧akw a b r
def ael:bA Tryz.prog:=.mk 179 λ
 | [.sl .str (.may _) a,.str b]=>pk (eM a b) λr=>.bool r
 |_=>none
def rA(a:List aS)(b:List PEn)(c d:Bs)(r:atY):Prop:=aH Tryz.prog 180 [vF .fmsg a,vF .pen b,vT c,vT d] (vF .nms r)∧xu a b c d r
def akN:bA Tryz.prog:=.mk 180 λ
 | [.sl .fmsg (.may _) a,.sl .pen (.may _) b,.str c,.str d]=>pk (rA a b c d) λr=>vF .nms r
 |_=>none
def aem(a:aS)(b:bI)(r:Bool):Prop:=aH Tryz.prog 181 [.agg (enc .fmsg a),.agg (enc .ffld b)] (vB r)∧aky a b r
def aFu:bA Tryz.prog:=.mk 181 λ
 | [.agg [.str a,.sl .ffld (.may _) b,.sl .str (.may _) c,.sl .fmsg (.may _) d,.sl .pen (.may _) e,.sl .u2 (.may _) f,.sl .str (.may _) g],.agg [.int .i64 h,.str i,.str j,.str k,.int .u64 l,.int .i64 m,.int .i64 n]]=>pk (aem (.mk a b c d e f g) (⟨h,i,j,k,l,m,n⟩)) λr=>.bool r
 |_=>none
def oS(a:Bs)(r:Int):Prop:=aH Tryz.prog 182 [vT a] (vI r)∧ahx a r
def aqU:bA Tryz.prog:=.mk 182 λ
 | [.str a]=>pk (oS a) λr=>vI r
 |_=>none
abbrev aDq:=Bs×Int×Int
def acb(a:List ca)(b c d:Bs)(r:aDq):Prop:=aH Tryz.prog 183 [vF .fil a,vT b,vT c,vT d] (.tup [vT r.1,vI r.2.1,vI r.2.2])∧abo a b c d r
def aDr:bA Tryz.prog:=.mk 183 λ
 | [.sl .fil (.may _) a,.str b,.str c,.str d]=>pk (acb a b c d) λr=>.tup [vT r.1,vI r.2.1,vI r.2.2]
 |_=>none
def tV(a:Int)(r:Bs):Prop:=aH Tryz.prog 184 [vU a] (vT r)∧agb a r
def aA7:bA Tryz.prog:=.mk 184 λ
 | [.int .u64 a]=>pk (tV a) λr=>.str r
 |_=>none
def zi(a r:Int):Prop:=aH Tryz.prog 185 [vU a] (vU r)∧wE a r
def aFv:bA Tryz.prog:=.mk 185 λ
 | [.int .u64 a]=>pk (zi a) λr=>vU r
 |_=>none
def ag6(a b:Int)(r:Bool):Prop:=aH Tryz.prog 190 [vI a,vU b] (vB r)∧avf a b r
def aDs:bA Tryz.prog:=.mk 190 λ
 | [.int .i64 a,.int .u64 b]=>pk (ag6 a b) λr=>.bool r
 |_=>none
abbrev aFw:=List Tok×Int×Int
def aen(a:Bs)(r:aFw):Prop:=aH Tryz.prog 204 [vT a] (.tup [vF .tok r.1,vI r.2.1,vI r.2.2])∧akv a r
def aFx:bA Tryz.prog:=.mk 204 λ
 | [.str a]=>pk (aen a) λr=>.tup [vF .tok r.1,vI r.2.1,vI r.2.2]
 |_=>none
abbrev nW:=Bool×List Tok×Int×Int×Int
def bM(a:List Tok)(b c d:Int)(e:Bs)(r:nW):Prop:=bq Tryz.prog 205 [.ptr 0 0,vT e] [[vF .tok a,vI b,vI c,vI d]] (vB r.1) [[vF .tok r.2.1,vI r.2.2.1,vI r.2.2.2.1,vI r.2.2.2.2]]∧gH a b c d e r
def nX:de Tryz.prog:=.mk 205 λ
 | [.ptr 0 0,.str e],[[.sl .tok (.may false) a,.int .i64 b,.int .i64 c,.int .i64 d]]=>pk (bM a b c d e) λr=>(vB r.1,[[vF .tok r.2.1,vI r.2.2.1,vI r.2.2.2.1,vI r.2.2.2.2]])
 |_,_=>none
abbrev acp:=List Tok×Int×Int×Int
def aM(a:List Tok)(b c d e:Int)(r:acp):Prop:=bq Tryz.prog 206 [.ptr 0 0,vI e] [[vF .tok a,vI b,vI c,vI d]] (.tup []) [[vF .tok r.1,vI r.2.1,vI r.2.2.1,vI r.2.2.2]]∧xL a b c d e r
def cA:de Tryz.prog:=.mk 206 λ
 | [.ptr 0 0,.int .i64 e],[[.sl .tok (.may false) a,.int .i64 b,.int .i64 c,.int .i64 d]]=>pk (aM a b c d e) λr=>(.tup [],[[vF .tok r.1,vI r.2.1,vI r.2.2.1,vI r.2.2.2]])
 |_,_=>none
def aF(a:List Tok)(b c d:Int)(e:Bs)(r:acp):Prop:=bq Tryz.prog 207 [.ptr 0 0,vT e] [[vF .tok a,vI b,vI c,vI d]] (.tup []) [[vF .tok r.1,vI r.2.1,vI r.2.2.1,vI r.2.2.2]]∧xM a b c d e r
def fB:de Tryz.prog:=.mk 207 λ
 | [.ptr 0 0,.str e],[[.sl .tok (.may false) a,.int .i64 b,.int .i64 c,.int .i64 d]]=>pk (aF a b c d e) λr=>(.tup [],[[vF .tok r.1,vI r.2.1,vI r.2.2.1,vI r.2.2.2]])
 |_,_=>none
abbrev apL:=Tok×List Tok×Int×Int×Int
def aV(a:List Tok)(b c d:Int)(r:apL):Prop:=bq Tryz.prog 208 [.ptr 0 0] [[vF .tok a,vI b,vI c,vI d]] (.agg (enc .tok r.1)) [[vF .tok r.2.1,vI r.2.2.1,vI r.2.2.2.1,vI r.2.2.2.2]]∧yN a b c d r
def db:de Tryz.prog:=.mk 208 λ
 | [.ptr 0 0],[[.sl .tok (.may false) a,.int .i64 b,.int .i64 c,.int .i64 d]]=>pk (aV a b c d) λr=>(.agg (enc .tok r.1),[[vF .tok r.2.1,vI r.2.2.1,vI r.2.2.2.1,vI r.2.2.2.2]])
 |_,_=>none
abbrev tW:=Bs×List Tok×Int×Int×Int
def bz(a:List Tok)(b c d:Int)(r:tW):Prop:=bq Tryz.prog 209 [.ptr 0 0] [[vF .tok a,vI b,vI c,vI d]] (vT r.1) [[vF .tok r.2.1,vI r.2.2.1,vI r.2.2.2.1,vI r.2.2.2.2]]∧xO a b c d r
def acq:de Tryz.prog:=.mk 209 λ
 | [.ptr 0 0],[[.sl .tok (.may false) a,.int .i64 b,.int .i64 c,.int .i64 d]]=>pk (bz a b c d) λr=>(vT r.1,[[vF .tok r.2.1,vI r.2.2.1,vI r.2.2.2.1,vI r.2.2.2.2]])
 |_,_=>none
def bk(a:List Tok)(b c d:Int)(e:Bs)(r:nW):Prop:=bq Tryz.prog 210 [.ptr 0 0,vT e] [[vF .tok a,vI b,vI c,vI d]] (vB r.1) [[vF .tok r.2.1,vI r.2.2.1,vI r.2.2.2.1,vI r.2.2.2.2]]∧gF a b c d e r
def fC:de Tryz.prog:=.mk 210 λ
 | [.ptr 0 0,.str e],[[.sl .tok (.may false) a,.int .i64 b,.int .i64 c,.int .i64 d]]=>pk (bk a b c d e) λr=>(vB r.1,[[vF .tok r.2.1,vI r.2.2.1,vI r.2.2.2.1,vI r.2.2.2.2]])
 |_,_=>none
def bZ(a:List Tok)(b c d:Int)(e:Bs)(r:nW):Prop:=bq Tryz.prog 211 [.ptr 0 0,vT e] [[vF .tok a,vI b,vI c,vI d]] (vB r.1) [[vF .tok r.2.1,vI r.2.2.1,vI r.2.2.2.1,vI r.2.2.2.2]]∧gG a b c d e r
def nY:de Tryz.prog:=.mk 211 λ
 | [.ptr 0 0,.str e],[[.sl .tok (.may false) a,.int .i64 b,.int .i64 c,.int .i64 d]]=>pk (bZ a b c d e) λr=>(vB r.1,[[vF .tok r.2.1,vI r.2.2.1,vI r.2.2.2.1,vI r.2.2.2.2]])
 |_,_=>none
def cV(a:List Tok)(b c d:Int)(r:tW):Prop:=bq Tryz.prog 212 [.ptr 0 0] [[vF .tok a,vI b,vI c,vI d]] (vT r.1) [[vF .tok r.2.1,vI r.2.2.1,vI r.2.2.2.1,vI r.2.2.2.2]]∧xN a b c d r
def tX:de Tryz.prog:=.mk 212 λ
 | [.ptr 0 0],[[.sl .tok (.may false) a,.int .i64 b,.int .i64 c,.int .i64 d]]=>pk (cV a b c d) λr=>(vT r.1,[[vF .tok r.2.1,vI r.2.2.1,vI r.2.2.2.1,vI r.2.2.2.2]])
 |_,_=>none
def bF(a:List Tok)(b c d e:Int)(r:nW):Prop:=bq Tryz.prog 213 [.ptr 0 0,vI e] [[vF .tok a,vI b,vI c,vI d]] (vB r.1) [[vF .tok r.2.1,vI r.2.2.1,vI r.2.2.2.1,vI r.2.2.2.2]]∧xP a b c d e r
def gJ:de Tryz.prog:=.mk 213 λ
 | [.ptr 0 0,.int .i64 e],[[.sl .tok (.may false) a,.int .i64 b,.int .i64 c,.int .i64 d]]=>pk (bF a b c d e) λr=>(vB r.1,[[vF .tok r.2.1,vI r.2.2.1,vI r.2.2.2.1,vI r.2.2.2.2]])
 |_,_=>none
abbrev ahF:=aS×List Tok×Int×Int×Int
def gK(a:List Tok)(b c d e:Int)(r:ahF):Prop:=bq Tryz.prog 214 [.ptr 0 0,vI e] [[vF .tok a,vI b,vI c,vI d]] (.agg (enc .fmsg r.1)) [[vF .tok r.2.1,vI r.2.2.1,vI r.2.2.2.1,vI r.2.2.2.2]]∧tP a b c d e r
def xV:de Tryz.prog:=.mk 214 λ
 | [.ptr 0 0,.int .i64 e],[[.sl .tok (.may false) a,.int .i64 b,.int .i64 c,.int .i64 d]]=>pk (gK a b c d e) λr=>(.agg (enc .fmsg r.1),[[vF .tok r.2.1,vI r.2.2.1,vI r.2.2.2.1,vI r.2.2.2.2]])
 |_,_=>none
abbrev anl:=PEn×List Tok×Int×Int×Int
def kq(a:List Tok)(b c d:Int)(r:anl):Prop:=bq Tryz.prog 215 [.ptr 0 0] [[vF .tok a,vI b,vI c,vI d]] (.agg (enc .pen r.1)) [[vF .tok r.2.1,vI r.2.2.1,vI r.2.2.2.1,vI r.2.2.2.2]]∧xR a b c d r
def acr:de Tryz.prog:=.mk 215 λ
 | [.ptr 0 0],[[.sl .tok (.may false) a,.int .i64 b,.int .i64 c,.int .i64 d]]=>pk (kq a b c d) λr=>(.agg (enc .pen r.1),[[vF .tok r.2.1,vI r.2.2.1,vI r.2.2.2.1,vI r.2.2.2.2]])
 |_,_=>none
def oT(a b r:Bs):Prop:=aH Tryz.prog 216 [vT a,vT b] (vT r)∧ahy a b r
def aqV:bA Tryz.prog:=.mk 216 λ
 | [.str a,.str b]=>pk (oT a b) λr=>.str r
 |_=>none
def lA(a b:Bs)(r:Int):Prop:=aH Tryz.prog 217 [vT a,vT b] (vI r)∧qr a b r
def apM:bA Tryz.prog:=.mk 217 λ
 | [.str a,.str b]=>pk (lA a b) λr=>vI r
 |_=>none
abbrev anm:=Bs×Int×Int×Int
def nZ(a:Bs)(b c d:Int)(r:anm):Prop:=bq Tryz.prog 227 [.ptr 0 0] [[vT a,vI b,vI c,vI d]] (.tup []) [[vT r.1,vI r.2.1,vI r.2.2.1,vI r.2.2.2]]∧xK a b c d r
def ann:de Tryz.prog:=.mk 227 λ
 | [.ptr 0 0],[[.str a,.int .i64 b,.int .i64 c,.int .i64 d]]=>pk (nZ a b c d) λr=>(.tup [],[[vT r.1,vI r.2.1,vI r.2.2.1,vI r.2.2.2]])
 |_,_=>none
abbrev pm:=Tok×Bs×Int×Int×Int
def lB(a:Bs)(b c d:Int)(r:pm):Prop:=bq Tryz.prog 228 [.ptr 0 0] [[vT a,vI b,vI c,vI d]] (.agg (enc .tok r.1)) [[vT r.2.1,vI r.2.2.1,vI r.2.2.2.1,vI r.2.2.2.2]]∧qu a b c d r
def apN:de Tryz.prog:=.mk 228 λ
 | [.ptr 0 0],[[.str a,.int .i64 b,.int .i64 c,.int .i64 d]]=>pk (lB a b c d) λr=>(.agg (enc .tok r.1),[[vT r.2.1,vI r.2.2.1,vI r.2.2.2.1,vI r.2.2.2.2]])
 |_,_=>none
def cZ(a:List Tok)(b c d:Int)(r:tW):Prop:=bq Tryz.prog 229 [.ptr 0 0] [[vF .tok a,vI b,vI c,vI d]] (vT r.1) [[vF .tok r.2.1,vI r.2.2.1,vI r.2.2.2.1,vI r.2.2.2.2]]∧vR a b c d r
def jo:de Tryz.prog:=.mk 229 λ
 | [.ptr 0 0],[[.sl .tok (.may false) a,.int .i64 b,.int .i64 c,.int .i64 d]]=>pk (cZ a b c d) λr=>(vT r.1,[[vF .tok r.2.1,vI r.2.2.1,vI r.2.2.2.1,vI r.2.2.2.2]])
 |_,_=>none
abbrev jp:=List Tok×Int×Int×Int×Bs×List bI×Bss×List aS×List PEn×List (Int×Int)×Bss
def ni(a:List Tok)(b c d:Int)(e:Bs)(f:List bI)(g:Bss)(h:List aS)(i:List PEn)(j:List (Int×Int))(k:Bss)(r:jp):Prop:=bq Tryz.prog 230 [.ptr 0 0,.ptr 1 0] [[vF .tok a,vI b,vI c,vI d],[vT e,vO .ffld f,vO .str g,.ul .fmsg h,vO .pen i,vO .u2 j,vO .str k]] (.tup []) [[vF .tok r.1,vI r.2.1,vI r.2.2.1,vI r.2.2.2.1],[vT r.2.2.2.2.1,vO .ffld r.2.2.2.2.2.1,vO .str r.2.2.2.2.2.2.1,.ul .fmsg r.2.2.2.2.2.2.2.1,vO .pen r.2.2.2.2.2.2.2.2.1,vO .u2 r.2.2.2.2.2.2.2.2.2.1,vO .str r.2.2.2.2.2.2.2.2.2.2]]∧vW a b c d e f g h i j k r
def alt:de Tryz.prog:=.mk 230 λ
 | [.ptr 0 0,.ptr 1 0],[[.sl .tok (.may false) a,.int .i64 b,.int .i64 c,.int .i64 d],[.str e,.sl .ffld .own f,.sl .str .own g,.ul .fmsg h,.sl .pen .own i,.sl .u2 .own j,.sl .str .own k]]=>pk (ni a b c d e f g h i j k) λr=>(.tup [],[[vF .tok r.1,vI r.2.1,vI r.2.2.1,vI r.2.2.2.1],[vT r.2.2.2.2.1,vO .ffld r.2.2.2.2.2.1,vO .str r.2.2.2.2.2.2.1,.ul .fmsg r.2.2.2.2.2.2.2.1,vO .pen r.2.2.2.2.2.2.2.2.1,vO .u2 r.2.2.2.2.2.2.2.2.2.1,vO .str r.2.2.2.2.2.2.2.2.2.2]])
 |_,_=>none
def j4(a:List Tok)(b c d:Int)(e:Bs)(f:List bI)(g:Bss)(h:List aS)(i:List PEn)(j:List (Int×Int))(k:Bss)(r:jp):Prop:=bq Tryz.prog 231 [.ptr 0 0,.ptr 1 0] [[vF .tok a,vI b,vI c,vI d],[vT e,vO .ffld f,vO .str g,.ul .fmsg h,vO .pen i,vO .u2 j,vO .str k]] (.tup []) [[vF .tok r.1,vI r.2.1,vI r.2.2.1,vI r.2.2.2.1],[vT r.2.2.2.2.1,vO .ffld r.2.2.2.2.2.1,vO .str r.2.2.2.2.2.2.1,.ul .fmsg r.2.2.2.2.2.2.2.1,vO .pen r.2.2.2.2.2.2.2.2.1,vO .u2 r.2.2.2.2.2.2.2.2.2.1,vO .str r.2.2.2.2.2.2.2.2.2.2]]∧sO a b c d e f g h i j k r
def ag7:de Tryz.prog:=.mk 231 λ
 | [.ptr 0 0,.ptr 1 0],[[.sl .tok (.may false) a,.int .i64 b,.int .i64 c,.int .i64 d],[.str e,.sl .ffld .own f,.sl .str .own g,.ul .fmsg h,.sl .pen .own i,.sl .u2 .own j,.sl .str .own k]]=>pk (j4 a b c d e f g h i j k) λr=>(.tup [],[[vF .tok r.1,vI r.2.1,vI r.2.2.1,vI r.2.2.2.1],[vT r.2.2.2.2.1,vO .ffld r.2.2.2.2.2.1,vO .str r.2.2.2.2.2.2.1,.ul .fmsg r.2.2.2.2.2.2.2.1,vO .pen r.2.2.2.2.2.2.2.2.1,vO .u2 r.2.2.2.2.2.2.2.2.2.1,vO .str r.2.2.2.2.2.2.2.2.2.2]])
 |_,_=>none
def f8(a:List Tok)(b c d:Int)(e:Bs)(f:List bI)(g:Bss)(h:List aS)(i:List PEn)(j:List (Int×Int))(k:Bss)(r:jp):Prop:=bq Tryz.prog 232 [.ptr 0 0,.ptr 1 0] [[vF .tok a,vI b,vI c,vI d],[vT e,vO .ffld f,vO .str g,.ul .fmsg h,vO .pen i,vO .u2 j,vO .str k]] (.tup []) [[vF .tok r.1,vI r.2.1,vI r.2.2.1,vI r.2.2.2.1],[vT r.2.2.2.2.1,vO .ffld r.2.2.2.2.2.1,vO .str r.2.2.2.2.2.2.1,.ul .fmsg r.2.2.2.2.2.2.2.1,vO .pen r.2.2.2.2.2.2.2.2.1,vO .u2 r.2.2.2.2.2.2.2.2.2.1,vO .str r.2.2.2.2.2.2.2.2.2.2]]∧oN a b c d e f g h i j k r
def aat:de Tryz.prog:=.mk 232 λ
 | [.ptr 0 0,.ptr 1 0],[[.sl .tok (.may false) a,.int .i64 b,.int .i64 c,.int .i64 d],[.str e,.sl .ffld .own f,.sl .str .own g,.ul .fmsg h,.sl .pen .own i,.sl .u2 .own j,.sl .str .own k]]=>pk (f8 a b c d e f g h i j k) λr=>(.tup [],[[vF .tok r.1,vI r.2.1,vI r.2.2.1,vI r.2.2.2.1],[vT r.2.2.2.2.1,vO .ffld r.2.2.2.2.2.1,vO .str r.2.2.2.2.2.2.1,.ul .fmsg r.2.2.2.2.2.2.2.1,vO .pen r.2.2.2.2.2.2.2.2.1,vO .u2 r.2.2.2.2.2.2.2.2.2.1,vO .str r.2.2.2.2.2.2.2.2.2.2]])
 |_,_=>none
def nj(a:List Tok)(b c d:Int)(e:Bs)(f:List bI)(g:Bss)(h:List aS)(i:List PEn)(j:List (Int×Int))(k:Bss)(r:jp):Prop:=bq Tryz.prog 233 [.ptr 0 0,.ptr 1 0] [[vF .tok a,vI b,vI c,vI d],[vT e,vO .ffld f,vO .str g,.ul .fmsg h,vO .pen i,vO .u2 j,vO .str k]] (.tup []) [[vF .tok r.1,vI r.2.1,vI r.2.2.1,vI r.2.2.2.1],[vT r.2.2.2.2.1,vO .ffld r.2.2.2.2.2.1,vO .str r.2.2.2.2.2.2.1,.ul .fmsg r.2.2.2.2.2.2.2.1,vO .pen r.2.2.2.2.2.2.2.2.1,vO .u2 r.2.2.2.2.2.2.2.2.2.1,vO .str r.2.2.2.2.2.2.2.2.2.2]]∧vV a b c d e f g h i j k r
def alu:de Tryz.prog:=.mk 233 λ
 | [.ptr 0 0,.ptr 1 0],[[.sl .tok (.may false) a,.int .i64 b,.int .i64 c,.int .i64 d],[.str e,.sl .ffld .own f,.sl .str .own g,.ul .fmsg h,.sl .pen .own i,.sl .u2 .own j,.sl .str .own k]]=>pk (nj a b c d e f g h i j k) λr=>(.tup [],[[vF .tok r.1,vI r.2.1,vI r.2.2.1,vI r.2.2.2.1],[vT r.2.2.2.2.1,vO .ffld r.2.2.2.2.2.1,vO .str r.2.2.2.2.2.2.1,.ul .fmsg r.2.2.2.2.2.2.2.1,vO .pen r.2.2.2.2.2.2.2.2.1,vO .u2 r.2.2.2.2.2.2.2.2.2.1,vO .str r.2.2.2.2.2.2.2.2.2.2]])
 |_,_=>none
def pL(a:Bs)(r:Bool):Prop:=aH Tryz.prog 234 [vT a] (vB r)
def ano:bA Tryz.prog:=.mk 234 λ
 | [.str a]=>pk (pL a) λr=>.bool r
 |_=>none
abbrev apO:=Int×List Tok×Int×Int×Int
def dx(a:List Tok)(b c d:Int)(r:apO):Prop:=bq Tryz.prog 235 [.ptr 0 0] [[vF .tok a,vI b,vI c,vI d]] (vU r.1) [[vF .tok r.2.1,vI r.2.2.1,vI r.2.2.2.1,vI r.2.2.2.2]]∧yO a b c d r
def pn:de Tryz.prog:=.mk 235 λ
 | [.ptr 0 0],[[.sl .tok (.may false) a,.int .i64 b,.int .i64 c,.int .i64 d]]=>pk (dx a b c d) λr=>(vU r.1,[[vF .tok r.2.1,vI r.2.2.1,vI r.2.2.2.1,vI r.2.2.2.2]])
 |_,_=>none
abbrev alv:=Bool×Bs×Int×Int×Int
def cB(a:Bs)(b c d:Int)(e:Bs)(r:alv):Prop:=bq Tryz.prog 242 [.ptr 0 0,vT e] [[vT a,vI b,vI c,vI d]] (vB r.1) [[vT r.2.1,vI r.2.2.1,vI r.2.2.2.1,vI r.2.2.2.2]]∧jY a b c d e r
def aau:de Tryz.prog:=.mk 242 λ
 | [.ptr 0 0,.str e],[[.str a,.int .i64 b,.int .i64 c,.int .i64 d]]=>pk (cB a b c d e) λr=>(vB r.1,[[vT r.2.1,vI r.2.2.1,vI r.2.2.2.1,vI r.2.2.2.2]])
 |_,_=>none
def bH(a:Bs)(b c d e f:Int)(r:pm):Prop:=bq Tryz.prog 243 [.ptr 0 0,vI e,vI f] [[vT a,vI b,vI c,vI d]] (.agg (enc .tok r.1)) [[vT r.2.1,vI r.2.2.1,vI r.2.2.2.1,vI r.2.2.2.2]]∧ajg a b c d e f r
def po:de Tryz.prog:=.mk 243 λ
 | [.ptr 0 0,.int .i64 e,.int .i64 f],[[.str a,.int .i64 b,.int .i64 c,.int .i64 d]]=>pk (bH a b c d e f) λr=>(.agg (enc .tok r.1),[[vT r.2.1,vI r.2.2.1,vI r.2.2.2.1,vI r.2.2.2.2]])
 |_,_=>none
def dR(a:Int)(r:Bool):Prop:=aH Tryz.prog 244 [.int .u8 a] (vB r)∧xr a r
def adk:bA Tryz.prog:=.mk 244 λ
 | [.int .u8 a]=>pk (dR a) λr=>.bool r
 |_=>none
abbrev apP:=Int×Bs×Int×Int×Int
def cj(a:Bs)(b c d e:Int)(r:apP):Prop:=bq Tryz.prog 245 [.ptr 0 0,vI e] [[vT a,vI b,vI c,vI d]] (.int .u8 r.1) [[vT r.2.1,vI r.2.2.1,vI r.2.2.2.1,vI r.2.2.2.2]]∧lO a b c d e r
def vA:de Tryz.prog:=.mk 245 λ
 | [.ptr 0 0,.int .i64 e],[[.str a,.int .i64 b,.int .i64 c,.int .i64 d]]=>pk (cj a b c d e) λr=>(.int .u8 r.1,[[vT r.2.1,vI r.2.2.1,vI r.2.2.2.1,vI r.2.2.2.2]])
 |_,_=>none
def eS(a:Int)(r:Bool):Prop:=aH Tryz.prog 246 [.int .u8 a] (vB r)∧yK a r
def ae2:bA Tryz.prog:=.mk 246 λ
 | [.int .u8 a]=>pk (eS a) λr=>.bool r
 |_=>none
def jq(a:Bs)(b c d:Int)(r:pm):Prop:=bq Tryz.prog 247 [.ptr 0 0] [[vT a,vI b,vI c,vI d]] (.agg (enc .tok r.1)) [[vT r.2.1,vI r.2.2.1,vI r.2.2.2.1,vI r.2.2.2.2]]∧vP a b c d r
def alw:de Tryz.prog:=.mk 247 λ
 | [.ptr 0 0],[[.str a,.int .i64 b,.int .i64 c,.int .i64 d]]=>pk (jq a b c d) λr=>(.agg (enc .tok r.1),[[vT r.2.1,vI r.2.2.1,vI r.2.2.2.1,vI r.2.2.2.2]])
 |_,_=>none
def fY(a:Bs)(b c d:Int)(r:pm):Prop:=bq Tryz.prog 248 [.ptr 0 0] [[vT a,vI b,vI c,vI d]] (.agg (enc .tok r.1)) [[vT r.2.1,vI r.2.2.1,vI r.2.2.2.1,vI r.2.2.2.2]]∧yM a b c d r
def apQ:de Tryz.prog:=.mk 248 λ
 | [.ptr 0 0],[[.str a,.int .i64 b,.int .i64 c,.int .i64 d]]=>pk (fY a b c d) λr=>(.agg (enc .tok r.1),[[vT r.2.1,vI r.2.2.1,vI r.2.2.2.1,vI r.2.2.2.2]])
 |_,_=>none
def dW(a:List Tok)(b c d:Int)(e:Bs)(f:List bI)(g:Bss)(h:List aS)(i:List PEn)(j:List (Int×Int))(k:Bss)(l:bI)(r:jp):Prop:=bq Tryz.prog 249 [.ptr 0 0,.ptr 1 0,.agg (enc .ffld l)] [[vF .tok a,vI b,vI c,vI d],[vT e,vO .ffld f,vO .str g,.ul .fmsg h,vO .pen i,vO .u2 j,vO .str k]] (.tup []) [[vF .tok r.1,vI r.2.1,vI r.2.2.1,vI r.2.2.2.1],[vT r.2.2.2.2.1,vO .ffld r.2.2.2.2.2.1,vO .str r.2.2.2.2.2.2.1,.ul .fmsg r.2.2.2.2.2.2.2.1,vO .pen r.2.2.2.2.2.2.2.2.1,vO .u2 r.2.2.2.2.2.2.2.2.2.1,vO .str r.2.2.2.2.2.2.2.2.2.2]]∧xQ a b c d e f g h i j k l r
def acs:de Tryz.prog:=.mk 249 λ
 | [.ptr 0 0,.ptr 1 0,.agg [.int .i64 a,.str b,.str c,.str d,.int .u64 e,.int .i64 f,.int .i64 g]],[[.sl .tok (.may false) h,.int .i64 i,.int .i64 j,.int .i64 k],[.str l,.sl .ffld .own m,.sl .str .own n,.ul .fmsg o,.sl .pen .own p,.sl .u2 .own q,.sl .str .own s]]=>pk (dW h i j k l m n o p q s (⟨a,b,c,d,e,f,g⟩)) λr=>(.tup [],[[vF .tok r.1,vI r.2.1,vI r.2.2.1,vI r.2.2.2.1],[vT r.2.2.2.2.1,vO .ffld r.2.2.2.2.2.1,vO .str r.2.2.2.2.2.2.1,.ul .fmsg r.2.2.2.2.2.2.2.1,vO .pen r.2.2.2.2.2.2.2.2.1,vO .u2 r.2.2.2.2.2.2.2.2.2.1,vO .str r.2.2.2.2.2.2.2.2.2.2]])
 |_,_=>none
def v9(a:Bs)(r:Bool):Prop:=aH Tryz.prog 250 [vT a] (vB r)
def aDt:bA Tryz.prog:=.mk 250 λ
 | [.str a]=>pk (v9 a) λr=>.bool r
 |_=>none
def mG(a r:Int):Prop:=aH Tryz.prog 252 [.int .u8 a] (vI r)∧yL a r
def aA8:bA Tryz.prog:=.mk 252 λ
 | [.int .u8 a]=>pk (mG a) λr=>vI r
 |_=>none
abbrev tb_:= @tab Tryz.prog
def ayu:aI:=tb_ [] [] [] []
def ahG:IR:=Rs [Mb 2 false] (Rs [Mv 3 0,Pp (.bin 4 .geq 3 (.c (.int .u8 97))),Mv 5 4,Gt 5 (.mov 6 0),Gt 5 (.bin 7 .leq 6 (.c (.int .u8 122))),Pa 8 5 7,Mv 9 8,Gf 9 (.mov 10 0),Gf 9 (.bin 11 .geq 10 (.c (.int .u8 65))),Gf 9 (.mov 12 11),Gt 12 (.mov 13 0),Gt 12 (.bin 14 .leq 13 (.c (.int .u8 90))),Gf 9 (.pick 15 12 14 (kB false)),Po 16 9 15,Mv 17 16,Gf 17 (.mov 18 0),Gf 17 (.bin 19 .eql 18 (.c (.int .u8 95))),Po 20 17 19,Mv 2 20] .ret)
theorem avX:FnC Tryz.prog ayu [] 0 244 Tryz.f244 ahG aE:=fnC Tryz.func244
def ahH(N:Nat)(a:Int):Ro:=let b:=(some (vB (a==95),[]):Ro);cond (decide (97<=a)) (cond (decide (a<=122)) (some (vB true,[])) (cond (decide (65<=a)) (cond (decide (a<=90)) (some (vB true,[])) (b)) (b))) (cond (decide (65<=a)) (cond (decide (a<=90)) (some (vB true,[])) (b)) (b))
def ahI(N:Nat)(a:Int):Ro:=ahH N a
theorem at0(N:Nat)(b:Int)(h:Tot (ahI N b) (λz=>∃a rest,z.1.dimR=vB a∧z.2=rest∧xr b (a))):∃r,dR b r:=avX.finP (N:=N) (by kernel_rfl) h λ_ ⟨a,_,e,_,q⟩=>⟨(a),e,q⟩
def aA9:aI:=tb_ [] [] [] []
def akO:IR:=Rs [Mb 2 false] (Rs [Mv 3 0,Pp (.bin 4 .geq 3 (.c (.int .u8 48))),Mv 5 4,Gt 5 (.mov 6 0),Gt 5 (.bin 7 .leq 6 (.c (.int .u8 57))),Pa 8 5 7,Mv 2 8] .ret)
theorem ayv:FnC Tryz.prog aA9 [] 0 246 Tryz.f246 akO aE:=fnC Tryz.func246
def akP(N:Nat)(a:Int):Ro:=cond (decide (48<=a)) (some (vB (decide (a<=57)),[])) (some (vB false,[]))
def akQ(N:Nat)(a:Int):Ro:=akP N a
theorem avY(N:Nat)(b:Int)(h:Tot (akQ N b) (λz=>∃a rest,z.1.dimR=vB a∧z.2=rest∧yK b (a))):∃r,eS b r:=ayv.finP (N:=N) (by kernel_rfl) h λ_ ⟨a,_,e,_,q⟩=>⟨(a),e,q⟩
def ag8:aI:=tb_ [] [] [] [adk,ae2]
def ahJ:IR:=Sq (Rs [Mv 4 3,Mv 5 0,Pp (.lens 6 5),Bi 7 .lss 4 6] (Cn 7 .skip (.exit 0))) (Sq (.block 1 (Rs [Mv 10 0,Mv 11 3,Pp (.idx 12 10 11),Ca 13 244 [12],Un 14 13,Mv 15 14,Gt 15 (.mov 16 3),Gt 15 (.bin 17 .eql 16 (kI 0)),Gt 15 (.mov 18 17),Gf 18 (.mov 19 0),Gf 18 (.mov 20 3),Gf 18 (.idx 21 19 20),Gf 18 (.call 22 246 [21]),Gf 18 (.un 23 .not 22),Gt 15 (.pick 24 18 (kB true) 23),Pa 25 15 24] (Cn 25 (Rs [Mb 2 false] .ret) .skip))) (Rg [Mv 8 3,Bc 9 .add 8 1,Mv 3 9]))
def ahK:IR:=Rs [Mv 26 0,Pp (.lens 27 26),Bc 28 .gtr 27 0,Mv 2 28] .ret
def aBa:IR:=Rs [Mb 2 false] (Sq (Rs [Mi 3 0] (.block 0 (.loop [0,3,1000000] 0 ahJ))) ahK)
theorem aBb:FnC Tryz.prog ag8 [] 0 250 Tryz.f250 aBa aE:=fnC Tryz.func250
def ayw(R:TRr)(a:TS):TE:=(bu a [0,3,1000000] 0 (aP 0 (kseq (R ahK) (fin aE))))
abbrev fM:Type:=(Bs×Int)
def uQ:fM->St:=λ(a,b)=>{env:=(vT a::.undef::.undef::vI b::(U 25 [])),hp:=[]}
def adl(N:Nat):TS->TS:=λa s=>run ag8 N ahJ (ayw (run ag8 N) a) s
def wO(N:Nat)(a:fM->Ro):fM->Ro:=λ(b,c)=>let d:=(↑(Aa b):Int);cond (decide (c<d)) (chk (ixl c b) (let e:=(↑(AY (Ai b (Ad c) 0)):Int);aA (dR e) (λ(f:Bool)=>cond (!f) (cond (c==0) (some (vB false,[])) (chk (ixl c b) (let g:=(↑(AY (Ai b (Ad c) 0)):Int);aA (eS g) (λ(h:Bool)=>cond (!h) (some (vB false,[])) (let i:=(Ab .i64 (c+1));a (b,i)))))) (let j:=(Ab .i64 (c+1));a (b,j))))) (let k:=(↑(Aa b):Int);some (vB (decide (0<k)),[]))
theorem avZ(N:Nat):LB (adl N) uQ (wO N):=λ_ _=>by kernel_rfl
def tY(N:Nat)(a:Bs)(b:fM->Ro):Ro:=b (a,0)
def anp(N:Nat)(a:Bs):Ro:=tY N a (λz=>aN N (wO N) z)
theorem ayx(N:Nat)(a:Bs)(h:Tot (anp N a) (λz=>∃c rest,z.1.dimR=vB c∧z.2=rest)):∃r,v9 a r:=aBb.finP0 (N:=N) ((bK _ (by kernel_rfl) rfl (λC=>tY N a (λz=>C 1000000 (uQ z))) (λC=>by kernel_rfl)).trans (AE (b:=tY N a (λz=>aZ N (adl N) (uQ z))) (by kernel_rfl) (congrArg (tY N a) (funext λz=>aW (uQ) (adl N) (wO N) (avZ N) N z)))) h λ_ ⟨c,_,e,_⟩=>⟨(c),e⟩
def aBc:aI:=tb_ [] [] [] []
def akR:IR:=Rs [Mi 2 0] (Sq (.block 0 (Rs [Mv 4 0,Pp (.bin 5 .geq 4 (.c (.int .u8 48))),Mv 6 5,Gt 6 (.mov 7 0),Gt 6 (.bin 8 .leq 7 (.c (.int .u8 57))),Pa 9 6 8,Mv 3 9] (Cn 3 (Rs [Mv 10 0,Pp (.bin 11 .sub 10 (.c (.int .u8 48))),Pp (.cvi 12 .i64 11),Mv 2 12] .ret) (Rs [Mv 14 0,Pp (.bin 15 .geq 14 (.c (.int .u8 97))),Mv 16 15,Gt 16 (.mov 17 0),Gt 16 (.bin 18 .leq 17 (.c (.int .u8 102))),Pa 19 16 18,Mv 13 19] (Cn 13 (Rs [Mv 20 0,Pp (.bin 21 .sub 20 (.c (.int .u8 97))),Pp (.cvi 22 .i64 21),Bc 23 .add 22 10,Mv 2 23] .ret) (Rs [Mv 25 0,Pp (.bin 26 .geq 25 (.c (.int .u8 65))),Mv 27 26,Gt 27 (.mov 28 0),Gt 27 (.bin 29 .leq 28 (.c (.int .u8 70))),Pa 30 27 29,Mv 24 30] (Cn 24 (Rs [Mv 31 0,Pp (.bin 32 .sub 31 (.c (.int .u8 65))),Pp (.cvi 33 .i64 32),Bc 34 .add 33 10,Mv 2 34] .ret) .skip))))))) (Rs [Mi 2 (-1)] .ret))
theorem ayy:FnC Tryz.prog aBc [] 0 252 Tryz.f252 akR aE:=fnC Tryz.func252
def akS(N:Nat)(a:Int):Ro:=let b:=(some (vI (-1),[]):Ro);cond (decide (48<=a)) (cond (decide (a<=57)) (let g:=(Ab .u8 (a-48));some (vI (Ab .i64 g),[])) (cond (decide (97<=a)) (cond (decide (a<=102)) (let h:=(Ab .u8 (a-97));let i:=(Ab .i64 ((Ab .i64 h)+10));some (vI i,[])) (cond (decide (65<=a)) (cond (decide (a<=70)) (let j:=(Ab .u8 (a-65));let k:=(Ab .i64 ((Ab .i64 j)+10));some (vI k,[])) (b)) (b))) (cond (decide (65<=a)) (cond (decide (a<=70)) (let l:=(Ab .u8 (a-65));let m:=(Ab .i64 ((Ab .i64 l)+10));some (vI m,[])) (b)) (b)))) (cond (decide (97<=a)) (cond (decide (a<=102)) (let n:=(Ab .u8 (a-97));let o:=(Ab .i64 ((Ab .i64 n)+10));some (vI o,[])) (cond (decide (65<=a)) (cond (decide (a<=70)) (let c:=(Ab .u8 (a-65));let d:=(Ab .i64 ((Ab .i64 c)+10));some (vI d,[])) (b)) (b))) (cond (decide (65<=a)) (cond (decide (a<=70)) (let e:=(Ab .u8 (a-65));let f:=(Ab .i64 ((Ab .i64 e)+10));some (vI f,[])) (b)) (b)))
def akT(N:Nat)(a:Int):Ro:=akS N a
theorem av0(N:Nat)(b:Int)(h:Tot (akT N b) (λz=>∃a rest,z.1.dimR=vI a∧z.2=rest∧yL b (a))):∃r,mG b r:=ayy.finP (N:=N) (by kernel_rfl) h λ_ ⟨a,_,e,_,q⟩=>⟨(a),e,q⟩
def anq:IR:=Rs [Pp (.new 6 [vI 0,vS,vU 0,vI 0])] (Rs [Mv 7 0,Mv 8 0,Mv 9 1,Mv 10 2,Nk 11 7,Fa 12 2 11,Sv 1 12 9,Nk 13 8,Fa 14 3 13,Sv 1 14 10] (Rs [Pp (.bld 15 [vI 0,vS,vU 0,vI 0] []),Sv 4 6 15] .ret))
def anr:List RV:=[.cell 6 4 true]
def alx:aI:=tb_ [] [] [] []
def zj:IR:=Rs [Mb 4 false] (Sq (.reg [Mv 5 0,Nk 6 5,Fa 7 1 6,Fo [0] [] (.ld 8 1 false false 7),Mv 9 1,Pp (.lens 10 9),Bi 11 .add 8 10,Mv 12 0,Nk 13 12,Fa 14 0 13,Fo [0] [] (.ld 15 1 false false 14),Pp (.lens 16 15),Bi 17 .leq 11 16,Mv 18 17,Gt 18 (.mov 19 0),Gt 18 (.nck 20 19),Gt 18 (.fad 21 0 20),⟨some (18,true),.ld 22 1 false false 21,some ([0],[])⟩,Gt 18 (.mov 23 0),Gt 18 (.nck 24 23),Gt 18 (.fad 25 1 24),⟨some (18,true),.ld 26 1 false false 25,some ([0],[])⟩,Gt 18 (.mov 27 0),Gt 18 (.nck 28 27),Gt 18 (.fad 29 1 28),⟨some (18,true),.ld 30 1 false false 29,some ([0],[])⟩,Gt 18 (.mov 31 1),Gt 18 (.lens 32 31),Gt 18 (.bin 33 .add 30 32),Gt 18 (.subs 34 22 (some 26) (some 33)),Gt 18 (.mov 35 1),Gt 18 (.bin 36 .eql 34 35),Pa 37 18 36,Mv 4 37] [[],[0],[0,1],[0,1,2],[],[4],rg 0 5,[],[7],[7,8],[7,8,9],rg 7 10,rg 0 11,rg 0 12,rg 0 13,rg 0 14,rg 0 15,rg 0 16,rg 0 13,rg 0 13++[18],rg 0 13++[18,19],rg 0 13++[18,19,20],rg 0 13,rg 0 13++[22],rg 0 13++[22,23],rg 0 13++[22,23,24],rg 0 13,rg 0 13++[26],rg 0 13++rg 22 27,rg 0 28,rg 0 13,rg 0 30,rg 0 31,rg 0 32]) .ret)
theorem ajq:FnC Tryz.prog alx [] 1 242 Tryz.f242 zj aR:=fnC Tryz.func242
def zk(N:Nat)(b:Bs)(a c d:Int)(f:Bs):Ro:=let h:=(↑(Aa f):Int);let i:=(Ab .i64 (a+h));let j:=(↑(Aa b):Int);let g:=λk=>(some (vB k,[some [vT b,vI a,vI c,vI d]]):Ro);cond (decide (i<=j)) (let l:=(↑(Aa f):Int);let e:=(Ab .i64 (a+l));chk (decide (0<=e)&&decide (e<=(↑(Aa b):Int))&&(decide (0<=a)&&decide (a<=e))) (let m:=(An (Ad a) (Ao (Ad e) b));g (decide (m=f)))) (g false)
def zm(N:Nat)(a:Bs)(b c d:Int)(e:Bs):Ro:=zk N a b c d e
theorem ahL(N:Nat)(a:Bs)(b c d:Int)(m:Bs)(h:Tot (zm N a b c d m) (λz=>∃g i j k l rest,z.1.dimR=vB g∧z.2=some [vT i,vI j,vI k,vI l]::rest∧jY a b c d m (g,i,j,k,l))):∃r,cB a b c d m r:=FnC.finO (css:=[[vT a,vI b,vI c,vI d]]) ajq (N:=N) (by kernel_rfl) h λ_ ⟨g,i,j,k,l,_,e,f,q⟩=>⟨(g,i,j,k,l),e,⟨_,f⟩,q⟩
def apR:aI:=tb_ [] [] [] []
def acu:IR:=Rs [Pp (.mov 4 (.c (.int .u8 0)))] (Sq (Sq (.reg [Mv 5 0,Nk 6 5,Fa 7 1 6,Fo [0] [] (.ld 8 1 false false 7),Mv 9 1,Bi 10 .add 8 9,Mv 11 0,Nk 12 11,Fa 13 0 12,Fo [0] [] (.ld 14 1 false false 13),Pp (.lens 15 14),Bi 16 .lss 10 15] [[],[0],[0,1],[0,1,2],[],rg 0 4,[],[6],[6,7],[6,7,8],rg 6 9,rg 0 10]) (Cn 16 (Sq (.reg [Mv 17 0,Nk 18 17,Fa 19 0 18,Fo [0] [] (.ld 20 1 false false 19),Mv 21 0,Nk 22 21,Fa 23 1 22,Fo [0] [] (.ld 24 1 false false 23),Mv 25 1,Bi 26 .add 24 25,Pp (.idx 27 20 26),Mv 4 27] [[],[0],[0,1],[0,1,2],[],[4],[4,5],[4,5,6],[],rg 4 8,rg 0 9,rg 0 10]) .ret) .skip)) (Rs [Pp (.mov 4 (.c (.int .u8 0)))] .ret))
theorem ans:FnC Tryz.prog apR [] 1 245 Tryz.f245 acu aR:=fnC Tryz.func245
def acv(N:Nat)(a:Bs)(b c d e:Int):Ro:=let h:=(Ab .i64 (b+e));let i:=(↑(Aa a):Int);let f:=λj=>(some (.int .u8 j,[some [vT a,vI b,vI c,vI d]]):Ro);cond (decide (h<i)) (let g:=(Ab .i64 (b+e));chk (ixl g a) (let k:=(↑(AY (Ai a (Ad g) 0)):Int);f k)) (f 0)
def acw(N:Nat)(a:Bs)(b c d e:Int):Ro:=acv N a b c d e
theorem aly(N:Nat)(a:Bs)(b c d m:Int)(h:Tot (acw N a b c d m) (λz=>∃g i j k l rest,z.1.dimR=.int .u8 g∧z.2=some [vT i,vI j,vI k,vI l]::rest∧lO a b c d m (g,i,j,k,l))):∃r,cj a b c d m r:=FnC.finO (css:=[[vT a,vI b,vI c,vI d]]) ans (N:=N) (by kernel_rfl) h λ_ ⟨g,i,j,k,l,_,e,f,q⟩=>⟨(g,i,j,k,l),e,⟨_,f⟩,q⟩
def di:aI:=tb_ [] [aau,po] [] []
def xW:IR:=Sq (Sq (.reg [Mv 51 0,Nk 52 51,Fa 53 1 52,Fo [0] [] (.ld 54 1 false false 53),Mv 55 0,Nk 56 55,Fa 57 0 56,Fo [0] [] (.ld 58 1 false false 57),Pp (.lens 59 58),Bi 60 .lss 54 59,Mv 61 60,Gt 61 (.mov 62 0),Gt 61 (.nck 63 62),Gt 61 (.fad 64 0 63),⟨some (61,true),.ld 65 1 false false 64,some ([0],[])⟩,Gt 61 (.mov 66 0),Gt 61 (.nck 67 66),Gt 61 (.fad 68 1 67),⟨some (61,true),.ld 69 1 false false 68,some ([0],[])⟩,Gt 61 (.idx 70 65 69),Gt 61 (.bin 71 .neq 70 (.c (.int .u8 10))),Pa 72 61 71] [[],[0],[0,1],[0,1,2],[],[4],[4,5],[4,5,6],rg 4 7,rg 0 8,rg 0 9,rg 0 10,rg 0 11,rg 0 12,rg 0 13,rg 0 10,rg 0 10++[15],rg 0 10++[15,16],rg 0 10++[15,16,17],rg 0 18,rg 0 19,rg 0 20]) (Cn 72 .skip (.exit 3))) (.block 4 (Rg [Mv 73 0,Nk 74 73,Fa 75 1 74,Lo 76 75,Bc 77 .add 76 1,Nk 78 73,Fa 79 1 78,Sv 1 79 77]))
def xX:IR:=Sq (Sq (.reg [Mv 95 0,Nk 96 95,Fa 97 1 96,Fo [0] [] (.ld 98 1 false false 97),Mv 99 0,Nk 100 99,Fa 101 0 100,Fo [0] [] (.ld 102 1 false false 101),Pp (.lens 103 102),Bi 104 .lss 98 103,Mv 105 104,Gt 105 (.mov 106 0),⟨some (105,true),.call 107 242 [106,kS [42,47]],some ([],[0])⟩,Gt 105 (.un 108 .not 107),Pa 109 105 108] [[],[0],[0,1],[0,1,2],[],[4],[4,5],[4,5,6],rg 4 7,rg 0 8,rg 0 9,rg 0 10,rg 0 11,rg 0 12,rg 0 13]) (Cn 109 .skip (.exit 5))) (.block 6 (Rg [Mv 110 0,Nk 111 110,Fa 112 1 111,Lo 113 112,Bc 114 .add 113 1,Nk 115 110,Fa 116 1 115,Sv 1 116 114]))
def wa:IR:=Sq (Sq (.reg [Mv 117 0,Nk 118 117,Fa 119 1 118,Fo [0] [] (.ld 120 1 false false 119),Mv 121 0,Nk 122 121,Fa 123 0 122,Fo [0] [] (.ld 124 1 false false 123),Pp (.lens 125 124),Bi 126 .geq 120 125] [[],[0],[0,1],[0,1,2],[],[4],[4,5],[4,5,6],rg 4 7,rg 0 8]) (Cn 126 (Rs [Mv 127 0,Mv 128 3,Ca 129 243 [127,kI 2,128]] .ret) .skip)) (Rg [Mv 130 0,Mv 131 0,Nk 132 131,Fa 133 1 132,Lo 134 133,Bc 135 .add 134 2,Nk 136 130,Fa 137 1 136,Sv 1 137 135])
def j5:IR:=Sq (Sq (.reg [Mv 4 0,Nk 5 4,Fa 6 1 5,Fo [0] [] (.ld 7 1 false false 6),Mv 8 0,Nk 9 8,Fa 10 0 9,Fo [0] [] (.ld 11 1 false false 10),Pp (.lens 12 11),Bi 13 .lss 7 12,Mv 14 13,Gt 14 (.mov 15 0),Gt 14 (.nck 16 15),Gt 14 (.fad 17 2 16),⟨some (14,true),.ld 18 1 false false 17,some ([0],[])⟩,Gt 14 (.bin 19 .eql 18 (kI 0)),Pa 20 14 19] [[],[0],[0,1],[0,1,2],[],[4],[4,5],[4,5,6],rg 4 7,rg 0 8,rg 0 9,rg 0 10,rg 0 11,rg 0 12,rg 0 13,rg 0 14,rg 0 15]) (Cn 20 .skip (.exit 0))) (.block 1 (Sq (.reg [Mv 21 0,Nk 22 21,Fa 23 0 22,Fo [0] [] (.ld 24 1 false false 23),Mv 25 0,Nk 26 25,Fa 27 1 26,Fo [0] [] (.ld 28 1 false false 27),Pp (.idx 29 24 28),Mv 2 29] [[],[0],[0,1],[0,1,2],[],[4],[4,5],[4,5,6],rg 0 7,rg 0 8]) (.block 2 (Rs [Mv 31 2,Pp (.bin 32 .geq 31 (.c (.int .u8 9))),Mv 33 32,Gt 33 (.mov 34 2),Gt 33 (.bin 35 .leq 34 (.c (.int .u8 13))),Pa 36 33 35,Mv 37 36,Gf 37 (.mov 38 2),Gf 37 (.bin 39 .eql 38 (.c (.int .u8 32))),Po 40 37 39,Mv 30 40] (Cn 30 (Rg [Mv 41 0,Nk 42 41,Fa 43 1 42,Lo 44 43,Bc 45 .add 44 1,Nk 46 41,Fa 47 1 46,Sv 1 47 45]) (Rs [Mv 49 0,Ca 50 242 [49,kS [47,47]],Mv 48 50] (Cn 48 (.block 3 (.loop [0,1000000] 1 xW)) (Rs [Mv 81 0,Ca 82 242 [81,kS [47,42]],Mv 80 82] (Cn 80 (Rs [Mv 83 0,Nk 84 83,Fa 85 1 84,Lo 86 85,Mv 3 86] (Rs [Mv 87 0,Mv 88 0,Nk 89 88,Fa 90 1 89,Lo 91 90,Bc 92 .add 91 2,Nk 93 87,Fa 94 1 93,Sv 1 94 92] (Sq (.block 5 (.loop [0,3,1000001] 1 xX)) wa))) .ret)))))))))
def aav:IR:=.block 0 (.loop [0,1000002] 1 j5)
def bm:List RV:=[]
theorem alz:FnC Tryz.prog di [242,243,2000242,2000243] 1 227 Tryz.f227 aav bm:=fnC Tryz.func227
def iA(R:TRr)(a:TS):TE:=(bu a [0,1000002] 1 (aP 0 (fin bm)))
def bP:cG->St:=λ(a,b,c,d)=>{env:=(.ptr 0 0::(U 137 [])),hp:=[some [vT a,vI b,vI c,vI d]]}
def ajr(R:TRr)(a b:TS):TE:=(bu b [0,1000000] 1 (aP 3 (aP 2 (aP 1 (iA R a)))))
def gL:cG->St:=λ(a,b,c,d)=>{env:=(.ptr 0 0::(U 137 [])),hp:=[some [vT a,vI b,vI c,vI d]]}
def lQ(N:Nat)(a:TS):TS->TS:=λb s=>run di N xW (ajr (run di N) a b) s
def iB(N:Nat)(c f:cG->Ro):cG->Ro:=λ(a,b,d,e)=>let g:=(↑(Aa a):Int);cond (decide (b<g)) (chk (ixl b a) (let h:=(↑(AY (Ai a (Ad b) 0)):Int);cond (!(h==10)) (let i:=(Ab .i64 (b+1));f (a,i,d,e)) (c (a,b,d,e)))) (c (a,b,d,e))
theorem ahM(N:Nat)(a:TS):LB (lQ N a) gL (iB N (λy=>a (bP y))):=λ_ _=>by kernel_rfl
def ajs(R:TRr)(a b:TS):TE:=(bu b [0,3,1000001] 1 (aP 5 (kseq (R wa) (aP 2 (aP 1 (iA R a))))))
abbrev lR:Type:=(Int×Bs×Int×Int×Int)
def gM:lR->St:=λ(a,b,c,d,e)=>{env:=(.ptr 0 0::.undef::.undef::vI a::(U 134 [])),hp:=[some [vT b,vI c,vI d,vI e]]}
def lS(N:Nat)(a:TS):TS->TS:=λb s=>run di N xX (ajs (run di N) a b) s
def iC(N:Nat)(d:cG->Ro)(g:lR->Ro):lR->Ro:=λ(j,a,b,e,f)=>let p:=(↑(Aa a):Int);cond (decide (b<p)) (aA (cB a b e f [42,47]) (λc=>cond (!c.1) (let k:=(Ab .i64 (c.2.2.1+1));g (j,c.2.1,k,c.2.2.2.1,c.2.2.2.2)) (let l:=(↑(Aa c.2.1):Int);cond (decide (l<=c.2.2.1)) (aA (bH c.2.1 c.2.2.1 c.2.2.2.1 c.2.2.2.2 2 j) (λh=>some (.tup [],[some [vT h.2.1,vI h.2.2.1,vI h.2.2.2.1,vI h.2.2.2.2]]))) (let m:=(Ab .i64 (c.2.2.1+2));d (c.2.1,m,c.2.2.2.1,c.2.2.2.2))))) (let n:=(↑(Aa a):Int);cond (decide (n<=b)) (aA (bH a b e f 2 j) (λi=>some (.tup [],[some [vT i.2.1,vI i.2.2.1,vI i.2.2.2.1,vI i.2.2.2.2]]))) (let o:=(Ab .i64 (b+2));d (a,o,e,f)))
theorem ahN(N:Nat)(a:TS):LB (lS N a) gM (iC N (λy=>a (bP y))):=λ_ _=>by kernel_rfl
def lT(N:Nat):TS->TS:=λa s=>run di N j5 (iA (run di N) a) s
def kO(N:Nat)(e n:cG->Ro)(o:lR->Ro):cG->Ro:=λ(a,b,c,d)=>let p:=(↑(Aa a):Int);let j:=λq r s t=>(some (.tup [],[some [vT q,vI r,vI s,vI t]]):Ro);cond (decide (b<p)) (cond (c==0) (chk (ixl b a) (let k:=(↑(AY (Ai a (Ad b) 0)):Int);cond (decide (9<=k)) (cond (decide (k<=13)) (let u:=(Ab .i64 (b+1));e (a,u,c,d)) (cond (k==32) (let v:=(Ab .i64 (b+1));e (a,v,c,d)) (aA (cB a b c d [47,47]) (λh=>cond h.1 (n (h.2.1,h.2.2.1,h.2.2.2.1,h.2.2.2.2)) (aA (cB h.2.1 h.2.2.1 h.2.2.2.1 h.2.2.2.2 [47,42]) (λf=>cond f.1 (let w:=(Ab .i64 (f.2.2.1+2));o (f.2.2.1,f.2.1,w,f.2.2.2.1,f.2.2.2.2)) (j f.2.1 f.2.2.1 f.2.2.2.1 f.2.2.2.2))))))) (cond (k==32) (let l:=(Ab .i64 (b+1));e (a,l,c,d)) (aA (cB a b c d [47,47]) (λi=>cond i.1 (n (i.2.1,i.2.2.1,i.2.2.2.1,i.2.2.2.2)) (aA (cB i.2.1 i.2.2.1 i.2.2.2.1 i.2.2.2.2 [47,42]) (λg=>cond g.1 (let m:=(Ab .i64 (g.2.2.1+2));o (g.2.2.1,g.2.1,m,g.2.2.2.1,g.2.2.2.2)) (j g.2.1 g.2.2.1 g.2.2.2.1 g.2.2.2.2)))))))) (j a b c d)) (j a b c d)
def lU(N:Nat)(a:cG->Ro)(x:cG):Ro:=kO N a (λz=>aN N (iB N a) z) (λz=>aN N (iC N a) z) x
def zn(N:Nat)(a:TS):List (Nat×(TS)):=(cU di N j5 (iA (run di N) a)++[])
theorem ahO(N:Nat):∀(a:TS)(x:cG),lT N a (bP x)=lU N (λy=>a (bP y)) x:=by
 intro a x;have d:∀C:Nat->TS,cY C di N j5 (iA (cY C di N) a) (bP x)=kO N (λy=>a (bP y)) (λz=>C 1000000 (gL z)) (λz=>C 1000001 (gM z)) x:=by intro C;kernel_rfl
 have h:lT N a (bP x)=kO N (λy=>a (bP y)) (λz=>aZ N (lQ N a) (gL z)) (λz=>aZ N (lS N a) (gM z)) x:=(ff (C:=iw (zn N a)) (dU (cb (l:=(zn N a)) (by kernel_rfl))) (jm (eK rfl)) _).trans ((d _).trans (by kernel_rfl));have c:(λz=>aZ N (lQ N a) (gL z))=(λz=>aN N (iB N (λy=>a (bP y))) z):=funext λz=>aW (gL) (lQ N a) (iB N (λy=>a (bP y))) (ahM N a) N z
 have b:(λz=>aZ N (lS N a) (gM z))=(λz=>aN N (iC N (λy=>a (bP y))) z):=funext λz=>aW (gM) (lS N a) (iC N (λy=>a (bP y))) (ahN N a) N z
 rw[h,c,b];rfl
def jr(N:Nat)(a:Bs)(b c d:Int)(e:cG->Ro):Ro:=e (a,b,c,d)
def aaw(N:Nat)(a:Bs)(b c d:Int):Ro:=jr N a b c d (λz=>aN N (lU N) z)
theorem ajt(N:Nat)(a:Bs)(c d g:Int)(h:Tot (aaw N a c d g) (λz=>∃i j k l rest,z.1.dimR=.tup []∧z.2=some [vT i,vI j,vI k,vI l]::rest∧xK a c d g (i,j,k,l))):∃r,nZ a c d g r:=FnC.finO (css:=[[vT a,vI c,vI d,vI g]]) alz (N:=N) ((bK _ (by kernel_rfl) rfl (λC=>jr N a c d g (λz=>C 1000002 (bP z))) (λC=>by kernel_rfl)).trans (AE (b:=jr N a c d g (λz=>aZ N (lT N) (bP z))) (by kernel_rfl) (congrArg (jr N a c d g) (funext λz=>aW (bP) (lT N) (lU N) (ahO N) N z)))) h λ_ ⟨i,j,k,l,_,e,f,q⟩=>⟨(i,j,k,l),e,⟨_,f⟩,q⟩
def sm:aI:=tb_ [] [aau,po,vA] [] [adk,ae2,aA8]
def vn:IR:=Sq (Sq (.reg [Mv 39 0,Nk 40 39,Fa 41 1 40,Fo [0] [] (.ld 42 1 false false 41),Mv 43 0,Nk 44 43,Fa 45 0 44,Fo [0] [] (.ld 46 1 false false 45),Pp (.lens 47 46),Bi 48 .lss 42 47] [[],[0],[0,1],[0,1,2],[],[4],[4,5],[4,5,6],rg 4 7,rg 0 8]) (Cn 48 .skip (.exit 0))) (.block 1 (Sq (.reg [Mv 49 0,Nk 50 49,Fa 51 0 50,Fo [0] [] (.ld 52 1 false false 51),Mv 53 0,Nk 54 53,Fa 55 1 54,Fo [0] [] (.ld 56 1 false false 55),Pp (.idx 57 52 56),Ca 58 252 [57],Mv 6 58] [[],[0],[0,1],[0,1,2],[],[4],[4,5],[4,5,6],rg 0 7,rg 0 8,rg 0 9]) (Sq (Rs [Mv 59 6,Bc 60 .lss 59 0,Mv 61 60,Gf 61 (.mov 62 6),Gf 61 (.cvi 63 .u64 62),Gf 61 (.mov 64 4),Gf 61 (.bin 65 .geq 63 64),Po 66 61 65] (Cn 66 (.exit 0) .skip)) (Sq (Rs [Mv 67 5,Mv 68 6,Pp (.cvi 69 .u64 68),Pp (.bin 70 .sub (kU 18446744073709551615) 69),Mv 71 4,Bi 72 .quo 70 71,Bi 73 .gtr 67 72] (Cn 73 (Rs [Mv 74 0,Mv 75 3,Ca 76 243 [74,kI 3,75],Sv 4 2 76] .ret) .skip)) (Rs [Mv 77 5,Mv 78 4,Bi 79 .mul 77 78,Mv 80 6,Pp (.cvi 81 .u64 80),Bi 82 .add 79 81,Mv 5 82] (Rg [Mv 83 0,Nk 84 83,Fa 85 1 84,Lo 86 85,Bc 87 .add 86 1,Nk 88 83,Fa 89 1 88,Sv 1 89 87]))))))
def vo:IR:=Rs [Mv 90 0,Ca 91 245 [90,kI 0],Mv 7 91] (Sq (Rs [Mv 92 7,Ca 93 244 [92],Mv 94 93,Gf 94 (.mov 95 7),Gf 94 (.call 96 246 [95]),Po 97 94 96,Mv 98 97,Gf 98 (.mov 99 7),Gf 98 (.bin 100 .eql 99 (.c (.int .u8 46))),Po 101 98 100] (Cn 101 (Rs [Mv 102 0,Mv 103 3,Ca 104 243 [102,kI 2,103],Sv 4 2 104] .ret) .skip)) (Rs [Mv 105 5,Mv 106 3,Pp (.bld 107 [vI 0,vS,vU 0,vI 0] [(0,1,kI 2),(2,1,105),(3,1,106)]),Sv 4 2 107] .ret))
def zo:IR:=Rs [Pp (.new 2 [vI 0,vS,vU 0,vI 0])] (Rs [Mv 8 0,Nk 9 8,Fa 10 1 9,Lo 11 10,Mv 3 11] (Rs [Pp (.mov 4 (kU 10))] (Sq (Rs [Mv 12 0,Ca 13 242 [12,kS [48,120]],Mv 14 13,Gf 14 (.mov 15 0),Gf 14 (.call 16 242 [15,kS [48,88]]),Po 17 14 16,Mv 18 17,Gt 18 (.mov 19 0),Gt 18 (.call 20 245 [19,kI 2]),Gt 18 (.call 21 252 [20]),Gt 18 (.bin 22 .geq 21 (kI 0)),Pa 23 18 22] (Cn 23 (Rs [Pp (.mov 4 (kU 16))] (Rg [Mv 24 0,Mv 25 0,Nk 26 25,Fa 27 1 26,Lo 28 27,Bc 29 .add 28 2,Nk 30 24,Fa 31 1 30,Sv 1 31 29])) (Rs [Mv 32 0,Nk 33 32,Fa 34 0 33,Lo 35 34,Mv 36 3,Pp (.idx 37 35 36),Pp (.bin 38 .eql 37 (.c (.int .u8 48)))] (Cn 38 (Rg [Pp (.mov 4 (kU 8))]) .skip)))) (Rs [Pp (.mov 5 (kU 0))] (Sq (.block 0 (.loop [0,2,3,4,5,1000000] 2 vn)) vo)))))
def cF:List RV:=[.cell 2 4 true]
theorem aju:FnC Tryz.prog sm [242,243,245,2000242,2000243,2000245] 1 247 Tryz.f247 zo cF:=fnC Tryz.func247
def ahP(R:TRr)(a:TS):TE:=(bu a [0,2,3,4,5,1000000] 2 (aP 0 (kseq (R vo) (fin cF))))
abbrev cX:Type:=(Int×Int×Int×Bs×Int×Int×Int×Int×Bs×Int×Int)
def j6:cX->St:=λ(b,c,d,e,f,g,h,i,j,k,a)=>{env:=(.ptr 0 0::.undef::.ptr 1 0::vI b::vU c::vU d::(U 102 [])),hp:=[some [vT e,vI f,vI g,vI h],some [vI i,vT j,vU k,vI a]]}
def pM(N:Nat):TS->TS:=λa s=>run sm N vn (ahP (run sm N) a) s
def gP(N:Nat)(s:cX->Ro):cX->Ro:=λ(q,v,w,c,d,f,g,x,y,z,R)=>let H:=(↑(Aa c):Int);let r:=λD C B E O L X F=>(some (.agg [vI D,vT C,vU B,vI E],[some [vT O,vI L,vI X,vI F],some [vI D,vT C,vU B,vI E]]):Ro);cond (decide (d<H)) (chk (ixl d c) (let Y:=(↑(AY (Ai c (Ad d) 0)):Int);aA (mG Y) (λ(A:Int)=>cond (decide (A<0)) (aA (cj c d f g 0) (λe=>aA (dR e.1) (λ(Z:Bool)=>cond Z (aA (bH e.2.1 e.2.2.1 e.2.2.2.1 e.2.2.2.2 2 q) (λt=>r t.1.kind t.1.text t.1.n t.1.pos t.2.1 t.2.2.1 t.2.2.2.1 t.2.2.2.2)) (aA (eS e.1) (λ(M:Bool)=>cond M (aA (bH e.2.1 e.2.2.1 e.2.2.2.1 e.2.2.2.2 2 q) (λu=>r u.1.kind u.1.text u.1.n u.1.pos u.2.1 u.2.2.1 u.2.2.2.1 u.2.2.2.2)) (cond (e.1==46) (aA (bH e.2.1 e.2.2.1 e.2.2.2.1 e.2.2.2.2 2 q) (λh=>r h.1.kind h.1.text h.1.n h.1.pos h.2.1 h.2.2.1 h.2.2.2.1 h.2.2.2.2)) (r 2 [] w q e.2.1 e.2.2.1 e.2.2.2.1 e.2.2.2.2))))))) (let I:=decide (v<=(Ab .u64 A));cond I (aA (cj c d f g 0) (λa=>aA (dR a.1) (λ(ac:Bool)=>cond ac (aA (bH a.2.1 a.2.2.1 a.2.2.2.1 a.2.2.2.2 2 q) (λi=>r i.1.kind i.1.text i.1.n i.1.pos i.2.1 i.2.2.1 i.2.2.2.1 i.2.2.2.2)) (aA (eS a.1) (λ(J:Bool)=>cond J (aA (bH a.2.1 a.2.2.1 a.2.2.2.1 a.2.2.2.2 2 q) (λj=>r j.1.kind j.1.text j.1.n j.1.pos j.2.1 j.2.2.1 j.2.2.2.1 j.2.2.2.2)) (cond (a.1==46) (aA (bH a.2.1 a.2.2.1 a.2.2.2.1 a.2.2.2.2 2 q) (λk=>r k.1.kind k.1.text k.1.n k.1.pos k.2.1 k.2.2.1 k.2.2.2.1 k.2.2.2.2)) (r 2 [] w q a.2.1 a.2.2.1 a.2.2.2.1 a.2.2.2.2))))))) (let G:=(Ab .u64 (18446744073709551615-(Ab .u64 A)));chk (!(v==0)) (let S:=(Ab .u64 (BO G v));cond (decide (S<w)) (aA (bH c d f g 3 q) (λl=>r l.1.kind l.1.text l.1.n l.1.pos l.2.1 l.2.2.1 l.2.2.2.1 l.2.2.2.2)) (let P:=(Ab .u64 (w*v));let x8:=(Ab .u64 (P+(Ab .u64 A)));let Q:=(Ab .i64 (d+1));s (q,v,x8,c,Q,f,g,x,y,z,R)))))))) (aA (cj c d f g 0) (λb=>aA (dR b.1) (λ(W:Bool)=>cond W (aA (bH b.2.1 b.2.2.1 b.2.2.2.1 b.2.2.2.2 2 q) (λm=>r m.1.kind m.1.text m.1.n m.1.pos m.2.1 m.2.2.1 m.2.2.2.1 m.2.2.2.2)) (aA (eS b.1) (λ(af:Bool)=>cond af (aA (bH b.2.1 b.2.2.1 b.2.2.2.1 b.2.2.2.2 2 q) (λo=>r o.1.kind o.1.text o.1.n o.1.pos o.2.1 o.2.2.1 o.2.2.2.1 o.2.2.2.2)) (cond (b.1==46) (aA (bH b.2.1 b.2.2.1 b.2.2.2.1 b.2.2.2.2 2 q) (λp=>r p.1.kind p.1.text p.1.n p.1.pos p.2.1 p.2.2.1 p.2.2.2.1 p.2.2.2.2)) (r 2 [] w q b.2.1 b.2.2.1 b.2.2.2.1 b.2.2.2.2)))))))
theorem ag9(N:Nat):LB (pM N) j6 (gP N):=λ_ _=>by kernel_rfl
def iD(N:Nat)(g:Bs)(a h i:Int)(f:cX->Ro):Ro:=aA (cB g a h i [48,120]) (λe=>cond e.1 (aA (cj e.2.1 e.2.2.1 e.2.2.2.1 e.2.2.2.2 2) (λd=>aA (mG d.1) (λ(o:Int)=>cond (decide (0<=o)) (let p:=(Ab .i64 (d.2.2.1+2));f (a,16,0,d.2.1,p,d.2.2.2.1,d.2.2.2.2,0,[],0,0)) (chk (ixl a d.2.1) (let j:=(↑(AY (Ai d.2.1 (Ad a) 0)):Int);cond (j==48) (f (a,8,0,d.2.1,d.2.2.1,d.2.2.2.1,d.2.2.2.2,0,[],0,0)) (f (a,10,0,d.2.1,d.2.2.1,d.2.2.2.1,d.2.2.2.2,0,[],0,0))))))) (aA (cB e.2.1 e.2.2.1 e.2.2.2.1 e.2.2.2.2 [48,88]) (λb=>cond b.1 (aA (cj b.2.1 b.2.2.1 b.2.2.2.1 b.2.2.2.2 2) (λc=>aA (mG c.1) (λ(k:Int)=>cond (decide (0<=k)) (let l:=(Ab .i64 (c.2.2.1+2));f (a,16,0,c.2.1,l,c.2.2.2.1,c.2.2.2.2,0,[],0,0)) (chk (ixl a c.2.1) (let m:=(↑(AY (Ai c.2.1 (Ad a) 0)):Int);cond (m==48) (f (a,8,0,c.2.1,c.2.2.1,c.2.2.2.1,c.2.2.2.2,0,[],0,0)) (f (a,10,0,c.2.1,c.2.2.1,c.2.2.2.1,c.2.2.2.2,0,[],0,0))))))) (chk (ixl a b.2.1) (let n:=(↑(AY (Ai b.2.1 (Ad a) 0)):Int);cond (n==48) (f (a,8,0,b.2.1,b.2.2.1,b.2.2.2.1,b.2.2.2.2,0,[],0,0)) (f (a,10,0,b.2.1,b.2.2.1,b.2.2.2.1,b.2.2.2.2,0,[],0,0)))))))
def zp(N:Nat)(a:Bs)(b c d:Int):Ro:=iD N a b c d (λz=>aN N (gP N) z)
theorem ahQ(N:Nat)(a:Bs)(c d g:Int)(h:Tot (zp N a c d g) (λz=>∃i j k l m rest,z.1.dimR=.agg (enc .tok i)∧z.2=some [vT j,vI k,vI l,vI m]::rest∧vP a c d g (i,j,k,l,m))):∃r,jq a c d g r:=FnC.finO (css:=[[vT a,vI c,vI d,vI g]]) aju (N:=N) ((bK _ (by kernel_rfl) rfl (λC=>iD N a c d g (λz=>C 1000000 (j6 z))) (λC=>by kernel_rfl)).trans (AE (b:=iD N a c d g (λz=>aZ N (pM N) (j6 z))) (by kernel_rfl) (congrArg (iD N a c d g) (funext λz=>aW (j6) (pM N) (gP N) (ag9 N) N z)))) h λ_ ⟨i,j,k,l,m,_,e,f,q⟩=>⟨(i,j,k,l,m),e,⟨_,f⟩,q⟩
def vC:aI:=tb_ [] [po,vA] [] [aA2]
def xY:IR:=Sq (Sq (.reg [Mv 22 0,Nk 23 22,Fa 24 1 23,Fo [0] [] (.ld 25 1 false false 24),Mv 26 0,Nk 27 26,Fa 28 0 27,Fo [0] [] (.ld 29 1 false false 28),Pp (.lens 30 29),Bi 31 .lss 25 30] [[],[0],[0,1],[0,1,2],[],[4],[4,5],[4,5,6],rg 4 7,rg 0 8]) (Cn 31 .skip (.exit 0))) (Sq (.block 1 (Sq (.reg [Mv 39 0,Nk 40 39,Fa 41 0 40,Fo [0] [] (.ld 42 1 false false 41),Mv 43 0,Nk 44 43,Fa 45 1 44,Fo [0] [] (.ld 46 1 false false 45),Pp (.idx 47 42 46),Mv 6 47] [[],[0],[0,1],[0,1,2],[],[4],[4,5],[4,5,6],rg 0 7,rg 0 8]) (Sq (.block 2 (Rs [Mv 49 6,Mv 50 4,Bi 51 .eql 49 50,Mv 48 51] (Cn 48 (Rs [Mv 52 0,Nk 53 52,Fa 54 1 53,Lo 55 54,Bc 56 .add 55 1,Nk 57 52,Fa 58 1 57,Sv 1 58 56] (Sq (Rs [Mv 59 5,Ca 60 74 [59],Un 61 60] (Cn 61 (Rs [Mv 62 0,Mv 63 3,Ca 64 243 [62,kI 2,63],Sv 4 2 64] .ret) .skip)) (Rs [Mv 65 5,Mv 66 3,Pp (.bld 67 [vI 0,vS,vU 0,vI 0] [(0,1,kI 3),(1,1,65),(3,1,66)]),Sv 4 2 67] .ret))) (Rs [Mv 69 6,Pp (.bin 70 .eql 69 (.c (.int .u8 10))),Mv 68 70] (Cn 68 (Rs [Mv 71 0,Mv 72 3,Ca 73 243 [71,kI 2,72],Sv 4 2 73] .ret) (Rs [Mv 75 6,Pp (.bin 76 .neq 75 (.c (.int .u8 92))),Mv 74 76] (Cn 74 (Sq (.reg [Mv 77 5,Mv 78 0,Nk 79 78,Fa 80 0 79,Fo [0] [] (.ld 81 1 false false 80),Mv 82 0,Nk 83 82,Fa 84 1 83,Fo [0] [] (.ld 85 1 false false 84),Mv 86 0,Nk 87 86,Fa 88 1 87,Fo [0] [] (.ld 89 1 false false 88),Bc 90 .add 89 1,Pp (.subs 91 81 (some 85) (some 90)),Bi 92 .add 77 91,Mv 5 92] [[],[],[1],[1,2],[1,2,3],[],[5],[5,6],[5,6,7],[],[9],[9,10],[9,10,11],rg 9 12,rg 1 13,rg 0 14,rg 0 15]) (.exit 1)) .skip))))))) (Rs [Mv 93 0,Nk 94 93,Fa 95 1 94,Lo 96 95,Bc 97 .add 96 1,Nk 98 93,Fa 99 1 98,Sv 1 99 97] (Rs [Mv 100 0,Ca 101 245 [100,kI 0]] (.block 3 (Rs [Pp (.bin 106 .eql 101 (.c (.int .u8 110))),Mv 105 106] (Cn 105 (Rg [Mv 107 5,Pp (.bin 108 .add 107 (kS [10])),Mv 5 108]) (Sq (Rs [Pp (.bin 110 .eql 101 (.c (.int .u8 92))),Mv 109 110] (Cn 109 .skip (Rs [Pp (.bin 111 .eql 101 (.c (.int .u8 34))),Mv 109 111] (Cn 109 .skip (Rg [Pp (.bin 112 .eql 101 (.c (.int .u8 39))),Mv 109 112]))))) (Cn 109 (.reg [Mv 113 5,Mv 114 0,Nk 115 114,Fa 116 0 115,Fo [0] [] (.ld 117 1 false false 116),Mv 118 0,Nk 119 118,Fa 120 1 119,Fo [0] [] (.ld 121 1 false false 120),Mv 122 0,Nk 123 122,Fa 124 1 123,Fo [0] [] (.ld 125 1 false false 124),Bc 126 .add 125 1,Pp (.subs 127 117 (some 121) (some 126)),Bi 128 .add 113 127,Mv 5 128] [[],[],[1],[1,2],[1,2,3],[],[5],[5,6],[5,6,7],[],[9],[9,10],[9,10,11],rg 9 12,rg 1 13,rg 0 14,rg 0 15]) (Rs [Mv 102 0,Mv 103 3,Ca 104 243 [102,kI 2,103],Sv 4 2 104] .ret))))))))))) (Rg [Mv 32 0,Nk 33 32,Fa 34 1 33,Lo 35 34,Bc 36 .add 35 1,Nk 37 32,Fa 38 1 37,Sv 1 38 36]))
def xZ:IR:=Rs [Mv 129 0,Mv 130 3,Ca 131 243 [129,kI 2,130],Sv 4 2 131] .ret
def acx:IR:=Rs [Pp (.new 2 [vI 0,vS,vU 0,vI 0])] (Rs [Mv 7 0,Nk 8 7,Fa 9 1 8,Lo 10 9,Mv 3 10] (Rs [Mv 11 0,Nk 12 11,Fa 13 0 12,Lo 14 13,Mv 15 3,Pp (.idx 16 14 15),Mv 4 16] (Rs [Ms 5 []] (Sq (Rs [Mv 17 0,Mv 18 3,Bc 19 .add 18 1,Nk 20 17,Fa 21 1 20,Sv 1 21 19] (.block 0 (.loop [0,2,3,4,5,1000000] 2 xY))) xZ))))
theorem ant:FnC Tryz.prog vC [243,245,2000243,2000245] 1 248 Tryz.f248 acx cF:=fnC Tryz.func248
def alA(R:TRr)(a:TS):TE:=(bu a [0,2,3,4,5,1000000] 2 (aP 0 (kseq (R xZ) (fin cF))))
abbrev js:Type:=(Int×Int×Bs×Bs×Int×Int×Int×Int×Bs×Int×Int)
def lV:js->St:=λ(b,c,d,e,f,g,h,i,j,k,a)=>{env:=(.ptr 0 0::.undef::.ptr 1 0::vI b::.int .u8 c::vT d::(U 126 [])),hp:=[some [vT e,vI f,vI g,vI h],some [vI i,vT j,vU k,vI a]]}
def sq(N:Nat):TS->TS:=λa s=>run vC N xY (alA (run vC N) a) s
def nk(N:Nat)(d:js->Ro):js->Ro:=λ(l,u,k,c,b,e,f,g,h,i,j)=>let S:=(↑(Aa c):Int);let v:=λF D C G L J R H=>(some (.agg [vI F,vT D,vU C,vI G],[some [vT L,vI J,vI R,vI H],some [vI F,vT D,vU C,vI G]]):Ro);cond (decide (b<S)) (chk (ixl b c) (let A:=(↑(AY (Ai c (Ad b) 0)):Int);cond (A==u) (let B:=(Ab .i64 (b+1));aA (tU k) (λ(O:Bool)=>cond (!O) (aA (bH c B e f 2 l) (λq=>v q.1.kind q.1.text q.1.n q.1.pos q.2.1 q.2.2.1 q.2.2.2.1 q.2.2.2.2)) (v 3 k 0 l c B e f))) (cond (A==10) (aA (bH c b e f 2 l) (λr=>v r.1.kind r.1.text r.1.n r.1.pos r.2.1 r.2.2.1 r.2.2.2.1 r.2.2.2.2)) (cond (!(A==92)) (let z:=(Ab .i64 (b+1));chk (decide (0<=z)&&decide (z<=(↑(Aa c):Int))&&(decide (0<=b)&&decide (b<=z))) (let E:=(An (Ad b) (Ao (Ad z) c));chk (decide (Aa k+Aa E<=9223372036854775807)) (let Y:=(Ab .i64 (b+1));d (l,u,(k++E),c,Y,e,f,g,h,i,j)))) (let M:=(Ab .i64 (b+1));aA (cj c M e f 0) (λa=>cond (a.1==110) (chk (decide (Aa k+Aa ([10]:Bs)<=9223372036854775807)) (let P:=(k++([10]:Bs));let W:=(Ab .i64 (a.2.2.1+1));d (l,u,P,a.2.1,W,a.2.2.2.1,a.2.2.2.2,g,h,i,j))) (cond (a.1==92) (let m:=(Ab .i64 (a.2.2.1+1));chk (decide (0<=m)&&decide (m<=(↑(Aa a.2.1):Int))&&(decide (0<=a.2.2.1)&&decide (a.2.2.1<=m))) (let w:=(An (Ad a.2.2.1) (Ao (Ad m) a.2.1));chk (decide (Aa k+Aa w<=9223372036854775807)) (let I:=(Ab .i64 (a.2.2.1+1));d (l,u,(k++w),a.2.1,I,a.2.2.2.1,a.2.2.2.2,g,h,i,j)))) (cond (a.1==34) (let o:=(Ab .i64 (a.2.2.1+1));chk (decide (0<=o)&&decide (o<=(↑(Aa a.2.1):Int))&&(decide (0<=a.2.2.1)&&decide (a.2.2.1<=o))) (let x:=(An (Ad a.2.2.1) (Ao (Ad o) a.2.1));chk (decide (Aa k+Aa x<=9223372036854775807)) (let Q:=(Ab .i64 (a.2.2.1+1));d (l,u,(k++x),a.2.1,Q,a.2.2.2.1,a.2.2.2.2,g,h,i,j)))) (cond (a.1==39) (let p:=(Ab .i64 (a.2.2.1+1));chk (decide (0<=p)&&decide (p<=(↑(Aa a.2.1):Int))&&(decide (0<=a.2.2.1)&&decide (a.2.2.1<=p))) (let y:=(An (Ad a.2.2.1) (Ao (Ad p) a.2.1));chk (decide (Aa k+Aa y<=9223372036854775807)) (let X:=(Ab .i64 (a.2.2.1+1));d (l,u,(k++y),a.2.1,X,a.2.2.2.1,a.2.2.2.2,g,h,i,j)))) (aA (bH a.2.1 a.2.2.1 a.2.2.2.1 a.2.2.2.2 2 l) (λs=>v s.1.kind s.1.text s.1.n s.1.pos s.2.1 s.2.2.1 s.2.2.2.1 s.2.2.2.2))))))))))) (aA (bH c b e f 2 l) (λt=>v t.1.kind t.1.text t.1.n t.1.pos t.2.1 t.2.2.1 t.2.2.2.1 t.2.2.2.2))
theorem ajv(N:Nat):LB (sq N) lV (nk N):=λ_ _=>by kernel_rfl
def kr(N:Nat)(b:Bs)(a c d:Int)(e:js->Ro):Ro:=chk (ixl a b) (let f:=(↑(AY (Ai b (Ad a) 0)):Int);let g:=(Ab .i64 (a+1));e (a,f,[],b,g,c,d,0,[],0,0))
def acy(N:Nat)(a:Bs)(b c d:Int):Ro:=kr N a b c d (λz=>aN N (nk N) z)
theorem alB(N:Nat)(a:Bs)(c d g:Int)(h:Tot (acy N a c d g) (λz=>∃i j k l m rest,z.1.dimR=.agg (enc .tok i)∧z.2=some [vT j,vI k,vI l,vI m]::rest∧yM a c d g (i,j,k,l,m))):∃r,fY a c d g r:=FnC.finO (css:=[[vT a,vI c,vI d,vI g]]) ant (N:=N) ((bK _ (by kernel_rfl) rfl (λC=>kr N a c d g (λz=>C 1000000 (lV z))) (λC=>by kernel_rfl)).trans (AE (b:=kr N a c d g (λz=>aZ N (sq N) (lV z))) (by kernel_rfl) (congrArg (kr N a c d g) (funext λz=>aW (lV) (sq N) (nk N) (ajv N) N z)))) h λ_ ⟨i,j,k,l,m,_,e,f,q⟩=>⟨(i,j,k,l,m),e,⟨_,f⟩,q⟩
def lC:aI:=tb_ [] [po,vA,alw,apQ] [] [adk,ae2]
def zq:IR:=Sq (Rs [Mv 42 0,Ca 43 245 [42,kI 0],Ca 44 244 [43],Mv 45 44,Gf 45 (.mov 46 0),Gf 45 (.call 47 245 [46,kI 0]),Gf 45 (.call 48 246 [47]),Po 49 45 48,Mv 50 49,Gf 50 (.mov 51 0),Gf 50 (.call 52 245 [51,kI 0]),Gf 50 (.bin 53 .eql 52 (.c (.int .u8 46))),Gf 50 (.mov 54 53),Gt 54 (.mov 55 0),Gt 54 (.call 56 245 [55,kI 1]),Gt 54 (.call 57 244 [56]),Gf 50 (.pick 58 54 57 (kB false)),Po 59 50 58] (Cn 59 .skip (.exit 1))) (.block 2 (Rg [Mv 60 0,Nk 61 60,Fa 62 1 61,Lo 63 62,Bc 64 .add 63 1,Nk 65 60,Fa 66 1 65,Sv 1 66 64]))
def zr:IR:=Sq (.reg [Mv 67 0,Nk 68 67,Fa 69 0 68,Fo [0] [] (.ld 70 1 false false 69),Mv 71 3,Mv 72 0,Nk 73 72,Fa 74 1 73,Fo [0] [] (.ld 75 1 false false 74),Pp (.subs 76 70 (some 71) (some 75)),Mv 77 3,Pp (.bld 78 [vI 0,vS,vU 0,vI 0] [(0,1,kI 1),(1,1,76),(3,1,77)]),Fo [] [1] (.st none 4 2 78)] [[],[0],[0,1],[0,1,2],[],[],[5],[5,6],[5,6,7],rg 0 8,[],rg 0 10,rg 0 11]) .ret
def ya:IR:=Sq (Rs [Mv 93 5,Bc 94 .lss 93 12] (Cn 94 .skip (.exit 3))) (Sq (.block 4 (Rs [Mv 97 5,Pp (.idx 98 (kS [123,125,40,41,91,93,61,59,44,60,62,45]) 97),Mv 99 4,Bi 100 .eql 98 99] (Cn 100 (Rs [Mv 101 0,Nk 102 101,Fa 103 1 102,Lo 104 103,Bc 105 .add 104 1,Nk 106 101,Fa 107 1 106,Sv 1 107 105] (Sq (.reg [Mv 108 0,Nk 109 108,Fa 110 0 109,Fo [0] [] (.ld 111 1 false false 110),Mv 112 3,Mv 113 0,Nk 114 113,Fa 115 1 114,Fo [0] [] (.ld 116 1 false false 115),Pp (.subs 117 111 (some 112) (some 116)),Mv 118 3,Pp (.bld 119 [vI 0,vS,vU 0,vI 0] [(0,1,kI 4),(1,1,117),(3,1,118)]),Fo [] [1] (.st none 4 2 119)] [[],[0],[0,1],[0,1,2],[],[],[5],[5,6],[5,6,7],rg 0 8,[],rg 0 10,rg 0 11]) .ret)) .skip))) (Rg [Mv 95 5,Bc 96 .add 95 1,Mv 5 96]))
def yb:IR:=Rs [Mv 120 0,Mv 121 3,Ca 122 243 [120,kI 2,121],Sv 4 2 122] .ret
def yc:IR:=Sq (Rs [Mi 5 0] (.block 3 (.loop [0,2,3,4,5,1000001] 2 ya))) yb
def acz:IR:=Rs [Pp (.new 2 [vI 0,vS,vU 0,vI 0])] (Rs [Mv 6 0,Nk 7 6,Fa 8 1 7,Lo 9 8,Mv 3 9] (Sq (Rs [Mv 10 3,Mv 11 0,Nk 12 11,Fa 13 0 12,Lo 14 13,Pp (.lens 15 14),Bi 16 .eql 10 15] (Cn 16 (Rs [Mv 17 3,Pp (.bld 18 [vI 0,vS,vU 0,vI 0] [(0,1,kI 5),(3,1,17)]),Sv 4 2 18] .ret) .skip)) (Rs [Mv 19 0,Nk 20 19,Fa 21 0 20,Lo 22 21,Mv 23 3,Pp (.idx 24 22 23),Mv 4 24] (Sq (.block 0 (Sq (Rs [Mv 26 4,Ca 27 244 [26],Mv 25 27] (Cn 25 .skip (Rg [Mv 28 4,Pp (.bin 29 .eql 28 (.c (.int .u8 46))),Mv 30 29,Gt 30 (.mov 31 0),Gt 30 (.call 32 245 [31,kI 1]),Gt 30 (.call 33 244 [32]),Pa 34 30 33,Mv 25 34]))) (Cn 25 (Rs [Mv 35 0,Nk 36 35,Fa 37 1 36,Lo 38 37,Bc 39 .add 38 1,Nk 40 35,Fa 41 1 40,Sv 1 41 39] (Sq (.block 1 (.loop [0,2,3,1000000] 2 zq)) zr)) (Rs [Mv 80 4,Ca 81 246 [80],Mv 79 81] (Cn 79 (Rs [Mv 82 0,Ca 83 247 [82],Sv 4 2 83] .ret) (Rs [Mv 85 4,Pp (.bin 86 .eql 85 (.c (.int .u8 34))),Mv 87 86,Gf 87 (.mov 88 4),Gf 87 (.bin 89 .eql 88 (.c (.int .u8 39))),Po 90 87 89,Mv 84 90] (Cn 84 (Rs [Mv 91 0,Ca 92 248 [91],Sv 4 2 92] .ret) .skip))))))) yc))))
theorem anu:FnC Tryz.prog lC [243,245,247,248,2000243,2000245,2000247,2000248] 1 228 Tryz.f228 acz cF:=fnC Tryz.func228
def alC(R:TRr)(a:TS):TE:=(bu a [0,2,3,1000000] 2 (aP 1 (kseq (R zr) (aP 0 (kseq (R yc) (fin cF))))))
abbrev jt:Type:=(Int×Bs×Int×Int×Int×Int×Bs×Int×Int)
def lW:jt->St:=λ(a,b,c,d,e,f,g,h,i)=>{env:=(.ptr 0 0::.undef::.ptr 1 0::vI a::(U 119 [])),hp:=[some [vT b,vI c,vI d,vI e],some [vI f,vT g,vU h,vI i]]}
def su(N:Nat):TS->TS:=λa s=>run lC N zq (alC (run lC N) a) s
def ju(N:Nat)(a:jt->Ro):jt->Ro:=λ(d,k,l,m,n,e,f,g,h)=>let o:=λp q r s t=>(some (.agg [vI 1,vT p,vU 0,vI d],[some [vT q,vI r,vI s,vI t],some [vI 1,vT p,vU 0,vI d]]):Ro);aA (cj k l m n 0) (λi=>aA (dR i.1) (λ(u:Bool)=>cond u (let v:=(Ab .i64 (i.2.2.1+1));a (d,i.2.1,v,i.2.2.2.1,i.2.2.2.2,e,f,g,h)) (aA (cj i.2.1 i.2.2.1 i.2.2.2.1 i.2.2.2.2 0) (λj=>aA (eS j.1) (λ(w:Bool)=>cond w (let x:=(Ab .i64 (j.2.2.1+1));a (d,j.2.1,x,j.2.2.2.1,j.2.2.2.2,e,f,g,h)) (aA (cj j.2.1 j.2.2.1 j.2.2.2.1 j.2.2.2.2 0) (λb=>cond (b.1==46) (aA (cj b.2.1 b.2.2.1 b.2.2.2.1 b.2.2.2.2 1) (λc=>aA (dR c.1) (λ(y:Bool)=>cond y (let z:=(Ab .i64 (c.2.2.1+1));a (d,c.2.1,z,c.2.2.2.1,c.2.2.2.2,e,f,g,h)) (chk (decide (0<=c.2.2.1)&&decide (c.2.2.1<=(↑(Aa c.2.1):Int))&&(decide (0<=d)&&decide (d<=c.2.2.1))) (let A:=(An (Ad d) (Ao (Ad c.2.2.1) c.2.1));o A c.2.1 c.2.2.1 c.2.2.2.1 c.2.2.2.2))))) (chk (decide (0<=b.2.2.1)&&decide (b.2.2.1<=(↑(Aa b.2.1):Int))&&(decide (0<=d)&&decide (d<=b.2.2.1))) (let B:=(An (Ad d) (Ao (Ad b.2.2.1) b.2.1));o B b.2.1 b.2.2.1 b.2.2.2.1 b.2.2.2.2)))))))))
theorem ajw(N:Nat):LB (su N) lW (ju N):=λ_ _=>by kernel_rfl
def alD(R:TRr)(a:TS):TE:=(bu a [0,2,3,4,5,1000001] 2 (aP 3 (kseq (R yb) (fin cF))))
def lX:cX->St:=λ(b,c,d,e,f,g,h,i,j,k,a)=>{env:=(.ptr 0 0::.undef::.ptr 1 0::vI b::.int .u8 c::vI d::(U 117 [])),hp:=[some [vT e,vI f,vI g,vI h],some [vI i,vT j,vU k,vI a]]}
def sA(N:Nat):TS->TS:=λa s=>run lC N ya (alD (run lC N) a) s
def jv(N:Nat)(g:cX->Ro):cX->Ro:=λ(h,r,m,a,c,d,e,i,j,k,l)=>let s:=λt u v w x y z A=>(some (.agg [vI t,vT u,vU v,vI w],[some [vT x,vI y,vI z,vI A],some [vI t,vT u,vU v,vI w]]):Ro);cond (decide (m<12)) (chk (ixl m [123,125,40,41,91,93,61,59,44,60,62,45]) (let o:=(↑(AY (Ai [123,125,40,41,91,93,61,59,44,60,62,45] (Ad m) 0)):Int);cond (o==r) (let f:=(Ab .i64 (c+1));chk (decide (0<=f)&&decide (f<=(↑(Aa a):Int))&&(decide (0<=h)&&decide (h<=f))) (let p:=(An (Ad h) (Ao (Ad f) a));s 4 p 0 h a f d e)) (let q:=(Ab .i64 (m+1));g (h,r,q,a,c,d,e,i,j,k,l)))) (aA (bH a c d e 2 h) (λb=>s b.1.kind b.1.text b.1.n b.1.pos b.2.1 b.2.2.1 b.2.2.2.1 b.2.2.2.2))
theorem ajx(N:Nat):LB (sA N) lX (jv N):=λ_ _=>by kernel_rfl
def gQ(N:Nat)(b:Bs)(a c d:Int)(r:jt->Ro)(s:cX->Ro):Ro:=let x:=(↑(Aa b):Int);let m:=λt u v w y z D A=>(some (.agg [vI t,vT u,vU v,vI w],[some [vT y,vI z,vI D,vI A],some [vI t,vT u,vU v,vI w]]):Ro);cond (a==x) (m 5 [] 0 a b a c d) (chk (ixl a b) (let l:=(↑(AY (Ai b (Ad a) 0)):Int);aA (dR l) (λ(B:Bool)=>cond B (let C:=(Ab .i64 (a+1));r (a,b,C,c,d,0,[],0,0)) (cond (l==46) (aA (cj b a c d 1) (λe=>aA (dR e.1) (λ(o:Bool)=>cond o (let E:=(Ab .i64 (e.2.2.1+1));r (a,e.2.1,E,e.2.2.2.1,e.2.2.2.2,0,[],0,0)) (aA (eS l) (λ(p:Bool)=>cond p (aA (jq e.2.1 e.2.2.1 e.2.2.2.1 e.2.2.2.2) (λf=>m f.1.kind f.1.text f.1.n f.1.pos f.2.1 f.2.2.1 f.2.2.2.1 f.2.2.2.2)) (cond (l==34) (aA (fY e.2.1 e.2.2.1 e.2.2.2.1 e.2.2.2.2) (λg=>m g.1.kind g.1.text g.1.n g.1.pos g.2.1 g.2.2.1 g.2.2.2.1 g.2.2.2.2)) (cond (l==39) (aA (fY e.2.1 e.2.2.1 e.2.2.2.1 e.2.2.2.2) (λh=>m h.1.kind h.1.text h.1.n h.1.pos h.2.1 h.2.2.1 h.2.2.2.1 h.2.2.2.2)) (s (a,l,0,e.2.1,e.2.2.1,e.2.2.2.1,e.2.2.2.2,0,[],0,0))))))))) (aA (eS l) (λ(q:Bool)=>cond q (aA (jq b a c d) (λi=>m i.1.kind i.1.text i.1.n i.1.pos i.2.1 i.2.2.1 i.2.2.2.1 i.2.2.2.2)) (cond (l==34) (aA (fY b a c d) (λj=>m j.1.kind j.1.text j.1.n j.1.pos j.2.1 j.2.2.1 j.2.2.2.1 j.2.2.2.2)) (cond (l==39) (aA (fY b a c d) (λk=>m k.1.kind k.1.text k.1.n k.1.pos k.2.1 k.2.2.1 k.2.2.2.1 k.2.2.2.2)) (s (a,l,0,b,a,c,d,0,[],0,0))))))))))
def tZ(N:Nat)(a:Bs)(b c d:Int):Ro:=gQ N a b c d (λz=>aN N (ju N) z) (λz=>aN N (jv N) z)
theorem aax(N:Nat)(a:Bs)(c d g:Int)(h:Tot (tZ N a c d g) (λz=>∃i j k l m rest,z.1.dimR=.agg (enc .tok i)∧z.2=some [vT j,vI k,vI l,vI m]::rest∧qu a c d g (i,j,k,l,m))):∃r,lB a c d g r:=FnC.finO (css:=[[vT a,vI c,vI d,vI g]]) anu (N:=N) ((bK _ (by kernel_rfl) rfl (λC=>gQ N a c d g (λz=>C 1000000 (lW z)) (λz=>C 1000001 (lX z))) (λC=>by kernel_rfl)).trans (AE (b:=gQ N a c d g (λz=>aZ N (su N) (lW z)) (λz=>aZ N (sA N) (lX z))) (by kernel_rfl) (congr (congrArg (gQ N a c d g) (funext λz=>aW (lW) (su N) (ju N) (ajw N) N z)) (funext λz=>aW (lX) (sA N) (jv N) (ajx N) N z)))) h λ_ ⟨i,j,k,l,m,_,e,f,q⟩=>⟨(i,j,k,l,m),e,⟨_,f⟩,q⟩
def apS:aI:=tb_ [] [] [] []
def acA:IR:=Rs [Pp (.new 2 [vI 0,vS,vU 0,vI 0])] (Sq (.reg [Mv 3 0,Nk 4 3,Fa 5 0 4,Fo [0] [] (.ld 6 1 false false 5),Mv 7 0,Nk 8 7,Fa 9 1 8,Fo [0] [] (.ld 10 1 false false 9),Ix 11 .tok 6 10,Ld 12 4 true 11,Fo [] [1] (.st none 4 2 12)] [[],[0],[0,1],[0,1,2],[],[4],[4,5],[4,5,6],rg 0 7,rg 0 8,rg 0 9]) .ret)
theorem anv:FnC Tryz.prog apS [] 1 208 Tryz.f208 acA cF:=fnC Tryz.func208
def acB(N:Nat)(a:List Tok)(b d e:Int):Ro:=chk (ixl b a) (let c:=(Ai a (Ad b) (aK .tok));some (.agg [vI c.kind,vT c.text,vU c.n,vI c.pos],[some [vF .tok a,vI b,vI d,vI e],some [vI c.kind,vT c.text,vU c.n,vI c.pos]]))
def acC(N:Nat)(a:List Tok)(b c d:Int):Ro:=acB N a b c d
theorem alE(N:Nat)(a:List Tok)(b c d:Int)(h:Tot (acC N a b c d) (λz=>∃g i j k l rest,z.1.dimR=.agg (enc .tok g)∧z.2=some [vF .tok i,vI j,vI k,vI l]::rest∧yN a b c d (g,i,j,k,l))):∃r,aV a b c d r:=FnC.finO (css:=[[vF .tok a,vI b,vI c,vI d]]) anv (N:=N) (by kernel_rfl) h λ_ ⟨g,i,j,k,l,_,e,f,q⟩=>⟨(g,i,j,k,l),e,⟨_,f⟩,q⟩
def anw:aI:=tb_ [] [db] [] []
def aay:IR:=Rs [Mv 4 0,Nk 5 4,Fa 6 2 5,Lo 7 6,Bc 8 .eql 7 0] (Cn 8 (Rg [Mv 9 0,Mv 10 0,Mv 11 1,Mv 12 0,Ca 13 208 [12],Pp (.fld 14 3 1 false 13),Nk 15 9,Fa 16 2 15,Sv 1 16 11,Nk 17 10,Fa 18 3 17,Sv 1 18 14]) .skip)
theorem alF:FnC Tryz.prog anw [208,2000208] 1 206 Tryz.f206 aay bm:=fnC Tryz.func206
def aaz(N:Nat)(b:List Tok)(c a d g:Int):Ro:=let f:=λh i j k=>(some (.tup [],[some [vF .tok h,vI i,vI j,vI k]]):Ro);cond (a==0) (aA (aV b c a d) (λe=>f e.2.1 e.2.2.1 g e.1.pos)) (f b c a d)
def aaA(N:Nat)(a:List Tok)(b c d e:Int):Ro:=aaz N a b c d e
theorem ajy(N:Nat)(a:List Tok)(b c d l:Int)(h:Tot (aaA N a b c d l) (λz=>∃g i j k rest,z.1.dimR=.tup []∧z.2=some [vF .tok g,vI i,vI j,vI k]::rest∧xL a b c d l (g,i,j,k))):∃r,aM a b c d l r:=FnC.finO (css:=[[vF .tok a,vI b,vI c,vI d]]) alF (N:=N) (by kernel_rfl) h λ_ ⟨g,i,j,k,_,e,f,q⟩=>⟨(g,i,j,k),e,⟨_,f⟩,q⟩
def anx:aI:=tb_ [] [db] [] []
def aaB:IR:=Rs [Mb 4 false] (Rs [Mv 5 0,Nk 6 5,Fa 7 2 6,Lo 8 7,Bc 9 .eql 8 0,Mv 10 9,Gt 10 (.mov 11 0),Gt 10 (.call 12 208 [11]),Gt 10 (.fld 13 0 1 false 12),Gt 10 (.bin 14 .eql 13 (kI 4)),Pa 15 10 14,Mv 16 15,Gt 16 (.mov 17 0),Gt 16 (.call 18 208 [17]),Gt 16 (.fld 19 1 1 false 18),Gt 16 (.mov 20 1),Gt 16 (.bin 21 .eql 19 20),Pa 22 16 21,Mv 4 22] .ret)
theorem alG:FnC Tryz.prog anx [208,2000208] 1 210 Tryz.f210 aaB aR:=fnC Tryz.func210
def aaC(N:Nat)(c:List Tok)(d a e:Int)(h:Bs):Ro:=let g:=λi j k l m=>(some (vB i,[some [vF .tok j,vI k,vI l,vI m]]):Ro);cond (a==0) (aA (aV c d a e) (λb=>cond (b.1.kind==4) (aA (aV b.2.1 b.2.2.1 b.2.2.2.1 b.2.2.2.2) (λf=>g (decide (f.1.text=h)) f.2.1 f.2.2.1 f.2.2.2.1 f.2.2.2.2)) (g false b.2.1 b.2.2.1 b.2.2.2.1 b.2.2.2.2))) (g false c d a e)
def aaD(N:Nat)(a:List Tok)(b c d:Int)(e:Bs):Ro:=aaC N a b c d e
theorem ajz(N:Nat)(a:List Tok)(b c d:Int)(m:Bs)(h:Tot (aaD N a b c d m) (λz=>∃g i j k l rest,z.1.dimR=vB g∧z.2=some [vF .tok i,vI j,vI k,vI l]::rest∧gF a b c d m (g,i,j,k,l))):∃r,bk a b c d m r:=FnC.finO (css:=[[vF .tok a,vI b,vI c,vI d]]) alG (N:=N) (by kernel_rfl) h λ_ ⟨g,i,j,k,l,_,e,f,q⟩=>⟨(g,i,j,k,l),e,⟨_,f⟩,q⟩
def anz:aI:=tb_ [] [db] [] []
def aaE:IR:=Rs [Mb 4 false] (Rs [Mv 5 0,Nk 6 5,Fa 7 2 6,Lo 8 7,Bc 9 .eql 8 0,Mv 10 9,Gt 10 (.mov 11 0),Gt 10 (.call 12 208 [11]),Gt 10 (.fld 13 0 1 false 12),Gt 10 (.bin 14 .eql 13 (kI 1)),Pa 15 10 14,Mv 16 15,Gt 16 (.mov 17 0),Gt 16 (.call 18 208 [17]),Gt 16 (.fld 19 1 1 false 18),Gt 16 (.mov 20 1),Gt 16 (.bin 21 .eql 19 20),Pa 22 16 21,Mv 4 22] .ret)
theorem alH:FnC Tryz.prog anz [208,2000208] 1 211 Tryz.f211 aaE aR:=fnC Tryz.func211
def aaF(N:Nat)(c:List Tok)(d a e:Int)(h:Bs):Ro:=let g:=λi j k l m=>(some (vB i,[some [vF .tok j,vI k,vI l,vI m]]):Ro);cond (a==0) (aA (aV c d a e) (λb=>cond (b.1.kind==1) (aA (aV b.2.1 b.2.2.1 b.2.2.2.1 b.2.2.2.2) (λf=>g (decide (f.1.text=h)) f.2.1 f.2.2.1 f.2.2.2.1 f.2.2.2.2)) (g false b.2.1 b.2.2.1 b.2.2.2.1 b.2.2.2.2))) (g false c d a e)
def aaG(N:Nat)(a:List Tok)(b c d:Int)(e:Bs):Ro:=aaF N a b c d e
theorem ajA(N:Nat)(a:List Tok)(b c d:Int)(m:Bs)(h:Tot (aaG N a b c d m) (λz=>∃g i j k l rest,z.1.dimR=vB g∧z.2=some [vF .tok i,vI j,vI k,vI l]::rest∧gG a b c d m (g,i,j,k,l))):∃r,bZ a b c d m r:=FnC.finO (css:=[[vF .tok a,vI b,vI c,vI d]]) alH (N:=N) (by kernel_rfl) h λ_ ⟨g,i,j,k,l,_,e,f,q⟩=>⟨(g,i,j,k,l),e,⟨_,f⟩,q⟩
def anA:aI:=tb_ [] [cA,fC] [] []
def aaH:IR:=Sq (Rs [Mv 4 0,Mv 5 1,Ca 6 210 [4,5],Un 7 6] (Cn 7 (Rs [Mv 8 0,Ca 9 206 [8,kI 2]] .ret) .skip)) (Rg [Mv 10 0,Nk 11 10,Fa 12 1 11,Lo 13 12,Bc 14 .add 13 1,Nk 15 10,Fa 16 1 15,Sv 1 16 14])
theorem alI:FnC Tryz.prog anA [206,210,2000206,2000210] 1 207 Tryz.f207 aaH bm:=fnC Tryz.func207
def aaI(N:Nat)(b:List Tok)(c d e:Int)(h:Bs):Ro:=let g:=λi j k l=>(some (.tup [],[some [vF .tok i,vI j,vI k,vI l]]):Ro);aA (bk b c d e h) (λa=>cond (!a.1) (aA (aM a.2.1 a.2.2.1 a.2.2.2.1 a.2.2.2.2 2) (λf=>g f.1 f.2.1 f.2.2.1 f.2.2.2)) (let m:=(Ab .i64 (a.2.2.1+1));g a.2.1 m a.2.2.2.1 a.2.2.2.2))
def aaJ(N:Nat)(a:List Tok)(b c d:Int)(e:Bs):Ro:=aaI N a b c d e
theorem ajB(N:Nat)(a:List Tok)(b c d:Int)(l:Bs)(h:Tot (aaJ N a b c d l) (λz=>∃g i j k rest,z.1.dimR=.tup []∧z.2=some [vF .tok g,vI i,vI j,vI k]::rest∧xM a b c d l (g,i,j,k))):∃r,aF a b c d l r:=FnC.finO (css:=[[vF .tok a,vI b,vI c,vI d]]) alI (N:=N) (by kernel_rfl) h λ_ ⟨g,i,j,k,_,e,f,q⟩=>⟨(g,i,j,k),e,⟨_,f⟩,q⟩
def anB:aI:=tb_ [] [nY] [] []
def aaK:IR:=Rs [Mb 4 false] (Sq (Rs [Mv 5 0,Mv 6 1,Ca 7 211 [5,6]] (Cn 7 (Rs [Mv 8 0,Nk 9 8,Fa 10 1 9,Lo 11 10,Bc 12 .add 11 1,Nk 13 8,Fa 14 1 13,Sv 1 14 12] (Rs [Mb 4 true] .ret)) .skip)) (Rs [Mb 4 false] .ret))
theorem alJ:FnC Tryz.prog anB [211,2000211] 1 205 Tryz.f205 aaK aR:=fnC Tryz.func205
def aaL(N:Nat)(b:List Tok)(c d e:Int)(g:Bs):Ro:=let f:=λh i j k l=>(some (vB h,[some [vF .tok i,vI j,vI k,vI l]]):Ro);aA (bZ b c d e g) (λa=>cond a.1 (let m:=(Ab .i64 (a.2.2.1+1));f true a.2.1 m a.2.2.2.1 a.2.2.2.2) (f false a.2.1 a.2.2.1 a.2.2.2.1 a.2.2.2.2))
def aaM(N:Nat)(a:List Tok)(b c d:Int)(e:Bs):Ro:=aaL N a b c d e
theorem ajC(N:Nat)(a:List Tok)(b c d:Int)(m:Bs)(h:Tot (aaM N a b c d m) (λz=>∃g i j k l rest,z.1.dimR=vB g∧z.2=some [vF .tok i,vI j,vI k,vI l]::rest∧gH a b c d m (g,i,j,k,l))):∃r,bM a b c d m r:=FnC.finO (css:=[[vF .tok a,vI b,vI c,vI d]]) alJ (N:=N) (by kernel_rfl) h λ_ ⟨g,i,j,k,l,_,e,f,q⟩=>⟨(g,i,j,k,l),e,⟨_,f⟩,q⟩
def alK:aI:=tb_ [] [cA,db] [] [ano]
def zt:IR:=Rs [Ms 2 []] (Rs [Mv 4 0,Ca 5 208 [4],Pp (.alr 3 4),Fz 3 4 5] (Sq (Rs [Mv 6 0,Nk 7 6,Fa 8 2 7,Lo 9 8,Bc 10 .neq 9 0,Mv 11 10,Gf 11 (.fad 12 0 3),Gf 11 (.lde 13 1 false 12),Gf 11 (.bin 14 .neq 13 (kI 1)),Po 15 11 14,Mv 16 15,Gf 16 (.fad 17 1 3),Gf 16 (.lde 18 1 false 17),Gf 16 (.call 19 234 [18]),Gf 16 (.un 20 .not 19),Po 21 16 20] (Cn 21 (Rs [Mv 22 0,Ca 23 206 [22,kI 2]] (Rs [Ms 2 []] .ret)) .skip)) (Rs [Mv 24 0,Nk 25 24,Fa 26 1 25,Lo 27 26,Bc 28 .add 27 1,Nk 29 24,Fa 30 1 29,Sv 1 30 28] (Rs [Fa 31 1 3,Lq 32 31,Mv 2 32] .ret))))
theorem ajD:FnC Tryz.prog alK [206,208,2000206,2000208] 1 229 Tryz.f229 zt aE:=fnC Tryz.func229
def zu(N:Nat)(b:List Tok)(c d e:Int):Ro:=let f:=λj k l m n=>(some (vT j,[some [vF .tok k,vI l,vI m,vI n]]):Ro);aA (aV b c d e) (λa=>cond (!(a.2.2.2.1==0)) (aA (aM a.2.1 a.2.2.1 a.2.2.2.1 a.2.2.2.2 2) (λg=>f [] g.1 g.2.1 g.2.2.1 g.2.2.2)) (cond (!(a.1.kind==1)) (aA (aM a.2.1 a.2.2.1 a.2.2.2.1 a.2.2.2.2 2) (λh=>f [] h.1 h.2.1 h.2.2.1 h.2.2.2)) (aA (pL a.1.text) (λ(o:Bool)=>cond (!o) (aA (aM a.2.1 a.2.2.1 a.2.2.2.1 a.2.2.2.2 2) (λi=>f [] i.1 i.2.1 i.2.2.1 i.2.2.2)) (let p:=(Ab .i64 (a.2.2.1+1));f a.1.text a.2.1 p a.2.2.2.1 a.2.2.2.2)))))
def zv(N:Nat)(a:List Tok)(b c d:Int):Ro:=zu N a b c d
theorem ahR(N:Nat)(a:List Tok)(b c d:Int)(h:Tot (zv N a b c d) (λz=>∃g i j k l rest,z.1.dimR=vT g∧z.2=some [vF .tok i,vI j,vI k,vI l]::rest∧vR a b c d (g,i,j,k,l))):∃r,cZ a b c d r:=FnC.finO (css:=[[vF .tok a,vI b,vI c,vI d]]) ajD (N:=N) (by kernel_rfl) h λ_ ⟨g,i,j,k,l,_,e,f,q⟩=>⟨(g,i,j,k,l),e,⟨_,f⟩,q⟩
def anC:aI:=tb_ [] [cA,db] [] []
def aaN:IR:=Rs [Ms 2 []] (Rs [Mv 4 0,Ca 5 208 [4],Pp (.alr 3 4),Fz 3 4 5] (Sq (Rs [Mv 6 0,Nk 7 6,Fa 8 2 7,Lo 9 8,Bc 10 .neq 9 0,Mv 11 10,Gf 11 (.fad 12 0 3),Gf 11 (.lde 13 1 false 12),Gf 11 (.bin 14 .neq 13 (kI 1)),Po 15 11 14] (Cn 15 (Rs [Mv 16 0,Ca 17 206 [16,kI 2]] (Rs [Ms 2 []] .ret)) .skip)) (Rs [Mv 18 0,Nk 19 18,Fa 20 1 19,Lo 21 20,Bc 22 .add 21 1,Nk 23 18,Fa 24 1 23,Sv 1 24 22] (Rs [Fa 25 1 3,Lq 26 25,Mv 2 26] .ret))))
theorem alL:FnC Tryz.prog anC [206,208,2000206,2000208] 1 212 Tryz.f212 aaN aE:=fnC Tryz.func212
def aaO(N:Nat)(b:List Tok)(c d e:Int):Ro:=let h:=λi j k l m=>(some (vT i,[some [vF .tok j,vI k,vI l,vI m]]):Ro);aA (aV b c d e) (λa=>cond (!(a.2.2.2.1==0)) (aA (aM a.2.1 a.2.2.1 a.2.2.2.1 a.2.2.2.2 2) (λf=>h [] f.1 f.2.1 f.2.2.1 f.2.2.2)) (cond (!(a.1.kind==1)) (aA (aM a.2.1 a.2.2.1 a.2.2.2.1 a.2.2.2.2 2) (λg=>h [] g.1 g.2.1 g.2.2.1 g.2.2.2)) (let n:=(Ab .i64 (a.2.2.1+1));h a.1.text a.2.1 n a.2.2.2.1 a.2.2.2.2)))
def aaP(N:Nat)(a:List Tok)(b c d:Int):Ro:=aaO N a b c d
theorem ajE(N:Nat)(a:List Tok)(b c d:Int)(h:Tot (aaP N a b c d) (λz=>∃g i j k l rest,z.1.dimR=vT g∧z.2=some [vF .tok i,vI j,vI k,vI l]::rest∧xN a b c d (g,i,j,k,l))):∃r,cV a b c d r:=FnC.finO (css:=[[vF .tok a,vI b,vI c,vI d]]) alL (N:=N) (by kernel_rfl) h λ_ ⟨g,i,j,k,l,_,e,f,q⟩=>⟨(g,i,j,k,l),e,⟨_,f⟩,q⟩
def apT:aI:=tb_ [] [cA,db] [] []
def acD:IR:=Rs [Pp (.mov 2 (kU 0))] (Rs [Mv 4 0,Ca 5 208 [4],Pp (.alr 3 4),Fz 3 4 5] (Sq (Rs [Mv 6 0,Nk 7 6,Fa 8 2 7,Lo 9 8,Bc 10 .neq 9 0,Mv 11 10,Gf 11 (.fad 12 0 3),Gf 11 (.lde 13 1 false 12),Gf 11 (.bin 14 .neq 13 (kI 2)),Po 15 11 14] (Cn 15 (Rs [Mv 16 0,Ca 17 206 [16,kI 2]] (Rs [Pp (.mov 2 (kU 0))] .ret)) .skip)) (Rs [Mv 18 0,Nk 19 18,Fa 20 1 19,Lo 21 20,Bc 22 .add 21 1,Nk 23 18,Fa 24 1 23,Sv 1 24 22] (Rs [Fa 25 2 3,Lq 26 25,Mv 2 26] .ret))))
theorem anD:FnC Tryz.prog apT [206,208,2000206,2000208] 1 235 Tryz.f235 acD aE:=fnC Tryz.func235
def acE(N:Nat)(b:List Tok)(c d e:Int):Ro:=let h:=λi j k l m=>(some (vU i,[some [vF .tok j,vI k,vI l,vI m]]):Ro);aA (aV b c d e) (λa=>cond (!(a.2.2.2.1==0)) (aA (aM a.2.1 a.2.2.1 a.2.2.2.1 a.2.2.2.2 2) (λf=>h 0 f.1 f.2.1 f.2.2.1 f.2.2.2)) (cond (!(a.1.kind==2)) (aA (aM a.2.1 a.2.2.1 a.2.2.2.1 a.2.2.2.2 2) (λg=>h 0 g.1 g.2.1 g.2.2.1 g.2.2.2)) (let o:=(Ab .i64 (a.2.2.1+1));h a.1.n a.2.1 o a.2.2.2.1 a.2.2.2.2)))
def acF(N:Nat)(a:List Tok)(b c d:Int):Ro:=acE N a b c d
theorem alM(N:Nat)(a:List Tok)(b c d:Int)(h:Tot (acF N a b c d) (λz=>∃g i j k l rest,z.1.dimR=vU g∧z.2=some [vF .tok i,vI j,vI k,vI l]::rest∧yO a b c d (g,i,j,k,l))):∃r,dx a b c d r:=FnC.finO (css:=[[vF .tok a,vI b,vI c,vI d]]) anD (N:=N) (by kernel_rfl) h λ_ ⟨g,i,j,k,l,_,e,f,q⟩=>⟨(g,i,j,k,l),e,⟨_,f⟩,q⟩
def anE:aI:=tb_ [] [cA,db] [] []
def aaQ:IR:=Rs [Ms 2 []] (Rs [Mv 4 0,Ca 5 208 [4],Pp (.alr 3 4),Fz 3 4 5] (Sq (Rs [Mv 6 0,Nk 7 6,Fa 8 2 7,Lo 9 8,Bc 10 .neq 9 0,Mv 11 10,Gf 11 (.fad 12 0 3),Gf 11 (.lde 13 1 false 12),Gf 11 (.bin 14 .neq 13 (kI 3)),Po 15 11 14] (Cn 15 (Rs [Mv 16 0,Ca 17 206 [16,kI 2]] (Rs [Ms 2 []] .ret)) .skip)) (Rs [Mv 18 0,Nk 19 18,Fa 20 1 19,Lo 21 20,Bc 22 .add 21 1,Nk 23 18,Fa 24 1 23,Sv 1 24 22] (Rs [Fa 25 1 3,Lq 26 25,Mv 2 26] .ret))))
theorem alN:FnC Tryz.prog anE [206,208,2000206,2000208] 1 209 Tryz.f209 aaQ aE:=fnC Tryz.func209
def aaR(N:Nat)(b:List Tok)(c d e:Int):Ro:=let h:=λi j k l m=>(some (vT i,[some [vF .tok j,vI k,vI l,vI m]]):Ro);aA (aV b c d e) (λa=>cond (!(a.2.2.2.1==0)) (aA (aM a.2.1 a.2.2.1 a.2.2.2.1 a.2.2.2.2 2) (λf=>h [] f.1 f.2.1 f.2.2.1 f.2.2.2)) (cond (!(a.1.kind==3)) (aA (aM a.2.1 a.2.2.1 a.2.2.2.1 a.2.2.2.2 2) (λg=>h [] g.1 g.2.1 g.2.2.1 g.2.2.2)) (let n:=(Ab .i64 (a.2.2.1+1));h a.1.text a.2.1 n a.2.2.2.1 a.2.2.2.2)))
def aaS(N:Nat)(a:List Tok)(b c d:Int):Ro:=aaR N a b c d
theorem ajF(N:Nat)(a:List Tok)(b c d:Int)(h:Tot (aaS N a b c d) (λz=>∃g i j k l rest,z.1.dimR=vT g∧z.2=some [vF .tok i,vI j,vI k,vI l]::rest∧xO a b c d (g,i,j,k,l))):∃r,bz a b c d r:=FnC.finO (css:=[[vF .tok a,vI b,vI c,vI d]]) alN (N:=N) (by kernel_rfl) h λ_ ⟨g,i,j,k,l,_,e,f,q⟩=>⟨(g,i,j,k,l),e,⟨_,f⟩,q⟩
def ae3:aI:=tb_ [] [] [] []
def agn:IR:=Sq (Rs [Mv 4 3,Mv 5 0,Pp (.lens 6 5),Bi 7 .lss 4 6] (Cn 7 .skip (.exit 0))) (Sq (.block 1 (Rs [Mv 10 0,Mv 11 3,Pp (.idx 12 10 11),Pp (.bin 13 .eql 12 (.c (.int .u8 46)))] (Cn 13 (Rs [Mb 2 false] .ret) .skip))) (Rg [Mv 8 3,Bc 9 .add 8 1,Mv 3 9]))
def ago:IR:=Rs [Mv 14 0,Pp (.bin 15 .neq 14 (kS [])),Mv 2 15] .ret
def akU:IR:=Rs [Mb 2 false] (Sq (Rs [Mi 3 0] (.block 0 (.loop [0,3,1000000] 0 agn))) ago)
theorem ayz:FnC Tryz.prog ae3 [] 0 234 Tryz.f234 akU aE:=fnC Tryz.func234
def av1(R:TRr)(a:TS):TE:=(bu a [0,3,1000000] 0 (aP 0 (kseq (R ago) (fin aE))))
def sT:fM->St:=λ(a,b)=>{env:=(vT a::.undef::.undef::vI b::(U 12 [])),hp:=[]}
def abz(N:Nat):TS->TS:=λa s=>run ae3 N agn (av1 (run ae3 N) a) s
def uR(N:Nat)(a:fM->Ro):fM->Ro:=λ(b,c)=>let d:=(↑(Aa b):Int);cond (decide (c<d)) (chk (ixl c b) (let e:=(↑(AY (Ai b (Ad c) 0)):Int);cond (e==46) (some (vB false,[])) (let f:=(Ab .i64 (c+1));a (b,f)))) (let g:=(!decide (b=[]));some (vB g,[]))
theorem at1(N:Nat):LB (abz N) sT (uR N):=λ_ _=>by kernel_rfl
def rB(N:Nat)(a:Bs)(b:fM->Ro):Ro:=b (a,0)
def akV(N:Nat)(a:Bs):Ro:=rB N a (λz=>aN N (uR N) z)
theorem av2(N:Nat)(a:Bs)(h:Tot (akV N a) (λz=>∃c rest,z.1.dimR=vB c∧z.2=rest)):∃r,pL a r:=ayz.finP0 (N:=N) ((bK _ (by kernel_rfl) rfl (λC=>rB N a (λz=>C 1000000 (sT z))) (λC=>by kernel_rfl)).trans (AE (b:=rB N a (λz=>aZ N (abz N) (sT z))) (by kernel_rfl) (congrArg (rB N a) (funext λz=>aW (sT) (abz N) (uR N) (at1 N) N z)))) h λ_ ⟨c,_,e,_⟩=>⟨(c),e⟩
def aha:aI:=tb_ [] [] [] []
def ahS:IR:=Sq (Rs [Mv 6 4,Mv 7 3,Ll 8 7,Bi 9 .lss 6 8] (Cn 9 .skip (.exit 0))) (Sq (.block 1 (Rs [Mv 12 3,Mv 13 4,Ix 14 .str 12 13,Lq 15 14,Mv 16 0,Bi 17 .eql 15 16] (Cn 17 (Rs [Mv 18 4,Bc 19 .add 18 1,Mv 2 19] .ret) .skip))) (Rg [Mv 10 4,Bc 11 .add 10 1,Mv 4 11]))
def ahT:IR:=Rs [Mi 2 0] .ret
def anF:IR:=Rs [Mi 2 0] (Rs [Pp (.bsl 5 .str [kS [100,111,117,98,108,101],kS [102,108,111,97,116],kS [105,110,116,51,50],kS [105,110,116,54,52],kS [117,105,110,116,51,50],kS [117,105,110,116,54,52],kS [115,105,110,116,51,50],kS [115,105,110,116,54,52],kS [102,105,120,101,100,51,50],kS [102,105,120,101,100,54,52],kS [115,102,105,120,101,100,51,50],kS [115,102,105,120,101,100,54,52],kS [98,111,111,108],kS [115,116,114,105,110,103],kS [98,121,116,101,115]] true),Mv 3 5] (Sq (Rs [Mi 4 0] (.block 0 (.loop [0,3,4,1000000] 0 ahS))) ahT))
theorem aBd:FnC Tryz.prog aha [] 0 182 Tryz.f182 anF aE:=fnC Tryz.func182
def ayA(R:TRr)(a:TS):TE:=(bu a [0,3,4,1000000] 0 (aP 0 (kseq (R ahT) (fin aE))))
abbrev rC:Type:=(Bs×Bool×Bss×Int)
def uS:rC->St:=λ(a,b,c,d)=>{env:=(vT a::.undef::.undef::.sl .str (.may b) c::vI d::(U 15 [])),hp:=[]}
def adm(N:Nat):TS->TS:=λa s=>run aha N ahS (ayA (run aha N) a) s
def wP(N:Nat)(a:rC->Ro):rC->Ro:=λ(e,b,d,c)=>let f:=(↑(Aa d):Int);cond (decide (c<f)) (chk (ixl c d) (let g:=Ai d (Ad c) (aK .str);cond (decide (g=e)) (let h:=(Ab .i64 (c+1));some (vI h,[])) (let i:=(Ab .i64 (c+1));a (e,b,d,i)))) (some (vI 0,[]))
theorem av3(N:Nat):LB (adm N) uS (wP N):=λ_ _=>by kernel_rfl
def t7(N:Nat)(a:Bs)(b:rC->Ro):Ro:=b (a,true,[([100,111,117,98,108,101]:Bs),([102,108,111,97,116]:Bs),([105,110,116,51,50]:Bs),([105,110,116,54,52]:Bs),([117,105,110,116,51,50]:Bs),([117,105,110,116,54,52]:Bs),([115,105,110,116,51,50]:Bs),([115,105,110,116,54,52]:Bs),([102,105,120,101,100,51,50]:Bs),([102,105,120,101,100,54,52]:Bs),([115,102,105,120,101,100,51,50]:Bs),([115,102,105,120,101,100,54,52]:Bs),([98,111,111,108]:Bs),([115,116,114,105,110,103]:Bs),([98,121,116,101,115]:Bs)],0)
def anG(N:Nat)(a:Bs):Ro:=t7 N a (λz=>aN N (wP N) z)
theorem ayB(N:Nat)(a:Bs)(h:Tot (anG N a) (λz=>∃c rest,z.1.dimR=vI c∧z.2=rest∧ahx a (c))):∃r,oS a r:=aBd.finP (N:=N) ((bK _ (by kernel_rfl) rfl (λC=>t7 N a (λz=>C 1000000 (uS z))) (λC=>by kernel_rfl)).trans (AE (b:=t7 N a (λz=>aZ N (adm N) (uS z))) (by kernel_rfl) (congrArg (t7 N a) (funext λz=>aW (uS) (adm N) (wP N) (av3 N) N z)))) h λ_ ⟨c,_,e,_,q⟩=>⟨(c),e,q⟩
end Go.Proofs.YtndccphabnjkhaaGreat
end
