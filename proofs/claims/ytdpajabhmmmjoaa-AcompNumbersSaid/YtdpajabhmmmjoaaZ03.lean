import Derived.KernelRfl
import GoSem.Core.Code
import GoSem.Op.String
import GoSem.Core.Utf8
import Derived.WalkKit
import Derived.Deep.AppendSrc
import Derived.Laws.Cover4
import Derived.Laws.IdiomStrings
import Derived.Test.YtdpajabhmmmjoaaZ02
open Array renaming getElem?_eq_getElem→Ag,length_toList→AY,getElem?_modify→A3,getD→BA,getElem?_push→Cl,getElem?_eq_none→CK
open BitVec renaming ofInt→By
open Bool renaming and_eq_true→Aa,not_eq_true'→AK,or_eq_true→AQ,eq_iff_iff→A2,false_eq_true→BO,and_eq_false_iff→Cz,or_eq_false_iff→CX,not_false→DT,not_true→D9
open Eq renaming trans→B7
open Function renaming comp_def→CA,comp→Ea
open Go.Addr renaming add_lit→Bv
open Go.Builtin renaming len_→B0
open Go.Instr renaming sureAddr→BE,sliceBounds→BL,loadAt→Ct,sliceAt→C0,slice→Dm,sliceBound→Du,indexAt→D4
open Go.IntKind renaming wrap→Az,signed→Bh,bits→Bu,max→BR,min→Cb
open Go.Op renaming bytesLess→BF,stringOp→BH,intCmp→B9,intBits→Ce,intArith→Cs,shift→Dr
open Go.Oper renaming wp→Ch
open Go.World renaming cell?_setCells_out→Bj,cell?_setCells_in→BY,cell?→Cc,setCell→CZ
open Int renaming toNat→AC,tmod_eq_emod_of_nonneg→B4,lt_or_le→C7,emod_lt_of_pos→C8,toNat_natCast→Dh,emod_eq_of_lt→Dk,tmod_nonneg→DI,mul_le_mul_of_nonpos_left→DP,fdiv_eq_ediv_of_nonneg→D6
open List renaming getElem?_eq_getElem→Ac,getElem?_eq_some_iff→Ad,getElem?_append_right→Aj,all_eq_true→Ak,getD_eq_getElem?_getD→Al,getElem?_append_left→Am,length→An,mem_singleton→Aq,getD→As,getElem?_map→Au,mem_map→Av,length_cons→Ay,mem_append→AB,mem_cons_self→AD,range→AE,mem_cons_of_mem→AH,map_cons→AI,mem_flatMap→AJ,getElem?_eq_none→AR,mem_cons→AT,length_map→AU,getElem?_take→AW,mem_iff_getElem→AZ,getElem?_cons_succ→A5,mem_range→A6,mem_of_mem_take→A7,getElem?_drop→A9,length_append→Ba,mem_of_mem_drop→Bd,append_assoc→Be,getElem_mem→Bf,replicate→Bg,mem_append_left→Bp,length_singleton→BB,drop_eq_getElem_cons→BU,foldl_cons→BZ,take_of_length_le→B1,all_cons→B3,length_take→B5,map_append→Cy,extract_eq_take_drop→C2,length_range→Di,drop_eq_nil_of_le→Dl,map_drop→Dn,map_take→Dp,getElem?_range→DS,foldl_append→Ei,not_any_eq_all_not→Ek
open List.cons renaming injEq→Cw
open Nat renaming beq→Af,le_refl→Ao,zero_add→Aw,add_mul→Ax,eq_of_beq_eq_true→AA,lt_of_lt_of_le→AF,lt_or_ge→AG,ble→AO,blt→AV,le_trans→AX,div→A1,blt_eq→Bb,succ→Bk,mod→Bo,ble_eq→Bz,sub→BV,add_zero→Cv,mod_lt→CB,lt_succ_self→CC,one_mul→CL,mod_eq_of_lt→Dv,le_of_ble_eq_true→DC,eq_zero_or_pos→DZ,lt_irrefl→Eb,add_assoc→Ed
open Ne renaming symm→Cr
open Option renaming map_eq_some_iff→Ah,isSome_iff_exists→A0,map_some→Bt,getD_some→Bw
open Option.some renaming injEq→Ab,inj→Ai
open Prod.mk renaming injEq→Ae
open UInt8 renaming ofNat→BX,lt_iff_toNat_lt→Dw,toNat_inj→DG
set_option linter.all false
set_option maxRecDepth 100000
noncomputable section
namespace Go.Proofs.Ytdpajabhmmmjoaa
open Go.AM
theorem age{α:Type}(p:α->Bool)(d:α)(l:List α)(i:Int)(a:0<=i)(h:i<l.length):(l.drop i.toNat).all p=(p (l.getD i.toNat d)&&(l.drop (i+1).toNat).all p):=by rw[BU (by omega),B3,show (i+1).toNat=i.toNat+1 by omega];simp[As,show i.toNat<l.length by omega]
theorem aar(l:List aq):∀a,iH l a=-1∨(0<=iH l a∧iH l a<l.length)
 | []=>.inl rfl
 |s::r=>by
  rw[iH];split
  ·rename_i h;rcases tR (λf:aq=>decide (f.name=s)) l 0 with e|e;·rw[vl,e] at h;simp at h
   ·right;rw[vl];omega
  ·exact aar l r
theorem tT.of{r:List ab}(h:kr r):tT r:=λx a=>by have:=(h.2 x a).na;omega
section
variable(m:rT)(w r:List ab)(has:List Bool)
theorem aet(t q:Int):∃x,dR m w r has t q x:=by apply p7 1;unfold g7 lq;exact ap ⟨_,rfl,rfl,rfl⟩
theorem ace(l:List Int)(q:Int)(p:l.length<=1000):∃x,aK m w r has l q x:=by apply gV (l.length+1);unfold b8 aJ;dsimp only;refine ca (λx=>match x with|(d,e,n,i,f,w',o,k)=>d=l∧e=q∧n=(l.length:Int)∧f=m∧w'=w∧o=r∧k=has∧Fst (λt=>noS m (t,q)) l i) (λx=>(l.length-x.2.2.2.1:Int).toNat) ?_ _ _ ⟨rfl,rfl,rfl,rfl,rfl,rfl,rfl,.zero _ _⟩ (by simp only;omega);rintro c ⟨d,e,n,i,f,w',o,k⟩ ⟨rfl,rfl,rfl,rfl,rfl,rfl,rfl,a⟩ j;dsimp only at a j;have u:=a.nn;unfold bh;dsimp only;refine ak (λh=>?_) (λh=>ap ⟨_,rfl,rfl,(a.none (of_decide_eq_false h)).symm⟩);have h:=of_decide_eq_true h;rw[aX (i+1) (by omega)];refine aU (ixt (by omega)) (aH (aet _ _ _ _ _ _) ?_);rintro(x:Bool) ⟨-,b⟩;have b:x=noS f (d.getD i.toNat (am (.num .i64)),e):=b;exact ak (λg=>ap ⟨_,rfl,rfl,(a.hit _ h (b.symm.trans g)).symm⟩) (λg=>j _ ⟨rfl,rfl,rfl,rfl,rfl,rfl,rfl,a.next _ h (b.symm.trans g)⟩ (by simp only;omega))
theorem aaZ(l:List Int)(q:Int)(b:l.length<=1000):∃x,aE m w r has l q x:=by apply gk 1;unfold bO dj;refine aH (ace m w r has l q b) ?_;rintro(x:Int) ⟨-,a⟩;have a:x=cM _ l 0:=a;exact ap ⟨_,rfl,rfl,by rw[a];exact oB _ _ _⟩
theorem adg(a b:ab)(I:a.fields.length<=8)(J:b.fields.length<=8)(E:∀f∈b.fields,f.aliases.length<=100):∃x,ed m w r has a b x:=by
 apply rf 20;unfold iP dZ;dsimp only;refine ca (λx=>match x with|(d,fs,n,i,j,w',v,u)=>d=a∧fs=b.fields∧n=(b.fields.length:Int)∧j=m∧w'=w∧v=r∧u=has∧0<=i∧i<=(b.fields.length:Int)∧b.fields.all (jN (noS m) a)=(b.fields.drop i.toNat).all (jN (noS m) a)) (λx=>(b.fields.length-x.2.2.2.1:Int).toNat) ?_ _ _ ⟨rfl,rfl,rfl,rfl,rfl,rfl,rfl,by omega,by omega,rfl⟩ (by simp only;omega);rintro o ⟨d,fs,n,i,j,w',v,u⟩ ⟨rfl,rfl,rfl,rfl,rfl,rfl,rfl,B,G,p⟩ A;dsimp only at p A;unfold eY;dsimp only;refine ak (λh=>?_) (λh=>ap ⟨_,rfl,rfl,?_⟩)
 ·have h:=of_decide_eq_true h;rw[age _ (am .afield) _ _ B h] at p;have C:=E _ (l8 b.fields i.toNat (am .afield) (by omega));rw[aX (i+1) (by omega),afk];refine aU (ixt (by omega)) ?_;have H:jN (noS j) d (b.fields.getD i.toNat (am .afield))=jN (noS j) d (b.fields.getD i.toNat (am .afield)):=rfl;generalize b.fields.getD i.toNat (am .afield)=f at p C ⊢;refine aH (afr d f (by omega) (by omega)) ?_;rintro(x:Int) ⟨-,t⟩;have t:x=iH d.fields (f.name::f.aliases):=t;have F:=aar d.fields (f.name::f.aliases);rw[<-t] at F;have q:jN (noS j) d f= !((decide (x<0)&& !f.hasdef)||(decide (0<=x)&&noS j ((d.fields.getD x.toNat (am .afield)).typ,f.typ))):=by rw[t];rfl
  have next:jN (noS j) d f=true->Tot (o (d,b.fields,(b.fields.length:Int),i+1,j,w',v,u)) _:=λe=>A _ ⟨rfl,rfl,rfl,rfl,rfl,rfl,rfl,by simp only;omega,by simp only;omega,by rw[p,e];rfl⟩ (by simp only;omega)
  have k:jN (noS j) d f=false->gY j w' v u d b false:=λe=>by show false=_;rw[p,e];rfl
  refine ak (λg=>ak (λy=>ap ⟨_,rfl,rfl,k ?_⟩) (λy=>ak (λc=>?_) (λc=>next ?_))) (λg=>ak (λc=>aU (ixt (by have:=of_decide_eq_true c;omega)) (ak (λz=>ap ⟨_,rfl,rfl,k ?_⟩) (λz=>next ?_))) (λc=>?_));·rw[q,g,y];rfl
  ·have:=of_decide_eq_true g;have:=of_decide_eq_true c;omega
  ·rw[q,g,y,c];rfl
  ·rw[q,g,c,show noS j ((d.fields.getD x.toNat (am .afield)).typ,f.typ)=true from z];rfl
  ·rw[q,g,c,show noS j ((d.fields.getD x.toNat (am .afield)).typ,f.typ)=false from z];rfl
  ·have:=of_decide_eq_false g;have:=of_decide_eq_false c;omega
 ·have h:=of_decide_eq_false h;show true=_;rw[p,Dl (by omega)];rfl
theorem afs(P:kr w)(I:kr r)(t q:Int)(X:0<=t∧t<w.length)(S:0<=q∧q<r.length)(W:has.length=w.length):∃x,eG m w r has t q x:=by
 apply rH 1;unfold jv mY;dsimp only;have L:=P.at (i:=t.toNat) (by omega)
 have F:=I.at (i:=q.toNat) (by omega)
 have G:(r.getD q.toNat (am .atype)).branches.length<=1000:=by have:=F.nb;omega
 have E:fD has (noS m) w r t q=(!(has.getD t.toNat (am .bool))||gf (noS m) w r t q (w.getD t.toNat (am .atype)) (r.getD q.toNat (am .atype))):=rfl;have O:sQ w r t q=cM (λb=>eR w r t b) (r.getD q.toNat (am .atype)).branches 0:=rfl;have A:=tR (λb=>eR w r t b) (r.getD q.toNat (am .atype)).branches 0;rw[<-O] at A;have J:=L.nb;have N:=L.ns;have v:=L.nf;have z:=F.ns;have k:=F.nf;have j:=F.fal;refine aU (ixt (by omega)) (aU (ixt (by omega)) (aU (ixt (by omega)) ?_));have p:=λ(Q:Go.AM.V×List al->Prop)(K:Int->Ro)(h:∀x,x=sQ w r t q->Tot (K x) Q)=>aH (K:=K) (Q:=Q) (adf w r t q (tT.of I) S G) (λx e=>h x e.2)
 generalize has.getD t.toNat (am .bool)=R at E ⊢;generalize w.getD t.toNat (am .atype)=a at E J N v ⊢;generalize r.getD q.toNat (am .atype)=b at E A z k j ⊢;have fin:∀x:Bool,x=(!R||gf (noS m) w r t q a b)->eS m w r has t q x:=λx h=>h.trans E.symm
 refine ak (λh=>ap ⟨_,rfl,rfl,fin _ (by rw[h];rfl)⟩) (λh=>?_);have fin:∀x:Bool,x=gf (noS m) w r t q a b->eS m w r has t q x:=λx e=>fin x (by rw[h];exact e)
 refine ak (λc=>?_) (λc=>?_)
 ·have c:a.kind=14:=by simpa using c
  refine aH (aaZ _ _ _ _ _ _ (by omega)) ?_;rintro(x:Bool) ⟨-,e⟩;have e:x=a.branches.any λt=>noS m (t,q):=e
  refine ap ⟨_,rfl,rfl,fin _ ?_⟩;rw[gf,if_pos c,e,Ek]
 have c:a.kind≠14:=by simpa using c
 refine ak (λd=>p _ _ λx e=>?_) (λd=>?_)
 ·have d:b.kind=14:=by simpa using d
  refine ak (λf=>aU (ixt (by have:=of_decide_eq_true f;omega)) (ap ⟨_,rfl,rfl,fin _ ?_⟩)) (λf=>ap ⟨_,rfl,rfl,fin _ ?_⟩);·rw[gf,if_neg c,if_pos d,<-e,f];rfl
  ·rw[gf,if_neg c,if_pos d,<-e,f];rfl
 have d:b.kind≠14:=by simpa using d
 refine aH (qq w r t q (tT.of I)) ?_;rintro(x:Bool) ⟨-,e⟩;have e:x=eR w r t q:=e;refine ak (λf=>ap ⟨_,rfl,rfl,fin _ ?_⟩) (λf=>?_)
 ·have f:x=false:=by simpa using f
  rw[gf,if_neg c,if_neg d,<-e,f];rfl
 have f:x=true:=by simpa using f
 have u:¬eR w r t q=false:=by rw[<-e,f];decide
 refine ak (λC=>ap ⟨_,rfl,rfl,fin _ ?_⟩) (λC=>ak (λB=>ap ⟨_,rfl,rfl,fin _ ?_⟩) (λB=>ak (λg=>ak (λM=>ap ⟨_,rfl,rfl,fin _ ?_⟩) (λM=>?_)) (λg=>ak (λH=>?_) (λH=>ap ⟨_,rfl,rfl,fin _ ?_⟩))));all_goals simp only[beq_iff_eq,beq_eq_false_iff_ne,ne_eq] at*
 ·rw[gf,if_neg c,if_neg d,if_neg u,if_pos (.inl C)];rfl
 ·rw[gf,if_neg c,if_neg d,if_neg u,if_pos (.inr B)];rfl
 ·rw[gf,if_neg c,if_neg d,if_neg u,if_neg (by omega),if_pos g,M];rfl
 ·refine aH (aaY _ _ _ _ _ _ _ _ _ _ _ (by omega) (by omega)) ?_;rintro(y:Bool) ⟨-,o⟩;have o:y=a.syms.any λs=> !decide (s∈b.syms):=o
  refine ap ⟨_,rfl,rfl,fin _ ?_⟩;rw[gf,if_neg c,if_neg d,if_neg u,if_neg (by omega),if_pos g,M,o,Ek];simp
 ·refine aH (adg _ _ _ _ a b v k j) ?_;rintro(y:Bool) ⟨-,o⟩;have o:y=b.fields.all (jN (noS m) a):=o;refine ap ⟨_,rfl,rfl,fin _ ?_⟩;rw[gf,if_neg c,if_neg d,if_neg u,if_neg (by omega),if_neg g,if_pos H,o]
 ·rw[gf,if_neg c,if_neg d,if_neg u,if_neg (by omega),if_neg g,if_neg H]
end
abbrev aeu:=List Bool
noncomputable def oC(a:List ab)(r:aeu):Prop:=PureOK Try.prog 16 [.agg [vF .atype a]] (vF .bool r)∧uz a r
noncomputable def aev:dW Try.prog:=.mk 16 λ
 | [.agg [.sl .atype (.may _) a]]=>pk (oC a) λr=>vF .bool r
 |_=>none
def mz:ao:=λf us hp=>match f,us,hp with
 |66,[.ptr 1 0,.int .i64 c,.int .i64 b],[some [.mp .pb ah],some [.sl .atype (.may false) ai,.sl .atype (.may false) aj,.sl .bool (.may false) a,.mr 0]]=>some (can (eG ah ai aj a c b),.bool (pick (eG ah ai aj a c b)),[some [.mp .pb ah],some [.sl .atype (.may false) ai,.sl .atype (.may false) aj,.sl .bool (.may false) a,.mr 0]])
 |_,_,_=>none
noncomputable def bc:ao:=(qj mz (mq (sA (P:=Try.prog) [aev,xY])))
theorem wE:cz bc [66]:=(qk (by
 intro f us hp a;unfold mz;split<;>first|rfl|(simp at a)) (by
 intro f us hp a;unfold mz;split<;>first|rfl|(simp at a)) (ko _ _))
theorem xm:bt Try.prog bc:=by
 refine tO ?_ ?_
 ·intro f us hp v hp' h;unfold mz at h;split at h;·simp only[Ab,Ae] at h;obtain⟨a,rfl,rfl⟩:=h;exact((oj a).1).dim rfl
  ·simp at h
 exact tN _
def ri:IR:=Rs [Bi 42 .lss 41 40] (Sq (Cn 42 .skip (.exit 4)) (Sq (.block 5 (Rs [Mv 43 41,Mv 12 43] (Rs [Mv 44 11,Mv 45 12,Pp (.bld 46 [vI 0,vI 0] [(0,1,44),(1,1,45)]),Pp (.alr 13 2),Fz 13 2 46] (Sq (.reg [Mv 47 9,Nk 48 47,Fa 49 3 48,Fo [1] [] (.ld 50 1 false false 49),Ld 51 2 true 13,Pp (.mget 52 .pb false (.t 50) (.t 51)),Un 53 52,Mv 54 53,Gt 54 (.mov 55 9),Gt 54 (.mov 56 11),Gt 54 (.mov 57 12),⟨some (54,true),.call 58 66 [55,56,57],some ([],[0,1])⟩,Gt 54 (.un 59 .not 58),Pa 60 54 59] [[],[0],[0,1],[0,1,2],[],rg 0 4,rg 0 5,rg 0 6,rg 0 7,rg 0 7,rg 0 7,rg 0 10,rg 0 11,rg 0 12]) (Cn 60 (.reg [Mv 61 9,Nk 62 61,Fa 63 3 62,Fo [1] [] (.ld 64 1 false false 63),Ld 65 2 true 13,Pp (.ment 66 .pb (.t 64) (.t 65)),Ex_ 67 1 66,Pp (.mest none (.t 64) (.t 67) (.c (.bool true))),Mb 10 true] [[],[0],[0,1],[0,1,2],[],rg 0 4,rg 0 5,rg 0 6,rg 0 7]) .skip))))) (Rg [Bc 68 .add 41 1,Mv 41 68])))
def qf:IR:=Rg [Bc 69 .add 35 1,Mv 35 69]
def jD:IR:=Rs [Bi 36 .lss 35 34] (Sq (Cn 36 .skip (.exit 2)) (Sq (.block 3 (Rs [Mv 37 35,Mv 11 37] (Rs [Fa 38 0 5,Lq 39 38,Ll 40 39,Mi 41 0] (.block 4 (.loop [2,3,4,5,9,10,11,34,35,40,41,1000000] 2 ri))))) qf))
def jE:IR:=Sq (Rs [Mv 31 10] (Cn 31 .skip (.exit 0))) (.block 1 (Rs [Mb 10 false] (Rs [Fa 32 0 4,Lq 33 32,Ll 34 33,Mi 35 0] (.block 2 (.loop [2,3,4,5,9,10,34,35,1000001] 2 jD)))))
def jF:IR:=Rs [Mv 70 9,Nk 71 70,Fa 72 3 71,Lo 73 72,Mv 74 2,Mv 75 3,Pp (.bld 76 [vI 0,vI 0] [(0,1,74),(1,1,75)]),Pp (.mget 77 .pb false (.t 73) (.t 76)),Un 78 77,Mv 8 78] .ret
def zD:IR:=Rs [Bx 4 0,Bx 5 1,Mb 8 false] (Sq (Rs [Ld 14 1 true 4,Mv 15 2,Ca 16 63 [14,15],Un 17 16,Mv 18 17,Gf 18 (.lde 19 1 true 5),Gf 18 (.mov 20 3),Gf 18 (.call 21 63 [19,20]),Gf 18 (.un 22 .not 21),Po 23 18 22] (Cn 23 (Rs [Mb 8 false] .ret) .skip)) (Sq (.reg [Ld 24 1 true 4,Ld 25 1 true 5,Ld 26 1 true 4,Ca 27 16 [26],Pp (.mkm 28 .pb),Pp (.bld 29 [fu .atype true,fu .atype true,fu .bool true,.nilm] [(0,1,24),(1,1,25),(2,1,27),(3,1,28)]),Pp (.box 30 29),Mv 9 30] [[],[],[],[2],[],rg 0 4,rg 0 5,rg 0 6]) (Sq (Rs [Mb 10 true] (.block 0 (.loop [2,3,4,5,9,10,1000002] 2 jE))) jF)))
def mA:List RV:=[.t 8]
theorem zE:FnC Try.prog bc [66] 0 uB Try.f32 zD mA:=⟨xm,wE,Try.func32,by kernel_rfl,by kernel_rfl,by decide⟩
def lu(R:IR->(Ex->St->Ro)->St->Ro)(a:St->Ro):Ex->St->Ro:=(de a [2,3,4,5,9,10,1000002] 2 (bu 0 (d4 (R jF) (fin mA))))
abbrev cZ:Type:=(Int×Int×List ab×List ab×Bool×List ((Int×Int)×Bool)×List ab×List ab×List Bool)
def aO(x:cZ):St:={env:=(.undef::.undef::.int .i64 x.1::.int .i64 x.2.1::.ea [.sl .atype (.may false) x.2.2.1]::.ea [.sl .atype (.may false) x.2.2.2.1]::(U 3 (.ptr 1 0::.bool x.2.2.2.2.1::(U 68 [])))),hp:=[some [.mp .pb x.2.2.2.2.2.1],some [.sl .atype (.may false) x.2.2.2.2.2.2.1,.sl .atype (.may false) x.2.2.2.2.2.2.2.1,.sl .bool (.may false) x.2.2.2.2.2.2.2.2,.mr 0]]}
def lv(R:IR->(Ex->St->Ro)->St->Ro)(a b:St->Ro):Ex->St->Ro:=(de b [2,3,4,5,9,10,34,35,1000001] 2 (bu 2 (bu 1 (lu R a))))
abbrev d9:Type:=(Int×Int×List ab×List ab×Bool×Int×Int×List ((Int×Int)×Bool)×List ab×List ab×List Bool)
def bJ(x:d9):St:={env:=(.undef::.undef::.int .i64 x.1::.int .i64 x.2.1::.ea [.sl .atype (.may false) x.2.2.1]::.ea [.sl .atype (.may false) x.2.2.2.1]::(U 3 (.ptr 1 0::.bool x.2.2.2.2.1::(U 23 (.int .i64 x.2.2.2.2.2.1::.int .i64 x.2.2.2.2.2.2.1::(U 43 [])))))),hp:=[some [.mp .pb x.2.2.2.2.2.2.2.1],some [.sl .atype (.may false) x.2.2.2.2.2.2.2.2.1,.sl .atype (.may false) x.2.2.2.2.2.2.2.2.2.1,.sl .bool (.may false) x.2.2.2.2.2.2.2.2.2.2,.mr 0]]}
def yo(R:IR->(Ex->St->Ro)->St->Ro)(b c a:St->Ro):Ex->St->Ro:=(de a [2,3,4,5,9,10,11,34,35,40,41,1000000] 2 (bu 4 (bu 3 (d4 (R qf) (lv R b c)))))
abbrev lw:Type:=(Int×Int×List ab×List ab×Bool×Int×Int×Int×Int×Int×List ((Int×Int)×Bool)×List ab×List ab×List Bool)
def iF(x:lw):St:={env:=(.undef::.undef::.int .i64 x.1::.int .i64 x.2.1::.ea [.sl .atype (.may false) x.2.2.1]::.ea [.sl .atype (.may false) x.2.2.2.1]::(U 3 (.ptr 1 0::.bool x.2.2.2.2.1::.int .i64 x.2.2.2.2.2.1::(U 22 (.int .i64 x.2.2.2.2.2.2.1::.int .i64 x.2.2.2.2.2.2.2.1::(U 4 (.int .i64 x.2.2.2.2.2.2.2.2.1::.int .i64 x.2.2.2.2.2.2.2.2.2.1::(U 37 [])))))))),hp:=[some [.mp .pb x.2.2.2.2.2.2.2.2.2.2.1],some [.sl .atype (.may false) x.2.2.2.2.2.2.2.2.2.2.2.1,.sl .atype (.may false) x.2.2.2.2.2.2.2.2.2.2.2.2.1,.sl .bool (.may false) x.2.2.2.2.2.2.2.2.2.2.2.2.2,.mr 0]]}
def lz(N:Nat)(b c:St->Ro):(St->Ro)->St->Ro:=λa s=>run bc N ri (yo (run bc N) b c a) s
def jf(N:Nat)(o:cZ->Ro)(e:d9->Ro)(d:lw->Ro)(x:lw):Ro:=
 let t:Int:=x.1;let u:Int:=x.2.1;let f:List ab:=x.2.2.1;let g:List ab:=x.2.2.2.1;let h:Bool:=x.2.2.2.2.1;let b:Int:=x.2.2.2.2.2.1;let m:Int:=x.2.2.2.2.2.2.1;let i:Int:=x.2.2.2.2.2.2.2.1;let j:Int:=x.2.2.2.2.2.2.2.2.1;let a:Int:=x.2.2.2.2.2.2.2.2.2.1;let ah:List ((Int×Int)×Bool):=x.2.2.2.2.2.2.2.2.2.2.1;let ai:List ab:=x.2.2.2.2.2.2.2.2.2.2.2.1;let aj:List ab:=x.2.2.2.2.2.2.2.2.2.2.2.2.1;let c:List Bool:=x.2.2.2.2.2.2.2.2.2.2.2.2.2;let z0:=λA E C=>d (t,u,f,g,A,b,m,i,j,E,C,ai,aj,c)
 cond (decide (a<j)) (
  let z:=(mM (k:=.pb) ah (b,a))
  cond (!z) (
   aZ (eG ah ai aj c b a) (λ(y:Bool)=>
    cond (!y) (
     chk (decide (An ah<=140737488355328)) (
      let G:=(mM (k:=.pb) ah (b,a))
      let r:=(↑(eC (k:=.pb) ah (b,a)):Int)
      let v:=(eJ (k:=.pb) ah (b,a) (mM (k:=.pb) ah (b,a)))
      chk (ixl r v) (
       let B:=(uQ (k:=.pb) v (AC r) true)
       let w:=(Az .i64 (a+1))
       z0 true w B))) (
     let F:=(Az .i64 (a+1))
     z0 h F ah))) (
   let q:=(Az .i64 (a+1))
   z0 h q ah)) (
  let p:=(Az .i64 (i+1))
  e (t,u,f,g,h,m,p,ah,ai,aj,c))
theorem xn(N:Nat)(a b:St->Ro):LB (lz N a b) iF (jf N (λy=>a (aO y)) (λy=>b (bJ y))):=λ_ _=>by kernel_rfl
def jg(N:Nat)(a:St->Ro):(St->Ro)->St->Ro:=λb s=>run bc N jD (lv (run bc N) a b) s
def kA(N:Nat)(b:cZ->Ro)(h:d9->Ro)(k:lw->Ro)(x:d9):Ro:=
 let i:Int:=x.1;let j:Int:=x.2.1;let d:List ab:=x.2.2.1;let a:List ab:=x.2.2.2.1;let f:Bool:=x.2.2.2.2.1;let g:Int:=x.2.2.2.2.2.1;let e:Int:=x.2.2.2.2.2.2.1;let ah:List ((Int×Int)×Bool):=x.2.2.2.2.2.2.2.1;let ai:List ab:=x.2.2.2.2.2.2.2.2.1;let aj:List ab:=x.2.2.2.2.2.2.2.2.2.1;let c:List Bool:=x.2.2.2.2.2.2.2.2.2.2
 cond (decide (e<g)) (
  let m:=(↑(An a):Int)
  k (i,j,d,a,f,e,g,e,m,0,ah,ai,aj,c)) (
  b (i,j,d,a,f,ah,ai,aj,c))
def jh(N:Nat)(a:cZ->Ro)(b:d9->Ro)(x:d9):Ro:=kA N a b (λz=>cg N (jf N a b) z) x
def oD(N:Nat)(a b:St->Ro):List (Nat×(St->Ro)):=(fm bc N jD (lv (run bc N) a b)++(fm bc N jF (fin mA)++[]))
theorem xo(N:Nat)(b:St->Ro):∀(a:St->Ro)(x:d9),jg N b a (bJ x)=jh N (λy=>b (aO y)) (λy=>a (bJ y)) x:=by
 intro a x;have d:∀C:Nat->St->Ro,dP C bc N jD (lv (dP C bc N) b a) (bJ x)=kA N (λy=>b (aO y)) (λy=>a (bJ y)) (λz=>C 1000000 (iF z)) x:=by intro C;kernel_rfl
 have h:jg N b a (bJ x)=kA N (λy=>b (aO y)) (λy=>a (bJ y)) (λz=>bC N (lz N b a) (iF z)) x:=(nA (C:=nh (oD N b a)) (la (d5 (l:=(oD N b a)) (by kernel_rfl))) (pG (mu (mu (pG (mu (tL (la (tM (d5 (l:=(oD N b a)) (by kernel_rfl)))) rfl)))))) _).trans ((d _).trans (by kernel_rfl));have c:(λz=>bC N (lz N b a) (iF z))=(λz=>cg N (jf N (λy=>b (aO y)) (λy=>a (bJ y))) z):=funext λz=>cJ (iF) (lz N b a) (jf N (λy=>b (aO y)) (λy=>a (bJ y))) (xn N b a) N z
 rw[h,c];rfl
def lA(N:Nat):(St->Ro)->St->Ro:=λa s=>run bc N jE (lu (run bc N) a) s
def kC(N:Nat)(d:cZ->Ro)(i:d9->Ro)(x:cZ):Ro:=
 let g:Int:=x.1;let h:Int:=x.2.1;let b:List ab:=x.2.2.1;let c:List ab:=x.2.2.2.1;let f:Bool:=x.2.2.2.2.1;let ah:List ((Int×Int)×Bool):=x.2.2.2.2.2.1;let ai:List ab:=x.2.2.2.2.2.2.1;let aj:List ab:=x.2.2.2.2.2.2.2.1;let a:List Bool:=x.2.2.2.2.2.2.2.2
 cond f (
  let j:=(↑(An b):Int)
  i (g,h,b,c,false,j,0,ah,ai,aj,a)) (
  let e:=(mM (k:=.pb) ah (g,h))
  some (.bool (!e),[some [.mp .pb ah],some [.sl .atype (.may false) ai,.sl .atype (.may false) aj,.sl .bool (.may false) a,.mr 0]]))
def lB(N:Nat)(a:cZ->Ro)(x:cZ):Ro:=kC N a (λz=>cg N (jh N a) z) x
def oE(N:Nat)(a:St->Ro):List (Nat×(St->Ro)):=(fm bc N jE (lu (run bc N) a)++(fm bc N jF (fin mA)++[]))
theorem xp(N:Nat):∀(a:St->Ro)(x:cZ),lA N a (aO x)=lB N (λy=>a (aO y)) x:=by
 intro a x;have b:∀C:Nat->St->Ro,dP C bc N jE (lu (dP C bc N) a) (aO x)=kC N (λy=>a (aO y)) (λz=>C 1000001 (bJ z)) x:=by intro C;kernel_rfl
 have h:lA N a (aO x)=kC N (λy=>a (aO y)) (λz=>bC N (jg N a) (bJ z)) x:=(nA (C:=nh (oE N a)) (la (d5 (l:=(oE N a)) (by kernel_rfl))) (pG (mu (tL (la (tM (d5 (l:=(oE N a)) (by kernel_rfl)))) rfl))) _).trans ((b _).trans (by kernel_rfl));have e1:(λz=>bC N (jg N a) (bJ z))=(λz=>cg N (jh N (λy=>a (aO y))) z):=funext λz=>cJ (bJ) (jg N a) (jh N (λy=>a (aO y))) (xo N a) N z
 rw[h,e1];rfl
def jT(N:Nat)(a b:List ab)(p2 c:Int)(e:cZ->Ro):Ro:=
 aZ (jb a p2) (λ(f:Bool)=>
  cond (!f) (
   some (.bool false,[])) (
   aZ (jb b c) (λ(g:Bool)=>
    cond (!g) (
     some (.bool false,[])) (
     aZ (oC a) (λ(d:List Bool)=>
      e (p2,c,a,b,true,([]:List ((Int×Int)×Bool)),a,b,d))))))
def ta(N:Nat)(a b:List ab)(p2 c:Int):Ro:=jT N a b p2 c (λz=>cg N (lB N) z)
theorem yp(N:Nat)(a c:List ab)(p2 d:Int)(h:Tot (ta N a c p2 d) (λz=>∃(g:Bool)(f:List al),z.1.dimR=.bool g∧z.2=f∧nD a c p2 d (g))):∃r,dT a c p2 d r:=zE.finP (N:=N) ((iu _ (by kernel_rfl) rfl (λC=>jT N a c p2 d (λz=>C 1000002 (aO z))) (λC=>by kernel_rfl)).trans (B7 (b:=jT N a c p2 d (λz=>bC N (lA N) (aO z))) (by kernel_rfl) (congrArg (jT N a c p2 d) (funext λz=>cJ (aO) (lA N) (lB N) (xp N) N z)))) h λ_ ⟨g,_,e,_,q⟩=>⟨(g),e,q⟩
def iQ(L:List (Int×Int)):rT:=L.map λp=>(p,true)
theorem tU:∀(L:List (Int×Int))(p:Int×Int),noS (iQ L) p=inL L p
 | [],p=>rfl
 |a::L,p=>by
  have b:=tU L p;simp only[noS,mM,iQ,AI,cT,inL] at b ⊢;by_cases h:a=p;·subst h;simp
  ·rw[if_neg h,b];rw[A2,decide_eq_true_iff,decide_eq_true_iff,AT];constructor
   ·exactλh=>.inr h
   ·rintro(e|e);·exact absurd e.symm h
    ·exact e
theorem acf:∀(L:List (Int×Int))(p:Int×Int)(v:Bool),p ∉ L->eJ (k:=.pb) (iQ L) p v=iQ L++[(p,v)]
 | [],p,v,_=>rfl
 |a::L,p,v,h=>by have b:=acf L p v (λe=>h (AH _ e));simp only[iQ,AI,eJ] at b ⊢;rw[if_neg (λe:a=p=>h (e▸AD ..)),b];rfl
theorem acg:∀(L:List (Int×Int))(p:Int×Int),p ∉ L->eC (k:=.pb) (iQ L) p=L.length
 | [],p,_=>rfl
 |a::L,p,h=>by have b:=acg L p (λe=>h (AH _ e));simp only[iQ,AI,eC] at b ⊢;rw[if_neg (λe:a=p=>h (e▸AD ..)),b];rfl
theorem adz:∀(L:List (Int×Int))(p:Int×Int)(v:Bool),uQ (k:=.pb) (iQ L++[(p,v)]) L.length true=iQ (L++[p])
 | [],p,v=>rfl
 |a::L,p,v=>by have b:=adz L p v;simp only[iQ,AI,List.cons_append,Ay,uQ] at b ⊢;rw[b]
theorem afu(i k:Nat):vm i (k+1)=vm i k++[((i:Int),(k:Int))]:=by simp[vm,List.range_succ]
theorem aas(i m:Nat):eD (i+1) m=eD i m++vm i m:=by simp[eD,List.range_succ,List.flatMap_append]
theorem ach(n m:Nat):(eD n m).length=n*m:=by
 induction n with
 |zero=>simp[eD]
 |succ n a=>rw[aas,Ba,a,vm,AU,Di,Ax,CL]
theorem aci{n m i k:Nat}(a:i<n)(b:k<m):((i:Int),(k:Int))∈eD n m:=by simp only[eD,AJ,A6,vm,Av];exact⟨i,a,k,b,rfl⟩
def left(A L:List (Int×Int)):Nat:=(A.filter λp=> !inL L p).length
theorem aho(A L:List (Int×Int))(p:Int×Int):left A (L++[p])<=left A L:=by
 induction A with
 |nil=>simp[left]
 |cons a A c=>
  simp only[left,List.filter_cons,inL,AB,Aq] at c ⊢;by_cases h:a∈L;·simpa [h] using c
  ·by_cases b:a=p;·subst b;simp only[h,or_true,decide_true,D9,BO,if_false,decide_false,DT,if_true,Ay];omega
   ·simp only[h,b,or_false,decide_false,DT,if_true,Ay];omega
theorem adA(A L:List (Int×Int))(p:Int×Int)(hp:p∈A)(f:p ∉ L):left A (L++[p])<left A L:=by
 induction A with
 |nil=>cases hp
 |cons a A c=>
  have b:=aho A L p;by_cases d:a=p;·subst d;simp only[left,List.filter_cons,inL,AB,Aq] at b ⊢;simp only[f,or_true,decide_true,D9,BO,if_false,decide_false,DT,if_true,Ay];omega
  ·have c:=c (by rcases AT.1 hp with e|e;exact absurd e.symm d;exact e);clear b;simp only[left,List.filter_cons,inL,AB,Aq] at c ⊢;by_cases h:a∈L;·simpa [h] using c
   ·simp only[h,d,or_false,decide_false,DT,if_true,Ay];omega
section
variable{has:List Bool}{w r:List ab}
theorem zF(A:List (Int×Int)):∀(a L:List (Int×Int)),(∀p∈a,p∈A)->
  a.foldl (cN has w r) L=L∨(L.length<(a.foldl (cN has w r) L).length∧left A (a.foldl (cN has w r) L)<left A L)
 | [],L,_=>.inl rfl
 |p::a,L,h=>by
  rw[BZ];have d:=λL=>zF A a L (λq g=>h q (AH _ g))
  have ev:cN has w r L p=if inL L p||fD has (inL L) w r p.1 p.2 then L else L++[p]:=rfl
  rw[ev];by_cases c:(inL L p||fD has (inL L) w r p.1 p.2)=true;·rw[if_pos c];exact d L
  ·rw[if_neg c];simp only[AQ,not_or] at c;have hp:p ∉ L:=λe=>c.1 (by simp[inL,e])
   have b:=adA A L p (h p (AD ..)) hp;right;rcases d (L++[p]) with e|⟨e1,f⟩
   ·rw[show List.foldl (cN has w r) (L++[p]) a=L++[p] from e];exact⟨by simp,b⟩
   ·refine⟨by simp only[Ba,BB] at e1;exact Nat.lt_of_succ_lt e1,Nat.lt_trans f b⟩
def PS(has:List Bool)(w r:List ab)(a:List (Int×Int))(i k:Nat):List (Int×Int):=(vm i k).foldl (cN has w r) ((eD i r.length).foldl (cN has w r) a)
theorem adB(a:List (Int×Int)):PS has w r a 0 0=a:=rfl
theorem ahp(a:List (Int×Int))(i k:Nat):PS has w r a i (k+1)=cN has w r (PS has w r a i k) ((i:Int),(k:Int)):=by rw[PS,afu,Ei];rfl
theorem ah1(a:List (Int×Int))(i:Nat):PS has w r a i r.length=PS has w r a (i+1) 0:=by rw[PS,PS,aas,Ei];rfl
theorem ah2(a:List (Int×Int)):PS has w r a w.length 0=ja has w r a:=rfl
def Btw(has:List Bool)(w r:List ab)(fin:List (Int×Int))(more:Bool)(L:List (Int×Int)):Prop:=
 (more=true∧∃f,left (eD w.length r.length) L<f∧dJ has w r f L=fin)∨(more=false∧L=fin)
theorem Btw.next{fin a:List (Int×Int)}(h:Btw has w r fin true a):
  Btw has w r fin (decide (a.length<(ja has w r a).length)) (ja has w r a)∧
  2*left (eD w.length r.length) (ja has w r a)+(if decide (a.length<(ja has w r a).length)=true then 1 else 0)<2*left (eD w.length r.length) a+1:=by
 obtain⟨-,f,d,b⟩|⟨h, -⟩:=h
 ·obtain⟨f,rfl⟩:∃g,f=g+1:=⟨f-1,by omega⟩
  rw[dJ] at b;rcases zF (has:=has) (w:=w) (r:=r) (eD w.length r.length) (eD w.length r.length) a (λ_ h=>h) with e|⟨e1,c⟩
  ·have e:ja has w r a=a:=e;rw[e] at b ⊢;rw[if_pos rfl] at b;simp only[Eb,decide_false];exact⟨.inr ⟨rfl,b⟩,by simp⟩
  ·have e1:a.length<(ja has w r a).length:=e1;have c:left (eD w.length r.length) (ja has w r a)<left (eD w.length r.length) a:=c;rw[if_neg (by omega)] at b;simp only[e1,decide_true,if_true];exact⟨.inl ⟨rfl,f,by omega,b⟩,by omega⟩
 ·cases h
end
section
variable{w r:List ab}(hw:kr w)(hr:kr r)(t q:Int)
include hw hr
theorem aew(hB:∃l,oC w l)(P:(lS w).length=w.length):∃x,dT w r t q x:=by
 have hn:=hw.1;have hm:=hr.1;apply yp (2*(w.length*r.length)+200);unfold ta jT;refine aH (yn w t) ?_;rintro(r1:Bool) ⟨-,X⟩;have X:r1=isT w t:=X;refine ak (λh=>ap ⟨_,_,rfl,rfl,?_⟩) (λh=>?_)
 ·have h:r1=false:=by simpa using h
  show false=jO _ w r t q;rw[jO,<-X,h];rfl
 have h:r1=true:=by simpa using h
 rw[h] at X;refine aH (yn r q) ?_;rintro(v:Bool) ⟨-,h2⟩;have h2:v=isT r q:=h2;refine ak (λh=>ap ⟨_,_,rfl,rfl,?_⟩) (λh=>?_)
 ·have h:v=false:=by simpa using h
  show false=jO _ w r t q;rw[jO,<-X,<-h2,h];rfl
 have h:v=true:=by simpa using h
 rw[h] at h2;refine aH hB ?_;rintro(has:List Bool) ⟨-,hh⟩;have hh:has=lS w:=hh;rw[<-hh] at P;have H:∀x:Bool,x=(!inL (dJ has w r (w.length*r.length+1) []) (t,q))->nD w r t q x:=λx W=>by show x=jO (lS w) w r t q;rw[jO,<-X,<-h2,<-hh,W];rfl
 generalize a2:dJ has w r (w.length*r.length+1) []=fin at H;have bY:left (eD w.length r.length) []=w.length*r.length:=by rw[left,<-ach];congr 1;simp[inL]
 have c5:w.length*r.length<=60*60:=Nat.mul_le_mul hn.2 hm.2
 refine ca (λx=>match x with|(a,b,w',r',more,es,A,v,g)=>a=t∧b=q∧w'=w∧r'=r∧A=w∧v=r∧g=has∧∃L,es=iQ L∧left (eD w.length r.length) L+L.length<=w.length*r.length∧Btw has w r fin more L)
  (λx=>2*left (eD w.length r.length) (x.2.2.2.2.2.1.map (·.1))+(if x.2.2.2.2.1=true then 1 else 0)) ?_ _ _ ⟨rfl,rfl,rfl,rfl,rfl,rfl,rfl,[],rfl,by simp;omega,.inl ⟨rfl,_,by omega,a2⟩⟩ (by simp only[List.map_nil,bY,if_true];omega)
 rintro bs ⟨a,b,w',r',more,es,A,v,g⟩ ⟨rfl,rfl,rfl,rfl,rfl,rfl,rfl,o,rfl,b1,hb⟩ M;have O:∀L:List (Int×Int),(iQ L).map (·.1)=L:=λL=>by simp[iQ,CA]
 dsimp only at M;rw[O] at M;unfold lB kC;dsimp only;refine ak (λf=>?_) (λf=>ap ⟨_,_,rfl,rfl,H _ ?_⟩)
 rotate_left
 ·have f:more=false:=f;subst f;obtain⟨h, -⟩|⟨-,rfl⟩:=hb;·cases h
  ·show (!noS (iQ o) (a,b))=_;rw[tU]
 have f:more=true:=f;subst f;have a4:=hb.next
 simp only[if_true] at M
 refine ca (λx=>match x with|(a',b',w3,r3,mo,n,i,es,C,z,j)=>a'=a∧b'=b∧w3=A∧r3=v∧C=A∧z=v∧j=g∧n=(A.length:Int)∧∃c:Nat,i=(c:Int)∧c<=A.length∧es=iQ (PS g A v o c 0)∧mo=decide (o.length<(PS g A v o c 0).length)∧o.length<=(PS g A v o c 0).length∧left (eD A.length v.length) (PS g A v o c 0)+(PS g A v o c 0).length<=A.length*v.length)
  (λx=>(A.length-x.2.2.2.2.2.2.1:Int).toNat) ?_ _ _ ⟨rfl,rfl,rfl,rfl,rfl,rfl,rfl,rfl,0,rfl,by omega,rfl,by simp[adB],by simp[adB],b1⟩ (by simp only;omega)
 rintro bx ⟨a',b',w3,r3,mo,n,i,es,C,z,j⟩ ⟨rfl,rfl,rfl,rfl,rfl,rfl,rfl,rfl,c,rfl,hi,rfl,rfl,Y,S⟩ Z;dsimp only at Z;unfold jh kA;dsimp only;refine ak (λJ=>?_) (λJ=>?_)
 rotate_left
 ·have J:=of_decide_eq_false J;obtain rfl:c=C.length:=by omega
  rw[ah2] at Y S ⊢;exact M _ ⟨rfl,rfl,rfl,rfl,rfl,rfl,rfl,_,rfl,S,a4.1⟩ (by rw[O];exact a4.2)
 have J:=of_decide_eq_true J
 refine ca (λx=>match x with|(a3,b3,w5,r5,mo,a1,n,i,m,k,es,B,y,d)=>a3=a'∧b3=b'∧w5=C∧r5=z∧B=C∧y=z∧d=j∧a1=(c:Int)∧n=(C.length:Int)∧i=(c:Int)∧m=(z.length:Int)∧∃k':Nat,k=(k':Int)∧k'<=z.length∧es=iQ (PS j C z o c k')∧mo=decide (o.length<(PS j C z o c k').length)∧o.length<=(PS j C z o c k').length∧left (eD C.length z.length) (PS j C z o c k')+(PS j C z o c k').length<=C.length*z.length)
  (λx=>(z.length-x.2.2.2.2.2.2.2.2.2.1:Int).toNat) ?_ _ _ ⟨rfl,rfl,rfl,rfl,rfl,rfl,rfl,rfl,rfl,rfl,rfl,0,rfl,by omega,rfl,rfl,Y,S⟩ (by simp only;omega)
 rintro N ⟨a3,b3,w5,r5,mo,a1,n,i,m,k,es,B,y,d⟩ ⟨rfl,rfl,rfl,rfl,rfl,rfl,rfl,rfl,rfl,rfl,rfl,k',rfl,hk,rfl,rfl,G,I⟩ Q;dsimp only at Q;unfold jf;dsimp only;refine ak (λF=>?_) (λF=>?_)
 rotate_left
 ·have F:=of_decide_eq_false F;obtain rfl:k'=y.length:=by omega
  rw[ah1] at G I ⊢;rw[aX ((c:Int)+1) (by omega)];exact Z _ ⟨rfl,rfl,rfl,rfl,rfl,rfl,rfl,rfl,c+1,by simp,by omega,rfl,rfl,G,I⟩ (by simp only;omega)
 have F:=of_decide_eq_true F;rw[aX ((k':Int)+1) (by omega)];have p:=ahp (has:=d) (w:=B) (r:=y) o c k';have b5:mM (k:=.pb) (iQ (PS d B y o c k')) ((c:Int),(k':Int))=inL (PS d B y o c k') ((c:Int),(k':Int)):=tU _ _;have ad:((c:Int),(k':Int))∈eD B.length y.length:=aci (by omega) (by omega);rw[b5];generalize PS d B y o c k'=L at*
 have keep:cN d B y L ((c:Int),(k':Int))=L->Tot (N (a3,b3,B,y,decide (o.length<L.length),(c:Int),(B.length:Int),(c:Int),(y.length:Int),(k':Int)+1,iQ L,B,y,d)) _:=λe=>
  Q _ ⟨rfl,rfl,rfl,rfl,rfl,rfl,rfl,rfl,rfl,rfl,rfl,k'+1,by simp,by omega,by rw[p,e],by rw[p,e],by rw[p,e];exact G,by rw[p,e];exact I⟩ (by simp only;omega)
 refine ak (λu=>?_) (λu=>keep ?_)
 rotate_left
 ·have u:inL L ((c:Int),(k':Int))=true:=by simpa using u
  rw[cN,u];rfl
 have u:inL L ((c:Int),(k':Int))=false:=by simpa using u
 refine aH (afs _ _ _ _ hw hr _ _ (by omega) (by omega) P) ?_;rintro(x:Bool) ⟨-,W⟩;have W:x=fD d (noS (iQ L)) B y (c:Int) (k':Int):=W;rw[show noS (iQ L)=inL L from funext (tU L)] at W;refine ak (λR=>?_) (λR=>keep ?_)
 rotate_left
 ·have R:x=true:=by simpa using R
  rw[cN,<-W,R];simp
 have R:x=false:=by simpa using R
 have hv:cN d B y L ((c:Int),(k':Int))=L++[((c:Int),(k':Int))]:=by rw[cN,<-W,R,u];simp
 rw[hv] at p;have E:((c:Int),(k':Int)) ∉ L:=by simpa [inL] using u
 have ci:=adA (eD B.length y.length) L _ ad E;have av:(iQ L).length=L.length:=by simp[iQ]
 refine aU (by rw[av];simp;omega) ?_;rw[acf _ _ _ E,acg _ _ E,Dh,adz];refine aU (ixt ⟨by omega,by simp[av];omega⟩) ?_;refine Q _ ⟨rfl,rfl,rfl,rfl,rfl,rfl,rfl,rfl,rfl,rfl,rfl,k'+1,by simp,by omega,by rw[p],?_,by rw[p];simp;omega,by rw[p];simp;omega⟩ (by simp only;omega);rw[p,decide_eq_true (by simp;omega)]
end
def sG:ao:=tb_ [] [] [] [aaK]
def tb:IR:=Rs [Bi 17 .lss 16 15] (Sq (Cn 17 .skip (.exit 1)) (Sq (.block 2 (Rs [Ix 18 .afield 14 16,Ld 19 9 true 18,Pp (.alr 7 9),Fz 7 9 19] (Sq (Rs [Mv 20 1,Fa 21 2 7,Lq 22 21,Ix 23 (.num .i64) 20 22,Lq 24 23,Bc 25 .lss 24 0] (Cn 25 (Rs [Mi 4 (-1)] .ret) .skip)) (Rg [Mv 26 5,Mv 27 1,Fa 28 2 7,Lq 29 28,Ix 30 (.num .i64) 27 29,Lq 31 30,Pp (.mx 32 false 26 31),Mv 5 32])))) (Rg [Bc 33 .add 16 1,Mv 16 33])))
def r9:IR:=Sq (Rs [Mv 49 5,Bc 50 .lss 49 0] (Cn 50 (Rs [Mi 4 (-1)] .ret) .skip)) (Rs [Mv 51 5,Bc 52 .add 51 1,Mv 4 52] .ret)
def acj:IR:=Rs [Bx 2 0,Mi 4 0] (Rs [Mi 5 (-1)] (Sq (Rs [Fa 9 0 2,Lq 10 9] (.block 0 (Rs [Bc 12 .eql 10 9,Mv 11 12] (Cn 11 (Rs [Mi 5 0] (Rs [Fa 13 8 2,Lq 14 13,Ll 15 14,Mi 16 0] (.block 1 (.loop [1,5,14,15,16,1000000] 0 tb)))) (Rs [Bc 35 .eql 10 14,Mv 34 35] (Cn 34 (Rs [Ld 36 10 true 2,Mv 37 1,Ca 38 78 [36,37],Mv 8 38] (Rs [Mv 39 8,Bc 40 .geq 39 0] (Cn 40 (Rg [Mv 41 1,Fa 42 9 2,Lq 43 42,Mv 44 8,Ix 45 (.num .i64) 43 44,Lq 46 45,Ix 47 (.num .i64) 41 46,Lq 48 47,Mv 5 48]) .skip))) (Rs [Mi 4 0] .ret))))))) r9))
theorem ack:FnC Try.prog sG [] 0 76 Try.f76 acj jC:=fnC Try.func76
def aa0(R:TR)(a:TS):TE:=(de a [1,5,14,15,16,1000000] 0 (bu 1 (bu 0 (d4 (R r9) (fin jC)))))
abbrev nj:Type:=(List Int×Int×List aq×Int×Int)
def mB:nj->St:=λ(a,b,c,d,e)=>{env:=(.undef::.sl (.num .i64) (.may false) a::(U 3 (vI b::(U 8 (vF .afield c::vI d::vI e::(U 36 [])))))),hp:=[]}
def p8(N:Nat):TS->TS:=λa s=>run sG N tb (aa0 (run sG N) a) s
def nk(N:Nat)(a:nj->Ro):nj->Ro:=λ(d,f,c,e,b)=>cond (decide (b<e)) (chk (ixl b c) (let g:=(As c (AC b) (am .afield));chk (ixl g.typ d) (let i:=As d (AC g.typ) (am (.num .i64));cond (decide (i<0)) (some (vI (-1),[])) (chk (ixl g.typ d) (let h:=As d (AC g.typ) (am (.num .i64));let j:=(if f<h then h else f);let k:=(Az .i64 (b+1));a (d,j,c,e,k)))))) (cond (decide (f<0)) (some (vI (-1),[])) (let l:=(Az .i64 (f+1));some (vI l,[])))
theorem zG(N:Nat):LB (p8 N) mB (nk N):=λ_ _=>by kernel_rfl
def mc(N:Nat)(a:ab)(b:List Int)(h:nj->Ro):Ro:=cond (a.kind==9) (let i:=(↑(An a.fields):Int);h (b,0,a.fields,i,0)) (cond (a.kind==14) (aZ (ni a b) (λ(c:Int)=>cond (decide (0<=c)) (chk (ixl c a.branches) (let f:=As a.branches (AC c) (am (.num .i64));chk (ixl f b) (let g:=As b (AC f) (am (.num .i64));cond (decide (g<0)) (some (vI (-1),[])) (let d:=(Az .i64 (g+1));some (vI d,[]))))) (cond (decide ((-1)<0)) (some (vI (-1),[])) (let e:=(Az .i64 ((-1)+1));some (vI e,[]))))) (some (vI 0,[])))
def vz(N:Nat)(a:ab)(b:List Int):Ro:=mc N a b (λz=>cg N (nk N) z)
theorem aa1(N:Nat)(a:ab)(c:List Int)(h:Tot (vz N a c) (λz=>∃d f,z.1.dimR=vI d∧z.2=f∧oY a c (d))):∃r,pt a c r:=ack.finP (N:=N) ((iu _ (by kernel_rfl) rfl (λC=>mc N a c (λz=>C 1000000 (mB z))) (λC=>by kernel_rfl)).trans (B7 (b:=mc N a c (λz=>bC N (p8 N) (mB z))) (by kernel_rfl) (congrArg (mc N a c) (funext λz=>cJ (mB) (p8 N) (nk N) (zG N) N z)))) h λ_ ⟨d,_,e,_,q⟩=>⟨(d),e,q⟩
def p9:ao:=tb_ [] [] [] []
def rj:IR:=Rs [Bi 12 .lss 11 10] (Sq (Cn 12 .skip (.exit 0)) (Sq (.block 1 (Rs [Mv 13 11,Ix 14 (.num .i64) 9 11,Lq 15 14,Mv 6 13,Mv 7 15] (Sq (.reg [Mv 16 1,Mv 17 7,Ix 18 (.num .i64) 16 17,Lq 19 18,Bc 20 .geq 19 0,Mv 21 20,Gt 21 (.mov 22 5),Gt 21 (.bin 23 .lss 22 (kI 0)),Gt 21 (.mov 24 23),Gf 24 (.mov 25 1),Gf 24 (.mov 26 7),Gf 24 (.ixa 27 (.num .i64) 25 26),Gf 24 (.lde 28 1 false 27),Gf 24 (.mov 29 1),Gf 24 (.fad 30 9 2),Gf 24 (.lde 31 1 false 30),Gf 24 (.mov 32 5),Gf 24 (.ixa 33 (.num .i64) 31 32),Gf 24 (.lde 34 1 false 33),Gf 24 (.ixa 35 (.num .i64) 29 34),Gf 24 (.lde 36 1 false 35),Gf 24 (.bin 37 .lss 28 36),Gt 21 (.pick 38 24 (kB true) 37),Pa 39 21 38] [[],[],[0,1],[0,1,2],rg 0 3,rg 0 4,rg 0 5,rg 0 6,rg 0 7,rg 0 8,rg 0 8,rg 0 10,rg 0 11,rg 0 8,rg 0 8,rg 0 8++[14],rg 0 8,rg 0 8++[14,15,16],rg 0 8++rg 14 17,rg 0 8++rg 13 18,rg 0 8++rg 13 19,rg 0 20,rg 0 21,rg 0 22]) (Cn 39 (Rg [Mv 40 6,Mv 5 40]) .skip)))) (Rg [Bc 41 .add 11 1,Mv 11 41])))
def rl:IR:=Rs [Mv 42 5,Mv 4 42] .ret
def zH:IR:=Rs [Bx 2 0,Mi 4 0] (Rs [Mi 5 (-1)] (Sq (Rs [Fa 8 9 2,Lq 9 8,Ll 10 9,Mi 11 0] (.block 0 (.loop [1,2,5,9,10,11,1000000] 0 rj))) rl))
theorem zI:FnC Try.prog p9 [] 0 78 Try.f78 zH jC:=fnC Try.func78
def yq(R:TR)(a:TS):TE:=(de a [1,2,5,9,10,11,1000000] 0 (bu 0 (d4 (R rl) (fin jC))))
abbrev lC:Type:=(List Int×ab×Int×List Int×Int×Int)
def kD:lC->St:=λ(a,b,c,d,e,f)=>{env:=(.undef::.sl (.num .i64) (.may false) a::.ea (enc .atype b)::.undef::.undef::vI c::(U 3 (.sl (.num .i64) (.may false) d::vI e::vI f::(U 31 [])))),hp:=[]}
def oF(N:Nat):TS->TS:=λa s=>run p9 N rj (yq (run p9 N) a) s
def lD(N:Nat)(a:lC->Ro):lC->Ro:=λ(d,e,f,g,c,b)=>cond (decide (b<c)) (chk (ixl b g) (let h:=As g (AC b) (am (.num .i64));chk (ixl h d) (let k:=As d (AC h) (am (.num .i64));cond (decide (0<=k)) (cond (decide (f<0)) (let l:=(Az .i64 (b+1));a (d,e,b,g,c,l)) (chk (ixl h d) (let m:=As d (AC h) (am (.num .i64));chk (ixl f e.branches) (let j:=As e.branches (AC f) (am (.num .i64));chk (ixl j d) (let n:=As d (AC j) (am (.num .i64));cond (decide (m<n)) (let o:=(Az .i64 (b+1));a (d,e,b,g,c,o)) (let p:=(Az .i64 (b+1));a (d,e,f,g,c,p))))))) (let i:=(Az .i64 (b+1));a (d,e,f,g,c,i))))) (some (vI f,[]))
theorem xq(N:Nat):LB (oF N) kD (lD N):=λ_ _=>by kernel_rfl
def jU(N:Nat)(a:ab)(b:List Int)(c:lC->Ro):Ro:=let d:=(↑(An a.branches):Int);c (b,a,(-1),a.branches,d,0)
def tc(N:Nat)(a:ab)(b:List Int):Ro:=jU N a b (λz=>cg N (lD N) z)
theorem yr(N:Nat)(a:ab)(c:List Int)(h:Tot (tc N a c) (λz=>∃d f,z.1.dimR=vI d∧z.2=f∧nB a c (d))):∃r,ni a c r:=zI.finP (N:=N) ((iu _ (by kernel_rfl) rfl (λC=>jU N a c (λz=>C 1000000 (kD z))) (λC=>by kernel_rfl)).trans (B7 (b:=jU N a c (λz=>bC N (oF N) (kD z))) (by kernel_rfl) (congrArg (jU N a c) (funext λz=>cJ (kD) (oF N) (lD N) (xq N) N z)))) h λ_ ⟨d,_,e,_,q⟩=>⟨(d),e,q⟩
def np:aa9:=λf us=>match f,us with
 |75,[.sl (.num .i64) (.may _) a]=>some ((decide (0<An a)&&decide (An a<=1000)),none,⟨(.num .i64),a⟩)
 |_,_=>none
noncomputable def bv:ao:=(rS np (mq (sA (P:=Try.prog) [ac8])))
theorem xr:cz bv [75]:=(aei (by
 intro f us a;unfold np;split<;>first|rfl|(simp at a)) (by
 intro f us a;unfold np;split<;>first|rfl|(simp at a)) (ko _ _))
theorem yt:bt Try.prog bv:=by
 refine agc ?_ ?_
 ·intro f us o k xs h;unfold np at h;split at h;·simp only[Ab,Ae] at h;obtain⟨a,rfl,b⟩:=h;cases b;exact(aej _ a).dim rfl
  ·simp at h
 exact tN _
def lE:IR:=Rs [Bi 16 .lss 15 14] (Sq (Cn 16 .skip (.exit 0)) (Sq (.block 1 (Rs [Mv 17 15,Mv 4 17] (.gh (.opn (.slot 3)) (.ghp (.cls (.slot 3)) (Rg [Mv 18 3,Mv 19 4,Pp (.ixw 20 (.num .i64) 18 19),Pp (.stw none 1 20 (kI (-1)))]))))) (Rg [Bc 21 .add 15 1,Mv 15 21])))
def rm:IR:=Rs [Bi 29 .lss 28 27] (Sq (Cn 29 .skip (.exit 4)) (Sq (.block 5 (Rs [Mv 30 28,Ix 31 .atype 26 28,Ld 32 10 true 31,Pp (.alr 8 10),Mv 7 30,Fz 8 10 32] (Rs [Mv 33 3,Mv 34 7,Ix 35 (.num .i64) 33 34,Lq 36 35,Bc 37 .lss 36 0] (Cn 37 (Sq (.gh (.opn (.slot 6)) (.ghp (.cls (.slot 6)) (Rg [Mv 38 6,Mv 39 7,Ld 40 10 true 8,Mv 41 3,Ca 42 76 [40,41],Pp (.ixw 43 (.num .i64) 38 39),Pp (.stw none 1 43 42)]))) (.gh (.opn (.slot 6)) (.ghp (.cls (.slot 6)) (Rg [Mv 44 5,Mv 45 44,Gf 45 (.mov 46 6),Gf 45 (.mov 47 7),Gf 45 (.ixw 48 (.num .i64) 46 47),Gf 45 (.ldw 49 1 false 48),Gf 45 (.bin 50 .geq 49 (kI 0)),Po 51 45 50,Mv 5 51])))) .skip)))) (Rg [Bc 52 .add 28 1,Mv 28 52])))
def rn:IR:=Rg [Pp (.mov 53 (.tk 6)),Pp (.mov 3 (.tk 53))]
def kE:IR:=Sq (Rs [Mv 22 5] (Cn 22 .skip (.exit 2))) (.block 3 (Sq (.gh (.fz (.slot 3)) (.ghp (.cls (.slot 6)) (Rg [Mv 23 3,Ca 24 75 [23],Pp (.mov 6 (.tk 24))]))) (Rs [Mb 5 false] (Sq (Rs [Fa 25 0 1,Lq 26 25,Ll 27 26,Mi 28 0] (.block 4 (.loop [1,3,5,6,26,27,28,1000001] 0 rm))) rn))))
def nH:IR:=Rs [Pp (.mov 54 (.tk 3)),Pp (.mov 2 (.tk 54))] (.gh (.fz (.slot 2)) .ret)
def nI:IR:=Sq (Rs [Mb 5 true] (.block 2 (.loop [1,3,5,1000002] 0 kE))) nH
def aa2:IR:=Rs [Bx 1 0,Pp (.mov 2 (.c (.ul (.num .i64) ([]:List Int))))] (Rs [Fa 9 0 1,Lq 10 9,Ll 11 10,Pp (.mku 12 (.num .i64) 11),Pp (.mov 3 (.tk 12))] (Sq (Rs [Mv 13 3,Pp (.lnw 14 13),Mi 15 0] (.block 0 (.loop [1,3,14,15,1000000] 0 lE))) nI))
theorem aa3:FnC Try.prog bv [75] 0 42 Try.f42 aa2 bm:=⟨yt,xr,Try.func42,by kernel_rfl,by kernel_rfl,by decide⟩
def o9(R:TR)(a:TS):TE:=(de a [1,3,14,15,1000000] 0 (bu 0 (d4 (R nI) (fin bm))))
abbrev fQ:Type:=(List ab×List Int×Int×Int)
def dG:fQ->St:=λ(a,b,c,d)=>{env:=(.undef::.ea [vF .atype a]::.undef::.ul (.num .i64) b::(U 10 (vI c::vI d::(U 39 [])))),hp:=[]}
def mC(R:TR)(a:TS):TE:=(de a [1,3,5,1000002] 0 (bu 2 (d4 (R nH) (fin bm))))
abbrev eI:Type:=(List ab×List Int×Bool)
def bS:eI->St:=λ(a,b,c)=>{env:=(.undef::.ea [vF .atype a]::.undef::.ul (.num .i64) b::.undef::vB c::(U 49 [])),hp:=[]}
def zJ(R:TR)(a b:TS):TE:=(de b [1,3,5,6,26,27,28,1000001] 0 (bu 4 (d4 (R rn) (bu 3 (mC R a)))))
abbrev mD:Type:=(List ab×List Int×Bool×List Int×List ab×Int×Int)
def ji:mD->St:=λ(a,b,c,d,e,f,g)=>{env:=(.undef::.ea [vF .atype a]::.undef::.sl (.num .i64) .own b::.undef::vB c::.ul (.num .i64) d::(U 19 (vF .atype e::vI f::vI g::(U 26 [])))),hp:=[]}
def mE(N:Nat)(a:TS):TS->TS:=λb s=>run bv N rm (zJ (run bv N) a b) s
def jV(N:Nat)(f:eI->Ro)(b:mD->Ro):mD->Ro:=λ(c,i,j,h,d,g,a)=>cond (decide (a<g)) (chk (ixl a d) (let o:=(As d (AC a) (am .atype));chk (ixl a i) (let p:=As i (AC a) (am (.num .i64));cond (decide (p<0)) (chk (decide (0<An h)) (aZ (pt o i) (λ(q:Int)=>chk (decide (0<=a)&&decide (a<↑(An h))) (chk (decide ((AC a)<An h)) (let e:=(List.set h (AC a) q);chk (Af (An h) (An e)) (chk (decide (0<An e)) (cond j (chk (Af (An e) (An e)) (let k:=(Az .i64 (a+1));b (c,i,true,e,d,g,k))) (chk (decide (0<=a)&&decide (a<↑(An e))) (chk (decide ((AC a)<An e)) (let l:=As e (AC a) (am (.num .i64));chk (Af (An e) (An e)) (let m:=(Az .i64 (a+1));b (c,i,decide (0<=l),e,d,g,m)))))))))))) (let n:=(Az .i64 (a+1));b (c,i,j,h,d,g,n))))) (f (c,h,j))
theorem yu(N:Nat)(a:TS):LB (mE N a) ji (jV N (λy=>a (bS y))):=λ_ _=>by kernel_rfl
def jW(N:Nat):TS->TS:=λa s=>run bv N kE (mC (run bv N) a) s
def lF(N:Nat)(c:eI->Ro)(d:mD->Ro):eI->Ro:=λ(a,b,e)=>cond e (chk (decide (0<An b)&&decide (An b<=1000)) (chk (Af (An b) (An b)) (let f:=(↑(An a):Int);d (a,b,false,b,a,f,0)))) (some (.sl (.num .i64) .own b,[]))
def ij(N:Nat)(a:eI->Ro)(x:eI):Ro:=lF N a (λz=>cg N (jV N a) z) x
def pa(N:Nat)(a:TS):List (Nat×(TS)):=(fm bv N kE (mC (run bv N) a)++(fm bv N nH (fin bm)++[]))
theorem yv(N:Nat):∀(a:TS)(x:eI),jW N a (bS x)=ij N (λy=>a (bS y)) x:=by
 intro a x;have b:∀C:Nat->TS,dP C bv N kE (mC (dP C bv N) a) (bS x)=lF N (λy=>a (bS y)) (λz=>C 1000001 (ji z)) x:=by intro C;kernel_rfl
 have h:jW N a (bS x)=lF N (λy=>a (bS y)) (λz=>bC N (mE N a) (ji z)) x:=(nA (C:=nh (pa N a)) (la (d5 (l:=(pa N a)) (by kernel_rfl))) (pG (mu (tL (la (tM (d5 (l:=(pa N a)) (by kernel_rfl)))) rfl))) _).trans ((b _).trans (by kernel_rfl));have c:(λz=>bC N (mE N a) (ji z))=(λz=>cg N (jV N (λy=>a (bS y))) z):=funext λz=>cJ (ji) (mE N a) (jV N (λy=>a (bS y))) (yu N a) N z
 rw[h,c];rfl
def mF(N:Nat):TS->TS:=λa s=>run bv N lE (o9 (run bv N) a) s
def lG(N:Nat)(b:fQ->Ro)(g:eI->Ro):fQ->Ro:=λ(c,d,e,a)=>cond (decide (a<e)) (chk (decide (0<An d)) (chk (decide (0<=a)&&decide (a<↑(An d))) (chk (decide ((AC a)<An d)) (let f:=(List.set d (AC a) (-1));chk (Af (An d) (An f)) (let h:=(Az .i64 (a+1));b (c,f,e,h)))))) (g (c,d,true))
def mG(N:Nat)(a:fQ->Ro)(x:fQ):Ro:=lG N a (λz=>cg N (ij N) z) x
def pc(N:Nat)(a:TS):List (Nat×(TS)):=(fm bv N lE (o9 (run bv N) a)++(fm bv N nI (fin bm)++[]))
theorem yw(N:Nat):∀(a:TS)(x:fQ),mF N a (dG x)=mG N (λy=>a (dG y)) x:=by
 intro a x;have b:∀C:Nat->TS,dP C bv N lE (o9 (dP C bv N) a) (dG x)=lG N (λy=>a (dG y)) (λz=>C 1000002 (bS z)) x:=by intro C;kernel_rfl
 have h:mF N a (dG x)=lG N (λy=>a (dG y)) (λz=>bC N (jW N) (bS z)) x:=(nA (C:=nh (pc N a)) (la (d5 (l:=(pc N a)) (by kernel_rfl))) (pG (mu (tL (la (tM (d5 (l:=(pc N a)) (by kernel_rfl)))) rfl))) _).trans ((b _).trans (by kernel_rfl));have e1:(λz=>bC N (jW N) (bS z))=(λz=>cg N (ij N) z):=funext λz=>cJ (bS) (jW N) (ij N) (yv N) N z
 rw[h,e1];rfl
def kR(N:Nat)(a:List ab)(d:fQ->Ro):Ro:=let b:=(↑(An a):Int);chk (decide (0<=b)&&decide (b*8<=140737488355328)) (let c:=(Bg (AC b) (am (.num .i64)));let e:=(↑(An c):Int);d (a,c,e,0))
def uJ(N:Nat)(a:List ab):Ro:=kR N a (λz=>cg N (mG N) z)
theorem zK(N:Nat)(a:List ab)(h:Tot (uJ N a) (λz=>∃c d,z.1.dimR=.sl (.num .i64) (.may false) c∧z.2=d∧lc a (c))):∃r,lR a r:=aa3.finP (N:=N) ((iu _ (by kernel_rfl) rfl (λC=>kR N a (λz=>C 1000000 (dG z))) (λC=>by kernel_rfl)).trans (B7 (b:=kR N a (λz=>bC N (mF N) (dG z))) (by kernel_rfl) (congrArg (kR N a) (funext λz=>cJ (dG) (mF N) (mG N) (yw N) N z)))) h λ_ ⟨c,_,e,_,q⟩=>⟨(c),e,q⟩
theorem adh(k:ab)(m:Nat)(G:lP m k)(r:List Int)(P:r.length=m):∃b,ni k r b:=by
 apply yr 1000;unfold tc jU;dsimp only;have N:=G.nb;refine ca (λx=>match x with
  |(a,k',b,l,n,i)=>a=r∧k'=k∧l=k.branches∧n=(k.branches.length:Int)∧0<=i∧i<=(k.branches.length:Int)∧((b=-1∧∀j:Nat,(j:Int)<i->rk r (brT k j)<0)∨
    (0<=b∧b<i∧0<=rk r (brT k b.toNat)∧(∀j:Nat,(j:Int)<i->0<=rk r (brT k j)->rk r (brT k b.toNat)<=rk r (brT k j))∧(∀j,j<b.toNat->0<=rk r (brT k j)->rk r (brT k b.toNat)<rk r (brT k j)))))
  (λx=>((k.branches.length:Int)-x.2.2.2.2.2).toNat) ?_ _ _ ⟨rfl,rfl,rfl,rfl,by simp,by simp,.inl ⟨rfl,λj u=>by omega⟩⟩ (by simp;omega)
 rintro o ⟨a,k',b,l,n,i⟩ ⟨rfl,rfl,rfl,rfl,J,O,y⟩ H;dsimp only at H;unfold lD;dsimp only;refine ak (λh=>?_) (λh=>?_)
 ·have h:=of_decide_eq_true h;have M:i.toNat<k'.branches.length:=by omega
  have v:=G.branches _ (l8 k'.branches i.toNat 0 M);have B:IntKind.i64.wrap (i+1)=i+1:=aX (i+1) (by omega);have keep:(0<=rk a (brT k' i.toNat)->0<=b∧rk a (brT k' b.toNat)<=rk a (brT k' i.toNat))->Tot (o (a,k',b,k'.branches,(k'.branches.length:Int),IntKind.i64.wrap (i+1))) _:=λz=>H (a,k',b,k'.branches,_,IntKind.i64.wrap (i+1)) (by
   simp only[B];refine⟨trivial,trivial,trivial,trivial,by omega,by omega,?_⟩;rcases y with⟨rfl,c⟩|⟨c,C,q,p,t⟩
   ·refine .inl ⟨rfl,λj u=>?_⟩;by_cases f:(j:Int)<i;·exact c j f
    ·have e:j=i.toNat:=by omega
     rw[e];by_cases d:0<=rk a (brT k' i.toNat);·have:=(z d).1;omega
     ·omega
   ·refine .inr ⟨c,by omega,q,λj u d=>?_,t⟩;by_cases f:(j:Int)<i;·exact p j f d
    ·have e:j=i.toNat:=by omega
     rw[e] at d ⊢;exact(z d).2) (by simp only[B];omega)
  have turn:0<=rk a (brT k' i.toNat)->(0<=b->rk a (brT k' i.toNat)<rk a (brT k' b.toNat))->Tot (o (a,k',i,k'.branches,(k'.branches.length:Int),IntKind.i64.wrap (i+1))) _:=λd A=>H (a,k',i,k'.branches,_,IntKind.i64.wrap (i+1)) (by
   simp only[B];refine⟨trivial,trivial,trivial,trivial,by omega,by omega,.inr ⟨J,by omega,d,λj u g=>?_,λj u g=>?_⟩⟩
   ·by_cases f:(j:Int)<i
    ·rcases y with⟨rfl,c⟩|⟨c,C,q,p,t⟩
     ·have:=c j f;omega
     ·have:=p j f g;have:=A c;omega
    ·have e:j=i.toNat:=by omega
     rw[e];exact Int.le_refl _
   ·rcases y with⟨rfl,c⟩|⟨c,C,q,p,t⟩
    ·have:=c j (by omega);omega
    ·have:=p j (by omega) g;have:=A c;omega) (by simp only[B];omega)
  refine vck ?_
  change Tot (chk (decide (0<=brT k' i.toNat)&&decide (brT k' i.toNat<(a.length:Int))) (cond (decide (0<=rk a (brT k' i.toNat))) (cond (decide (b<0)) _
   (chk (decide (0<=brT k' i.toNat)&&decide (brT k' i.toNat<(a.length:Int))) (chk _ (chk (decide (0<=brT k' b.toNat)&&decide (brT k' b.toNat<(a.length:Int))) (cond (decide (rk a (brT k' i.toNat)<rk a (brT k' b.toNat))) _ _))))) _)) _
  have v:0<=brT k' i.toNat∧brT k' i.toNat<(m:Int):=v;refine vck (ak (λd=>?_) (λd=>keep λg=>absurd g (of_decide_eq_false d)));have d:=of_decide_eq_true d;refine ak (λE=>turn d λI=>absurd I (Int.not_le.2 (of_decide_eq_true E))) (λE=>?_);have E:=of_decide_eq_false E;have L:b<i:=by rcases y with⟨rfl,c⟩|⟨c,C,q,p,t⟩<;>omega
  have w:=G.branches _ (l8 k'.branches b.toNat 0 (by omega));have w:0<=brT k' b.toNat∧brT k' b.toNat<(m:Int):=w;refine vck (vck (vck (ak (λF=>turn d λ_=>of_decide_eq_true F) (λF=>keep λ_=>?_))));have F:=of_decide_eq_false F;omega
 ·have h:=of_decide_eq_false h;refine ap ⟨_,_,rfl,rfl,?_⟩;rcases y with⟨rfl,c⟩|⟨c,C,q,p,t⟩
  ·exact .inl ⟨rfl,λj u=>c j (by omega)⟩
  ·exact .inr ⟨⟨c,by omega,λj u d=>⟨q,p j (by omega) d⟩,t⟩,q⟩
theorem afv(k:ab)(m:Nat)(E:lP m k)(r:List Int)(hr:r.length=m)(S:∀i,i<r.length->-1<=r.getD i 0∧r.getD i 0<=1000):∃q,pt k r q:=by
 apply aa1 1000;unfold vz mc;dsimp only;have w:∀q,oY k r q=((q=-1∧qP k r)∨rR k r q):=λ_=>rfl
 simp only[w];refine ak (λo=>?_) (λo=>ak (λd=>?_) (λd=>?_))
 ·have o:k.kind=9:=by simp only[bnl] at o;exact o
  have Z:=E.nf;refine ca (λx=>match x with
   |(u,a,l,n,i)=>u=r∧l=k.fields∧n=(k.fields.length:Int)∧0<=i∧i<=(k.fields.length:Int)∧0<=a∧a<=1000∧(∀f∈k.fields.take i.toNat,0<=rk r f.typ∧rk r f.typ<=a)∧(1<=a->∃j,j<r.length∧r.getD j 0=a))
   (λx=>((k.fields.length:Int)-x.2.2.2.2).toNat) ?_ _ _ ⟨rfl,rfl,rfl,by simp,by simp,by simp,by simp,by simp,by simp⟩ (by simp;omega)
  rintro I ⟨u,a,l,n,i⟩ ⟨rfl,rfl,rfl,i1,i2,i3,i4,H,N⟩ O;dsimp only at O;unfold nk;dsimp only;refine ak (λh=>?_) (λh=>?_)
  ·have h:=of_decide_eq_true h;have P:i.toNat<k.fields.length:=by omega
   have Q:=l8 k.fields i.toNat (am .afield) P;have R:=E.fields _ Q;have M:IntKind.i64.wrap (i+1)=i+1:=aX (i+1) (by omega);have ht:=aap k.fields i.toNat (am .afield) P;refine vck ?_;generalize k.fields.getD i.toNat (am .afield)=f at*
   refine vck ?_;have hq:=S f.typ.toNat (by omega);refine ak (λt=>ap ⟨_,_,rfl,rfl,.inl ⟨rfl,.inl ⟨o,f,Q,of_decide_eq_true t⟩⟩⟩) (λt=>?_);have t:¬u.getD f.typ.toNat 0<0:=of_decide_eq_false t;refine vck ?_;refine O (u,_,k.fields,_,_) ?_ (by simp only[M];omega);simp only[M];have Y:(i+1).toNat=i.toNat+1:=by omega
   have em:(if a<u.getD f.typ.toNat (am (.num .i64)) then u.getD f.typ.toNat (am (.num .i64)) else a)=(if a<u.getD f.typ.toNat 0 then u.getD f.typ.toNat 0 else a):=rfl;rw[em,Y,ht];refine⟨trivial,trivial,trivial,by omega,by omega,by split<;>omega,by split<;>omega,λg z=>?_,λp=>?_⟩
   ·rcases AB.1 z with z|z;·have:=H g z;split<;>omega
    ·rw[Aq] at z;subst z;have:rk u g.typ=u.getD g.typ.toNat 0:=rfl;rw[this];split<;>omega
   ·split;·exact⟨f.typ.toNat,by omega,rfl⟩
    ·rename_i X;rw[if_neg X] at p;exact N p
  ·have h:=of_decide_eq_false h;refine ak (λp=>by have:=of_decide_eq_true p;omega) (λp=>ap ⟨_,_,rfl,rfl,.inr ?_⟩);rw[aX _ (by omega)];rw[B1 (by omega)] at H;exact⟨by omega,λ_=>by omega,λy=>by omega,λ_ f R=>by have:=H f R;omega,λW=>by obtain⟨j,F,e⟩:=N (by omega);exact⟨j,F,by omega⟩⟩
 ·have o:k.kind≠9:=by simp only[bnl] at o;exact o
  have d:k.kind=14:=by simp only[bnl] at d;exact d
  refine aH (adh k m E r hr) ?_;rintro(b:Int) ⟨-,C⟩;refine ak (λt=>?_) (λt=>ak (λ_=>ap ⟨_,_,rfl,rfl,.inl ⟨rfl,.inr ⟨d,λc J=>?_⟩⟩⟩) (λp=>absurd (of_decide_eq_false p) (by decide)))
  rotate_left
  ·have t:=of_decide_eq_false t;rcases C with⟨-,B⟩|⟨G, -⟩
   ·obtain⟨j,F,rfl⟩:=AZ.1 J;have:=B j F;unfold brT at this
    rwa [Al,Ac F] at this
   ·have:=G.nn;omega
  have t:=of_decide_eq_true t;rcases C with⟨rfl,_⟩|⟨J,L⟩
  ·omega
  have a2:=J.lt;have v:=l8 k.branches b.toNat 0 (by omega);have A:=E.branches _ v;refine vck ?_;change Tot (chk (decide (0<=brT k b.toNat)&&decide (brT k b.toNat<(r.length:Int))) (cond (decide (rk r (brT k b.toNat)<0)) _ (some (V.int .i64 (Az .i64 (rk r (brT k b.toNat)+1)),([]:List al))))) _;have A:0<=brT k b.toNat∧brT k b.toNat<(m:Int):=A;have hq:-1<=rk r (brT k b.toNat)∧rk r (brT k b.toNat)<=1000:=S (brT k b.toNat).toNat (by omega);refine vck (ak (λp=>by have p:rk r (brT k b.toNat)<0:=of_decide_eq_true p;omega) (λp=>ap ⟨_,_,rfl,rfl,.inr ?_⟩));rw[aX _ (by omega)];exact⟨by omega,λ_=>by omega,λ_=>⟨brT k b.toNat,v,L,by omega⟩,λy=>absurd y o,λW=>⟨(brT k b.toNat).toNat,by omega,rfl⟩⟩
 ·have o:k.kind≠9:=by simp only[bnl] at o;exact o
  have d:k.kind≠14:=by simp only[bnl] at d;exact d
  exact ap ⟨_,_,rfl,rfl,.inr ⟨by omega,λy=>by omega,λy=>absurd y d,λy=>absurd y o,λW=>by omega⟩⟩
theorem rR.mono{k:ab}{r r':List Int}{m:Int}(h:rR k r m)(hl:r'.length=r.length)(hr:∀i,0<=r.getD i 0->r'.getD i 0=r.getD i 0):rR k r' m where
 low:=h.low
 pos:=h.pos
 uni h14:=by obtain⟨b,hb,h0,h1⟩:=h.uni h14;exact⟨b,hb,by unfold rk at *;rw[hr _ h0];exact h0,by unfold rk at *;rw[hr _ h0];exact h1⟩
 rcd h9 f hf:=by obtain⟨h0,h1⟩:=h.rcd h9 f hf;exact⟨by unfold rk at *;rw[hr _ h0];exact h0,by unfold rk at *;rw[hr _ h0];exact h1⟩
 pre h2:=by obtain⟨j,hj,e⟩:=h.pre h2;exact⟨j,by omega,by rw[hr _ (by omega)];exact e⟩
theorem sP.step{ts:List ab}{r next:List Int}{m:Int}(h:sP ts r m)(u:0<=m)(q:next.length=ts.length)(p:∀j,j<ts.length->0<=r.getD j 0->next.getD j 0=r.getD j 0)
  (d:∀j,j<ts.length->r.getD j 0<0->next.getD j 0=-1∨rR (ts.getD j (am .atype)) r (next.getD j 0)):sP ts next (m+1):=by
 have k:=h.len;have a:∀i,0<=r.getD i 0->next.getD i 0=r.getD i 0:=λi c=>by
  by_cases f:i<ts.length;·exact p i f c
  ·simp[Al,AR (show next.length<=i by omega),AR (show r.length<=i by omega)]
 refine⟨q,λi c=>?_,λi c=>?_,λi c g=>?_⟩
 ·by_cases b:0<=r.getD i 0;·rw[a i b];omega
  ·rcases d i (by omega) (by omega) with e|e;·omega
   ·have:=e.low;omega
 ·by_cases b:0<=r.getD i 0;·rw[a i b];have:=h.top i (by omega);omega
  ·rcases d i (by omega) (by omega) with e|e;·omega
   ·by_cases hp:2<=next.getD i 0
    ·obtain⟨j,o,t⟩:=e.pre hp;have:=h.top j o;omega
    ·omega
 ·by_cases b:0<=r.getD i 0;·rw[a i b] at g ⊢;exact(h.ok i (by omega) g).mono (by omega) a
  ·rcases d i (by omega) (by omega) with e|e;·omega
   ·exact e.mono (by omega) a
theorem yx(ts:List ab)(hs:kr ts):∃r,lR ts r:=by
 apply zK 1000;unfold uJ kR;dsimp only;obtain⟨⟨b2,hn⟩,Y⟩:=hs;have hs:kr ts:=⟨⟨b2,hn⟩,Y⟩
 refine vck ?_;have G:∀r,sP ts r 0->Tot (cg 1000 (ij 1000) (ts,r,true)) (λz=>∃(y0:List Int)(S:List al),z.1.dimR=.sl (.num .i64) (.may false) y0∧z.2=S∧lc ts y0):=by
  intro r hr;have c3:=ab9 r;have L:=hr.len
  refine ca (λx=>match x with|(a,r,more)=>a=ts∧(more=false->∀j,j<ts.length->r.getD j 0<0->qP (ts.getD j (am .atype)) r)∧∃m:Int,0<=m∧m+(mN r:Int)<=ts.length∧sP ts r m)
   (λx=>mN x.2.1+(if x.2.2 then 1 else 0)) ?_ _ _ ⟨rfl,(λh=>by cases h),0,by omega,by omega,hr⟩ (by simp only[if_true];omega)
  rintro M ⟨a,r,more⟩ ⟨rfl,i0,m,i1,i2,v⟩ Q;dsimp only at Q;unfold ij lF;dsimp only;have L:=v.len;have c4:(0:Int)<=(mN r:Int):=by omega
  refine ak (λk=>?_) (λk=>ap ⟨_,_,rfl,rfl,⟨v.len,v.low,λi hi=>by have:=v.top i hi;omega,v.ok⟩,i0 k⟩);subst k;refine vck (vck ?_)
  refine ca (λx=>match x with|(av,p,N,next,c,n2,i)=>av=a∧p=r∧c=a∧n2=(a.length:Int)∧0<=i∧i<=(a.length:Int)∧next.length=a.length∧(∀j,j<a.length->(0<=r.getD j 0∨i<=(j:Int))->next.getD j 0=r.getD j 0)∧
    (∀j,j<a.length->(j:Int)<i->r.getD j 0<0->(next.getD j 0=-1∧qP (a.getD j (am .atype)) r)∨rR (a.getD j (am .atype)) r (next.getD j 0))∧
    (N=true->∃j,j<a.length∧r.getD j 0<0∧0<=next.getD j 0)∧(N=false->∀j,j<a.length->r.getD j 0<0->next.getD j 0<0))
   (λx=>((a.length:Int)-x.2.2.2.2.2.2).toNat) ?_ _ _ ⟨rfl,rfl,rfl,rfl,by simp,by simp,by simpa using L,λj _ _=>rfl,λj _ d=>by omega,by simp,λ_ j _ h=>h⟩ (by simp;omega)
  rintro C ⟨av,p,N,next,c,n2,i⟩ ⟨rfl,rfl,rfl,rfl,j1,j2,j3,R,j5,j6,j7⟩ H;dsimp only at H;unfold jV;dsimp only;refine ak (λh'=>?_) (λh'=>?_)
  ·have h':=of_decide_eq_true h';have J:IntKind.i64.wrap (i+1)=i+1:=aX (i+1) (by omega);have P:i.toNat<c.length:=by omega
   have E:=hs.at P;refine vck (vck (ak (λo=>?_) (λo=>?_)))
   ·have o:p.getD i.toNat 0<0:=of_decide_eq_true o;have a0:next.getD i.toNat 0=p.getD i.toNat 0:=R _ P (.inr (by omega))
    refine vck (aH (afv _ c.length E p L λq hq=>⟨v.low q hq,by have:=v.top q hq;omega⟩) ?_);rintro(q:Int) ⟨-,hq⟩;have t:(next.set i.toNat q).length=c.length:=by simpa using j3
    have c8:-1<=q:=by
     rcases hq with e|e;·omega
     ·have:=e.low;omega
    have nx:∀y:Bool,(y=true->(N=true∨0<=q))->(y=false->N=false∧q<0)->Tot (C (c,p,y,next.set i.toNat q,c,(c.length:Int),IntKind.i64.wrap (i+1))) _:=λy B W=>H (c,p,y,next.set i.toNat q,c,_,IntKind.i64.wrap (i+1)) (by
     simp only[J];refine⟨trivial,trivial,trivial,trivial,by omega,by omega,t,λj d hc=>?_,λj d X g=>?_,λu=>?_,λu j d g=>?_⟩
     ·have I:i.toNat≠j:=λe=>by rw[e] at o;omega
      rw[iU _ _ _ _ _ I];exact R j d (by omega)
     ·by_cases A:(j:Int)<i;·rw[iU _ _ _ _ _ (by omega)];exact j5 j d A g
      ·have e:j=i.toNat:=by omega
       rw[e,o8 _ _ _ _ (by omega)];exact hq
     ·rcases B u with u|u
      ·obtain⟨j,a1,a2,a3⟩:=j6 u;have I:i.toNat≠j:=λe=>by rw[<-e,a0] at a3;omega
       exact⟨j,a1,a2,by rw[iU _ _ _ _ _ I];exact a3⟩
      ·exact⟨i.toNat,P,o,by rw[o8 _ _ _ _ (by omega)];exact u⟩
     ·by_cases A:i.toNat=j;·rw[<-A,o8 _ _ _ _ (by omega)];exact(W u).2
      ·rw[iU _ _ _ _ _ A];exact j7 (W u).1 j d g) (by simp only[J];omega)
    refine vck (vck (aU (by simp) (aU (by rw[t];first|(simp only[bnl,lnl];done)|(simp only[bnl,lnl];omega)) ?_)));refine ak (λu=>?_) (λu=>?_);·exact aU (by simp) (nx true (λ_=>.inl u) (λh=>by cases h))
    ·refine aU (by rw[t];first|(simp only[bnl,lnl];done)|(simp only[bnl,lnl];omega)) (aU (by rw[t];first|(simp only[bnl,lnl];done)|(simp only[bnl,lnl];omega)) (aU (by simp) ?_));have eg:(next.set i.toNat q).getD i.toNat (am (.num .i64))=q:=o8 _ _ _ _ (by omega);rw[eg];exact nx _ (λh=>.inr (of_decide_eq_true h)) (λh=>⟨u,by have:=of_decide_eq_false h;omega⟩)
   ·have o:¬p.getD i.toNat 0<0:=of_decide_eq_false o;refine H (c,p,N,next,c,_,_) ?_ (by simp only[J];omega);simp only[J];refine⟨trivial,trivial,trivial,trivial,by omega,by omega,j3,λj d hc=>R j d (by omega),λj d X g=>?_,j6,j7⟩;by_cases A:(j:Int)<i;·exact j5 j d A g
    ·have:j=i.toNat:=by omega
     rw[this] at g;omega
  ·have h':=of_decide_eq_false h';have F:=v.step i1 j3 (λj d o=>R j d (.inl o)) λj d o=>(j5 j d (by omega) o).imp And.left id
   have w:∀j,j<next.length->next.getD j 0<0->p.getD j 0<0:=λj d Z=>by
    by_cases o:0<=p.getD j 0;·rw[R j (by omega) (.inl o)] at Z;omega
    ·omega
   cases B:N with
   |true=>
    obtain⟨j,a1,a2,a3⟩:=j6 B;have dv:=zC next p (by omega) w j (by omega) a3 a2
    exact Q (c,next,true) ⟨rfl,(λh=>by cases h),m+1,by omega,(by dsimp only;omega),F⟩ (by simp only[if_true];omega)
   |false=>
    have c5:=zB next p (by omega) w
    have O:=j7 B;refine Q (c,next,false) ⟨rfl,(λ_ j d Z=>?_),m,by omega,(by dsimp only;omega),F.len,F.low,λj d=>?_,F.ok⟩ (by simp;omega)
    ·have Z:next.getD j 0<0:=Z
     have d:j<c.length:=d;rcases j5 j d (by omega) (w j (by omega) Z) with⟨_,e⟩|e
     ·have E:=hs.at d;rcases e with⟨e1,f,hf,e2⟩|⟨e1,e2⟩
      ·have:=E.fields f hf;exact .inl ⟨e1,f,hf,O f.typ.toNat (by omega) e2⟩
      ·refine .inr ⟨e1,λb hb=>?_⟩;have:=E.branches b hb;exact O b.toNat (by omega) (e2 b hb)
     ·have:=e.low;omega
    have d:j<next.length:=d
    show next.getD j 0<=m
    by_cases o:0<=p.getD j 0;·rw[R j (by omega) (.inl o)];exact v.top j (by omega)
    ·have:=O j (by omega) (by omega);omega
 have a4:(Bg (ts.length:Int).toNat (am (.num .i64))).length=ts.length:=by simp
 refine ca (λx=>match x with|(a,r,n,i)=>a=ts∧n=(ts.length:Int)∧0<=i∧i<=(ts.length:Int)∧r.length=ts.length∧∀j,j<ts.length->(j:Int)<i->r.getD j 0=-1)
  (λx=>((ts.length:Int)-x.2.2.2).toNat) ?_ _ _ ⟨rfl,by rw[a4],by simp,by simp,a4,λj _ d=>by omega⟩ (by simp;omega)
 rintro M ⟨a,r,n,i⟩ ⟨rfl,rfl,i1,i2,v,i4⟩ Q;dsimp only at Q;unfold mG lG;dsimp only;refine ak (λh=>?_) (λh=>?_)
 ·have h:=of_decide_eq_true h;have J:IntKind.i64.wrap (i+1)=i+1:=aX (i+1) (by omega);refine vck (vck (vck (aU (by simp) ?_)));refine Q (a,_,_,_) ?_ (by simp only[J];omega);simp only[J];refine⟨trivial,trivial,by omega,by omega,by simpa using v,λj d X=>?_⟩;by_cases A:i.toNat=j;·rw[<-A,o8 _ _ _ _ (by omega)]
  ·rw[iU _ _ _ _ _ A];exact i4 j d (by omega)
 ·have h:=of_decide_eq_false h;refine G r ⟨v,λj d=>?_,λj d=>?_,λj d h1=>?_⟩;all_goals have:=i4 j (by omega) (by omega)
  all_goals omega
theorem xt(w:List Int)(i:Nat)(x:Int):∀l:List Int,(∀p∈l,p.toNat≠i)->zk (w.set i x) l=zk w l
 | [],_=>rfl
 |p::l,h=>by
  have:=xt w i x l λp hp=>h p (by simp[hp])
  simp only[zk,this,rk];rw[iU _ _ _ _ _ (λe=>h p (by simp) e.symm)]
theorem ab0.set{ts:List ab}{r w:List Int}(h:ab0 ts r w){t:Nat}(x:t<ts.length)(u:w.getD t 0=0)(q:0<=r.getD t 0){n:Int}(v:1<=n∧n<=1000000){l:List Int}(a:ag0 (ts.getD t (am .atype)) r l)
  (hp:∀p∈l,rk w p≠0) (b:n=ah0 (1+zk w l)):ab0 ts r (w.set t n):=by
 have d:=h.len;have key:∀l:List Int,(∀p∈l,rk w p≠0)->(∀p∈l,p.toNat≠t):=λl a p hp e=>by have:=a p hp;unfold rk at this;rw[e] at this;exact this u
 have keep:∀l:List Int,(∀p∈l,rk w p≠0)->(∀p∈l,rk (w.set t n) p≠0):=λl a p hp=>by unfold rk;rw[iU _ _ _ _ _ (λe=>key l a p hp e.symm)];exact a p hp
 refine⟨by simpa using d,λi g=>?_,λi g c=>?_⟩
 ·by_cases e:t=i;·rw[<-e,o8 _ _ _ _ (by omega)];omega
  ·rw[iU _ _ _ _ _ e];exact h.low i g
 ·by_cases e:t=i;·rw[<-e,o8 _ _ _ _ (by omega)];exact⟨q,l,a,keep l hp,by rw[xt _ _ _ _ (key l hp)];exact b⟩
  ·rw[iU _ _ _ _ _ e] at c ⊢;obtain⟨k,f,m,j,o⟩:=h.ok i g c;exact⟨k,f,m,keep f j,by rw[xt _ _ _ _ (key f j)];exact o⟩
def tV:ao:=tb_ [] [] [] [ab2]
def uK:IR:=Rs [Bi 10 .lss 9 8] (Sq (Cn 10 .skip (.exit 0)) (Sq (.block 1 (Rs [Ix 11 (.num .i64) 7 9,Lq 12 11,Mv 5 12] (Rg [Pp (.mov 13 (.tk 3)),Mv 14 5,Bc 15 .geq 14 0,Pp (.bsl 16 .bool [15] true),Pp (.app 17 .bool (.tk 13) 16),Pp (.mov 3 (.tk 17))]))) (Rg [Bc 18 .add 9 1,Mv 9 18])))
def uL:IR:=Rs [Pp (.mov 19 (.tk 3)),Pp (.mov 2 (.tk 19))] .ret
def adi:IR:=Rs [Bx 1 0,Pp (.mov 2 (.c (nl .bool)))] (Rs [Pp (.mov 3 (.c (nl .bool)))] (Sq (Rs [Ld 6 1 true 1,Ca 7 42 [6],Ll 8 7,Mi 9 0] (.block 0 (.loop [3,7,8,9,1000000] 0 uK))) uL))
theorem adj:FnC Try.prog tV [] 0 16 Try.f16 adi bm:=fnC Try.func16
def acl(R:TR)(a:TS):TE:=(de a [3,7,8,9,1000000] 0 (bu 0 (d4 (R uL) (fin bm))))
abbrev oG:Type:=(List Bool×List Int×Int×Int)
def nq:oG->St:=λ(a,b,c,d)=>{env:=(U 3 (vO .bool a::(U 3 (.sl (.num .i64) (.may false) b::vI c::vI d::(U 10 []))))),hp:=[]}
def rp(N:Nat):TS->TS:=λa s=>run tV N uK (acl (run tV N) a) s
def md(N:Nat)(a:oG->Ro):oG->Ro:=λ(c,d,e,b)=>cond (decide (b<e)) (chk (ixl b d) (let f:=As d (AC b) (am (.num .i64));chk (decide ((An c+An ([decide (0<=f)]:List Bool))*1<=140737488355328)) (let g:=(c++([decide (0<=f)]:List Bool));let h:=(Az .i64 (b+1));a (g,d,e,h)))) (some (vO .bool c,[]))
theorem aa4(N:Nat):LB (rp N) nq (md N):=λ_ _=>by kernel_rfl
def mZ(N:Nat)(a:List ab)(c:oG->Ro):Ro:=aZ (lR a) (λ(b:List Int)=>let d:=(↑(An b):Int);c ([],b,d,0))
def wP(N:Nat)(a:List ab):Ro:=mZ N a (λz=>cg N (md N) z)
theorem acm(N:Nat)(a:List ab)(h:Tot (wP N a) (λz=>∃c d,z.1.dimR=vF .bool c∧z.2=d∧uz a (c))):∃r,oC a r:=adj.finP (N:=N) ((iu _ (by kernel_rfl) rfl (λC=>mZ N a (λz=>C 1000000 (nq z))) (λC=>by kernel_rfl)).trans (B7 (b:=mZ N a (λz=>bC N (rp N) (nq z))) (by kernel_rfl) (congrArg (mZ N a) (funext λz=>cJ (nq) (rp N) (md N) (aa4 N) N z)))) h λ_ ⟨c,_,e,_,q⟩=>⟨(c),e,q⟩
theorem ahq{R a:Type}{Q:R->Prop}[Inhabited a]{C:a->Prop}{K:a->Option R}(h:∃r,C r)(b:C (pick C)->Tot (K (pick C)) Q):Tot (aZ C K) Q:=aU (abX h) (b (zh h))
theorem nz{e c:Int}(a:c≠0):(if e=0 then c else e)≠0:=by split<;>assumption
structure oH(ts:List ab)(e:Int)(t0:ab)(at_:Int)(ts2:List ab)(e2:Int):Prop where
 len:ts.length<=ts2.length
 cap:ts2.length<=60
 grow:e2=0->at_=ts.length∧gA (ts++[t0]) e ts2 e2
theorem oH.add{ts:List ab}{e:Int}{t0:ab}(h:ts.length<=60){r:Int×List ab×Int}(a:r=if 60<=ts.length then (0,ts,if e=0 then 3 else e) else ((ts.length:Int),ts++[t0],e)):oH ts e t0 r.1 r.2.1 r.2.2:=by
 by_cases b:60<=ts.length;·rw[if_pos b] at a;subst a;exact⟨Ao _,h,λh=>absurd h (nz (by decide))⟩
 ·rw[if_neg b] at a;subst a;exact⟨by simp,by simp;omega,λh=>⟨rfl,gA.refl (by simp;omega)⟩⟩
theorem oH.more{ts b c:List ab}{e f i:Int}{t0:ab}{a:Int}(h:oH ts e t0 a b f)(d:gA b f c i):oH ts e t0 a c i:=
 ⟨AX h.len d.len,d.cap,λg=>⟨(h.grow (d.err g)).1,(h.grow (d.err g)).2.trans d⟩⟩
theorem oH.bad{ts b:List ab}{e d c:Int}{t0:ab}{a:Int}(h:oH ts e t0 a b d)(f:c≠0):oH ts e t0 a b c:=
 ⟨h.len,h.cap,λg=>absurd g f⟩
theorem oH.range{ts b:List ab}{e c:Int}{t0:ab}{a:Int}(h:oH ts e t0 a b c)(d:c=0):0<=a∧a<b.length:=by obtain⟨rfl,g⟩:=h.grow d;have:=g.len;simp only[Ba,BB] at this;omega
theorem oH.done{ts b:List ab}{e c:Int}{t0 t:ab}{a:Int}(h:oH ts e t0 a b c)(d:c=0)(f:lP b.length t):gA ts e (b.set a.toNat t) c:=by obtain⟨rfl,g⟩:=h.grow d;rw[Dh];exact g.close f
theorem oH.get{ts b:List ab}{e c:Int}{t0:ab}{a:Int}(h:oH ts e t0 a b c)(d:c=0):b[a.toNat]? =some t0:=by obtain⟨rfl,g⟩:=h.grow d;rw[Dh];exact g.at_open d
def xu(m:Nat)(l:List aq):Prop:=l.length<=8∧(∀f∈l,0<=f.typ∧f.typ<m∧qO f.df)∧∀f∈l,f.aliases.length<=100
theorem xu.mono{m b:Nat}{l:List aq}(h:xu m l)(c:m<=b):xu b l:=
 ⟨h.1,λf a=>⟨(h.2.1 f a).1,by have:=(h.2.1 f a).2.1;omega,(h.2.1 f a).2.2⟩,h.2.2⟩
theorem yy{ts:List ab}(a:kr ts):lc ts (rkB ts):=(zh (yx ts a)).2
theorem agf(ts:List ab)(b:kr ts):∃l,oC ts l:=by
 apply acm 1000;unfold wP mZ;dsimp only;have f:=(yy b).1;have j:=b.1;refine ahq (yx ts b) (λ_=>?_);change Tot (cg 1000 (md 1000) (([]:List Bool),rkB ts,((rkB ts).length:Int),0)) _;have o:=f.len
 refine ca (λx=>match x with|(l,r,n,i)=>r=rkB ts∧n=((rkB ts).length:Int)∧0<=i∧i<=((rkB ts).length:Int)∧l=((rkB ts).take i.toNat).map λq=>decide (0<=q))
  (λx=>(((rkB ts).length:Int)-x.2.2.2).toNat) ?_ _ _ ⟨rfl,rfl,by simp,by simp,by simp⟩ (by simp;omega)
 rintro a ⟨l,r,n,i⟩ ⟨rfl,rfl,k,m,rfl⟩ d;dsimp only at d;unfold md;dsimp only;refine ak (λh=>?_) (λh=>?_)
 ·have h:=of_decide_eq_true h;have e:IntKind.i64.wrap (i+1)=i+1:=aX (i+1) (by omega);have c:(i+1).toNat=i.toNat+1:=by omega
  have g:=aap (rkB ts) i.toNat 0 (by omega);refine vck (aU (decide_eq_true (by simp only[AU,B5,BB];omega)) ?_);refine d (_,rkB ts,_,_) ?_ (by simp only[e];omega);simp only[e];rw[c,g,Cy];exact⟨trivial,trivial,by omega,by omega,rfl⟩
 ·have h:=of_decide_eq_false h;refine ap ⟨_,_,rfl,rfl,?_⟩;rw[B1 (by omega)];rfl
section
variable{ts:List ab}(hs:kr ts)
include hs
theorem acn:(lS ts).length=ts.length:=by rw[lS,AU];exact(yy hs).1.len
theorem aco(r:List ab)(a:kr r)(t q:Int):∃x,dT ts r t q x:=aew hs a t q (agf ts hs) (acn hs)
end
section
variable{has:List Bool}{w r:List ab}
theorem yz:∀(n:Nat)(L:List (Int×Int)),left (eD w.length r.length) L<n->ja has w r (dJ has w r n L)=dJ has w r n L
 |0,L,h=>by omega
 |n+1,L,h=>by
  rw[dJ];rcases zF (has:=has) (w:=w) (r:=r) (eD w.length r.length) (eD w.length r.length) L (λ_ h=>h) with e|⟨e1,a⟩
  ·have e:ja has w r L=L:=e;rw[e,if_pos rfl,e]
  ·have e1:L.length<(ja has w r L).length:=e1;have a:left (eD w.length r.length) (ja has w r L)<left (eD w.length r.length) L:=a;rw[if_neg (by omega)];exact yz n _ (by omega)
theorem aat(L:List (Int×Int))(p:Int×Int):cN has w r L p=L∨cN has w r L p=L++[p]:=by
 unfold cN;split;·exact .inl rfl
 ·exact .inr rfl
theorem acp:∀(a L:List (Int×Int)),L.length<=(a.foldl (cN has w r) L).length
 | [],L=>Ao _
 |p::a,L=>by have b:=acp a (cN has w r L p);rw[BZ];refine AX ?_ b;rcases aat (has:=has) (w:=w) (r:=r) L p with e|e<;>rw[e]<;>simp
theorem acq:∀(b L:List (Int×Int)),b.foldl (cN has w r) L=L->∀p∈b,cN has w r L p=L
 | [],L,_,p,hp=>by cases hp
 |a::b,L,h,p,hp=>by
  rw[BZ] at h;have c:cN has w r L a=L:=by
   rcases aat (has:=has) (w:=w) (r:=r) L a with e|e;·exact e
   ·have:=acp (has:=has) (w:=w) (r:=r) b (cN has w r L a);rw[h,e] at this;simp at this;omega
  rw[c] at h;rcases AT.1 hp with rfl|hp;·exact c
  ·exact acq b L h p hp
theorem afw{t q:Int}(c:isT w t=true)(b:isT r q=true)(h:inL (dJ has w r (w.length*r.length+1) []) (t,q)=false):fD has (inL (dJ has w r (w.length*r.length+1) [])) w r t q=true:=by
 have d:left (eD w.length r.length) []=w.length*r.length:=by rw[left,<-ach];congr 1;simp[inL]
 have f:=yz (has:=has) (w:=w) (r:=r) (w.length*r.length+1) [] (by omega);generalize dJ has w r (w.length*r.length+1) []=L at*
 simp only[isT,Aa,decide_eq_true_eq] at c b;have g:(t,q)∈eD w.length r.length:=by
  have:=aci (n:=w.length) (m:=r.length) (i:=t.toNat) (k:=q.toNat) (by omega) (by omega)
  rwa [Int.toNat_of_nonneg c.1,Int.toNat_of_nonneg b.1] at this
 have a:=acq (has:=has) (w:=w) (r:=r) (eD w.length r.length) L f _ g;unfold cN at a;split at a;·rename_i e;simpa [h] using e
 ·simp at a
theorem aex{N N':Int×Int->Bool}(y:∀p,N p=true->N' p=true){t q:Int}(h:fD has N' w r t q=true):fD has N w r t q=true:=by
 have c:∀p,N' p=false->N p=false:=λp h=>by
  cases e:N p with
  |false=>rfl
  |true=>rw[y p e] at h;cases h
 unfold fD at h ⊢;rw[AQ] at h ⊢;rcases h with h|h;·exact .inl h
 ·refine .inr ?_;generalize w.getD t.toNat (am .atype)=a at*
  generalize r.getD q.toNat (am .atype)=b at*
  unfold gf at h ⊢;split;·rename_i d;rw[if_pos d] at h;rw[Ak] at h ⊢;intro x u;have:=h x u;rw[AK] at this ⊢;exact c _ this
  ·rename_i d;rw[if_neg d] at h;split;·rename_i j;rw[if_pos j] at h;rw[Aa,AK] at h ⊢;exact⟨h.1,c _ h.2⟩
   ·rename_i j;rw[if_neg j] at h;split;·rename_i i;rw[if_pos i] at h;exact h
    ·rename_i i;rw[if_neg i] at h;split;·rename_i k;rw[if_pos k,AK] at h;rw[AK];exact c _ h
     ·rename_i k;rw[if_neg k] at h;split;·rename_i g;rw[if_pos g] at h;exact h
      ·rename_i g;rw[if_neg g] at h;split;·rename_i o;rw[if_pos o] at h;rw[Ak] at h ⊢;intro f v;have:=h f v;unfold jN at this ⊢;rw[AK,CX] at this ⊢;refine⟨this.1,?_⟩;have m:=this.2;rw[Cz] at m ⊢;exact m.imp id (c _)
       ·rfl
def zL(has:List Bool)(w r:List ab)(L:List (Int×Int)):Prop:=∀p∈L,fD has (inL L) w r p.1 p.2=false
theorem aey{L:List (Int×Int)}(h:zL has w r L)(p:Int×Int):zL has w r (cN has w r L p):=by
 unfold cN;split;·exact h
 ·rename_i b;have b:(inL L p||fD has (inL L) w r p.1 p.2)=false:=by simpa using b
  rw[CX] at b;have up:∀q,inL L q=true->inL (L++[p]) q=true:=λq a=>by simp only[inL,decide_eq_true_eq] at a ⊢;exact Bp _ a
  have c:∀q:Int×Int,fD has (inL L) w r q.1 q.2=false->fD has (inL (L++[p])) w r q.1 q.2=false:=λq a=>by
   cases e:fD has (inL (L++[p])) w r q.1 q.2 with
   |false=>rfl
   |true=>rw[aex up e] at a;cases a
  intro q a;rcases AB.1 a with a|a;·exact c q (h q a)
  ·rw[Aq.1 a];exact c p b.2
theorem aau:∀(a L:List (Int×Int)),zL has w r L->zL has w r (a.foldl (cN has w r) L)
 | [],L,h=>h
 |p::a,L,h=>aau a _ (aey h p)
theorem wQ:∀(n:Nat)(L:List (Int×Int)),zL has w r L->zL has w r (dJ has w r n L)
 |0,L,h=>h
 |n+1,L,h=>by
  rw[dJ];split;·exact h
  ·exact wQ n _ (aau _ _ h)
theorem adC{t q:Int}(c:isT w t=true)(b:isT r q=true):inL (dJ has w r (w.length*r.length+1) []) (t,q)= !fD has (inL (dJ has w r (w.length*r.length+1) [])) w r t q:=by
 cases h:inL (dJ has w r (w.length*r.length+1) []) (t,q) with
 |false=>rw[afw c b h];rfl
 |true=>
  have a:(t,q)∈dJ has w r (w.length*r.length+1) []:=by simpa [inL] using h
  rw[wQ (has:=has) (w:=w) (r:=r) _ [] (by intro p hp;cases hp) _ a];rfl
end
theorem mH(a:List Int):(ofS a).length=a.length+1:=by simp[ofS]
theorem td(a:List Int)(i:Nat)(h:i<a.length):(ofS a).getD (i+1) (am .atype)=jB (a.getD i 0):=by rw[Al,Al];simp only[ofS,A5,Au,Ac h,Bt,Bw]
theorem acr(b:List Int)(h:b.length<=6)(d:∀k∈b,1<=k∧k<=8):kr (ofS b):=by
 refine⟨by rw[mH];omega,λt c=>?_⟩;rw[mH];simp only[ofS,AT,Av] at c;rcases c with rfl|⟨k,g,rfl⟩
 ·refine⟨by simp,λf a=>?_,by simp;omega,by simp,by simp,by simp,by simp,by simp,by simp,by simp,by simp,by simp,λf a=>?_,by simp⟩;·simp only[Av,A6] at a;obtain⟨i,e,rfl⟩:=a;exact⟨by simp only;omega,by simp only;omega,.mk 0 0 [] [] [] (by simp) (by simp) (by simp) (by simp) (by simp) (by simp)⟩
  ·simp only[Av,A6] at a;obtain⟨i,e,rfl⟩:=a;simp
 ·have:=d k g;exact⟨by simp,by simp,by simp,by simp,by simp,by simp,by simp,by simp only;omega,by simp only;omega,by simp only;omega,by simp,by simp,by simp,by simp⟩
theorem adD(a:List Int)(p:a.length<=6)(j:∀k∈a,1<=k∧k<=8)(t:Nat)(x:t<a.length+1):(lS (ofS a)).getD t false=true:=by
 have q:=acr a p j;obtain⟨v,m⟩:=yy q;have u:=v.len;rw[mH] at u;have b:∀i,i<a.length->0<=(rkB (ofS a)).getD (i+1) 0:=by
  intro i g;rcases C7 ((rkB (ofS a)).getD (i+1) 0) 0 with e|e;·have c:=(m (i+1) (by rw[mH];omega) e).kind;rw[td a i g] at c;have:=j (a.getD i 0) (by rw[Al,Ac g];exact Bf _);simp only at c;omega
  ·exact e
 have key:0<=(rkB (ofS a)).getD t 0:=by
  cases t with
  |succ i=>exact b i (by omega)
  |zero=>
   rcases C7 ((rkB (ofS a)).getD 0 0) 0 with e|e
   ·rcases m 0 (by rw[mH];omega) e with⟨_,f,d,h0⟩|⟨o,_⟩
    ·have d:f∈(AE a.length).map jn:=d;simp only[Av,A6] at d;obtain⟨i,g,rfl⟩:=d;have:=b i g;unfold rk at h0;simp only at h0;rw[show ((i:Int)+1).toNat=i+1 by omega] at h0;omega
    ·have o:(9:Int)=14:=o;omega
   ·exact e
 have h:t<(rkB (ofS a)).length:=by omega
 simp only[lS,Al,Au,Ac h,Bt,Bw] at key ⊢;exact decide_eq_true key
theorem agh:∀n,n<=6->∀j,j<6->iH ((AE n).map jn) [[BX (97+j)]]=if j<n then (j:Int) else -1:=by
 intro n b j a;have:∀n,n<7->∀j,j<6->iH ((AE n).map jn) [[BX (97+j)]]=if j<n then (j:Int) else -1:=by decide
 exact this n (by omega) j a
theorem agi(c d:List Int)(f:c.length<=6)(G:d.length<=6)(q:∀k∈c,1<=k∧k<=8)(J:∀k∈d,1<=k∧k<=8):
  jO (lS (ofS c)) (ofS c) (ofS d) 0 0=(decide (d.length<=c.length)&&(AE d.length).all λj=>jM (jB (c.getD j 0)) (jB (d.getD j 0))):=by
 have u:isT (ofS c) 0=true:=by simp[isT,mH]
 have v:isT (ofS d) 0=true:=by simp[isT,mH]
 rw[jO,u,v,Bool.true_and,Bool.true_and,adC u v,Bool.not_not];have g:∀j,j<c.length->j<d.length->inL (dJ (lS (ofS c)) (ofS c) (ofS d) ((ofS c).length*(ofS d).length+1) []) ((j:Int)+1,(j:Int)+1)= !jM (jB (c.getD j 0)) (jB (d.getD j 0)):=by
  intro j t x;have y:isT (ofS c) ((j:Int)+1)=true:=by simp[isT,mH];omega
  have z:isT (ofS d) ((j:Int)+1)=true:=by simp[isT,mH];omega
  rw[adC y z]
  congr 1
  have H:=q (c.getD j 0) (by rw[Al,Ac t];exact Bf _);have I:=J (d.getD j 0) (by rw[Al,Ac x];exact Bf _);have e1:((j:Int)+1).toNat=j+1:=by omega
  unfold fD;rw[e1,adD c f q (j+1) (by omega),td c j t,td d j x];unfold gf eR;rw[e1,td c j t,td d j x,y,z];generalize c.getD j 0=a at*
  generalize d.getD j 0=b at*
  rw[if_neg (by simp only;omega),if_neg (by simp only;omega)];cases jM (jB a) (jB b) with
  |false=>rfl
  |true=>rw[if_neg (by decide),if_neg (by simp only;omega),if_neg (by simp only;omega),if_neg (by simp only;omega)];rfl
 generalize dJ (lS (ofS c)) (ofS c) (ofS d) ((ofS c).length*(ofS d).length+1) []=L at*
 unfold fD;rw[show (0:Int).toNat=0 from rfl,adD c f q 0 (by omega)];have o:∀p:List Int,(ofS p).getD 0 (am .atype)=⟨9,[82],[],0,[],false,[],0,(AE p.length).map jn,[]⟩:=λp=>rfl
 rw[o,o];unfold gf eR;rw[show (0:Int).toNat=0 from rfl,o,o,u,v];have F:∀l m:List aq,jM ⟨9,[82],[],0,[],false,[],0,l,[]⟩ ⟨9,[82],[],0,[],false,[],0,m,[]⟩=true:=λl m=>by simp[jM,ol]
 rw[F];dsimp only;rw[if_neg (by decide),if_neg (by decide),if_neg (by decide),if_neg (by decide),if_neg (by decide),if_pos rfl];rw[D9,Bool.false_or,List.all_map];have i:∀j,j<d.length->jN (inL L) ⟨9,[82],[],0,[],false,[],0,(AE c.length).map jn,[]⟩ (jn j)=(decide (j<c.length)&&jM (jB (c.getD j 0)) (jB (d.getD j 0))):=by
  intro j e;unfold jN;simp only;rw[agh c.length f j (by omega)];by_cases h:j<c.length
  ·rw[if_pos h];have B:((AE c.length).map jn).getD ((j:Int)).toNat (am .afield)=jn j:=by
    simp[Al,DS h]
   rw[B];simp only;rw[g j h e];simp[h]
  ·rw[if_neg h];simp[h]
 rw[A2];simp only[Ak,A6,Aa,decide_eq_true_eq,Ea];constructor
 ·intro h;have A:∀j,j<d.length->j<c.length∧jM (jB (c.getD j 0)) (jB (d.getD j 0))=true:=λj e=>by
   have:=h j e;rw[i j e,Aa,decide_eq_true_eq] at this;exact this
  refine⟨?_,λj e=>(A j e).2⟩;rcases DZ d.length with C|C;·omega
  ·have:=(A (d.length-1) (by omega)).1;omega
 ·rintro⟨E,h⟩ j e;rw[i j e,Aa,decide_eq_true_eq];exact⟨by omega,h j e⟩
end Go.Proofs.Ytdpajabhmmmjoaa
namespace Go.DM
open Go.AM
inductive Tr(α:Type) where
 |e
 |n (l:Tr α) (v:Option α) (r:Tr α)
namespace Tr
open Go.AM
section
variable{α R:Type}
def get:Tr α->Nat->Option α
 | .e,_=>none
 | .n l v r,i=>cond (Af i 0) v (cond (Af (Bo i 2) 1) (l.get (A1 i 2)) (r.get (BV (A1 i 2) 1)))
def set:Nat->Tr α->Nat->Option α->Tr α
 |0,t,_,_=>t
 |f+1,.e,i,v=>cond (Af i 0) (.n .e v .e) (cond (Af (Bo i 2) 1) (.n (set f .e (A1 i 2) v) none .e) (.n .e none (set f .e (BV (A1 i 2) 1) v)))
 |f+1,.n l x r,i,v=>cond (Af i 0) (.n l v r) (cond (Af (Bo i 2) 1) (.n (set f l (A1 i 2) v) x r) (.n l x (set f r (BV (A1 i 2) 1) v)))
def setK:Nat->Tr α->Nat->Option α->(Tr α->R)->R
 |0,t,_,_,k=>k t
 |f+1,.e,i,v,k=>cond (Af i 0) (k (.n .e v .e)) (cond (Af (Bo i 2) 1) (setK f .e (A1 i 2) v λt=>k (.n t none .e)) (setK f .e (BV (A1 i 2) 1) v λt=>k (.n .e none t)))
 |f+1,.n l x r,i,v,k=>cond (Af i 0) (k (.n l v r)) (cond (Af (Bo i 2) 1) (setK f l (A1 i 2) v λt=>k (.n t x r)) (setK f r (BV (A1 i 2) 1) v λt=>k (.n l x t)))
theorem setK_eq:∀(f:Nat)(t:Tr α)(i:Nat)(v:Option α)(k:Tr α->R),setK f t i v k=k (set f t i v)
 |0,_,_,_,_=>rfl
 |f+1,.e,i,v,k=>by simp only[setK,set];cases Af i 0<;>cases Af (Bo i 2) 1<;>simp[setK_eq f]
 |f+1,.n l x r,i,v,k=>by simp only[setK,set];cases Af i 0<;>cases Af (Bo i 2) 1<;>simp[setK_eq f]
theorem beq_iff(a b:Nat):Af a b=decide (a=b):=by
 by_cases h:a=b;·subst h;simp
 ·simp only[h,decide_false];cases c:Af a b with
  |true=>exact absurd (AA c) h
  |false=>rfl
theorem get_set:∀(f:Nat)(t:Tr α)(i j:Nat)(v:Option α),i<f->(set f t i v).get j=if j=i then v else t.get j
 |0,_,_,_,_,h=>by omega
 |f+1,t,i,j,v,h=>by
  have key:∀(l r:Tr α)(x:Option α),(cond (Af i 0) (Tr.n l v r) (cond (Af (Bo i 2) 1) (.n (set f l (A1 i 2) v) x r) (.n l x (set f r (BV (A1 i 2) 1) v)))).get j=if j=i then v else (Tr.n l x r).get j:=by
   intro l r x;by_cases d:i=0
   ·subst d;by_cases b:j=0;·subst b;simp[get]
    ·simp[get,b,beq_iff]
   ·have m:Af i 0=false:=by simp[beq_iff,d]
    by_cases c:i%2=1
    ·have g:Af (Bo i 2) 1=true:=by rw[beq_iff];exact decide_eq_true c
     rw[m,g];simp only[cond_false,cond_true,get];by_cases b:j=0;·subst b;simp[beq_iff,Cr d]
     ·have k:Af j 0=false:=by simp[beq_iff,b]
      rw[k];simp only[cond_false];by_cases a:j%2=1
      ·have c2:Af (Bo j 2) 1=true:=by rw[beq_iff];exact decide_eq_true a
       rw[c2];simp only[cond_true];rw[get_set f l _ _ v (by show i / 2<f;omega)];have:(A1 j 2=A1 i 2)↔j=i:=by show j / 2=i / 2↔j=i;omega
       simp only[this]
      ·have c2:Af (Bo j 2) 1=false:=by rw[beq_iff];exact decide_eq_false a
       rw[c2];have:j≠i:=by rintro rfl;exact a c
       simp[this]
    ·have g:Af (Bo i 2) 1=false:=by rw[beq_iff];exact decide_eq_false c
     rw[m,g];simp only[cond_false,get];by_cases b:j=0;·subst b;simp[beq_iff,Cr d]
     ·have k:Af j 0=false:=by simp[beq_iff,b]
      rw[k];simp only[cond_false];by_cases a:j%2=1
      ·have c2:Af (Bo j 2) 1=true:=by rw[beq_iff];exact decide_eq_true a
       rw[c2];have:j≠i:=by rintro rfl;exact c a
       simp[this]
      ·have c2:Af (Bo j 2) 1=false:=by rw[beq_iff];exact decide_eq_false a
       rw[c2];simp only[cond_false];rw[get_set f r _ _ v (by show i / 2-1<f;omega)];have:(BV (A1 j 2) 1=BV (A1 i 2) 1)↔j=i:=by show j / 2-1=i / 2-1↔j=i;omega
       simp only[this]
  cases t with
  |e=>
   have:=key .e .e none;have o:∀q,(Tr.n (.e:Tr α) none .e).get q=none:=by intro q;simp only[get];cases Af q 0<;>cases Af (Bo q 2) 1<;>rfl
   rw[o] at this;simpa [set,get] using this
  |n l x r=>simpa only[set] using key l r x
end
end Tr
inductive D where
 |undef
 |bool (b:Bool)
 |int (k:IntKind) (n:Int)
 |str (s:List Nat)
 |nilp
 |ptr (id off:Nat)
 |nils
 |emp
 |sl (id off len sz:Nat) (cap:Option Nat)
 |agg (cs:List D)
 |tup (cs:List D)
 |fn (f:Nat) (cs:List D)
 |nilf
 |nilif
 |mp (id:Nat)
 |nilm
 |sym (k:IntKind) (i:Nat)
instance:Inhabited D:=⟨.undef⟩
def D.one:D->Bool
 | .undef| .agg _| .tup _=>false
 |_=>true
def D.cells:D->List D
 | .agg cs=>cs
 |v=>[v]
def a6(agg:Bool)(cs:List D):D:=cond agg (.agg cs) (match cs with|c::_=>c| []=>.undef)
inductive Obj where
 |cells (e:Nat) (full:Bool) (cs:List D)
 |map (es:List (D×D))
structure Hp where
 n:Nat
 t:Tr Obj
structure E16(α:Type) where
 a:α
 b:α
 c:α
 d:α
 e:α
 f:α
 g:α
 h:α
 i:α
 j:α
 k:α
 l:α
 m:α
 n:α
 o:α
 p:α
namespace E16
open Go.AM
section
variable{α:Type}
def get(x:E16 α):Nat->α
 |0=>x.a
 |1=>x.b
 |2=>x.c
 |3=>x.d
 |4=>x.e
 |5=>x.f
 |6=>x.g
 |7=>x.h
 |8=>x.i
 |9=>x.j
 |10=>x.k
 |11=>x.l
 |12=>x.m
 |13=>x.n
 |14=>x.o
 |_=>x.p
def set(x:E16 α)(v:α):Nat->E16 α
 |0=>⟨v,x.b,x.c,x.d,x.e,x.f,x.g,x.h,x.i,x.j,x.k,x.l,x.m,x.n,x.o,x.p⟩
 |1=>⟨x.a,v,x.c,x.d,x.e,x.f,x.g,x.h,x.i,x.j,x.k,x.l,x.m,x.n,x.o,x.p⟩
 |2=>⟨x.a,x.b,v,x.d,x.e,x.f,x.g,x.h,x.i,x.j,x.k,x.l,x.m,x.n,x.o,x.p⟩
 |3=>⟨x.a,x.b,x.c,v,x.e,x.f,x.g,x.h,x.i,x.j,x.k,x.l,x.m,x.n,x.o,x.p⟩
 |4=>⟨x.a,x.b,x.c,x.d,v,x.f,x.g,x.h,x.i,x.j,x.k,x.l,x.m,x.n,x.o,x.p⟩
 |5=>⟨x.a,x.b,x.c,x.d,x.e,v,x.g,x.h,x.i,x.j,x.k,x.l,x.m,x.n,x.o,x.p⟩
 |6=>⟨x.a,x.b,x.c,x.d,x.e,x.f,v,x.h,x.i,x.j,x.k,x.l,x.m,x.n,x.o,x.p⟩
 |7=>⟨x.a,x.b,x.c,x.d,x.e,x.f,x.g,v,x.i,x.j,x.k,x.l,x.m,x.n,x.o,x.p⟩
 |8=>⟨x.a,x.b,x.c,x.d,x.e,x.f,x.g,x.h,v,x.j,x.k,x.l,x.m,x.n,x.o,x.p⟩
 |9=>⟨x.a,x.b,x.c,x.d,x.e,x.f,x.g,x.h,x.i,v,x.k,x.l,x.m,x.n,x.o,x.p⟩
 |10=>⟨x.a,x.b,x.c,x.d,x.e,x.f,x.g,x.h,x.i,x.j,v,x.l,x.m,x.n,x.o,x.p⟩
 |11=>⟨x.a,x.b,x.c,x.d,x.e,x.f,x.g,x.h,x.i,x.j,x.k,v,x.m,x.n,x.o,x.p⟩
 |12=>⟨x.a,x.b,x.c,x.d,x.e,x.f,x.g,x.h,x.i,x.j,x.k,x.l,v,x.n,x.o,x.p⟩
 |13=>⟨x.a,x.b,x.c,x.d,x.e,x.f,x.g,x.h,x.i,x.j,x.k,x.l,x.m,v,x.o,x.p⟩
 |14=>⟨x.a,x.b,x.c,x.d,x.e,x.f,x.g,x.h,x.i,x.j,x.k,x.l,x.m,x.n,v,x.p⟩
 |_=>⟨x.a,x.b,x.c,x.d,x.e,x.f,x.g,x.h,x.i,x.j,x.k,x.l,x.m,x.n,x.o,v⟩
theorem get_set(x:E16 α)(v:α)(y z:Nat)(b:y<16)(a:z<16):(x.set v y).get z=if z=y then v else x.get z:=by
 match y,b,z,a with
 |0,_,z,a|1,_,z,a|2,_,z,a|3,_,z,a|4,_,z,a|5,_,z,a|6,_,z,a|7,_,z,a|8,_,z,a|9,_,z,a|10,_,z,a|11,_,z,a|12,_,z,a|13,_,z,a|14,_,z,a|15,_,z,a=>
  match z,a with
  |0,_|1,_|2,_|3,_|4,_|5,_|6,_|7,_|8,_|9,_|10,_|11,_|12,_|13,_|14,_|15,_=>rfl
  |z+16,a=>exact absurd a (by omega)
 |y+16,b,z,a=>exact absurd b (by omega)
end
end E16
structure Env where
 lo:E16 (E16 D)
 hi:Tr D
def Env.get(e:Env)(n:Nat):D:=cond (AV n 256) ((e.lo.get (A1 n 16)).get (Bo n 16)) ((e.hi.get n).getD .undef)
def Env.set(e:Env)(n:Nat)(v:D):Env:=cond (AV n 256)
 ⟨e.lo.set ((e.lo.get (A1 n 16)).set v (Bo n 16)) (A1 n 16),e.hi⟩
 ⟨e.lo,e.hi.set (Bk n) n (some v)⟩
theorem Env.get_set(e:Env)(n m:Nat)(v:D):(e.set n v).get m=if m=n then v else e.get m:=by
 have b:∀x:Nat,AV x 256=decide (x<256):=λx=>by rw[A2];simp[Bb]
 unfold Env.get Env.set;rw[b n,b m];by_cases f:n<256
 ·simp only[f,decide_true,cond_true];by_cases c:m<256
  ·simp only[c,decide_true,cond_true];have k1:A1 n 16<16:=by show n / 16<16;omega
   have k2:A1 m 16<16:=by show m / 16<16;omega
   have k5:Bo n 16<16:=CB _ (by omega);have k6:Bo m 16<16:=CB _ (by omega);rw[E16.get_set _ _ _ _ k1 k2];by_cases a:A1 m 16=A1 n 16
   ·rw[if_pos a,E16.get_set _ _ _ _ k5 k6];by_cases d:Bo m 16=Bo n 16
    ·have:m=n:=by
      have g:m / 16=n / 16:=a;have i:m%16=n%16:=d;omega
     rw[if_pos d,if_pos this]
    ·rw[if_neg d,if_neg (by rintro rfl;exact d rfl),a]
   ·rw[if_neg a,if_neg (by rintro rfl;exact a rfl)]
  ·simp only[c,decide_false,cond_false];rw[if_neg (by omega)]
 ·simp only[f,decide_false,cond_false];by_cases c:m<256;·simp only[c,decide_true,cond_true];rw[if_neg (by omega)]
  ·simp only[c,decide_false,cond_false];rw[Tr.get_set _ _ _ _ _ (CC _)];by_cases h:m=n<;>simp[h]
structure St where
 env:Env
 hp:Hp
structure FS where
 E:Nat->D
 H:Nat->Option Obj
 n:Nat
def St.fs(s:St):FS:=⟨s.env.get,s.hp.t.get,s.hp.n⟩
def cells?(H:Nat->Option Obj)(id:Nat):Option (Nat×Bool×List D):=match H id with|some (.cells e f cs)=>some (e,f,cs)|_=>none
def pd(H:Nat->Option Obj)(id:Nat):Option (List (D×D)):=match H id with|some (.map es)=>some es|_=>none
inductive ac where
 |t (n:Nat)
 |c (v:D)
def ac.ev(E:Nat->D):ac->D
 | .t n=>E n
 | .c v=>v
inductive IOp where
 |mov (x:ac)
 |pick (c a b:ac)
 |bin (o:BinOp) (x y:ac)
 |un (o:UnOp) (x:ac)
 |cvi (k:IntKind) (x:ac)
 |cvs (x:ac)
 |s2b (e:Nat) (x:ac)
 |b2s (x:ac)
 |i2s (x:ac)
 |len (st:Bool) (x:ac)
 |idx (x i:ac)
 |ixa (sz:Nat) (x i:ac)
 |ixp (n sz:Nat) (x i:ac)
 |subs (x:ac) (lo hi:Option ac)
 |subl (sz:Nat) (x:ac) (lo hi:Option ac)
 |bsl (e sz:Nat) (iX:List ac)
 |bld (zero:List D) (iX:List (Nat×Nat×ac))
 |fld (off n:Nat) (agg:Bool) (x:ac)
 |new (e:Nat) (zero:List D)
 |box (e:Nat) (x:ac)
 |fad (off:Nat) (x:ac)
 |ld (n:Nat) (agg:Bool) (x:ac)
 |st (n:Nat) (x v:ac)
 |app (e sz by_:Nat) (x y:ac)
 |apt (e by_:Nat) (x y:ac)
 |mks (e sz by_:Nat) (zero:List D) (x:ac)
 |ext (i:Nat) (x:ac)
 |nck (x:ac)
 |mx (mn:Bool) (x y:ac)
 |mkf (f:Nat) (jH:List ac)
 |mkm
 |lkp (kk n:Nat) (zero:List D) (agg ok:Bool) (x k:ac)
 |mup (kk n:Nat) (m k v:ac)
 |ment (kk n:Nat) (zero:List D) (agg:Bool) (m k:ac)
 |mest (m i v:ac)
 |eq (kk:Nat) (neg:Bool) (x y:ac)
 |call (f:Nat) (args:List ac)
 |dcall (x:ac) (args:List ac)
structure GOp where
 d:Option Nat
 g:Option (Nat×Bool)
 o:IOp
def cm(o:BinOp)(k:IntKind)(a b:Int):Int:=
 match o with
 | .and=>k.wrap (By k.bits a&&& By k.bits b).toNat
 | .or=>k.wrap (By k.bits a|||By k.bits b).toNat
 | .xor=>k.wrap (By k.bits a ^^^By k.bits b).toNat
 |_=>k.wrap (By k.bits a&&& ~~~By k.bits b).toNat
def oS(k:IntKind)(a b:Int):Int:=k.wrap (a*2^(min b.toNat k.bits))
def oT(k:IntKind)(a b:Int):Int:=a.fdiv (2^(min b.toNat k.bits))
def maxI:Nat:=9223372036854775807
def cd:Nat:=140737488355328
def ah3(n:Int):List Nat:=(Utf8.encode n).data.toList.map (·.toNat)
def ltI(a b:Int):Bool:=match a,b with
 | .ofNat a,.ofNat b=>AV a b
 | .negSucc _,.ofNat _=>true
 | .ofNat _,.negSucc _=>false
 | .negSucc a,.negSucc b=>AV b a
def eqI(a b:Int):Bool:=match a,b with
 | .ofNat a,.ofNat b=>Af a b
 | .negSucc a,.negSucc b=>Af a b
 |_,_=>false
def eqL:List Nat->List Nat->Bool
 | [],[]=>true
 |a::x,b::y=>cond (Af a b) (eqL x y) false
 |_,_=>false
def ltL:List Nat->List Nat->Bool
 | [],_::_=>true
 |a::x,b::y=>cond (AV a b) true (cond (Af a b) (ltL x y) false)
 |_,[]=>false
def eZ{α:Type}:List α->Nat->Nat
 | [],n=>n
 |_::r,n=>eZ r (Bk n)
def chk{R:Type}(c:Bool)(x:Option R):Option R:=cond c x none
def nZ(o:BinOp)(k:IntKind)(a b:Int):Option D:=
 match o with
 | .add=>some (.int k (k.wrap (a+b)))
 | .sub=>some (.int k (k.wrap (a-b)))
 | .mul=>some (.int k (k.wrap (a*b)))
 | .quo=>chk (!eqI b 0) (some (.int k (k.wrap (a.tdiv b))))
 | .rem=>chk (!eqI b 0) (some (.int k (a.tmod b)))
 | .and=>some (.int k (cm .and k a b))
 | .or=>some (.int k (cm .or k a b))
 | .xor=>some (.int k (cm .xor k a b))
 | .andNot=>some (.int k (cm .andNot k a b))
 | .eql=>some (.bool (eqI a b))
 | .neq=>some (.bool (!eqI a b))
 | .lss=>some (.bool (ltI a b))
 | .leq=>some (.bool (!ltI b a))
 | .gtr=>some (.bool (ltI b a))
 | .geq=>some (.bool (!ltI a b))
 |_=>none
def pz(o:BinOp)(a b:List Nat):Option D:=
 match o with
 | .add=>chk (AO (eZ a 0+eZ b 0) maxI) (some (.str (a++b)))
 | .eql=>some (.bool (eqL a b))
 | .neq=>some (.bool (!eqL a b))
 | .lss=>some (.bool (ltL a b))
 | .leq=>some (.bool (!ltL b a))
 | .gtr=>some (.bool (ltL b a))
 | .geq=>some (.bool (!ltL a b))
 |_=>none
def gv(a b:IntKind):Bool:=match a,b with
 | .i8,.i8| .i16,.i16| .i32,.i32| .i64,.i64| .u8,.u8| .u16,.u16| .u32,.u32| .u64,.u64=>true
 |_,_=>false
def pV(o:BinOp)(x y:D):Option D:=
 match x,y with
 | .int k a,.int k' b=>
   match o with
   | .shl=>chk (!ltI b 0) (some (.int k (oS k a b)))
   | .shr=>chk (!ltI b 0) (some (.int k (oT k a b)))
   |o=>chk (gv k k') (nZ o k a b)
 | .str a,.str b=>pz o a b
 |_,_=>none
def unV(o:UnOp)(x:D):Option D:=
 match o,x with
 | .not,.bool b=>some (.bool (!b))
 | .neg,.int k n=>some (.int k (k.wrap (0-n)))
 | .xor,.int k n=>some (.int k (cm .xor k (if k.signed then -1 else k.max) n))
 |_,_=>none
inductive SOp where
 |b (o:BinOp)
 |u (o:UnOp)
 |c (k:IntKind)
 |ln
 |ix
 |lk (es:List (Int×Int))
structure zM where
 o:SOp
 x:D
 y:D
 r:D
def zN:List (Int×Int)->List (Int×Int)->Bool
 | [],[]=>true
 |a::l,b::m=>(eqI a.1 b.1&&eqI a.2 b.2)&&zN l m
 |_,_=>false
def aez:SOp->SOp->Bool
 | .b o,.b o'=>decide (o=o')
 | .u o,.u o'=>decide (o=o')
 | .c k,.c k'=>gv k k'
 | .ln,.ln=>true
 | .ix,.ix=>true
 | .lk l,.lk m=>zN l m
 |_,_=>false
def eqS:D->D->Bool
 | .sym k i,.sym k' j=>gv k k'&&Af i j
 | .int k a,.int k' b=>gv k k'&&eqI a b
 | .undef,.undef=>true
 |_,_=>false
def acs(o:SOp)(x y:D):List zM->Option D
 | []=>none
 |r::l=>cond (eqS r.x x&&(eqS r.y y&&aez r.o o)) (some r.r) (acs o x y l)
structure Sg where
 n:Nat->Int
 t:Nat->Option (List Nat)
def conc(σ:Sg):D->D
 | .sym k i=>match σ.t i with|some l=>.str l|none=>.int k (σ.n i)
 |v=>v
def lookI:List (Int×Int)->Int->Int
 | [],_=>0
 |(a,b)::l,x=>if x=a then b else lookI l x
def SOp.ev:SOp->D->D->Option D
 | .b o,x,y=>pV o x y
 | .u o,x,_=>unV o x
 | .c k,x,_=>match x with| .int _ n=>some (.int k (k.wrap n))|_=>none
 | .ln,x,_=>match x with| .str l=>some (.int .i64 (.ofNat (eZ l 0)))|_=>none
 | .ix,x,y=>match x,y with
   | .str l,.int _ (.ofNat i)=>match l[i]? with|some n=>some (.int .u8 (.ofNat n))|none=>none
   |_,_=>none
 | .lk es,x,_=>match x with| .int .u8 n=>some (.int .i64 (lookI es n))|_=>none
def zM.ok(σ:Sg)(r:zM):Prop:=r.o.ev (conc σ r.x) (conc σ r.y)=some (conc σ r.r)
def orS(a b:Option D):Option D:=match a with|some v=>some v|none=>b
end Go.DM
namespace Go.DM
open Go.AM
def kindsL:List (Int×Int):=[(105,3),(108,4),(102,5),(100,6),(115,8),(98,7),(110,1),(111,2)]
def rows:List zM:=[
 ⟨.ln,.sym .u8 0,.undef,.int .i64 0⟩,
 ⟨.ln,.sym .u8 1,.undef,.int .i64 1⟩,
 ⟨.ln,.sym .u8 2,.undef,.int .i64 2⟩,
 ⟨.ln,.sym .u8 3,.undef,.int .i64 3⟩,
 ⟨.ln,.sym .u8 4,.undef,.int .i64 4⟩,
 ⟨.ln,.sym .u8 5,.undef,.int .i64 5⟩,
 ⟨.ln,.sym .u8 6,.undef,.int .i64 6⟩,
 ⟨.ix,.sym .u8 1,.int .i64 0,.sym .u8 10⟩,
 ⟨.ix,.sym .u8 2,.int .i64 0,.sym .u8 10⟩,
 ⟨.ix,.sym .u8 2,.int .i64 1,.sym .u8 11⟩,
 ⟨.ix,.sym .u8 3,.int .i64 0,.sym .u8 10⟩,
 ⟨.ix,.sym .u8 3,.int .i64 1,.sym .u8 11⟩,
 ⟨.ix,.sym .u8 3,.int .i64 2,.sym .u8 12⟩,
 ⟨.ix,.sym .u8 4,.int .i64 0,.sym .u8 10⟩,
 ⟨.ix,.sym .u8 4,.int .i64 1,.sym .u8 11⟩,
 ⟨.ix,.sym .u8 4,.int .i64 2,.sym .u8 12⟩,
 ⟨.ix,.sym .u8 4,.int .i64 3,.sym .u8 13⟩,
 ⟨.ix,.sym .u8 5,.int .i64 0,.sym .u8 10⟩,
 ⟨.ix,.sym .u8 5,.int .i64 1,.sym .u8 11⟩,
 ⟨.ix,.sym .u8 5,.int .i64 2,.sym .u8 12⟩,
 ⟨.ix,.sym .u8 5,.int .i64 3,.sym .u8 13⟩,
 ⟨.ix,.sym .u8 5,.int .i64 4,.sym .u8 14⟩,
 ⟨.ix,.sym .u8 6,.int .i64 0,.sym .u8 10⟩,
 ⟨.ix,.sym .u8 6,.int .i64 1,.sym .u8 11⟩,
 ⟨.ix,.sym .u8 6,.int .i64 2,.sym .u8 12⟩,
 ⟨.ix,.sym .u8 6,.int .i64 3,.sym .u8 13⟩,
 ⟨.ix,.sym .u8 6,.int .i64 4,.sym .u8 14⟩,
 ⟨.ix,.sym .u8 6,.int .i64 5,.sym .u8 15⟩,
 ⟨.lk kindsL,.sym .u8 10,.undef,.sym .i64 20⟩,
 ⟨.lk kindsL,.sym .u8 11,.undef,.sym .i64 21⟩,
 ⟨.lk kindsL,.sym .u8 12,.undef,.sym .i64 22⟩,
 ⟨.lk kindsL,.sym .u8 13,.undef,.sym .i64 23⟩,
 ⟨.lk kindsL,.sym .u8 14,.undef,.sym .i64 24⟩,
 ⟨.lk kindsL,.sym .u8 15,.undef,.sym .i64 25⟩]
def nr(o:SOp)(x y:D):Option D:=acs o x y rows
abbrev Sig:={σ:Sg // ∀r∈rows,r.ok σ}
def eqV:D->D->Option Bool
 | .int k a,.int k' b=>chk (gv k k') (some (eqI a b))
 | .str a,.str b=>some (eqL a b)
 |_,_=>none
def eqN:Nat->D->D->Option Bool
 |0,.bool a,.bool b=>some (a==b)
 |1,.nilp,.nilp=>some true
 |1,.nilp,.ptr _ _=>some false
 |1,.ptr _ _,.nilp=>some false
 |2,.nils,.nils=>some true
 |2,.nils,.sl .. =>some false
 |2,.nils,.emp=>some false
 |2,.sl ..,.nils=>some false
 |2,.emp,.nils=>some false
 |3,.nilm,.nilm=>some true
 |3,.nilm,.mp _=>some false
 |3,.mp _,.nilm=>some false
 |4,.nilf,.nilf=>some true
 |4,.fn _ _,.nilf=>some false
 |4,.nilf,.fn _ _=>some false
 |_,_,_=>none
def eqC:List D->List D->Option Bool
 | [],[]=>some true
 |a::x,b::y=>match eqV a b with
  |some true=>eqC x y
  |some false=>some false
  |none=>none
 |_,_=>none
def eqD(a b:D):Option Bool:=match a,b with
 | .agg x,.agg y=>eqC x y
 |x,y=>eqV x y
def iI(k:D):List (D×D)->Nat->Option (Option (Nat×D))
 | [],_=>some none
 |(a,v)::es,i=>match eqD k a with
  |some true=>some (some (i,v))
  |some false=>iI k es (Bk i)
  |none=>none
def gc(a n:Nat)(k:D):Bool:=match a,k with
 |0,.int _ _=>true
 |1,.str _=>true
 |2,.agg cs=>Af (eZ cs 0) n&&cs.all λc=>match c with| .int _ _=>true|_=>false
 |3,.agg cs=>Af (eZ cs 0) n&&cs.all λc=>match c with| .str _=>true|_=>false
 |_,_=>false
def lay(cells:List D):List (Nat×Nat×D)->Option (List D)
 | []=>some cells
 |(a,n,v)::r=>chk (Af v.cells.length n&&v.cells.all D.one&&AO (a+n) cells.length) (lay (cells.take a++v.cells++cells.drop (a+n)) r)
def j9(len:Nat):Option D->Option D->Option (Nat×Nat)
 |none,none=>some (0,len)
 |some (.int _ (.ofNat a)),none=>chk (AO a len) (some (a,len))
 |none,some (.int _ (.ofNat b))=>chk (AO b len) (some (0,b))
 |some (.int _ (.ofNat a)),some (.int _ (.ofNat b))=>chk (AO b len&&AO a b) (some (a,b))
 |_,_=>none
def bF(E:Nat->D):Option ac->Option D
 |none=>none
 |some x=>some (x.ev E)
def ik(H:Nat->Option Obj):D->Option (Nat×List D)
 | .nils=>some (0,[])
 | .emp=>some (0,[])
 | .sl id a len sz _=>match cells? H id with
   |some (_,_,cs)=>chk (AO (a+len*sz) cs.length) (some (len,(cs.drop a).take (len*sz)))
   |none=>none
 |_=>none
def tW(n:Nat):D:=.int .u8 (.ofNat n)
def ag1:D->Option Nat
 | .int .u8 (.ofNat n)=>some n
 |_=>none
def pP:List D->Option (List Nat)
 | []=>some []
 |c::r=>match ag1 c,pP r with|some n,some l=>some (n::l)|_,_=>none
def wb(H:Nat->Option Obj)(m:D):Option (List (D×D)):=match m with| .nilm=>some []| .mp id=>pd H id|_=>none
def vA(a n:Nat)(zero:List D)(agg ok:Bool)(m key:D)(H:Nat->Option Obj):Option (D×List (Nat×Option Obj)):=chk (gc a n key) (match wb H m with
    |some es=>match iI key es 0 with
     |some (some (_,v))=>some (cond ok (.tup [v,.bool true]) v,[])
     |some none=>some (cond ok (.tup [a6 agg zero,.bool false]) (a6 agg zero),[])
     |none=>none
    |none=>none)
def vC:List (D×D)->Option (List (Int×Int))
 | []=>some []
 |(.int .u8 a,.int .i64 b)::l=>(vC l).map ((a,b)::·)
 |_=>none
def ag2:List D->Bool
 | [.int .i64 n]=>eqI n 0
 |_=>false
def wc(a:Nat)(zero:List D)(agg ok:Bool)(m:D)(i:Nat)(H:Nat->Option Obj):Option (D×List (Nat×Option Obj)):=
 chk (Af a 0&&(!ok&&(!agg&&ag2 zero))) (match wb H m with
  |some es=>match vC es with
   |some l=>(nr (.lk l) (.sym .u8 i) .undef).map λv=>(v,[])
   |none=>none
  |none=>none)
def xv(a n:Nat)(zero:List D)(agg ok:Bool)(m key:D)(H:Nat->Option Obj):Option (D×List (Nat×Option Obj)):=match key with
 | .sym .u8 i=>wc a zero agg ok m i H
 |key=>vA a n zero agg ok m key H
def eff(at_:Nat)(E:Nat->D)(H:Nat->Option Obj):IOp->Option (D×List (Nat×Option Obj))
 | .mov x=>some (x.ev E,[])
 | .pick c a b=>match c.ev E with| .bool t=>some (cond t (a.ev E) (b.ev E),[])|_=>none
 | .bin o x y=>(orS (pV o (x.ev E) (y.ev E)) (nr (.b o) (x.ev E) (y.ev E))).map λv=>(v,[])
 | .un o x=>(orS (unV o (x.ev E)) (nr (.u o) (x.ev E) .undef)).map λv=>(v,[])
 | .cvi k x=>(orS (match x.ev E with| .int _ n=>some (.int k (k.wrap n))|_=>none) (nr (.c k) (x.ev E) .undef)).map λv=>(v,[])
 | .cvs x=>match x.ev E with| .str l=>some (.str l,[])|_=>none
 | .s2b e x=>match x.ev E with| .str l=>some (.sl at_ 0 l.length 1 none,[(at_,some (.cells e false (l.map tW)))])|_=>none
 | .b2s x=>match ik H (x.ev E) with
   |some (n,cs)=>chk (Af (eZ cs 0) n) ((pP cs).map λl=>(.str l,[]))
   |none=>none
 | .i2s x=>match x.ev E with| .int _ n=>some (.str (ah3 n),[])|_=>none
 | .len C x=>match C,x.ev E with
   |true,.str l=>some (.int .i64 (.ofNat (eZ l 0)),[])
   |true,.sym k i=>(nr .ln (.sym k i) .undef).map λv=>(v,[])
   |false,.nils=>some (.int .i64 (.ofNat 0),[])
   |false,.emp=>some (.int .i64 (.ofNat 0),[])
   |false,.sl _ _ n _ _=>some (.int .i64 (.ofNat n),[])
   |_,_=>none
 | .idx x i=>match x.ev E,i.ev E with
   | .str l,.int _ (.ofNat i)=>match l[i]? with|some n=>some (tW n,[])|none=>none
   | .sym k j,.int k' (.ofNat i)=>(nr .ix (.sym k j) (.int k' (.ofNat i))).map λv=>(v,[])
   |_,_=>none
 | .ixa sz x i=>match x.ev E,i.ev E with
   | .sl id d n h _,.int _ (.ofNat i)=>chk (AV i n&&Af sz h) (some (.ptr id (d+i*sz),[]))
   |_,_=>none
 | .ixp n sz x i=>match x.ev E,i.ev E with
   | .ptr id d,.int _ (.ofNat i)=>chk (AV i n) (some (.ptr id (d+i*sz),[]))
   |_,_=>none
 | .subs x w z=>match x.ev E with
   | .str l=>(j9 l.length (bF E w) (bF E z)).map λp=>(.str ((l.take p.2).drop p.1),[])
   |_=>none
 | .subl sz x w z=>match x.ev E with
   | .nils=>(j9 0 (bF E w) (bF E z)).map λ_=>(.nils,[])
   | .emp=>(j9 0 (bF E w) (bF E z)).map λ_=>(.emp,[])
   | .sl id d n h cap=>chk (Af sz h) (match j9 n (bF E w) (bF E z),cap with
     |some (a,b),some c=>some (cond (Af c a) (.sl id d (b-a) sz (some 0)) (.sl id (d+a*sz) (b-a) sz (some (c-a))),[])
     |some (a,b),none=>some (cond (Af a n) .emp (.sl id (d+a*sz) (b-a) sz none),[])
     |none,_=>none)
   |_=>none
 | .bsl e sz r=>chk (r.all λx=>(x.ev E).cells.all D.one&&Af (x.ev E).cells.length sz) (some (.sl at_ 0 r.length sz (some r.length),[(at_,some (.cells e true (r.flatMap λx=>(x.ev E).cells)))]))
 | .bld zero r=>(lay zero (r.map λp=>(p.1,p.2.1,p.2.2.ev E))).map λcs=>(.agg cs,[])
 | .fld d n agg x=>match x.ev E with
   | .agg cs=>chk (AO (d+n) cs.length) (some (a6 agg ((cs.drop d).take n),[]))
   |_=>none
 | .new e zero=>some (.ptr at_ 0,[(at_,some (.cells e true zero))])
 | .box e x=>chk ((x.ev E).cells.all D.one) (some (.ptr at_ 0,[(at_,some (.cells e true (x.ev E).cells))]))
 | .fad d x=>match x.ev E with| .ptr id o=>some (.ptr id (o+d),[])|_=>none
 | .ld n agg x=>match x.ev E with
   | .ptr id o=>match cells? H id with
     |some (_,_,cs)=>chk (AO (o+n) cs.length) (some (a6 agg ((cs.drop o).take n),[]))
     |none=>none
   |_=>none
 | .st n x v=>match x.ev E with
   | .ptr id o=>match cells? H id with
     |some (e,f,cs)=>chk (Af (v.ev E).cells.length n&&(v.ev E).cells.all D.one&&AO (o+n) cs.length) (some (.undef,[(id,some (.cells e f (cs.take o++(v.ev E).cells++cs.drop (o+n))))]))
     |none=>none
   |_=>none
 | .app e sz g x y=>match ik H (y.ev E) with
   |some (n,news)=>chk (Af (eZ news 0) (n*sz)) (match x.ev E with
    | .nils=>cond (Af n 0) (some (.nils,[])) (chk (AO (n*g) cd) (some (.sl at_ 0 n sz none,[(at_,some (.cells e false news))])))
    | .sl id d len h cap=>chk (Af sz h&&AO ((len+n)*g) cd) (match cells? H id with
      |some (B,f,cs)=>cond (Af n 0) (some (.sl id d len sz cap,[])) (match cap with
       |some c=>cond (AO (len+n) c)
         (chk (AO (d+(len+n)*sz) cs.length) (some (.sl id d (len+n) sz (some c),[(id,some (.cells B f (cs.take (d+len*sz)++news++cs.drop (d+(len+n)*sz))))])))
         (chk (AO (d+len*sz) cs.length) (some (.sl at_ 0 (len+n) sz none,[(at_,some (.cells e false ((cs.drop d).take (len*sz)++news)))])))
       |none=>chk (Af d 0&&Af (len*sz) cs.length&&Af e B&& !f) (some (.sl at_ 0 (len+n) sz none,[(id,none),(at_,some (.cells e false (cs++news)))])))
      |none=>none)
    |_=>none)
   |none=>none
 | .apt e g x y=>match x.ev E,y.ev E with
   | .nils,.str l=>cond (Af (eZ l 0) 0) (some (.nils,[])) (chk (AO (eZ l 0*g) cd) (some (.sl at_ 0 l.length 1 none,[(at_,some (.cells e false (l.map tW)))])))
   |_,_=>none
 | .mks e sz g zero x=>match x.ev E with
   | .int _ (.ofNat n)=>chk (AO (n*g) cd&&Af zero.length sz) (some (.sl at_ 0 n sz (some n),[(at_,some (.cells e true ((Bg n zero).flatMap id)))]))
   |_=>none
 | .ext i x=>match x.ev E with
   | .tup vs=>match vs[i]? with|some v=>some (v,[])|none=>none
   |_=>none
 | .nck x=>match x.ev E with
   | .ptr id o=>some (.ptr id o,[])
   | .fn f cs=>some (.fn f cs,[])
   |_=>none
 | .mx F x y=>match x.ev E,y.ev E with
   | .int k a,.int k' b=>chk (gv k k') (some (.int k (cond F (cond (ltI b a) b a) (cond (ltI a b) b a)),[]))
   |_,_=>none
 | .mkf f jH=>some (.fn f (jH.map (·.ev E)),[])
 | .mkm=>some (.mp at_,[(at_,some (.map []))])
 | .lkp q n zero agg ok x k=>xv q n zero agg ok (x.ev E) (k.ev E) H
 | .mup q n m k v=>chk (gc q n (k.ev E)) (match m.ev E with
   | .mp id=>match pd H id with
     |some es=>match iI (k.ev E) es 0 with
      |some (some (i,_))=>some (.undef,[(id,some (.map (es.set i (k.ev E,v.ev E))))])
      |some none=>some (.undef,[(id,some (.map (es++[(k.ev E,v.ev E)])))])
      |none=>none
     |none=>none
   |_=>none)
 | .ment q n zero agg m k=>chk (gc q n (k.ev E)) (match m.ev E with
   | .mp id=>match pd H id with
     |some es=>chk (AV (eZ es 0) 1000000000) (match iI (k.ev E) es 0 with
      |some (some (i,v))=>some (.tup [v,.int .i64 (.ofNat i)],[(id,some (.map (es.set i (k.ev E,v))))])
      |some none=>some (.tup [a6 agg zero,.int .i64 (.ofNat (eZ es 0))],[(id,some (.map (es++[(k.ev E,a6 agg zero)])))])
      |none=>none)
     |none=>none
   |_=>none)
 | .mest m i v=>match m.ev E,i.ev E with
   | .mp id,.int _ (.ofNat i)=>match pd H id with
     |some es=>match es[i]? with
      |some (k,_)=>some (.undef,[(id,some (.map (es.set i (k,v.ev E))))])
      |none=>none
     |none=>none
   |_,_=>none
 | .eq q A x y=>(eqN q (x.ev E) (y.ev E)).map λb=>(.bool (cond A (!b) b),[])
 | .call .. =>none
 | .dcall .. =>none
def aiX(k:IntKind)(a b:Int):Option D:=some (.int k (k.wrap (a+b)))
def aiY(k:IntKind)(a b:Int):Option D:=some (.int k (k.wrap (a-b)))
def aiZ(k:IntKind)(a b:Int):Option D:=some (.int k (k.wrap (a*b)))
def ai0(k:IntKind)(a b:Int):Option D:=chk (!eqI b 0) (some (.int k (k.wrap (a.tdiv b))))
def ai1(k:IntKind)(a b:Int):Option D:=chk (!eqI b 0) (some (.int k (a.tmod b)))
def ai2(k:IntKind)(a b:Int):Option D:=some (.int k (cm .and k a b))
def ajP(k:IntKind)(a b:Int):Option D:=some (.int k (cm .or k a b))
def ai3(k:IntKind)(a b:Int):Option D:=some (.int k (cm .xor k a b))
def agj(k:IntKind)(a b:Int):Option D:=some (.int k (cm .andNot k a b))
def ai4(k:IntKind)(a b:Int):Option D:=some (.bool (eqI a b))
def ai5(k:IntKind)(a b:Int):Option D:=some (.bool (!eqI a b))
def ai6(k:IntKind)(a b:Int):Option D:=some (.bool (ltI a b))
def ai7(k:IntKind)(a b:Int):Option D:=some (.bool (!ltI b a))
def ai8(k:IntKind)(a b:Int):Option D:=some (.bool (ltI b a))
def ai9(k:IntKind)(a b:Int):Option D:=some (.bool (!ltI a b))
def ag3:BinOp->IntKind->Int->Int->Option D
 | .add=>aiX
 | .sub=>aiY
 | .mul=>aiZ
 | .quo=>ai0
 | .rem=>ai1
 | .and=>ai2
 | .or=>ajP
 | .xor=>ai3
 | .andNot=>agj
 | .eql=>ai4
 | .neq=>ai5
 | .lss=>ai6
 | .leq=>ai7
 | .gtr=>ai8
 | .geq=>ai9
 |_=>λ_ _ _=>none
def ah4:BinOp->List Nat->List Nat->Option D
 | .add=>λa b=>chk (AO (eZ a 0+eZ b 0) maxI) (some (.str (a++b)))
 | .eql=>λa b=>some (.bool (eqL a b))
 | .neq=>λa b=>some (.bool (!eqL a b))
 | .lss=>λa b=>some (.bool (ltL a b))
 | .leq=>λa b=>some (.bool (!ltL b a))
 | .gtr=>λa b=>some (.bool (ltL b a))
 | .geq=>λa b=>some (.bool (!ltL a b))
 |_=>λ_ _=>none
def ahr:BinOp->Bool
 | .shl| .shr=>true
 |_=>false
def aeA(o:BinOp)(x y:D):Option D:=match x,y with
 | .int k a,.int k' b=>cond (ahr o) (pV o (.int k a) (.int k' b)) (chk (gv k k') (ag3 o k a b))
 | .str a,.str b=>ah4 o a b
 |_,_=>none
theorem agk(o:BinOp)(k:IntKind)(a b:Int):ag3 o k a b=nZ o k a b:=by cases o<;>rfl
theorem ahs(o:BinOp)(a b:List Nat):ah4 o a b=pz o a b:=by cases o<;>rfl
theorem aht(o:BinOp)(x y:D):aeA o x y=pV o x y:=by
 cases x<;>cases y<;>first|rfl|skip
 ·simp only[aeA,agk];cases o<;>rfl
 ·simp only[aeA,ahs];rfl
def aja(x:ac)(at_:Nat)(E:Nat->D)(H:Nat->Option Obj):Option (D×List (Nat×Option Obj)):=some (x.ev E,[])
def ah5(c a b:ac)(at_:Nat)(E:Nat->D)(H:Nat->Option Obj):Option (D×List (Nat×Option Obj)):=match c.ev E with| .bool t=>some (cond t (a.ev E) (b.ev E),[])|_=>none
def ag4(o:BinOp)(x y:ac)(at_:Nat)(E:Nat->D)(H:Nat->Option Obj):Option (D×List (Nat×Option Obj)):=(orS (aeA o (x.ev E) (y.ev E)) (nr (.b o) (x.ev E) (y.ev E))).map λv=>(v,[])
def ajQ(o:UnOp)(x:ac)(at_:Nat)(E:Nat->D)(H:Nat->Option Obj):Option (D×List (Nat×Option Obj)):=(orS (unV o (x.ev E)) (nr (.u o) (x.ev E) .undef)).map λv=>(v,[])
def ajb(k:IntKind)(x:ac)(at_:Nat)(E:Nat->D)(H:Nat->Option Obj):Option (D×List (Nat×Option Obj)):=(orS (match x.ev E with| .int _ n=>some (.int k (k.wrap n))|_=>none) (nr (.c k) (x.ev E) .undef)).map λv=>(v,[])
def ajc(x:ac)(at_:Nat)(E:Nat->D)(H:Nat->Option Obj):Option (D×List (Nat×Option Obj)):=match x.ev E with| .str l=>some (.str l,[])|_=>none
def ajd(e:Nat)(x:ac)(at_:Nat)(E:Nat->D)(H:Nat->Option Obj):Option (D×List (Nat×Option Obj)):=match x.ev E with| .str l=>some (.sl at_ 0 l.length 1 none,[(at_,some (.cells e false (l.map tW)))])|_=>none
def aje(x:ac)(at_:Nat)(E:Nat->D)(H:Nat->Option Obj):Option (D×List (Nat×Option Obj)):=match ik H (x.ev E) with
    |some (n,cs)=>chk (Af (eZ cs 0) n) ((pP cs).map λl=>(.str l,[]))
    |none=>none
def ajf(x:ac)(at_:Nat)(E:Nat->D)(H:Nat->Option Obj):Option (D×List (Nat×Option Obj)):=match x.ev E with| .int _ n=>some (.str (ah3 n),[])|_=>none
def ajg(a:Bool)(x:ac)(at_:Nat)(E:Nat->D)(H:Nat->Option Obj):Option (D×List (Nat×Option Obj)):=match a,x.ev E with
    |true,.str l=>some (.int .i64 (.ofNat (eZ l 0)),[])
    |true,.sym k i=>(nr .ln (.sym k i) .undef).map λv=>(v,[])
    |false,.nils=>some (.int .i64 (.ofNat 0),[])
    |false,.emp=>some (.int .i64 (.ofNat 0),[])
    |false,.sl _ _ n _ _=>some (.int .i64 (.ofNat n),[])
    |_,_=>none
def ajh(x i:ac)(at_:Nat)(E:Nat->D)(H:Nat->Option Obj):Option (D×List (Nat×Option Obj)):=match x.ev E,i.ev E with
    | .str l,.int _ (.ofNat i)=>match l[i]? with|some n=>some (tW n,[])|none=>none
    | .sym k j,.int k' (.ofNat i)=>(nr .ix (.sym k j) (.int k' (.ofNat i))).map λv=>(v,[])
    |_,_=>none
def aji(sz:Nat)(x i:ac)(at_:Nat)(E:Nat->D)(H:Nat->Option Obj):Option (D×List (Nat×Option Obj)):=match x.ev E,i.ev E with
    | .sl id a n b _,.int _ (.ofNat i)=>chk (AV i n&&Af sz b) (some (.ptr id (a+i*sz),[]))
    |_,_=>none
def ajj(n sz:Nat)(x i:ac)(at_:Nat)(E:Nat->D)(H:Nat->Option Obj):Option (D×List (Nat×Option Obj)):=match x.ev E,i.ev E with
    | .ptr id a,.int _ (.ofNat i)=>chk (AV i n) (some (.ptr id (a+i*sz),[]))
    |_,_=>none
def ah6(x:ac)(b a:Option ac)(at_:Nat)(E:Nat->D)(H:Nat->Option Obj):Option (D×List (Nat×Option Obj)):=match x.ev E with
    | .str l=>(j9 l.length (bF E b) (bF E a)).map λp=>(.str ((l.take p.2).drop p.1),[])
    |_=>none
def ah7(sz:Nat)(x:ac)(e g:Option ac)(at_:Nat)(E:Nat->D)(H:Nat->Option Obj):Option (D×List (Nat×Option Obj)):=match x.ev E with
    | .nils=>(j9 0 (bF E e) (bF E g)).map λ_=>(.nils,[])
    | .emp=>(j9 0 (bF E e) (bF E g)).map λ_=>(.emp,[])
    | .sl id d n f cap=>chk (Af sz f) (match j9 n (bF E e) (bF E g),cap with
      |some (a,b),some c=>some (cond (Af c a) (.sl id d (b-a) sz (some 0)) (.sl id (d+a*sz) (b-a) sz (some (c-a))),[])
      |some (a,b),none=>some (cond (Af a n) .emp (.sl id (d+a*sz) (b-a) sz none),[])
      |none,_=>none)
    |_=>none
def ajk(e sz:Nat)(a:List ac)(at_:Nat)(E:Nat->D)(H:Nat->Option Obj):Option (D×List (Nat×Option Obj)):=chk (a.all λx=>(x.ev E).cells.all D.one&&Af (x.ev E).cells.length sz) (some (.sl at_ 0 a.length sz (some a.length),[(at_,some (.cells e true (a.flatMap λx=>(x.ev E).cells)))]))
def ajl(zero:List D)(a:List (Nat×Nat×ac))(at_:Nat)(E:Nat->D)(H:Nat->Option Obj):Option (D×List (Nat×Option Obj)):=(lay zero (a.map λp=>(p.1,p.2.1,p.2.2.ev E))).map λcs=>(.agg cs,[])
def ajm(a n:Nat)(agg:Bool)(x:ac)(at_:Nat)(E:Nat->D)(H:Nat->Option Obj):Option (D×List (Nat×Option Obj)):=match x.ev E with
    | .agg cs=>chk (AO (a+n) cs.length) (some (a6 agg ((cs.drop a).take n),[]))
    |_=>none
def ajn(e:Nat)(zero:List D)(at_:Nat)(E:Nat->D)(H:Nat->Option Obj):Option (D×List (Nat×Option Obj)):=some (.ptr at_ 0,[(at_,some (.cells e true zero))])
def ajo(e:Nat)(x:ac)(at_:Nat)(E:Nat->D)(H:Nat->Option Obj):Option (D×List (Nat×Option Obj)):=chk ((x.ev E).cells.all D.one) (some (.ptr at_ 0,[(at_,some (.cells e true (x.ev E).cells))]))
def ajp(a:Nat)(x:ac)(at_:Nat)(E:Nat->D)(H:Nat->Option Obj):Option (D×List (Nat×Option Obj)):=match x.ev E with| .ptr id o=>some (.ptr id (o+a),[])|_=>none
def ajR(n:Nat)(agg:Bool)(x:ac)(at_:Nat)(E:Nat->D)(H:Nat->Option Obj):Option (D×List (Nat×Option Obj)):=match x.ev E with
    | .ptr id o=>match cells? H id with
      |some (_,_,cs)=>chk (AO (o+n) cs.length) (some (a6 agg ((cs.drop o).take n),[]))
      |none=>none
    |_=>none
def ajS(n:Nat)(x v:ac)(at_:Nat)(E:Nat->D)(H:Nat->Option Obj):Option (D×List (Nat×Option Obj)):=match x.ev E with
    | .ptr id o=>match cells? H id with
      |some (e,f,cs)=>chk (Af (v.ev E).cells.length n&&(v.ev E).cells.all D.one&&AO (o+n) cs.length) (some (.undef,[(id,some (.cells e f (cs.take o++(v.ev E).cells++cs.drop (o+n))))]))
      |none=>none
    |_=>none
def ajq(e sz b:Nat)(x y:ac)(at_:Nat)(E:Nat->D)(H:Nat->Option Obj):Option (D×List (Nat×Option Obj)):=match ik H (y.ev E) with
    |some (n,news)=>chk (Af (eZ news 0) (n*sz)) (match x.ev E with
     | .nils=>cond (Af n 0) (some (.nils,[])) (chk (AO (n*b) cd) (some (.sl at_ 0 n sz none,[(at_,some (.cells e false news))])))
     | .sl id a len d cap=>chk (Af sz d&&AO ((len+n)*b) cd) (match cells? H id with
       |some (g,f,cs)=>cond (Af n 0) (some (.sl id a len sz cap,[])) (match cap with
        |some c=>cond (AO (len+n) c)
          (chk (AO (a+(len+n)*sz) cs.length) (some (.sl id a (len+n) sz (some c),[(id,some (.cells g f (cs.take (a+len*sz)++news++cs.drop (a+(len+n)*sz))))])))
          (chk (AO (a+len*sz) cs.length) (some (.sl at_ 0 (len+n) sz none,[(at_,some (.cells e false ((cs.drop a).take (len*sz)++news)))])))
        |none=>chk (Af a 0&&Af (len*sz) cs.length&&Af e g&& !f) (some (.sl at_ 0 (len+n) sz none,[(id,none),(at_,some (.cells e false (cs++news)))])))
       |none=>none)
     |_=>none)
    |none=>none
def ajr(e a:Nat)(x y:ac)(at_:Nat)(E:Nat->D)(H:Nat->Option Obj):Option (D×List (Nat×Option Obj)):=match x.ev E,y.ev E with
    | .nils,.str l=>cond (Af (eZ l 0) 0) (some (.nils,[])) (chk (AO (eZ l 0*a) cd) (some (.sl at_ 0 l.length 1 none,[(at_,some (.cells e false (l.map tW)))])))
    |_,_=>none
def ajs(e sz a:Nat)(zero:List D)(x:ac)(at_:Nat)(E:Nat->D)(H:Nat->Option Obj):Option (D×List (Nat×Option Obj)):=match x.ev E with
    | .int _ (.ofNat n)=>chk (AO (n*a) cd&&Af zero.length sz) (some (.sl at_ 0 n sz (some n),[(at_,some (.cells e true ((Bg n zero).flatMap id)))]))
    |_=>none
def ajt(i:Nat)(x:ac)(at_:Nat)(E:Nat->D)(H:Nat->Option Obj):Option (D×List (Nat×Option Obj)):=match x.ev E with
    | .tup vs=>match vs[i]? with|some v=>some (v,[])|none=>none
    |_=>none
def aju(x:ac)(at_:Nat)(E:Nat->D)(H:Nat->Option Obj):Option (D×List (Nat×Option Obj)):=match x.ev E with
    | .ptr id o=>some (.ptr id o,[])
    | .fn f cs=>some (.fn f cs,[])
    |_=>none
def ajT(c:Bool)(x y:ac)(at_:Nat)(E:Nat->D)(H:Nat->Option Obj):Option (D×List (Nat×Option Obj)):=match x.ev E,y.ev E with
    | .int k a,.int k' b=>chk (gv k k') (some (.int k (cond c (cond (ltI b a) b a) (cond (ltI a b) b a)),[]))
    |_,_=>none
def ajv(f:Nat)(jH:List ac)(at_:Nat)(E:Nat->D)(H:Nat->Option Obj):Option (D×List (Nat×Option Obj)):=some (.fn f (jH.map (·.ev E)),[])
def ajw(at_:Nat)(E:Nat->D)(H:Nat->Option Obj):Option (D×List (Nat×Option Obj)):=some (.mp at_,[(at_,some (.map []))])
def ajx(a n:Nat)(zero:List D)(agg ok:Bool)(x k:ac)(at_:Nat)(E:Nat->D)(H:Nat->Option Obj):Option (D×List (Nat×Option Obj)):=xv a n zero agg ok (x.ev E) (k.ev E) H
def ajy(a n:Nat)(m k v:ac)(at_:Nat)(E:Nat->D)(H:Nat->Option Obj):Option (D×List (Nat×Option Obj)):=chk (gc a n (k.ev E)) (match m.ev E with
    | .mp id=>match pd H id with
      |some es=>match iI (k.ev E) es 0 with
       |some (some (i,_))=>some (.undef,[(id,some (.map (es.set i (k.ev E,v.ev E))))])
       |some none=>some (.undef,[(id,some (.map (es++[(k.ev E,v.ev E)])))])
       |none=>none
      |none=>none
    |_=>none)
def ah8(a n:Nat)(zero:List D)(agg:Bool)(m k:ac)(at_:Nat)(E:Nat->D)(H:Nat->Option Obj):Option (D×List (Nat×Option Obj)):=chk (gc a n (k.ev E)) (match m.ev E with
    | .mp id=>match pd H id with
      |some es=>chk (AV (eZ es 0) 1000000000) (match iI (k.ev E) es 0 with
       |some (some (i,v))=>some (.tup [v,.int .i64 (.ofNat i)],[(id,some (.map (es.set i (k.ev E,v))))])
       |some none=>some (.tup [a6 agg zero,.int .i64 (.ofNat (eZ es 0))],[(id,some (.map (es++[(k.ev E,a6 agg zero)])))])
       |none=>none)
      |none=>none
    |_=>none)
def ah9(m i v:ac)(at_:Nat)(E:Nat->D)(H:Nat->Option Obj):Option (D×List (Nat×Option Obj)):=match m.ev E,i.ev E with
    | .mp id,.int _ (.ofNat i)=>match pd H id with
      |some es=>match es[i]? with
       |some (k,_)=>some (.undef,[(id,some (.map (es.set i (k,v.ev E))))])
       |none=>none
      |none=>none
    |_,_=>none
def ajU(c:Nat)(a:Bool)(x y:ac)(at_:Nat)(E:Nat->D)(H:Nat->Option Obj):Option (D×List (Nat×Option Obj)):=(eqN c (x.ev E) (y.ev E)).map λb=>(.bool (cond a (!b) b),[])
def aeB:IOp->Nat->(Nat->D)->(Nat->Option Obj)->Option (D×List (Nat×Option Obj))
 | .mov x=>aja x
 | .pick c a b=>ah5 c a b
 | .bin o x y=>ag4 o x y
 | .un o x=>ajQ o x
 | .cvi k x=>ajb k x
 | .cvs x=>ajc x
 | .s2b e x=>ajd e x
 | .b2s x=>aje x
 | .i2s x=>ajf x
 | .len t x=>ajg t x
 | .idx x i=>ajh x i
 | .ixa sz x i=>aji sz x i
 | .ixp n sz x i=>ajj n sz x i
 | .subs x j r=>ah6 x j r
 | .subl sz x j r=>ah7 sz x j r
 | .bsl e sz q=>ajk e sz q
 | .bld zero q=>ajl zero q
 | .fld g n agg x=>ajm g n agg x
 | .new e zero=>ajn e zero
 | .box e x=>ajo e x
 | .fad g x=>ajp g x
 | .ld n agg x=>ajR n agg x
 | .st n x v=>ajS n x v
 | .app e sz d x y=>ajq e sz d x y
 | .apt e d x y=>ajr e d x y
 | .mks e sz d zero x=>ajs e sz d zero x
 | .ext i x=>ajt i x
 | .nck x=>aju x
 | .mx u x y=>ajT u x y
 | .mkf f jH=>ajv f jH
 | .mkm=>ajw
 | .lkp h n zero agg ok x k=>ajx h n zero agg ok x k
 | .mup h n m k v=>ajy h n m k v
 | .ment h n zero agg m k=>ah8 h n zero agg m k
 | .mest m i v=>ah9 m i v
 | .eq h p x y=>ajU h p x y
 | .call .. =>λ_ _ _=>none
 | .dcall .. =>λ_ _ _=>none
theorem zO(o:IOp)(at_:Nat)(E:Nat->D)(H:Nat->Option Obj):aeB o at_ E H=eff at_ E H o:=by cases o<;>first|rfl|(simp only[aeB,ag4,eff,aht])
def IOp.makes:IOp->Bool
 | .s2b .. | .bsl .. | .new .. | .box .. | .app .. | .apt .. | .mks .. | .mkm=>true
 |_=>false
section
variable{R:Type}
def gm:Nat->(Nat->R)->R
 |0=>λk=>k 0
 |n+1=>λk=>k (Bk n)
def acu:Int->(Int->R)->R
 | .ofNat m=>λk=>gm m λm=>k (.ofNat m)
 | .negSucc m=>λk=>gm m λm=>k (.negSucc m)
def yA:List Nat->(List Nat->R)->R
 | []=>λk=>k []
 |a::r=>λk=>gm a λa=>yA r λr=>k (a::r)
def nc{α:Type}:List α->(List α->R)->R
 | []=>λk=>k []
 |a::r=>λk=>nc r λr=>k (a::r)
def acv:Bool->(Bool->R)->R
 |true=>λk=>k true
 |false=>λk=>k false
def acw:Option Nat->(Option Nat->R)->R
 |none=>λk=>k none
 |some c=>λk=>gm c λc=>k (some c)
def acx:D->(D->R)->R
 | .undef=>λk=>k .undef
 | .bool b=>λk=>acv b λb=>k (.bool b)
 | .int t n=>λk=>acu n λn=>k (.int t n)
 | .str s=>λk=>yA s λs=>k (.str s)
 | .nilp=>λk=>k .nilp
 | .ptr id a=>λk=>gm id λid=>gm a λa=>k (.ptr id a)
 | .nils=>λk=>k .nils
 | .emp=>λk=>k .emp
 | .sl id a len sz cap=>λk=>gm id λid=>gm a λa=>gm len λlen=>gm sz λsz=>acw cap λcap=>k (.sl id a len sz cap)
 | .agg cs=>λk=>nc cs λcs=>k (.agg cs)
 | .tup cs=>λk=>nc cs λcs=>k (.tup cs)
 | .fn f cs=>λk=>nc cs λcs=>k (.fn f cs)
 | .nilf=>λk=>k .nilf
 | .nilif=>λk=>k .nilif
 | .mp id=>λk=>gm id λid=>k (.mp id)
 | .nilm=>λk=>k .nilm
 | .sym t i=>λk=>gm i λi=>k (.sym t i)
def vD:D->(D->R)->R
 | .undef=>λk=>k .undef
 | .bool b=>λk=>acv b λb=>k (.bool b)
 | .int t n=>λk=>k (.int t n)
 | .str s=>λk=>k (.str s)
 | .nilp=>λk=>k .nilp
 | .ptr id a=>λk=>k (.ptr id a)
 | .nils=>λk=>k .nils
 | .emp=>λk=>k .emp
 | .sl id a len sz cap=>λk=>k (.sl id a len sz cap)
 | .agg cs=>λk=>nc cs λcs=>k (.agg cs)
 | .tup cs=>λk=>nc cs λcs=>k (.tup cs)
 | .fn f cs=>λk=>k (.fn f cs)
 | .nilf=>λk=>k .nilf
 | .nilif=>λk=>k .nilif
 | .mp id=>λk=>k (.mp id)
 | .nilm=>λk=>k .nilm
 | .sym t i=>λk=>k (.sym t i)
def zP:Option Obj->(Option Obj->R)->R
 |none=>λk=>k none
 |some (.cells e f cs)=>λk=>nc cs λcs=>k (some (.cells e f cs))
 |some (.map es)=>λk=>nc es λes=>k (some (.map es))
theorem hD(m:Nat)(k:Nat->R):gm m k=k m:=by cases m<;>rfl
theorem afx(n:Int)(k:Int->R):acu n k=k n:=by cases n<;>simp[acu,hD]
theorem aav:∀(l:List Nat)(k:List Nat->R),yA l k=k l
 | [],_=>rfl
 |a::r,k=>by simp[yA,hD,aav r]
theorem sa{α:Type}:∀(l:List α)(k:List α->R),nc l k=k l
 | [],_=>rfl
 |a::r,k=>by simp[nc,sa r]
theorem aaw(b:Bool)(k:Bool->R):acv b k=k b:=by cases b<;>rfl
theorem afy(c:Option Nat)(k:Option Nat->R):acw c k=k c:=by cases c<;>simp[acw,hD]
theorem vE(d:D)(k:D->R):acx d k=k d:=by cases d<;>simp[acx,hD,afx,aav,sa,aaw,afy]
theorem j8(d:D)(k:D->R):vD d k=k d:=by cases d<;>simp[vD,sa,aaw]
theorem aeC(o:Option Obj)(k:Option Obj->R):zP o k=k o:=by
 cases o with
 |none=>rfl
 |some o=>cases o<;>simp[zP,sa]
end
def IOp.copies:IOp->Bool
 | .mov _| .pick .. | .ext .. | .nck _| .cvs _| .ld .. | .fld .. | .lkp .. | .ment .. =>true
 |_=>false
abbrev Sp:=Nat->List D->Hp->Option (D×Hp)
def Hp.put(h:Hp)(id:Nat)(o:Option Obj):Hp:=⟨h.n,h.t.set (Bk id) id o⟩
def Hp.puts(h:Hp)(ws:List (Nat×Option Obj)):Hp:=ws.foldl (λh p=>h.put p.1 p.2) h
def St.put(s:St)(d:Option Nat)(v:D):St:=match d with
 |some d=>⟨s.env.set d v,s.hp⟩
 |none=>s
section
variable{R:Type}
def tX(s:St)(d:Option Nat)(v:D)(k:St->R):R:=match d with
 |some d=>k ⟨s.env.set d v,s.hp⟩
 |none=>k s
def yB(n:Nat)(t:Tr Obj)(ws:List (Nat×Option Obj))(k:Tr Obj->R):R:=match ws with
 | []=>k t
 |(id,o)::r=>gm id λid=>zP o λo=>t.setK (Bk id) id o λt=>yB n t r k
theorem kU(s:St)(d:Option Nat)(v:D)(k:St->R):tX s d v k=k (s.put d v):=by cases d<;>simp[tX,St.put]
theorem tY(n:Nat):∀(ws:List (Nat×Option Obj))(t:Tr Obj)(k:Tr Obj->R),yB n t ws k=k ((⟨n,t⟩:Hp).puts ws).t
 | [],_,_=>rfl
 |(id,o)::r,t,k=>by simp[yB,hD,aeC,Tr.setK_eq,tY n r,Hp.puts,Hp.put]
def hide(n0:Nat)(a:List Nat)(h:Hp):Hp:=h.puts (a.map λi=>(n0+i,none))
def back(n0:Nat)(b:List Nat)(h a:Hp):Hp:=a.puts (b.map λi=>(n0+i,h.t.get (n0+i)))
def IOp.isCall:IOp->Bool
 | .call .. =>true
 | .dcall .. =>true
 |_=>false
def aba(Γ:Sp)(n0:Nat)(b:List Nat)(x:GOp)(s:St)(k:St->Option R):Option R:=match x.o with
 | .call f a=>match Γ f (a.map (·.ev s.fs.E)) (hide n0 b s.hp) with
   |some (v,hp)=>tX ⟨s.env,back n0 b s.hp hp⟩ x.d v k
   |none=>none
 | .dcall y a=>match y.ev s.fs.E with
   | .fn f cs=>match Γ f (a.map (·.ev s.fs.E)++cs) (hide n0 b s.hp) with
     |some (v,hp)=>tX ⟨s.env,back n0 b s.hp hp⟩ x.d v k
     |none=>none
   |_=>none
 |_=>none
def yC(n:Nat)(x:GOp)(s:St)(k:St->Option R):Option (D×List (Nat×Option Obj))->Option R
 |some (v,ws)=>cond x.o.copies
   (vD v λv=>yB n s.hp.t ws λt=>gm n λn=>tX ⟨s.env,⟨n,t⟩⟩ x.d v k)
   (acx v λv=>yB n s.hp.t ws λt=>gm n λn=>tX ⟨s.env,⟨n,t⟩⟩ x.d v k)
 |none=>none
def step(Γ:Sp)(at_ n n0:Nat)(a:List Nat)(x:GOp)(s:St)(k:St->Option R):Option R:=
 cond x.o.isCall (aba Γ n0 a x s k) (yC n x s k (aeB x.o at_ s.fs.E s.fs.H))
def aW(Γ:Sp)(at_ n n0:Nat)(a:List Nat)(x:GOp)(s:St)(k:St->Option R):Option R:=match x.g with
 |none=>step Γ at_ n n0 a x s k
 |some (g,w)=>match s.fs.E g with
  | .bool b=>cond (b==w) (step Γ at_ n n0 a x s k) (tX s x.d (.tup []) k)
  | .tup []=>tX s x.d (.tup []) k
  |_=>none
def bP(Γ:Sp):List GOp->(St->Option R)->St->Option R
 | [],K,s=>K s
 |x::r,K,s=>aW Γ s.hp.n (cond x.o.makes (Bk s.hp.n) s.hp.n) 0 [] x s (bP Γ r K)
end
inductive Ex where
 |normal
 |exit (id:Nat)
 |ret
inductive RV where
 |t (n:Nat)
 |cell (n size:Nat) (agg:Bool)
def RV.ev(E:Nat->D)(H:Nat->Option Obj):RV->Option D
 | .t n=>some (E n)
 | .cell n a agg=>match E n with
   | .ptr id o=>match cells? H id with
     |some (_,_,cs)=>chk (AO (o+a) cs.length) (some (a6 agg ((cs.drop o).take a)))
     |none=>none
   |_=>none
def rvs(E:Nat->D)(H:Nat->Option Obj):List RV->Option (List D)
 | []=>some []
 |r::l=>match r.ev E H,rvs E H l with|some v,some vs=>some (v::vs)|_,_=>none
def jl(E:Nat->D)(H:Nat->Option Obj)(a:List RV):Option D:=match rvs E H a with
 |some [v]=>some v
 |some vs=>some (.tup vs)
 |none=>none
structure Gh where
 A:Nat->Prop
 ρ:Nat->Nat
 κ:Nat->Nat
 s:Sig
def sc(g:Gh)(id b sz:Nat)(cap:Option Nat)(c:Nat):Prop:=match cap with
 |some k=>c=k
 |none=>b+c*sz=g.κ id
inductive VRel(g:Gh):D->Value->Prop where
 |undef (cv:Value):VRel g .undef cv
 |bool (b:Bool):VRel g (.bool b) (.bool b)
 |int (k:IntKind) (n:Int) (h:k.min<=n∧n<=k.max):VRel g (.int k n) (.int k n)
 |str (l:List Nat) (s:ByteArray) (hl:s.data.toList.map (·.toNat)=l) (h:s.size<=maxI):VRel g (.str l) (.string s)
 |nilp:VRel g .nilp (.pointer none)
 |ptr (id off:Nat) (h:g.A id):VRel g (.ptr id off) (.pointer (some ⟨g.ρ id,off,none⟩))
 |nils:VRel g .nils (.slice none 0 0)
 |emp (ad:Addr) (c:Nat) (hm:c<=maxI):VRel g .emp (.slice (some ad) 0 c)
 |sl (id off len sz:Nat) (cap:Option Nat) (c:Nat) (h:g.A id) (hz:0<sz) (hc:len<=c) (hm:c<=maxI) (hk:sc g id off sz cap c):VRel g (.sl id off len sz cap) (.slice (some ⟨g.ρ id,off,none⟩) len c)
 |agg (cs:List D) (vs:Array Value) (hl:cs.length=vs.size) (h1:∀c∈cs,c.one=true) (hv:∀(i:Nat) c cv,cs[i]? =some c->vs[i]? =some cv->VRel g c cv):VRel g (.agg cs) (.agg vs)
 |tup (cs:List D) (vs:Array Value) (hl:cs.length=vs.size) (hv:∀(i:Nat) c cv,cs[i]? =some c->vs[i]? =some cv->VRel g c cv):VRel g (.tup cs) (.tuple vs)
 |fn (f:Nat) (cs:List D) (vs:Array Value) (hl:cs.length=vs.size) (hv:∀(i:Nat) c cv,cs[i]? =some c->vs[i]? =some cv->VRel g c cv):VRel g (.fn f cs) (.func (.func f) #[] vs)
 |nilf:VRel g .nilf .nilFunc
 |nilif:VRel g .nilif .nilIface
 |mp (id:Nat) (h:g.A id):VRel g (.mp id) (.map (some (g.ρ id)))
 |nilm:VRel g .nilm (.map none)
 |sym (k:IntKind) (i:Nat) (ht:g.s.1.t i=none) (h:k.min<=g.s.1.n i∧g.s.1.n i<=k.max):VRel g (.sym k i) (.int k (g.s.1.n i))
 |symt (k:IntKind) (i:Nat) (l:List Nat) (s:ByteArray) (ht:g.s.1.t i=some l) (hl:s.data.toList.map (·.toNat)=l) (h:s.size<=maxI):VRel g (.sym k i) (.string s)
structure Up(g g':Gh):Prop where
 A:∀id,g.A id->g'.A id
 ρ:∀id,g.A id->g'.ρ id=g.ρ id
 κ:∀id,g.A id->g'.κ id=g.κ id
 s:g'.s=g.s
theorem Up.refl(g:Gh):Up g g:=⟨λ_ h=>h,λ_ _=>rfl,λ_ _=>rfl,rfl⟩
theorem Up.trans{g g' b:Gh}(h:Up g g')(k:Up g' b):Up g b:=
 ⟨λid a=>k.A id (h.A id a),λid a=>(k.ρ id (h.A id a)).trans (h.ρ id a),λid a=>(k.κ id (h.A id a)).trans (h.κ id a),k.s.trans h.s⟩
theorem VRel.up{g g':Gh}(u:Up g g'){v:D}{cv:Value}(h:VRel g v cv):VRel g' v cv:=by
 induction h with
 |undef cv=>exact .undef cv
 |bool b=>exact .bool b
 |int k n h=>exact .int k n h
 |str l s d h=>exact .str l s d h
 |nilp=>exact .nilp
 |ptr id e h=>rw[<-u.ρ id h];exact .ptr id e (u.A id h)
 |nils=>exact .nils
 |emp x c p=>exact .emp x c p
 |sl id e len sz cap c h y t p o=>
  rw[<-u.ρ id h];refine .sl id e len sz cap c (u.A id h) y t p ?_;cases cap with
  |some k=>exact o
  |none=>simp only[sc] at o ⊢;rw[u.κ id h];exact o
 |agg cs vs d r q j=>exact .agg cs vs d r j
 |tup cs vs d q j=>exact .tup cs vs d j
 |fn f cs vs d q j=>exact .fn f cs vs d j
 |nilf=>exact .nilf
 |nilif=>exact .nilif
 |mp id h=>rw[<-u.ρ id h];exact .mp id (u.A id h)
 |nilm=>exact .nilm
 |sym k i m h=>rw[<-u.s] at m h ⊢;exact .sym k i m h
 |symt k i l s m d h=>exact .symt k i l s (by rw[u.s];exact m) d h
theorem VRel.conc{g:Gh}{v:D}{cv:Value}(h:VRel g v cv):VRel g (DM.conc g.s.1 v) cv:=by
 cases h with
 |sym k i b h=>simp only[DM.conc,b];exact .int k _ h
 |symt k i l s b c h=>simp only[DM.conc,b];exact .str l s c h
 |_=>constructor<;>assumption
theorem VRel.unconc{g:Gh}{v:D}{cv:Value}(h:VRel g (DM.conc g.s.1 v) cv):VRel g v cv:=by
 cases v with
 |sym k i=>
  unfold DM.conc at h;cases b:g.s.1.t i with
  |none=>simp only[b] at h;cases h with|int _ _ h=>exact .sym k i b h
  |some l=>simp only[b] at h;cases h with|str _ s c h=>exact .symt k i l s b c h
 |_=>exact h
theorem VRel.oneCell{g:Gh}{v:D}{cv:Value}(h:VRel g v cv)(b:v.one=true):cv.oneCell'=true:=by cases h<;>first|rfl|simp[D.one] at b
structure Row(g:Gh)(cs:List D)(us:List Value):Prop where
 len:cs.length=us.length
 one:∀c∈cs,c.one=true
 rel:∀(i:Nat) c cv,cs[i]? =some c->us[i]? =some cv->VRel g c cv
structure fv(g:Gh)(id:Nat)(full:Bool)(cs:List D)(arr:Array Value)(fz:Nat×Nat):Prop where
 len:cs.length<=arr.size
 whole:full=true->cs.length=arr.size
 part:full=false->cs.length<=g.κ id∧g.κ id<=arr.size
 cold:∀j,j<(if full then arr.size else g.κ id)->¬(fz.1<=j∧j<fz.2)
 one:∀c∈cs,c.one=true
 rel:∀(j:Nat) c cv,cs[j]? =some c->arr[j]? =some cv->VRel g c cv
def cU(g:Gh)(es:List (D×D))(ents:Array MapEntry)(clock:Nat):Prop:=
 es.length=ents.size∧clock=ents.size∧∀(i:Nat) k v en,es[i]? =some (k,v)->ents[i]? =some en->en.born=i∧VRel g k en.key∧VRel g v en.val
structure HR(g:Gh)(H:Nat->Option Obj)(n:Nat)(w:World):Prop where
 obj:∀id e f cs,H id=some (.cells e f cs)->∃arr fz,w.heap[g.ρ id]? =some (.cells arr e fz)∧fv g id f cs arr fz
 map:∀id es,H id=some (.map es)->∃ents clock,w.heap[g.ρ id]? =some (.map ents clock)∧cU g es ents clock
 apart:∀id id' o o',H id=some o->H id'=some o'->id≠id'->g.ρ id≠g.ρ id'
 made:∀id o,H id=some o->g.A id
 lt:∀id,g.A id->id<n
theorem HR.block{g:Gh}{H:Nat->Option Obj}{n:Nat}{w:World}(h:HR g H n w){id:Nat}{o:Obj}(i:H id=some o):g.ρ id<w.heap.size:=by
 have:∃x,w.heap[g.ρ id]? =some x:=by
  cases o with
  |cells e f cs=>obtain⟨k,m,b,_⟩:=h.obj id e f cs i;exact⟨_,b⟩
  |map es=>obtain⟨en,c,b,_⟩:=h.map id es i;exact⟨_,b⟩
 obtain⟨x,j⟩:=this;rcases AG (g.ρ id) w.heap.size with d|d;·exact d
 ·simp[CK d] at j
structure ER(g:Gh)(nt:Nat)(E:Nat->D)(tmps:Array Value):Prop where
 size:tmps.size=nt
 rel:∀n,n<nt->VRel g (E n) (tmps.getD n undef)
structure FR(F:Nat->Prop)(g₀:Gh)(H₀:Nat->Option Obj)(w₀:World)(g:Gh)(H:Nat->Option Obj)(w:World):Prop where
 os:w.os=w₀.os
 tape:w.tape=w₀.tape
 output:w.output=w₀.output
 size:w₀.heap.size<=w.heap.size
 block:∀b,b<w₀.heap.size->(∀id o,H₀ id=some o->g₀.ρ id≠b)->w.heap[b]? =w₀.heap[b]?
 up:Up g₀ g
 fresh:∀id,g.A id->g₀.A id∨F id
 live:∀id o,H id=some o->w₀.heap.size<=g.ρ id∨∃id' o',H₀ id'=some o'∧g₀.ρ id'=g.ρ id
theorem FR.refl(F:Nat->Prop)(g:Gh)(H:Nat->Option Obj)(w:World):FR F g H w g H w:=
 ⟨rfl,rfl,rfl,Ao _,λ_ _ _=>rfl,Up.refl _,λ_ h=>.inl h,λid o h=>.inr ⟨id,o,h,rfl⟩⟩
theorem FR.noObj{F:Nat->Prop}{d g₁:Gh}{i f:Nat->Option Obj}{c w₁:World}(h:FR F d i c g₁ f w₁){b:Nat}(r:b<c.heap.size)(p:∀id o,i id=some o->d.ρ id≠b):
  ∀id o,f id=some o->g₁.ρ id≠b:=by
 intro id o k e;rcases h.live id o k with m|⟨j,o',m,q⟩
 ·omega
 ·exact p j o' m (q.trans e)
theorem FR.trans{F z:Nat->Prop}{c g₁ i:Gh}{e d m:Nat->Option Obj}{j w₁ f:World}(B:∀id,z id->F id)(h:FR F c e j g₁ d w₁)(k:FR z g₁ d w₁ i m f):FR F c e j i m f:=by
 refine⟨k.os.trans h.os,k.tape.trans h.tape,k.output.trans h.output,AX h.size k.size,?_,h.up.trans k.up,?_,?_⟩;·intro b u y;exact(k.block b (AF u h.size) (h.noObj u y)).trans (h.block b u y)
 ·intro id q;rcases k.fresh id q with p|p;·exact h.fresh id p
  ·exact .inr (B id p)
 ·intro id o q;rcases k.live id o q with p|⟨x,o',p,A⟩
  ·exact .inl (AX h.size p)
  ·rcases h.live x o' p with t|⟨r,v,t,C⟩
   ·exact .inl (A▸t)
   ·exact .inr ⟨r,v,t,C.trans A⟩
theorem FR.weaken{F i:Nat->Prop}{c g₁:Gh}{e d:Nat->Option Obj}{b w₁:World}(j:∀id,i id->F id)(h:FR i c e b g₁ d w₁):FR F c e b g₁ d w₁:=
 ⟨h.os,h.tape,h.output,h.size,h.block,h.up,λid f=>(h.fresh id f).imp_right (j id),h.live⟩
def upd{α:Type}(f:Nat->α)(i:Nat)(v:α):Nat->α:=λj=>if j=i then v else f j
def dH(E:Nat->D)(d:Option Nat)(v:D):Nat->D:=match d with|some d=>upd E d v|none=>E
def bE(H:Nat->Option Obj)(ws:List (Nat×Option Obj)):Nat->Option Obj:=ws.foldl (λH p=>upd H p.1 p.2) H
theorem zQ(ws:List (Nat×Option Obj)):∀h:Hp,(h.puts ws).t.get=bE h.t.get ws∧(h.puts ws).n=h.n:=by
 induction ws with
 |nil=>intro h;exact⟨rfl,rfl⟩
 |cons p ws c=>
  intro h;obtain⟨b,d⟩:=c (h.put p.1 p.2);refine⟨b.trans ?_,d⟩;show bE (h.put p.1 p.2).t.get ws=bE (upd h.t.get p.1 p.2) ws
  congr 1
  funext j;exact Tr.get_set _ _ _ _ _ (CC _)
theorem yD(s:St)(d:Option Nat)(v:D):(s.put d v).fs=⟨dH s.fs.E d v,s.fs.H,s.fs.n⟩:=by
 cases d with
 |none=>rfl
 |some d=>simp only[St.put,St.fs,dH,FS.mk.injEq,and_true];funext j;rw[Env.get_set];simp only[upd]
section
variable{g g':Gh}{nt:Nat}{E:Nat->D}{w w':World}{a:Act}{P:Program}
theorem ER.put(h:ER g nt E a.tmps)(d:Option Nat){v:D}{cv:Value}(i:VRel g v cv):ER g nt (dH E d v) (a.put d cv).tmps:=by
 cases d with
 |none=>exact h
 |some d=>
  refine⟨by simp[Act.put,h.size],λn b=>?_⟩;have c:=h.size;simp only[dH,upd];by_cases e:n=d;·subst e;simp[Act.put,BA,c,b];exact i
  ·rw[if_neg e];have:=h.rel n b;have f:(a.put (some d) cv).tmps.getD n undef=a.tmps.getD n undef:=by
    simp[Act.put,BA,c,b,Cr e]
   rw[f];exact this
theorem ER.up(h:ER g nt E a.tmps)(u:Up g g'):ER g' nt E a.tmps:=⟨h.size,λn b=>(h.rel n b).up u⟩
theorem fv.up{id:Nat}{full:Bool}{cs:List D}{b:Array Value}{f:Nat×Nat}(h:fv g id full cs b f)(u:Up g g')(d:g.A id):fv g' id full cs b f:=
 ⟨h.len,h.whole,by rw[u.κ id d];exact h.part,by rw[u.κ id d];exact h.cold,h.one,λj c cv i e=>(h.rel j c cv i e).up u⟩
theorem cU.up{es:List (D×D)}{ents:Array MapEntry}{clock:Nat}(h:cU g es ents clock)(u:Up g g'):cU g' es ents clock:=
 ⟨h.1,h.2.1,λi k v en b c=>⟨(h.2.2 i k v en b c).1,(h.2.2 i k v en b c).2.1.up u,(h.2.2 i k v en b c).2.2.up u⟩⟩
end
structure Cx where
 nt:Nat
 G:List Nat
structure SG(g:Gh)(cx:Cx)(s:FS)(w:World)(a:Act):Prop where
 hr:HR g s.H s.n w
 er:ER g cx.nt s.E a.tmps
 gl:∀(i b:Nat),cx.G[i]? =some b->g.A i∧g.ρ i=b
def ax(at_:Nat)(cx:Cx)(g:Gh)(s:FS)(w:World)(a:Act)(d:Option Nat)(v:D)(ws:List (Nat×Option Obj))(next:Act->World->Prop):Prop:=
 ∀b w' c,SG c cx ⟨dH s.E d v,bE s.H ws,s.n⟩ w' b->FR (λid=>id=at_) g s.H w c (bE s.H ws) w'->b.defers=a.defers->next b w'
def iW:D->Value->Bool
 | .int k n,.int k' d=>decide (k=k')&&(n==d&&(decide (k.min<=n)&&decide (n<=k.max)))
 | .bool b,.bool c=>b==c
 | .str l,.string s=>decide (s.data.toList.map (·.toNat)=l)&&decide (s.size<=maxI)
 | .nils,.slice none 0 0=>true
 | .nilp,.pointer none=>true
 | .nilif,.nilIface=>true
 | .nilf,.nilFunc=>true
 | .nilm,.map none=>true
 |_,_=>false
def cK:List D->List Value->Bool
 | [],[]=>true
 |c::cs,v::vs=>iW c v&&cK cs vs
 |_,_=>false
def mi:D->Value->Bool
 | .agg cs,.agg vs=>cK cs vs.toList
 |v,cv=>iW v cv
def ag(cx:Cx):ac->Operand->Bool
 | .t n,.tmp k=>n==k&&AV n cx.nt
 | .c v,.const cv=>mi v cv
 | .c (.fn f []),.func h=>f==h
 | .c (.ptr i 0),.global b=>cx.G[i]? ==some b
 |_,_=>false
def gJ(cx:Cx):List ac->List Operand->Bool
 | [],[]=>true
 |x::xs,y::ys=>ag cx x y&&gJ cx xs ys
 |_,_=>false
def cL(cx:Cx):Option ac->Option Operand->Bool
 |none,none=>true
 |some x,some y=>ag cx x y
 |_,_=>false
section
variable{g:Gh}{cx:Cx}{s:FS}{w:World}{a:Act}{P:Program}{m:Oper}{at_:Nat}{v:D}{ws:List (Nat×Option Obj)}{next:Act->World->Prop}{Q:Exit->Act->World->Prop}
theorem n7{v:D}{cv:Value}(h:iW v cv=true):VRel g v cv∧v.one=true:=by
 unfold iW at h;split at h;·simp only[Aa,decide_eq_true_eq,beq_iff_eq] at h;obtain⟨rfl,rfl,b,c⟩:=h;exact⟨.int _ _ ⟨b,c⟩,rfl⟩
 ·obtain rfl:=by simpa using h
  exact⟨.bool _,rfl⟩
 ·simp only[Aa,decide_eq_true_eq] at h;exact⟨.str _ _ h.1 h.2,rfl⟩
 ·exact⟨.nils,rfl⟩
 ·exact⟨.nilp,rfl⟩
 ·exact⟨.nilif,rfl⟩
 ·exact⟨.nilf,rfl⟩
 ·exact⟨.nilm,rfl⟩
 ·simp at h
theorem dw:∀{cs:List D}{vs:List Value},cK cs vs=true->Row g cs vs
 | [],[],_=>⟨rfl,by simp,by simp⟩
 |c::cs,v::vs,h=>by
  simp only[cK,Aa] at h;obtain⟨e,j⟩:=n7 (g:=g) h.1;obtain⟨k1,k2,k3⟩:=dw h.2;refine⟨by simp[k1],by simpa using ⟨j,k2⟩,?_⟩;intro i k f d b;cases i with
  |zero=>simp at d b;subst d b;exact e
  |succ i=>simp at d b;exact k3 i _ _ d b
 | [],_::_,h=>by simp[cK] at h
 |_::_,[],h=>by simp[cK] at h
theorem Row.agg{cs:List D}{vs:Array Value}(h:Row g cs vs.toList):VRel g (.agg cs) (.agg vs):=
 .agg _ _ (by simpa using h.len) h.one (λi c cv d b=>h.rel i c cv d (by simpa using b))
theorem sk{v:D}{cv:Value}(h:mi v cv=true):VRel g v cv:=by
 unfold mi at h;split at h;·exact(dw h).agg
 ·exact(n7 h).1
theorem af{x:ac}{o:Operand}(h:ag cx x o=true)(e:SG g cx s w a):VRel g (x.ev s.E) (a.eval o):=by
 unfold ag at h;split at h;·simp only[Aa,beq_iff_eq] at h;obtain⟨rfl,h⟩:=h;exact e.er.rel _ (by simpa [Bb] using h)
 ·exact sk h
 ·obtain rfl:=by simpa using h
  exact .fn _ [] #[] rfl (by simp)
 ·simp only[beq_iff_eq] at h;obtain⟨b,c⟩:=e.gl _ _ h;subst c;exact .ptr _ 0 b
 ·simp at h
theorem SG.put(h:SG g cx s w a)(d:Option Nat){v:D}{cv:Value}(b:VRel g v cv):SG g cx ⟨dH s.E d v,s.H,s.n⟩ w (a.put d cv):=
 ⟨h.hr,h.er.put d b,h.gl⟩
theorem e8(a:Act)(d:Option Nat)(v:Value):(a.put d v).defers=a.defers:=by cases d<;>rfl
theorem ae(h:SG g cx s w a){v:D}{cv:Value}(b:(execOp a.eval m).run P w=.ok (.value cv) w)(d:VRel g v cv)
  (c:ax at_ cx g s w a m.dst v [] next):m.wp P a w next Q:=by
 unfold Ch;rw[b,Oper.upon_value];exact c _ _ g (h.put m.dst d) (FR.refl _ _ _ _) (e8 _ _ _)
theorem bl(k:IntKind)(n:Int):k.min<=k.wrap n∧k.wrap n<=k.max:=by cases k<;>simp[Az,Cb,BR,Bu,Bh]<;>omega
theorem n8(k:IntKind):k.min<=0∧0<=k.max:=by cases k<;>decide
theorem qG(x y:Int)(e:0<=x):x%y<=x:=by
 by_cases d:y=0;·subst d;simp
 ·rcases Int.lt_or_gt_of_ne d with h|h
  ·rw[<-Int.emod_neg];by_cases c:x< -y;·rw[Dk e c];omega
   ·have:=C8 x (b:=-y) (by omega);omega
  ·by_cases c:x<y;·rw[Dk e c];omega
   ·have:=C8 x h;omega
theorem tu(k:IntKind)(x y:Int)(h:k.min<=x∧x<=k.max):k.min<=x.tmod y∧x.tmod y<=k.max:=by
 have f:=n8 k;rcases Int.le_total 0 x with c|c
 ·have d:=DI y c;have e:x.tmod y<=x:=by
   rw[B4 c];exact qG _ _ c
  omega
 ·have b:0<=-x:=by omega
  have d:=DI y b;have e:(-x).tmod y<=-x:=by rw[B4 b];exact qG _ _ b
  rw[Int.neg_tmod] at d e;omega
theorem uV(k:IntKind)(x:Int)(n:Nat)(h:k.min<=x∧x<=k.max):k.min<=x.fdiv (2^n)∧x.fdiv (2^n)<=k.max:=by
 have e:=n8 k;have hp:(0:Int)<2^n:=Int.pow_pos (by omega);have hp':(1:Int)<=2^n:=hp;rw[D6 _ (by omega)];generalize (2:Int)^n=p at*
 rcases Int.le_total 0 x with b|b;·have c:=Int.ediv_nonneg b (Int.le_of_lt hp);have d:=Int.ediv_le_self p b;omega
 ·have d:x / p<=0:=by
   have:=Int.ediv_le_ediv hp b;simpa using this
  have c:x<=x / p:=by refine(Int.le_ediv_iff_mul_le hp).2 ?_;have:=DP b hp';simpa using this
  omega
theorem pQ(a b:Int):ltI a b=decide (a<b):=by cases a<;>cases b<;>simp only[ltI]<;>rw[A2]<;>simp[Bb]<;>omega
theorem me(a b:Int):eqI a b=decide (a=b):=by cases a<;>cases b<;>simp only[eqI,Tr.beq_iff]<;>rw[A2]<;>simp<;>omega
theorem yE:∀(a b:List Nat),eqL a b=decide (a=b)
 | [],[]=>rfl
 |a::x,b::y=>by simp only[eqL,Tr.beq_iff,yE x y];by_cases h:a=b<;>simp[h]
 | [],_::_=>by simp[eqL]
 |_::_,[]=>by simp[eqL]
theorem uM:∀{a b:List UInt8},a.map (·.toNat)=b.map (·.toNat)->a=b
 | [],[],_=>rfl
 |a::x,b::y,h=>by simp only[AI,Cw] at h;rw[DG.1 h.1,uM h.2]
 | [],_::_,h=>by simp at h
 |_::_,[],h=>by simp at h
theorem zR(a b:List UInt8):eqL (a.map (·.toNat)) (b.map (·.toNat))=decide (a=b):=by
 rw[yE];by_cases h:a=b;·subst h;simp
 ·simp only[h,decide_false,decide_eq_false_iff_not]
  exactλc=>h (uM c)
theorem te:∀(a b:List UInt8),ltL (a.map (·.toNat)) (b.map (·.toNat))=BF a b
 | [],[]=>rfl
 | [],_::_=>rfl
 |_::_,[]=>rfl
 |a::x,b::y=>by
  have d:(AV a.toNat b.toNat)=decide (a<b):=by rw[A2];simp[Bb,Dw]
  have f:Af a.toNat b.toNat=decide (a=b):=by rw[Tr.beq_iff,A2];simp[DG]
  simp only[AI,ltL,BF,d,f,te x y];by_cases c:a<b;·simp[c]
  ·by_cases e:a=b<;>simp[c,e]
theorem fa{α:Type}:∀(l:List α)(n:Nat),eZ l n=n+l.length
 | [],n=>rfl
 |_::r,n=>by simp only[eZ,fa r];simp;omega
theorem mf{a b:IntKind}(h:gv a b=true):a=b:=by cases a<;>cases b<;>first|rfl|simp[gv] at h
theorem qN{R:Type}{c:Bool}{x:Option R}{r:R}(h:chk c x=some r):c=true∧x=some r:=by
 cases c with
 |true=>exact⟨rfl,h⟩
 |false=>simp[chk] at h
theorem aI{R:Type}{c:Bool}{x:Option R}{r:R}:chk c x=some r↔c=true∧x=some r:=⟨qN,λ⟨h,k⟩=>by rw[h];exact k⟩
theorem da(s:ByteArray):s.data.toList.length=s.size:=by rw[AY];rfl
theorem dy(s:ByteArray):s.toList=s.data.toList:=ByteArray.toList_eq s
theorem tw(x y:List UInt8):(x==y)=decide (x=y):=by rw[A2];simp
theorem tv{o:BinOp}{k:IntKind}{x y:Int}{v:D}(c:nZ o k x y=some v)(e:k.min<=x∧x<=k.max):
  ∃cv,(∀w:World,(if o=.add∨o=.sub∨o=.mul then Cs o k x y else if o=.quo∨o=.rem then Op.intDiv o k x y else if o=.and∨o=.or∨o=.xor∨o=.andNot then Ce o k x y else B9 o x y).run P w=.ok cv w)
   ∧VRel g v cv:=by
 unfold nZ at c;split at c<;>(try simp only[aI,Ab,me (b:=0),AK,decide_eq_false_iff_not] at c)<;>(try (obtain⟨d,c⟩:=c))<;>(try subst c)
 ·exact⟨.int k (k.wrap (x+y)),λw=>by simp[Cs],.int _ _ (bl _ _)⟩
 ·exact⟨.int k (k.wrap (x-y)),λw=>by simp[Cs],.int _ _ (bl _ _)⟩
 ·exact⟨.int k (k.wrap (x*y)),λw=>by simp[Cs],.int _ _ (bl _ _)⟩
 ·exact⟨.int k (k.wrap (x.tdiv y)),λw=>by simp[Op.intDiv,d],.int _ _ (bl _ _)⟩
 ·exact⟨.int k (x.tmod y),λw=>by simp[Op.intDiv,d],.int _ _ (tu _ _ _ e)⟩
 ·exact⟨.int k (cm .and k x y),λw=>by simp[Ce,cm],.int _ _ (bl _ _)⟩
 ·exact⟨.int k (cm .or k x y),λw=>by simp[Ce,cm],.int _ _ (bl _ _)⟩
 ·exact⟨.int k (cm .xor k x y),λw=>by simp[Ce,cm],.int _ _ (bl _ _)⟩
 ·exact⟨.int k (cm .andNot k x y),λw=>by simp[Ce,cm],.int _ _ (bl _ _)⟩
 ·exact⟨.bool (x==y),λw=>by simp[B9],by rw[me];exact .bool _⟩
 ·exact⟨.bool (!(x==y)),λw=>by simp[B9,bne],by rw[me];exact .bool _⟩
 ·exact⟨.bool (decide (x<y)),λw=>by simp[B9],by rw[pQ];exact .bool _⟩
 ·exact⟨.bool (decide (x<=y)),λw=>by simp[B9],by rw[pQ,show decide (x<=y)= !decide (y<x) by rw[A2];simp];exact .bool _⟩
 ·exact⟨.bool (decide (y<x)),λw=>by simp[B9],by rw[pQ];exact .bool _⟩
 ·exact⟨.bool (decide (y<=x)),λw=>by simp[B9],by rw[pQ,show decide (y<=x)= !decide (x<y) by rw[A2];simp];exact .bool _⟩
theorem wR(x y:List UInt8):(!Op.bytesLess y x)=(BF x y||decide (x=y)):=by
 induction x generalizing y with
 |nil=>cases y<;>simp[BF]
 |cons a x f=>
  cases y with
  |nil=>simp[BF]
  |cons b y=>
   simp only[BF];by_cases c:a<b
   ·have e:¬b<a:=λh=>by rw[Dw] at *;omega
    have d:b≠a:=by rintro rfl;exact e c
    simp[c,e,d]
   ·by_cases e:b<a
    ·have d:a≠b:=by rintro rfl;exact c e
     simp[c,e,d]
    ·have d:a=b:=by
      rw[Dw] at*
      exact DG.1 (by omega)
     subst d;have:=f y;simp[c] at this ⊢;rw[this]
theorem tz{o:BinOp}{x y:ByteArray}{v:D}(b:pz o (x.data.toList.map (·.toNat)) (y.data.toList.map (·.toNat))=some v):
  ∃cv,(∀w:World,(BH o x y).run P w=.ok cv w)∧VRel g v cv:=by
 unfold pz at b;split at b
 ·obtain⟨c,b⟩:=qN b;obtain rfl:=Ai b;have c:x.size+y.size<=maxI:=by simpa [fa,da] using DC c
  refine⟨.string (x++y),λw=>?_,.str _ _ (by simp) (by simpa [ByteArray.size_append] using c)⟩;have:¬(9223372036854775807<(x.size:Int)+(y.size:Int)):=by unfold maxI at c;omega
  simp[BH,BR,Bh,Bu,this]
 ·obtain rfl:=Ai b;exact⟨.bool (decide (x.data.toList=y.data.toList)),λw=>by simp only[BH,dy,tw];rfl,by rw[zR];exact .bool _⟩
 ·obtain rfl:=Ai b;exact⟨.bool (!decide (x.data.toList=y.data.toList)),λw=>by simp only[BH,dy,tw];rfl,by rw[zR];exact .bool _⟩
 ·obtain rfl:=Ai b;exact⟨.bool (BF x.data.toList y.data.toList),λw=>by simp[BH,dy],by rw[te];exact .bool _⟩
 ·obtain rfl:=Ai b;exact⟨.bool (BF x.data.toList y.data.toList||decide (x.data.toList=y.data.toList)),λw=>by simp only[BH,dy,tw];rfl,by rw[te,wR];exact .bool _⟩
 ·obtain rfl:=Ai b;exact⟨.bool (!(BF x.data.toList y.data.toList||decide (x.data.toList=y.data.toList))),λw=>by simp only[BH,dy,tw];rfl,by rw[te,<-wR,Bool.not_not];exact .bool _⟩
 ·obtain rfl:=Ai b;exact⟨.bool (!Op.bytesLess x.data.toList y.data.toList),λw=>by simp[BH,dy],by rw[te];exact .bool _⟩
 ·simp at b
theorem pC{k k':IntKind}{x y:Int}(d:0<=y)(c:k.min<=x∧x<=k.max):
  (∀w:World,(Dr .shl k x k' y).run P w=.ok (.int k (oS k x y)) w)∧(∀w:World,(Dr .shr k x k' y).run P w=.ok (.int k (oT k x y)) w)
   ∧VRel g (.int k (oS k x y)) (.int k (oS k x y))∧VRel g (.int k (oT k x y)) (.int k (oT k x y)):=by
 have b:¬y<0:=by omega
 exact⟨λw=>by simp[Dr,b,oS],λw=>by simp[Dr,b,oT],.int _ _ (bl _ _),.int _ _ (uV _ _ _ c)⟩
def wW(P:Program)(t:TypeId)(k:IntKind):Bool:=match P.underlying t with|some (.int k')=>decide (k=k')|_=>false
def xw(P:Program)(t:TypeId):Bool:=match P.underlying t with|some .string=>true|_=>false
def cn(P:Program)(t:TypeId):Option Bool:=match P.underlying t with|some (.struct _)|some (.array _ _)=>some true|some _=>some false|none=>none
def be(P:Program)(t:TypeId):Option Nat:=(P.info? t).map (·.size)
def qF(P:Program)(t:TypeId):Bool:=match be P t with|some n=>n !=0|none=>false
def yF(P:Program)(t:TypeId)(sz:Nat):Bool:=match P.underlying t with|some (.slice e)=>(be P e==some sz)&&AV 0 sz|_=>false
def kh:Op->Option (Builtin×List Operand×List TypeId)
 | .call c=>match c.callee with| .builtin b=>some (b,c.args.toList,c.argTypes.toList)|_=>none
 |_=>none
theorem dV{o:Op}{b:Builtin}{aa:List Operand}{ts:List TypeId}(h:kh o=some (b,aa,ts)):o=.call ⟨.builtin b,⟨aa⟩,⟨ts⟩⟩:=by
 unfold kh at h;split at h
 ·rename_i c;obtain⟨d,⟨e⟩,⟨f⟩⟩:=c;simp only at h;split at h;·simp only[Ab,Ae] at h;obtain⟨rfl,rfl,rfl⟩:=h;rfl
  ·simp at h
 ·simp at h
theorem oJ{t:TypeId}(h:xw P t=true):P.underlying t=some .string:=by
 unfold xw at h;split at h;·assumption
 ·simp at h
theorem yG{t:TypeId}{k:IntKind}(h:wW P t k=true):P.underlying t=some (.int k):=by
 unfold wW at h;split at h
 ·rename_i k' e;obtain rfl:k=k':=by simpa using h
  exact e
 ·simp at h
theorem db{t:TypeId}{n:Nat}(h:be P t=some n)(w:World):(sizeOf t).run P w=.ok n w:=by unfold be at h;obtain⟨i,b,rfl⟩:=Ah.1 h;simp[sizeOf,typeInfo,b]
theorem gW{t:TypeId}{b:Bool}(h:cn P t=some b)(w:World):(isAgg t).run P w=.ok b w:=by
 unfold cn at h;split at h;·rename_i f e;obtain rfl:=Ai h;simp[isAgg,run_underlying e]
 ·rename_i f c e;obtain rfl:=Ai h;simp[isAgg,run_underlying e]
 ·rename_i d i j e;obtain rfl:=Ai h;cases d<;>simp_all [isAgg,run_underlying e]
 ·simp at h
theorem vG{t:TypeId}{sz:Nat}(h:yF P t sz=true):∃e,P.underlying t=some (.slice e)∧be P e=some sz∧0<sz:=by
 unfold yF at h;split at h;·rename_i e u;simp only[Aa,beq_iff_eq] at h;exact⟨e,u,h.1,by simpa [Bb] using h.2⟩
 ·simp at h
theorem qg(c:UInt8):IntKind.u8.min<=(c.toNat:Int)∧(c.toNat:Int)<=IntKind.u8.max:=by have:=c.toNat_lt;simp[Cb,BR,Bh,Bu];omega
theorem sd{n:Nat}(h:n<=maxI):IntKind.i64.min<=(n:Int)∧(n:Int)<=IntKind.i64.max:=by simp[Cb,BR,Bh,Bu,maxI] at *;omega
end
def acy(P:Program)(b:Bool)(t:TypeId):Bool:=match b,P.underlying t with|true,some .string=>true|false,some (.slice _)=>true|_,_=>false
def eqT(P:Program)(b:Nat)(t:TypeId):Bool:=match b,P.underlying t with|0,some .bool=>true|1,some (.pointer _)=>true|2,some (.slice _)=>true|3,some (.map _ _)=>true|4,some (.func _ _ _)=>true|_,_=>false
def wd(P:Program)(t:TypeId)(f b:Nat)(k:Field->Bool):Bool:=match P.underlying t with|some (.struct fs)=>(match fs[f]? with|some c=>(c.offset==b)&&k c|none=>false)|_=>false
def bT(P:Program)(cx:Cx)(o:IOp)(m:Op):Bool:=match o with
 | .mov x=>(match m with| .move y=>ag cx x y| .assign y=>ag cx x y|_=>false)
 | .pick c x y=>(match m with| .pick F b d=>ag cx c F&&(ag cx x b&&ag cx y d)|_=>false)
 | .bin o x y=>(match m with| .binOp o' _ b d _=>decide (o=o')&&(ag cx x b&&ag cx y d)|_=>false)
 | .un o x=>(match m with| .unOp o' _ b=>decide (o=o')&&ag cx x b|_=>false)
 | .cvi k x=>(match m with| .convert u t b=>(P.underlying u).isSome&&(wW P t k&&ag cx x b)|_=>false)
 | .cvs x=>(match m with| .convert u t b=>(P.underlying u).isSome&&(xw P t&&ag cx x b)|_=>false)
 | .b2s x=>(match m with| .convert u t b=>(match P.underlying u with|some (.slice e)=>wW P e .u8&&(be P e==some 1)|_=>false)&&(xw P t&&ag cx x b)|_=>false)
 | .i2s x=>(match m with| .convert u t b=>(P.underlying u).isSome&&(xw P t&&ag cx x b)|_=>false)
 | .len E x=>(match kh m with|some (.len,[b],[t])=>acy P E t&&ag cx x b|_=>false)
 | .idx x i=>(match m with| .index t b j=>xw P t&&(ag cx x b&&ag cx i j)|_=>false)
 | .ixa sz x i=>(match m with| .indexAddr t b j=>yF P t sz&&(ag cx x b&&ag cx i j)|_=>false)
 | .ixp n sz x i=>(match m with| .indexAddr t b j=>(match P.underlying t with|some (.array G e)=>(n==G)&&(be P e==some sz)|_=>false)&&(ag cx x b&&ag cx i j)|_=>false)
 | .subs x z B=>(match m with| .slice t b q p none=>xw P t&&(ag cx x b&&(cL cx z q&&cL cx B p))|_=>false)
 | .subl sz x z B=>(match m with| .slice t b q p none=>yF P t sz&&(ag cx x b&&(cL cx z q&&cL cx B p))|_=>false)
 | .fld h n agg x=>(match m with| .field t b f=>wd P t f h (λr=>(be P r.type==some n)&&((cn P r.type==some agg)&&(agg||n==1)))&&ag cx x b|_=>false)
 | .fad h x=>(match m with| .fieldAddr t b f=>wd P t f h (λr=>qF P r.type)&&ag cx x b|_=>false)
 | .ld n agg x=>(match m with| .load t b=>(be P t==some n)&&((cn P t==some agg)&&((agg||n==1)&&ag cx x b))|_=>false)
 | .ext i x=>(match m with| .extract b j=>i==j&&ag cx x b|_=>false)
 | .nck x=>(match m with| .nilCheck b=>ag cx x b|_=>false)
 | .mx C x y=>(match kh m with|some (.min,[b,d],_)=>C&&(ag cx x b&&ag cx y d)|some (.max,[b,d],_)=> !C&&(ag cx x b&&ag cx y d)|_=>false)
 | .mkf f cs=>(match m with| .makeFunc (.func H) first ys=>f==H&&(first.isEmpty&&gJ cx cs ys.toList)|_=>false)
 | .eq I A x y=>(match m with| .binOp o t b d _=>eqT P I t&&(decide (o=if A then .neq else .eql)&&(ag cx x b&&ag cx y d))|_=>false)
 |_=>false
variable{g:Gh}{cx:Cx}{s:FS}{w:World}{a:Act}{P:Program}{at_:Nat}{v:D}{ws:List (Nat×Option Obj)}{next:Act->World->Prop}{Q:Exit->Act->World->Prop}
 {dst:Option Nat} {op:Op} {ty:TypeId} {pos:String} {aft:Array Edge} {gd:Option (Nat×Bool)}
theorem cell_of_heap{b:Nat}{c:Array Value}{e:TypeId}{d:Nat×Nat}(h:w.heap[b]? =some (.cells c e d))(j:Nat):w.cell? ⟨b,j,none⟩=c[j]?:=by simp[Cc,h]
theorem fT{agg:Bool}{cs:List D}{vs:List Value}(h:Row g cs vs)(b:agg=true∨cs.length=1):VRel g (a6 agg cs) (if agg then .agg vs.toArray else vs.headD undef):=by
 obtain⟨f,k,e⟩:=h;cases agg with
 |true=>simp only[a6,cond_true,if_true];exact .agg _ _ (by simpa using f) k (λi c cv j d=>e i c cv j (by simpa using d))
 |false=>
  have b:cs.length=1:=by simpa using b
  match cs,vs,f,b with
  | [c],[v],_,_=>exact e 0 c v rfl rfl
theorem ge{t:TypeId}{n:Nat}{agg:Bool}{b o:Nat}{vs:List Value}(d:be P t=some n)(c:cn P t=some agg)(e:agg=true∨n=1)(h:vs.length=n)
  (f:∀(j:Nat) v,vs[j]? =some v->w.cell? ⟨b,o+j,none⟩=some v):
  (Ct t (.pointer (some ⟨b,o,none⟩))).run P w=.ok (if agg then .agg vs.toArray else vs.headD undef) w:=by
 cases agg with
 |true=>have:=run_loadCells_list (P:=P) w ⟨b,o,none⟩ vs (λj v i=>by rw[Bv];exact f j v i);rw[h] at this;simp[Ct,BE,loadVar,gW c,db d,this]
 |false=>
  have e:n=1:=by simpa using e
  subst e;match vs,h with
  | [v],_=>have:=f 0 v rfl;simp only[Cv] at this;simp[Ct,BE,loadVar,gW c,this]
theorem cells?_some{H:Nat->Option Obj}{id e:Nat}{f:Bool}{cs:List D}(h:cells? H id=some (e,f,cs)):H id=some (.cells e f cs):=by
 unfold cells? at h;split at h;·rename_i b;simp only[Ab,Ae] at h;obtain⟨rfl,rfl,rfl⟩:=h;exact b
 ·simp at h
theorem se{H:Nat->Option Obj}{id:Nat}{es:List (D×D)}(h:pd H id=some es):H id=some (.map es):=by
 unfold pd at h;split at h;·rename_i b;obtain rfl:=Ai h;exact b
 ·simp at h
theorem rq{id:Nat}{full:Bool}{cs:List D}{e:Array Value}{k:Nat×Nat}(h:fv g id full cs e k){o n:Nat}(j:o+n<=cs.length):
  Row g ((cs.drop o).take n) ((e.toList.drop o).take n):=by
 have f:=h.len;refine⟨by simp;omega,λc d=>h.one c (Bd (A7 d)),?_⟩;intro i c cv d b;simp only[AW,A9] at d b;split at d;·rename_i m;simp only[m,if_true] at b;exact h.rel _ _ _ d (by simpa using b)
 ·simp at d
theorem oK{b:Nat}{c:Array Value}{e:TypeId}{f:Nat×Nat}(h:w.heap[b]? =some (.cells c e f))(o n j:Nat)(v:Value)(d:((c.toList.drop o).take n)[j]? =some v):w.cell? ⟨b,o+j,none⟩=some v:=by
 rw[cell_of_heap h];simp only[AW,A9] at d;split at d;·simpa using d
 ·simp at d
theorem lN(h:SG g cx s w a):∀(xs:List ac)(ys:List Operand),gJ cx xs ys=true->xs.length=ys.length∧
  ∀(i:Nat) v cv,(xs.map (·.ev s.E))[i]? =some v->(ys.map a.eval)[i]? =some cv->VRel g v cv
 | [],[],_=>⟨rfl,by simp⟩
 |x::xs,y::ys,hp=>by
  simp only[gJ,Aa] at hp;obtain⟨k1,k2⟩:=lN h xs ys hp.2;refine⟨by simp[k1],?_⟩;intro i v cv c b;cases i with
  |zero=>simp at c b;subst c b;exact af hp.1 h
  |succ i=>exact k2 i v cv (by simpa using c) (by simpa using b)
 | [],_::_,hp=>by simp[gJ] at hp
 |_::_,[],hp=>by simp[gJ] at hp
theorem aby{x:ac}(b:bT P cx (.mov x) op=true)(d:eff at_ s.E s.H (.mov x)=some (v,ws))(h:SG g cx s w a)(c:ax at_ cx g s w a dst v ws next):(⟨dst,op,ty,pos,aft,gd⟩:Oper).wp P a w next Q:=by
 simp only[eff,Ab,Ae] at d;obtain⟨rfl,rfl⟩:=d;simp only[bT] at b;split at b;·exact ae h (by simp[execOp]) (af b h) c
 ·exact ae h (by simp[execOp]) (af b h) c
 ·simp at b
theorem y6{c x y:ac}(d:bT P cx (.pick c x y) op=true)(b:eff at_ s.E s.H (.pick c x y)=some (v,ws))(h:SG g cx s w a)(f:ax at_ cx g s w a dst v ws next):(⟨dst,op,ty,pos,aft,gd⟩:Oper).wp P a w next Q:=by
 simp only[bT] at d;split at d
 ·rename_i p q j;simp only[Aa] at d;obtain⟨k,i,o⟩:=d;have e:=af k h;have r:=af i h;have m:=af o h;simp only[eff] at b;split at b
  ·rename_i t u;simp only[Ab,Ae] at b;obtain⟨rfl,rfl⟩:=b;rw[u] at e;generalize e1:a.eval p=z at e;cases e;refine ae h (cv:=if t then a.eval q else a.eval j) (by simp[execOp,e1,asBool]) ?_ f;cases t;·exact m
   ·exact r
  ·simp at b
 ·simp at d
theorem xx{a b:Option D}{v:D}(h:orS a b=some v):a=some v∨b=some v:=by
 cases a with
 |some x=>exact .inl h
 |none=>exact .inr h
theorem afz{x y:D}(h:eqS x y=true):x=y:=by
 cases x<;>cases y<;>simp[eqS] at h;·rfl
 ·obtain⟨c,b⟩:=h;rw[mf c];rw[me] at b;rw[of_decide_eq_true b]
 ·rw[mf h.1,h.2]
theorem adE:∀{l m:List (Int×Int)},zN l m=true->l=m
 | [],[],_=>rfl
 | [],_::_,h=>by simp[zN] at h
 |_::_,[],h=>by simp[zN] at h
 |(a,b)::l,(c,d)::m,h=>by simp only[zN,Aa,me,decide_eq_true_eq] at h;rw[h.1.1,h.1.2,adE h.2]
theorem ahu{x y:SOp}(h:aez x y=true):x=y:=by
 cases x<;>cases y<;>simp[aez] at h;·rw[h]
 ·rw[h]
 ·rw[mf h]
 ·rfl
 ·rfl
 ·rw[adE h]
theorem adF{σ:Sg}{o:SOp}{x y r:D}:∀{l:List zM},(∀r∈l,r.ok σ)->acs o x y l=some r->o.ev (conc σ x) (conc σ y)=some (conc σ r)
 | [],_,h=>by simp[acs] at h
 |q::l,c,h=>by
  simp only[acs] at h;cases b:(eqS q.x x&&(eqS q.y y&&aez q.o o)) with
  |true=>rw[b] at h;simp only[cond_true,Ab] at h;simp only[Aa] at b;have:=c q (by simp);unfold zM.ok at this;rw[afz b.1,afz b.2.1,ahu b.2.2,h] at this;exact this
  |false=>rw[b] at h;exact adF (λr d=>c r (by simp[d])) h
theorem pe(sg:Sig){o:SOp}{x y r:D}(h:nr o x y=some r):o.ev (conc sg.1 x) (conc sg.1 y)=some (conc sg.1 r):=adF sg.2 h
theorem abr{o:BinOp}{x y:ac}(r:bT P cx (.bin o x y) op=true)(j:eff at_ s.E s.H (.bin o x y)=some (v,ws))(h:SG g cx s w a)(L:ax at_ cx g s w a dst v ws next):(⟨dst,op,ty,pos,aft,gd⟩:Oper).wp P a w next Q:=by
 simp only[bT] at r;split at r
 ·rename_i o' t F G Z;simp only[Aa,decide_eq_true_eq] at r;obtain⟨rfl,h1,h2⟩:=r;have e:=af h1 h;have f:=af h2 h;simp only[eff,Ah] at j;obtain⟨v',b,j⟩:=j;simp only[Ae] at j;obtain⟨rfl,rfl⟩:=j;generalize i:a.eval F=u at e;generalize m:a.eval G=S at f;have key:∀(o:BinOp) X Y V,pV o X Y=some V->VRel g X u->VRel g Y S->∃cv,(execOp a.eval ⟨dst,.binOp o t F G Z,ty,pos,aft,gd⟩).run P w=.ok (.value cv) w∧VRel g V cv:=by
   intro o X Y V b e f;unfold pV at b;split at b
   ·rename_i k p k' q;cases e with
    |int _ _ hp=>
    cases f with
    |int _ _ hq=>
    split at b;·simp only[aI,pQ,AK,decide_eq_false_iff_not,Ab] at b;obtain⟨z,rfl⟩:=b;obtain⟨e1,C,J,I⟩:=pC (g:=g) (P:=P) (k':=k') (by omega:0<=q) hp;refine⟨.int k (oS k p q),?_,J⟩;simp[execOp,i,m,eqGuard,binOp,e1]
    ·simp only[aI,pQ,AK,decide_eq_false_iff_not,Ab] at b;obtain⟨z,rfl⟩:=b;obtain⟨e1,C,J,I⟩:=pC (g:=g) (P:=P) (k':=k') (by omega:0<=q) hp;refine⟨.int k (oT k p q),?_,I⟩;simp[execOp,i,m,eqGuard,binOp,C]
    ·rename_i O R;rw[aI] at b;obtain⟨N,b⟩:=b;obtain rfl:=mf N;obtain⟨cv,c,d⟩:=tv (g:=g) (P:=P) b hp;have c:=c w;refine⟨cv,?_,d⟩;cases o<;>simp_all [execOp,eqGuard,binOp]
   ·rename_i p q;cases e with
    |str _ sx B M=>
    cases f with
    |str _ sy A W=>
    subst B A;obtain⟨cv,c,d⟩:=tz (g:=g) (P:=P) b;have c:=c w;refine⟨cv,?_,d⟩;cases o<;>simp_all [execOp,eqGuard,binOp]
   ·simp at b
  rcases xx b with b|b;·obtain⟨cv,c,d⟩:=key _ _ _ _ b e f;exact ae h c d L
  ·obtain⟨cv,c,d⟩:=key _ _ _ _ (pe g.s b) e.conc f.conc;exact ae h c d.unconc L
 ·simp at r
theorem ad0{o:UnOp}{x:ac}(i:bT P cx (.un o x) op=true)(f:eff at_ s.E s.H (.un o x)=some (v,ws))(h:SG g cx s w a)(q:ax at_ cx g s w a dst v ws next):(⟨dst,op,ty,pos,aft,gd⟩:Oper).wp P a w next Q:=by
 simp only[bT] at i;split at i
 ·rename_i o' t r;simp only[Aa,decide_eq_true_eq] at i;obtain⟨rfl,u⟩:=i;have d:=af u h;simp only[eff,Ah] at f;obtain⟨y,c,f⟩:=f;simp only[Ae] at f;obtain⟨rfl,rfl⟩:=f;generalize e:a.eval r=cv at d;have key:∀(o:UnOp) X V,unV o X=some V->VRel g X cv->∃j,(execOp a.eval ⟨dst,.unOp o t r,ty,pos,aft,gd⟩).run P w=.ok (.value j) w∧VRel g V j:=by
   intro o X V c d;unfold unV at c;split at c;·rename_i b;cases Ai c;cases d;exact⟨.bool (!b),by simp[execOp,e,Op.unary],.bool _⟩
   ·rename_i k n;cases Ai c;cases d;exact⟨.int k (k.wrap (0-n)),by simp[execOp,e,Op.unary,Cs],.int _ _ (bl _ _)⟩
   ·rename_i k n;cases Ai c;cases d;exact⟨.int k (cm .xor k (if k.signed then -1 else k.max) n),by simp[execOp,e,Op.unary,Ce,cm],.int _ _ (bl _ _)⟩
   ·simp at c
  rcases xx c with c|c;·obtain⟨cv,p,m⟩:=key _ _ _ c d;exact ae h p m q
  ·obtain⟨cv,p,m⟩:=key _ _ _ (pe g.s c) d.conc;exact ae h p m.unconc q
 ·simp at i
theorem aia{k:IntKind}{x:ac}(i:bT P cx (.cvi k x) op=true)(d:eff at_ s.E s.H (.cvi k x)=some (v,ws))(h:SG g cx s w a)(q:ax at_ cx g s w a dst v ws next):(⟨dst,op,ty,pos,aft,gd⟩:Oper).wp P a w next Q:=by
 simp only[bT] at i;split at i
 ·rename_i t t2 p;simp only[Aa] at i;obtain⟨u,A,y⟩:=i;have e:=af y h;simp only[eff,Ah] at d;obtain⟨B,b,d⟩:=d;simp only[Ae] at d;obtain⟨rfl,rfl⟩:=d;obtain⟨z,e1⟩:=A0.1 u;have r:=yG A;generalize m:a.eval p=cv at e;have key:∀X V,SOp.ev (.c k) X .undef=some V->VRel g X cv->∃f,(execOp a.eval ⟨dst,.convert t t2 p,ty,pos,aft,gd⟩).run P w=.ok (.value f) w∧VRel g V f:=by
   intro X V b e;simp only[SOp.ev] at b;split at b;·rename_i k' n;cases Ai b;cases e;refine⟨.int k (k.wrap n),?_,.int _ _ (bl _ _)⟩;simp only[execOp,m,convert];cases z<;>simp[run_underlying e1,run_underlying r,Conv.intToInt]
   ·simp at b
  rcases xx b with b|b;·obtain⟨cv,o,j⟩:=key _ _ b e;exact ae h o j q
  ·obtain⟨cv,o,j⟩:=key _ _ (pe g.s b) e.conc;exact ae h o j.unconc q
 ·simp at i
theorem aib{x:ac}(c:bT P cx (.cvs x) op=true)(b:eff at_ s.E s.H (.cvs x)=some (v,ws))(h:SG g cx s w a)(i:ax at_ cx g s w a dst v ws next):(⟨dst,op,ty,pos,aft,gd⟩:Oper).wp P a w next Q:=by
 simp only[bT] at c;split at c
 ·rename_i t t2 r;simp only[Aa] at c;obtain⟨p,k,q⟩:=c;have d:=af q h;simp only[eff] at b;split at b;·rename_i l m;simp only[Ab,Ae] at b;obtain⟨rfl,rfl⟩:=b;rw[m] at d;obtain⟨o,e1⟩:=A0.1 p;have j:=oJ k;generalize f:a.eval r=cv at d;have e:=d;cases d;refine ae h (cv:=.string _) ?_ e i;simp only[execOp,f,convert];cases o<;>simp[run_underlying e1,run_underlying j]
  ·simp at b
 ·simp at c
theorem aic{x:ac}(c:bT P cx (.i2s x) op=true)(b:eff at_ s.E s.H (.i2s x)=some (v,ws))(h:SG g cx s w a)(f:ax at_ cx g s w a dst v ws next):(⟨dst,op,ty,pos,aft,gd⟩:Oper).wp P a w next Q:=by
 simp only[bT] at c;split at c
 ·rename_i r t2 q;simp only[Aa] at c;obtain⟨o,j,p⟩:=c;have d:=af p h;simp only[eff] at b;split at b
  ·rename_i k' n k;simp only[Ab,Ae] at b;obtain⟨rfl,rfl⟩:=b;rw[k] at d;obtain⟨m,e1⟩:=A0.1 o;have i:=oJ j;generalize e:a.eval q=cv at d;cases d;refine ae h (cv:=.string (Utf8.encode n)) ?_ (.str _ _ rfl ?_) f;·simp only[execOp,e,convert];cases m<;>simp[run_underlying e1,run_underlying i,Conv.intToString]
   ·have:=encode_size_le n;unfold maxI;omega
  ·simp at b
 ·simp at c
theorem acz{t:TypeId}(h:acy P true t=true):P.underlying t=some .string:=by unfold acy at h;split at h<;>first|assumption|contradiction
theorem zS{t:TypeId}(h:acy P false t=true):∃e,P.underlying t=some (.slice e):=by unfold acy at h;split at h<;>first|contradiction|exact⟨_,by assumption⟩
variable{g:Gh}{cx:Cx}{s:FS}{w:World}{a:Act}{P:Program}{at_:Nat}{v:D}{ws:List (Nat×Option Obj)}{next:Act->World->Prop}{Q:Exit->Act->World->Prop}
 {dst:Option Nat} {op:Op} {ty:TypeId} {pos:String} {aft:Array Edge} {gd:Option (Nat×Bool)}
theorem aid{F:Bool}{x:ac}(y:bT P cx (.len F x) op=true)(f:eff at_ s.E s.H (.len F x)=some (v,ws))(h:SG g cx s w a)(u:ax at_ cx g s w a dst v ws next):(⟨dst,op,ty,pos,aft,gd⟩:Oper).wp P a w next Q:=by
 simp only[bT] at y;split at y
 ·rename_i G t B;obtain rfl:=dV B;simp only[Aa] at y;obtain⟨z,I⟩:=y;have d:=af I h;generalize j:a.eval G=cv at d;simp only[eff] at f;split at f
  ·rename_i l o;simp only[Ab,Ae] at f;obtain⟨rfl,rfl⟩:=f;rw[o] at d;have p:=acz z;cases d with
   |str _ b C A=>
    subst C;have m:eZ (b.data.toList.map (·.toNat)) 0=b.size:=by rw[fa,AU,da,Aw]
    rw[m] at u;exact ae h (cv:=.int .i64 b.size) (by simp[execOp,resolve,j,invoke,builtin,B0,run_underlying p,goInt]) (.int _ _ (sd A)) u
  ·rename_i k i o;simp only[Ah,Ae] at f;obtain⟨r,q,rfl,rfl⟩:=f;rw[o] at d;have p:=acz z;have d:=d.conc;have q:=pe g.s q;simp only[SOp.ev] at q;split at q
   ·rename_i l C;rw[C] at d;have q:=Ai q;cases d with
    |str _ b J A=>
     subst J;have m:eZ (b.data.toList.map (·.toNat)) 0=b.size:=by rw[fa,AU,da,Aw]
     rw[m] at q;exact ae h (cv:=.int .i64 b.size) (by simp[execOp,resolve,j,invoke,builtin,B0,run_underlying p,goInt]) (VRel.unconc (by rw[<-q];exact .int _ _ (sd A))) u
   ·simp at q
  ·rename_i  o;simp only[Ab,Ae] at f;obtain⟨rfl,rfl⟩:=f;rw[o] at d;obtain⟨e,p⟩:=zS z;cases d;refine ae h (cv:=.int .i64 (.ofNat 0)) (by simp[execOp,resolve,j,invoke,builtin,B0,run_underlying p,goInt]) (.int _ _ (by decide)) u
  ·rename_i  o;simp only[Ab,Ae] at f;obtain⟨rfl,rfl⟩:=f;rw[o] at d;obtain⟨e,p⟩:=zS z;cases d;refine ae h (cv:=.int .i64 (.ofNat 0)) (by simp[execOp,resolve,j,invoke,builtin,B0,run_underlying p,goInt]) (.int _ _ (by decide)) u
  ·rename_i id L n sz cap o;simp only[Ab,Ae] at f;obtain⟨rfl,rfl⟩:=f;rw[o] at d;obtain⟨e,p⟩:=zS z;cases d with
   |sl _ _ _ _ _ c _ _ y A _=>
   exact ae h (cv:=.int .i64 n) (by simp[execOp,resolve,j,invoke,builtin,B0,run_underlying p,goInt]) (.int _ _ (sd (by omega))) u
  ·simp at f
 ·simp at y
theorem abq{x i:ac}(d:bT P cx (.idx x i) op=true)(p:eff at_ s.E s.H (.idx x i)=some (v,ws))(h:SG g cx s w a)(N:ax at_ cx g s w a dst v ws next):(⟨dst,op,ty,pos,aft,gd⟩:Oper).wp P a w next Q:=by
 simp only[bT] at d;split at d
 ·rename_i t J L;simp only[Aa] at d;obtain⟨S,Z,W⟩:=d;have u:=af Z h;have B:=af W h;have M:=oJ S;simp only[eff] at p;split at p
  ·rename_i l k n G F;split at p
   ·rename_i q C;simp only[Ab,Ae] at p;obtain⟨rfl,rfl⟩:=p;rw[G] at u;rw[F] at B;generalize A:a.eval J=cv at u;generalize z:a.eval L=Y at B;cases B;cases u with
    |str _ b I R=>
     subst I;rw[Au,Ah] at C;obtain⟨c,d,rfl⟩:=C;have m:n<b.size:=by rw[<-da];exact(Ad.1 d).1
     have f:b[n]? =some c:=by
      rw[getElem?_pos b n m];have e:n<b.data.toList.length:=by rw[da];exact m
      rw[Ac e] at d;rw[<-Ai d];rfl
     refine ae h (cv:=.int .u8 c.toNat) ?_ (.int _ _ (qg _)) N;simp[execOp,A,z,Instr.index,asIntOf,run_underlying M,f]
   ·simp at p
  ·rename_i k j k' n G F;simp only[Ah,Ae] at p;obtain⟨r,o,rfl,rfl⟩:=p;rw[G] at u;rw[F] at B;have u:=u.conc;have o:=pe g.s o;simp only[SOp.ev] at o;split at o
   ·rename_i l k2 O I y;simp only[conc,D.int.injEq] at y;obtain⟨rfl,y⟩:=y;obtain rfl:n=O:=by cases y;rfl
    rw[I] at u;split at o
    ·rename_i q C;have o:=Ai o;generalize A:a.eval J=cv at u;generalize z:a.eval L=Y at B;cases B;cases u with
     |str _ b X R=>
      subst X;rw[Au,Ah] at C;obtain⟨c,d,rfl⟩:=C;have m:n<b.size:=by rw[<-da];exact(Ad.1 d).1
      have f:b[n]? =some c:=by
       rw[getElem?_pos b n m];have e:n<b.data.toList.length:=by rw[da];exact m
       rw[Ac e] at d;rw[<-Ai d];rfl
      refine ae h (cv:=.int .u8 c.toNat) ?_ (VRel.unconc (by rw[<-o];exact .int _ _ (qg _))) N;simp[execOp,A,z,Instr.index,asIntOf,run_underlying M,f]
    ·simp at o
   ·simp at o
  ·simp at p
 ·simp at d
theorem abt{sz:Nat}{x i:ac}(b:bT P cx (.ixa sz x i) op=true)(d:eff at_ s.E s.H (.ixa sz x i)=some (v,ws))(h:SG g cx s w a)(J:ax at_ cx g s w a dst v ws next):(⟨dst,op,ty,pos,aft,gd⟩:Oper).wp P a w next Q:=by
 simp only[bT] at b;split at b
 ·rename_i t u y;simp only[Aa] at b;obtain⟨C,L,F⟩:=b;have j:=af L h;have m:=af F h;obtain⟨e,G,r,S⟩:=vG C;simp only[eff] at d;split at d
  ·rename_i id p n I cap k i B A;simp only[aI,Aa,Ab,Ae,Bb,Tr.beq_iff,decide_eq_true_eq] at d;obtain⟨⟨q,rfl⟩,rfl,rfl⟩:=d;rw[B] at j;rw[A] at m;generalize o:a.eval u=cv at j;generalize f:a.eval y=R at m;cases m;cases j with
   |sl _ _ _ _ _ c z N b O M=>refine ae h (cv:=.pointer (some ⟨g.ρ id,p+i*sz,none⟩)) ?_ (.ptr _ _ z) J;simp[execOp,o,f,D4,asIntOf,run_underlying G,q,db r,Bv]
  ·simp at d
 ·simp at b
theorem aie{n sz:Nat}{x i:ac}(c:bT P cx (.ixp n sz x i) op=true)(b:eff at_ s.E s.H (.ixp n sz x i)=some (v,ws))(h:SG g cx s w a)(G:ax at_ cx g s w a dst v ws next):(⟨dst,op,ty,pos,aft,gd⟩:Oper).wp P a w next Q:=by
 simp only[bT] at c;split at c
 ·rename_i t u y;simp only[Aa] at c;obtain⟨d,I,C⟩:=c;have j:=af I h;have m:=af C h;split at d
  ·rename_i J e F;simp only[Aa,beq_iff_eq] at d;obtain⟨rfl,r⟩:=d;simp only[eff] at b;split at b
   ·rename_i id p k i B A;simp only[aI,Ab,Ae,Bb] at b;obtain⟨q,rfl,rfl⟩:=b;rw[B] at j;rw[A] at m;generalize o:a.eval u=cv at j;generalize f:a.eval y=L at m;cases m;cases j with
    |ptr _ _ z=>refine ae h (cv:=.pointer (some ⟨g.ρ id,p+i*sz,none⟩)) ?_ (.ptr _ _ z) G;simp[execOp,o,f,D4,BE,asIntOf,run_underlying F,q,db r,Bv]
   ·simp at b
  ·simp at d
 ·simp at c
theorem eu{k:IntKind}{n y:Nat}{b:BoundsCode}(c:n<=y)(w:World):(Du (.int k (n:Int)) y b).run P w=.ok n w:=by simp[Du,asIntOf,c]
theorem oU{len cap:Nat}{isS:Bool}{j m:Option ac}{d c:Option Operand}{p q:Nat}(z:len<=cap)(o:cL cx j d=true)(t:cL cx m c=true)
  (f:j9 len (bF s.E j) (bF s.E m)=some (p,q)) (h:SG g cx s w a):
  (BL isS len cap (d.map a.eval) (c.map a.eval) none).run P w=.ok (p,q,cap) w∧p<=q∧q<=len:=by
 have i:∀(x:ac)(y:Operand)(k:IntKind)(n:Int),ag cx x y=true->x.ev s.E=.int k n->a.eval y=.int k n:=by intro x y k n A F;have r:=af A h;rw[F] at r;generalize G:a.eval y=cv at r;cases r;rfl
 unfold j9 at f;split at f;·rename_i e1 e;cases j<;>cases m<;>simp[bF] at e1 e;cases d<;>cases c<;>simp[cL] at o t;simp only[Ab,Ae] at f;obtain⟨rfl,rfl⟩:=f;exact⟨by simp[BL],by omega,by omega⟩
 ·rename_i k n e1 e;cases j with
  |none=>simp[bF] at e1
  |some x=>
  cases m with
  |some _=>simp[bF] at e
  |none=>
  cases d with
  |none=>simp[cL] at o
  |some B=>
  cases c with
  |some _=>simp[cL] at t
  |none=>
  simp only[aI,Ab,Ae,Bz] at f;obtain⟨b,rfl,rfl⟩:=f;simp only[bF,Ab] at e1;have:=i _ _ _ _ o e1;refine⟨?_,by omega,by omega⟩;simp[BL,this,eu (P:=P) b]
 ·rename_i k n e1 e;cases m with
  |none=>simp[bF] at e
  |some x=>
  cases j with
  |some _=>simp[bF] at e1
  |none=>
  cases c with
  |none=>simp[cL] at t
  |some B=>
  cases d with
  |some _=>simp[cL] at o
  |none=>
  simp only[aI,Ab,Ae,Bz] at f;obtain⟨b,rfl,rfl⟩:=f;simp only[bF,Ab] at e;have:=i _ _ _ _ t e;refine⟨?_,by omega,by omega⟩;simp[BL,this,eu (P:=P) (y:=cap) (AX b z)]
 ·rename_i k n k2 I e1 e;cases m with
  |none=>simp[bF] at e
  |some y=>
  cases j with
  |none=>simp[bF] at e1
  |some x=>
  cases c with
  |none=>simp[cL] at t
  |some J=>
  cases d with
  |none=>simp[cL] at o
  |some B=>
  simp only[aI,Ab,Ae,Bz,Aa] at f;obtain⟨⟨b,u⟩,rfl,rfl⟩:=f;simp only[bF,Ab] at e1 e;have H:=i _ _ _ _ o e1;have C:=i _ _ _ _ t e;refine⟨?_,by omega,by omega⟩;simp[BL,H,C,eu (P:=P) (y:=cap) (AX b z),eu (P:=P) u]
 ·simp at f
theorem y7{x:ac}{i k:Option ac}(d:bT P cx (.subs x i k) op=true)(c:eff at_ s.E s.H (.subs x i k)=some (v,ws))(h:SG g cx s w a)(B:ax at_ cx g s w a dst v ws next):(⟨dst,op,ty,pos,aft,gd⟩:Oper).wp P a w next Q:=by
 simp only[bT] at d;split at d
 ·rename_i t m A z;simp only[Aa] at d;obtain⟨r,F,u,G⟩:=d;have e:=af F h;have y:=oJ r;simp only[eff] at c;split at c
  ·rename_i l o;simp only[Ah] at c;obtain⟨⟨p,q⟩,j,c⟩:=c;simp only[Ae] at c;obtain⟨rfl,rfl⟩:=c;rw[o] at e;generalize f:a.eval m=cv at e;cases e with
   |str _ b C J=>
    subst C;rw[AU,da] at j;obtain⟨e1,I,L⟩:=oU (P:=P) (isS:=false) (Ao _) u G j h;refine ae h (cv:=.string (b.extract p q)) ?_ (.str _ _ ?_ ?_) B;·simp[execOp,f,C0,Dm,run_underlying y,e1]
    ·simp[C2,List.drop_take,Dn,Dp]
    ·simp[ByteArray.size_extract];omega
  ·simp at c
 ·simp at d
theorem ahv{sz:Nat}{x:ac}{I N:Option ac}(B:bT P cx (.subl sz x I N) op=true)(b:eff at_ s.E s.H (.subl sz x I N)=some (v,ws))(h:SG g cx s w a)(m:ax at_ cx g s w a dst v ws next):(⟨dst,op,ty,pos,aft,gd⟩:Oper).wp P a w next Q:=by
 simp only[bT] at B;split at B
 ·rename_i t X S R;simp only[Aa] at B;obtain⟨h1,h2,O,W⟩:=B;have j:=af h2 h;obtain⟨e,G,u2,u3⟩:=vG h1;have i:=λw':World=>db u2 w'
  generalize f:a.eval X=cv at j;simp only[eff] at b;split at b
  ·rename_i A;simp only[Ah] at b;obtain⟨⟨p,q⟩,L,b⟩:=b;simp only[Ae] at b;obtain⟨rfl,rfl⟩:=b;rw[A] at j;cases j;obtain⟨e1,r,z⟩:=oU (P:=P) (isS:=true) (Ao _) O W L h;obtain rfl:q=0:=by omega
   obtain rfl:p=0:=by omega
   refine ae h (cv:=.slice none 0 0) ?_ .nils m;simp[execOp,f,C0,Dm,run_underlying G,e1,i]
  ·rename_i A;simp only[Ah] at b;obtain⟨⟨p,q⟩,L,b⟩:=b;simp only[Ae] at b;obtain⟨rfl,rfl⟩:=b;rw[A] at j;cases j with
   |emp ad c Y=>
   obtain⟨e1,r,z⟩:=oU (P:=P) (isS:=true) (Nat.zero_le c) O W L h;obtain rfl:q=0:=by omega
   obtain rfl:p=0:=by omega
   refine ae h (cv:=.slice (some ad) 0 c) ?_ (.emp _ _ Y) m;simp[execOp,f,C0,Dm,run_underlying G,e1,i,Addr.add]
  ·rename_i id o n a2 cap A;rw[aI] at b;obtain⟨y,b⟩:=b;simp only[Tr.beq_iff,decide_eq_true_eq] at y;subst y;rw[A] at j;cases j with
   |sl _ _ _ _ _ c M J u Y F=>
   have run:∀p q,j9 n (bF s.E I) (bF s.E N)=some (p,q)->(execOp a.eval ⟨dst,.slice t X S R none,ty,pos,aft,gd⟩).run P w=.ok (.value (.slice (if c=p then some ⟨g.ρ id,o,none⟩ else some ⟨g.ρ id,o+p*sz,none⟩) (q-p) (c-p))) w∧p<=q∧q<=n:=by
    intro p q C;obtain⟨e1,r,z⟩:=oU (P:=P) (isS:=true) u O W C h;refine⟨?_,r,z⟩;by_cases d:c=p;·subst d;simp[execOp,f,C0,Dm,run_underlying G,e1,i]
    ·simp[execOp,f,C0,Dm,run_underlying G,e1,i,d,Bv]
   split at b
   ·rename_i p q k C;obtain⟨e1,r,z⟩:=run p q C;simp only[sc] at F;subst F;simp only[Ab,Ae] at b;obtain⟨b,rfl⟩:=b;by_cases d:c=p
    ·have:Af c p=true:=by simp[Tr.beq_iff,d]
     rw[this] at b;subst b;rw[if_pos d] at e1;refine ae h e1 ?_ m;refine .sl id o (q-p) sz (some 0) _ M J (by omega) (by omega) ?_;show c-p=0;omega
    ·have:Af c p=false:=by simp[Tr.beq_iff,d]
     rw[this] at b;subst b;rw[if_neg d] at e1;exact ae h e1 (.sl id _ (q-p) sz (some (c-p)) _ M J (by omega) (by omega) rfl) m
   ·rename_i p q C;obtain⟨e1,r,z⟩:=run p q C;simp only[Ab,Ae] at b;obtain⟨b,rfl⟩:=b;by_cases d:p=n
    ·have:Af p n=true:=by simp[Tr.beq_iff,d]
     rw[this] at b;subst b;have hq:q-p=0:=by omega
     rw[hq] at e1;by_cases Z:c=p;·rw[if_pos Z] at e1;exact ae h e1 (.emp _ _ (by omega)) m
     ·rw[if_neg Z] at e1;exact ae h e1 (.emp _ _ (by omega)) m
    ·have:Af p n=false:=by simp[Tr.beq_iff,d]
     rw[this] at b;subst b;rw[if_neg (by omega)] at e1;refine ae h e1 (.sl id _ (q-p) sz none _ M J (by omega) (by omega) ?_) m;simp only[sc] at F ⊢;rw[<-F,Ed,<-Ax]
     congr 2
     omega
   ·simp at b
  ·simp at b
 ·simp at B
theorem uN{t:TypeId}{f b:Nat}{k:Field->Bool}(h:wd P t f b k=true):∃(fs:Array Field)(c:Field),P.underlying t=some (.struct fs)∧fs[f]? =some c∧c.offset=b∧k c=true:=by
 unfold wd at h;split at h
 ·rename_i fs e;split at h;·rename_i c d;simp only[Aa,beq_iff_eq] at h;exact⟨fs,c,e,d,h.1,h.2⟩
  ·simp at h
 ·simp at h
theorem abu{b:Nat}{x:ac}(f:bT P cx (.fad b x) op=true)(e:eff at_ s.E s.H (.fad b x)=some (v,ws))(h:SG g cx s w a)(A:ax at_ cx g s w a dst v ws next):(⟨dst,op,ty,pos,aft,gd⟩:Oper).wp P a w next Q:=by
 simp only[bT] at f;split at f
 ·rename_i t q F;simp only[Aa] at f;obtain⟨d,C⟩:=f;have j:=af C h;obtain⟨fs,B,z,k,r,d⟩:=uN d;have c:∃n,n≠0∧(sizeOf B.type).run P w=.ok n w:=by
   unfold qF at d;split at d;·rename_i n m;exact⟨n,by simpa using d,db m w⟩
   ·simp at d
  obtain⟨n,i,c⟩:=c;simp only[eff] at e;split at e
  ·rename_i id o y;simp only[Ab,Ae] at e;obtain⟨rfl,rfl⟩:=e;rw[y] at j;generalize p:a.eval q=cv at j;cases j with
   |ptr _ _ u=>refine ae h (cv:=.pointer (some ⟨g.ρ id,o+b,none⟩)) ?_ (.ptr _ _ u) A;simp[execOp,p,Instr.fieldAt,run_underlying z,k,BE,fieldPlace,c,i,r,Bv]
  ·simp at e
 ·simp at f
theorem aif{b n:Nat}{agg:Bool}{x:ac}(e:bT P cx (.fld b n agg x) op=true)(j:eff at_ s.E s.H (.fld b n agg x)=some (v,ws))(h:SG g cx s w a)(M:ax at_ cx g s w a dst v ws next):(⟨dst,op,ty,pos,aft,gd⟩:Oper).wp P a w next Q:=by
 simp only[bT] at e;split at e
 ·rename_i t F R;simp only[Aa] at e;obtain⟨p,O⟩:=e;have r:=af O h;obtain⟨fs,S,A,k,y,p⟩:=uN p;simp only[Aa,beq_iff_eq,AQ] at p;obtain⟨z,B,f⟩:=p;simp only[eff] at j;split at j
  ·rename_i cs L;simp only[aI,Ab,Ae,Bz] at j;obtain⟨I,rfl,rfl⟩:=j;rw[L] at r;generalize d:a.eval F=cv at r;cases r with
   |agg _ vs N e1 G=>
    have m:Row g ((cs.drop b).take n) ((vs.toList.drop b).take n):=by
     refine⟨by simp[N],λc u=>e1 c (Bd (A7 u)),?_⟩;intro i c cv e d;simp only[AW,A9] at e d;split at e;·rename_i J;simp only[J,if_true] at d;exact G _ _ _ e (by simpa using d)
     ·simp at e
    have q:=fT (agg:=agg) m (by
     rcases f with f|f;·exact .inl f
     ·right;simp;omega)
    refine ae h ?_ q M;cases agg with
    |true=>simp[execOp,d,Instr.field,run_underlying A,k,asAgg,part,gW B,db z,y];apply Array.ext';simp[C2]
    |false=>
     have f:n=1:=by simpa using f
     subst f;have o:b<vs.size:=by omega
     have:vs[b]? =some vs[b]:=Ag o;have C:(vs.toList.drop b).take 1=[vs[b]]:=by rw[BU (by simpa using o)];simp
     simp[execOp,d,Instr.field,run_underlying A,k,asAgg,part,gW B,db z,y,this,C]
  ·simp at j
 ·simp at e
theorem xI{n:Nat}{agg:Bool}{x:ac}(k:bT P cx (.ld n agg x) op=true)(c:eff at_ s.E s.H (.ld n agg x)=some (v,ws))(h:SG g cx s w a)(J:ax at_ cx g s w a dst v ws next):(⟨dst,op,ty,pos,aft,gd⟩:Oper).wp P a w next Q:=by
 simp only[bT] at k;split at k
 ·rename_i t A;simp only[Aa,beq_iff_eq,AQ] at k;obtain⟨G,M,d,N⟩:=k;have r:=af N h;simp only[eff] at c;split at c
  ·rename_i id o F;split at c
   ·rename_i e f cs C;simp only[aI,Ab,Ae,Bz] at c;obtain⟨q,rfl,rfl⟩:=c;rw[F] at r;generalize y:a.eval A=cv at r;cases r with
    |ptr _ _ R=>
     obtain⟨p,O,I,m⟩:=h.hr.obj _ _ _ _ (cells?_some C);have z:=m.len;have i:=rq m q;have B:=fT (agg:=agg) i (by
      rcases d with d|d;·exact .inl d
      ·right;simp;omega)
     refine ae h ?_ B J;have:=ge (P:=P) (w:=w) (b:=g.ρ id) (o:=o) (vs:=(p.toList.drop o).take n) G M d (by simp;omega) (λj u L=>oK I o n j u L);simp[execOp,y,this]
   ·simp at c
  ·simp at c
 ·simp at k
theorem abv{i:Nat}{x:ac}(d:bT P cx (.ext i x) op=true)(b:eff at_ s.E s.H (.ext i x)=some (v,ws))(h:SG g cx s w a)(q:ax at_ cx g s w a dst v ws next):(⟨dst,op,ty,pos,aft,gd⟩:Oper).wp P a w next Q:=by
 simp only[bT] at d;split at d
 ·rename_i m t;simp only[Aa,beq_iff_eq] at d;obtain⟨rfl,e⟩:=d;have f:=af e h;simp only[eff] at b;split at b
  ·rename_i vs p;split at b
   ·rename_i u c;simp only[Ab,Ae] at b;obtain⟨rfl,rfl⟩:=b;rw[p] at f;generalize j:a.eval m=cv at f;cases f with
    |tup _ cvs r o=>
     have k:i<cvs.size:=by rw[<-r];exact(Ad.1 c).1
     have e:cvs[i]? =some cvs[i]:=Ag k;exact ae h (cv:=cvs[i]) (by simp[execOp,j,Instr.extract,e]) (o _ _ _ c e) q
   ·simp at b
  ·simp at b
 ·simp at d
theorem abw{x:ac}(i:bT P cx (.nck x) op=true)(c:eff at_ s.E s.H (.nck x)=some (v,ws))(h:SG g cx s w a)(k:ax at_ cx g s w a dst v ws next):(⟨dst,op,ty,pos,aft,gd⟩:Oper).wp P a w next Q:=by
 simp only[bT] at i;split at i
 ·rename_i m;have b:=af i h;simp only[eff] at c;split at c;·rename_i id o j;simp only[Ab,Ae] at c;obtain⟨rfl,rfl⟩:=c;rw[j] at b;generalize e:a.eval m=cv at b;have d:=b;cases b;exact ae h (by simp[execOp,e]) d k
  ·rename_i f cs j;simp only[Ab,Ae] at c;obtain⟨rfl,rfl⟩:=c;rw[j] at b;generalize e:a.eval m=cv at b;have d:=b;cases b;exact ae h (by simp[execOp,e]) d k
  ·simp at c
 ·simp at i
theorem abE{f:Nat}{cs:List ac}(b:bT P cx (.mkf f cs) op=true)(e:eff at_ s.E s.H (.mkf f cs)=some (v,ws))(h:SG g cx s w a)(j:ax at_ cx g s w a dst v ws next):(⟨dst,op,ty,pos,aft,gd⟩:Oper).wp P a w next Q:=by
 simp only[bT] at b;split at b
 ·rename_i o first ys
  simp only[Aa,beq_iff_eq] at b;obtain⟨rfl,m,k⟩:=b;obtain rfl:first= #[]:=by simpa using m
  simp only[eff,Ab,Ae] at e;obtain⟨rfl,rfl⟩:=e;obtain⟨k1,k2⟩:=lN h cs ys.toList k;refine ae h (cv:=.func (.func f) #[] (ys.map a.eval)) (by simp[execOp,Instr.makeFunc]) (.fn _ _ _ (by simp[k1]) (λi c cv b d=>k2 i c cv b (by simpa using d))) j
 ·simp at b
theorem yH:∀{cs:List D}{us:List Value}{l:List Nat},Row g cs us->pP cs=some l->∃d:List Int,us=d.map (Value.int .u8)∧(d.map λn=>BX n.toNat).map (·.toNat)=l∧d.length=cs.length
 | [],us,l,h,b=>by
   simp only[pP,Ab] at b;subst b;have:us=[]:=by simpa using h.len.symm
   exact⟨[],by simp[this],rfl,rfl⟩
 |c::cs,[],l,h,b=>by have:=h.len;simp at this
 |c::cs,u::us,l,h,b=>by
  simp only[pP] at b;split at b
  ·rename_i n q e k;obtain rfl:=Ai b;obtain⟨d,k1,k2,k3⟩:=yH (cs:=cs) (us:=us) ⟨by simpa using h.len,λc f=>h.one c (AH _ f),λi c cv f j=>h.rel (i+1) c cv (by simpa using f) (by simpa using j)⟩ k;have r:=h.rel 0 c u rfl rfl;unfold ag1 at e;split at e
   ·rename_i m;obtain rfl:=Ai e;cases r with
    |int _ _ o=>
    refine⟨(m:Int)::d,by simp[k1],?_,by simp[k3]⟩;have p:m<256:=by have:=o.2;simp[BR,Bh,Bu] at this;omega
    simp only[AI,k2]
    congr 1
    simp[UInt8.toNat_ofNat',Dv p]
   ·simp at e
  ·simp at b
theorem wF(c:List Int):∀b:ByteArray,(c.foldl (λ(r:ByteArray) n=>r.push (BX n.toNat)) b).data.toList=b.data.toList++c.map λn=>BX n.toNat:=by
 induction c with
 |nil=>intro b;simp
 |cons n c d=>intro b;rw[BZ,d];simp[ByteArray.push]
theorem aeD:ByteArray.empty.data.toList=[]:=rfl
theorem aig{x:ac}(C:bT P cx (.b2s x) op=true)(t:eff at_ s.E s.H (.b2s x)=some (v,ws))(h:SG g cx s w a)(N:ax at_ cx g s w a dst v ws next):(⟨dst,op,ty,pos,aft,gd⟩:Oper).wp P a w next Q:=by
 simp only[bT] at C;split at C
 ·rename_i t1 t2 W;simp only[Aa] at C;obtain⟨o,h2,h3⟩:=C;have i:=af h3 h;have I:=oJ h2;split at o
  ·rename_i e M;simp only[Aa,beq_iff_eq] at o;obtain⟨o,a1⟩:=o;have O:=yG o;simp only[eff] at t;split at t
   ·rename_i q cs b;simp only[aI,Ah,Ae,fa,Aw,Tr.beq_iff,decide_eq_true_eq] at t;obtain⟨B,l,F,rfl,rfl⟩:=t;generalize k:a.eval W=cv at i;unfold ik at b;split at b;·rename_i y;rw[y] at i;simp only[Ab,Ae] at b;obtain⟨rfl,rfl⟩:=b;simp only[pP,Ab] at F;subst F;cases i;exact ae h (cv:=.string .empty) (by simp[execOp,k,run_convert_bytes_string w _ _ _ _ _ _ M O I,Conv.bytesToString]) (.str _ _ rfl (by simp[maxI])) N
    ·rename_i y;rw[y] at i;simp only[Ab,Ae] at b;obtain⟨rfl,rfl⟩:=b;simp only[pP,Ab] at F;subst F;cases i;exact ae h (cv:=.string .empty) (by simp[execOp,k,run_convert_bytes_string w _ _ _ _ _ _ M O I,Conv.bytesToString,loadCells,loadCellsFrom]) (.str _ _ rfl (by simp[maxI])) N
    ·rename_i id z len sz cap y;rw[y] at i;split at b
     ·rename_i e' f ad Y;simp only[aI,Ab,Ae,Bz] at b;obtain⟨J,rfl,rfl⟩:=b;cases i with
      |sl _ _ _ _ _ c hA hz R hm hk=>
      obtain⟨X,fz,hb,G⟩:=h.hr.obj _ _ _ _ (cells?_some Y);have Z:=G.len;have A:=rq G J;obtain⟨m,k1,k2,k3⟩:=yH A F;have p:m.length=len:=k3.trans B;have d:(loadCells ⟨g.ρ id,z,none⟩ len).run P w=.ok (m.map (Value.int .u8)).toArray w:=by
       have L:len=(m.map (Value.int .u8)).length:=by simp[p]
       rw[L];refine run_loadCells_list w _ _ ?_;intro j v S;rw[Bv];rw[<-k1] at S;exact oK hb z _ j v S
      have u:(m.foldl (λ(r:ByteArray) n=>r.push (BX n.toNat)) ByteArray.empty).data.toList=m.map λn=>BX n.toNat:=by rw[wF,aeD];simp
      refine ae h (cv:=.string (m.foldl (λ(r:ByteArray) n=>r.push (BX n.toNat)) ByteArray.empty)) ?_ (.str _ _ ?_ ?_) N;·simp[execOp,k,run_convert_bytes_string w _ _ _ _ _ _ M O I,run_bytesToString w _ _ _ _ d]
      ·rw[u];exact k2
      ·rw[<-da,u,AU,p];omega
     ·simp at b
    ·simp at b
   ·simp at t
  ·simp at o
 ·simp at C
def sf(g:Gh)(id:Nat):Obj->Go.Obj->Prop
 | .cells e f cs,b=>∃c d,b=.cells c e d∧fv g id f cs c d
 | .map es,b=>∃ents clock,b=.map ents clock∧cU g es ents clock
section
variable{g g':Gh}{cx:Cx}{s:FS}{w w':World}{a:Act}{P:Program}{at_:Nat}
theorem sf.up{id:Nat}{o:Obj}{b:Go.Obj}(h:sf g id o b)(u:Up g g')(j:g.A id):sf g' id o b:=by
 cases o with
 |cells e f cs=>obtain⟨d,m,i,k⟩:=h;exact⟨d,m,i,k.up u j⟩
 |map es=>obtain⟨en,c,i,k⟩:=h;exact⟨en,c,i,k.up u⟩
theorem HR.holds{H:Nat->Option Obj}{n:Nat}(h:HR g H n w){id:Nat}{o:Obj}(k:H id=some o):∃b,w.heap[g.ρ id]? =some b∧sf g id o b:=by
 cases o with
 |cells e f cs=>obtain⟨d,m,i,j⟩:=h.obj id e f cs k;exact⟨_,i,d,m,rfl,j⟩
 |map es=>obtain⟨en,c,i,j⟩:=h.map id es k;exact⟨_,i,en,c,rfl,j⟩
theorem HR.of{H:Nat->Option Obj}{n:Nat}(j:∀id o,H id=some o->∃b,w.heap[g.ρ id]? =some b∧sf g id o b)
  (k:∀id d o o',H id=some o->H d=some o'->id≠d->g.ρ id≠g.ρ d) (p:∀id o,H id=some o->g.A id) (q:∀id,g.A id->id<n):HR g H n w:=by
 refine⟨?_,?_,k,p,q⟩;·intro id e f cs h;obtain⟨b,k1,i,m,rfl,k2⟩:=j id _ h;exact⟨i,m,k1,k2⟩
 ·intro id es h;obtain⟨b,k1,en,c,rfl,k2⟩:=j id _ h;exact⟨en,c,k1,k2⟩
def Gh.add(g:Gh)(at_ b c:Nat):Gh:={A:=λid=>g.A id∨id=at_,ρ:=upd g.ρ at_ b,κ:=upd g.κ at_ c,s:=g.s}
theorem Gh.add_up(e:¬g.A at_)(b c:Nat):Up g (g.add at_ b c):=by
 have d:∀id,g.A id->id≠at_:=by rintro id h rfl;exact e h
 exact⟨λid h=>.inl h,λid h=>by simp[Gh.add,upd,d id h],λid h=>by simp[Gh.add,upd,d id h],rfl⟩
theorem SG.make(h:SG g cx s w a)(Q:¬g.A at_)(M:at_<s.n){b:Go.Obj}(o:Obj)(j:Nat)(W:w'.heap.size=w.heap.size+1)(m:∀b,b<w.heap.size->w'.heap[b]? =w.heap[b]?)
  (v:w'.heap[w.heap.size]? =some b) (C:w'.os=w.os) (L:w'.tape=w.tape) (t:w'.output=w.output) (N:sf (g.add at_ w.heap.size j) at_ o b):
  SG (g.add at_ w.heap.size j) cx ⟨s.E,upd s.H at_ (some o),s.n⟩ w' a∧FR (λid=>id=at_) g s.H w (g.add at_ w.heap.size j) (upd s.H at_ (some o)) w':=by
 have u:=Gh.add_up Q w.heap.size j;have S:∀id,g.A id->id≠at_:=by rintro id h rfl;exact Q h
 have f:(g.add at_ w.heap.size j).ρ at_=w.heap.size:=by simp[Gh.add,upd]
 have d:∀id o',s.H id=some o'->id≠at_∧(g.add at_ w.heap.size j).ρ id=g.ρ id∧g.ρ id<w.heap.size:=λid o' x=>by have:=h.hr.made id o' x;exact⟨S id this,u.ρ id this,h.hr.block x⟩
 refine⟨⟨HR.of ?_ ?_ ?_ ?_,h.er.up u,?_⟩,⟨C,L,t,by omega,λb I _=>m b I,u,λid c=>c,?_⟩⟩
 ·intro id o' c;simp only[upd] at c;split at c;·rename_i e;subst e;cases c;exact⟨b,by rw[f];exact v,N⟩
  ·obtain⟨F,k,z⟩:=d id o' c;obtain⟨J,k1,k2⟩:=h.hr.holds c;exact⟨J,by rw[k,m _ z];exact k1,k2.up u (h.hr.made id o' c)⟩
 ·intro id p O G y q r;simp only[upd] at y q;split at y
  ·rename_i e1;subst e1;split at q;·rename_i B;exact absurd B.symm r
   ·obtain⟨F,k,z⟩:=d p G q;rw[f,k];omega
  ·obtain⟨F,k,z⟩:=d id O y;split at q;·rename_i B;subst B;rw[f,k];omega
   ·obtain⟨Y,R,X⟩:=d p G q;rw[k,R];exact h.hr.apart id p O G y q r
 ·intro id o' c;simp only[upd] at c;split at c;·rename_i e;exact .inr e
  ·exact .inl (h.hr.made id o' c)
 ·rintro id (c|rfl);·exact h.hr.lt id c
  ·exact M
 ·intro i J I;obtain⟨k1,k2⟩:=h.gl i J I;exact⟨.inl k1,(u.ρ i k1).trans k2⟩
 ·intro id o' c;simp only[upd] at c;split at c;·rename_i e;subst e;left;rw[f];exact Ao _
  ·obtain⟨F,k,z⟩:=d id o' c;exact .inr ⟨id,o',c,k.symm⟩
theorem SG.turn{F:Nat->Prop}(h:SG g cx s w a){id:Nat}{o:Obj}(z:s.H id=some o)(o':Obj){b:Go.Obj}(L:w'.heap.size=w.heap.size)(k:∀b,b≠g.ρ id->w'.heap[b]? =w.heap[b]?)
  (r:w'.heap[g.ρ id]? =some b) (x:w'.os=w.os) (B:w'.tape=w.tape) (q:w'.output=w.output) (C:sf g id o' b):
  SG g cx ⟨s.E,upd s.H id (some o'),s.n⟩ w' a∧FR F g s.H w g (upd s.H id (some o')) w':=by
 have f:∀d m,upd s.H id (some o') d=some m->∃G,s.H d=some G:=by
  intro d m c;simp only[upd] at c;split at c;·rename_i e;subst e;exact⟨o,z⟩
  ·exact⟨m,c⟩
 refine⟨⟨HR.of ?_ ?_ ?_ h.hr.lt,h.er,h.gl⟩,⟨x,B,q,by omega,λb O y=>k b (λe=>y id o z e.symm),Up.refl _,λid A=>.inl A,?_⟩⟩
 ·intro d m c;have M:=c;simp only[upd] at c;split at c;·rename_i e;subst e;cases c;exact⟨b,r,C⟩
  ·rename_i e;obtain⟨J,k1,k2⟩:=h.hr.holds c;exact⟨J,by rw[k _ (h.hr.apart d id m o c z e)];exact k1,k2⟩
 ·intro i j p m c N v;obtain⟨t,u⟩:=f i p c;obtain⟨p2,I⟩:=f j m N;exact h.hr.apart i j t p2 u I v
 ·intro i p c;obtain⟨t,u⟩:=f i p c;exact h.hr.made i t u
 ·intro i p c;obtain⟨t,u⟩:=f i p c;exact .inr ⟨i,t,u,rfl⟩
theorem SG.move(h:SG g cx s w a)(N:¬g.A at_)(I:at_<s.n){id:Nat}{o:Obj}(z:s.H id=some o)(o':Obj){b:Go.Obj}(R:w'.heap.size=w.heap.size)(p:∀b,b≠g.ρ id->w'.heap[b]? =w.heap[b]?)
  (y:w'.heap[g.ρ id]? =some b) (B:w'.os=w.os) (G:w'.tape=w.tape) (x:w'.output=w.output) (J:sf (g.add at_ (g.ρ id) (g.κ id)) at_ o' b):
  SG (g.add at_ (g.ρ id) (g.κ id)) cx ⟨s.E,upd (upd s.H id none) at_ (some o'),s.n⟩ w' a∧FR (λid=>id=at_) g s.H w (g.add at_ (g.ρ id) (g.κ id)) (upd (upd s.H id none) at_ (some o')) w':=by
 have u:=Gh.add_up N (g.ρ id) (g.κ id);have W:∀id,g.A id->id≠at_:=by rintro id h rfl;exact N h
 have d:(g.add at_ (g.ρ id) (g.κ id)).ρ at_=g.ρ id:=by simp[Gh.add,upd]
 have look:∀i f,upd (upd s.H id none) at_ (some o') i=some f->(i=at_∧f=o')∨(i≠at_∧i≠id∧s.H i=some f∧(g.add at_ (g.ρ id) (g.κ id)).ρ i=g.ρ i):=by
  intro i f c;simp only[upd] at c;split at c;·rename_i e;cases c;exact .inl ⟨e,rfl⟩
  ·rename_i e;split at c;·simp at c
   ·rename_i q;exact .inr ⟨e,q,c,u.ρ i (h.hr.made i f c)⟩
 refine⟨⟨HR.of ?_ ?_ ?_ ?_,h.er.up u,?_⟩,⟨B,G,x,by omega,λb O C=>p b (λe=>C id o z e.symm),u,λid t=>t,?_⟩⟩
 ·intro i f c;rcases look i f c with⟨rfl,rfl⟩|⟨e1,q,k,r⟩
  ·exact⟨b,by rw[d];exact y,J⟩
  ·obtain⟨F,k1,k2⟩:=h.hr.holds k;exact⟨F,by rw[r,p _ (h.hr.apart i id f o k z q)];exact k1,k2.up u (h.hr.made i f k)⟩
 ·intro i j m f c S v;rcases look i m c with⟨rfl,rfl⟩|⟨e1,q,k,r⟩<;>rcases look j f S with⟨rfl,rfl⟩|⟨X,Q,L,M⟩
  ·exact absurd rfl v
  ·rw[d,M];exact h.hr.apart id j o f z L (Cr Q)
  ·rw[d,r];exact h.hr.apart i id m o k z q
  ·rw[r,M];exact h.hr.apart i j m f k L v
 ·intro i m c;rcases look i m c with⟨rfl,rfl⟩|⟨e1,q,k,r⟩
  ·exact .inr rfl
  ·exact .inl (h.hr.made i m k)
 ·rintro i (t|rfl);·exact h.hr.lt i t
  ·exact I
 ·intro i F O;obtain⟨k1,k2⟩:=h.gl i F O;exact⟨.inl k1,(u.ρ i k1).trans k2⟩
 ·intro i m c;rcases look i m c with⟨rfl,rfl⟩|⟨e1,q,k,r⟩
  ·exact .inr ⟨id,o,z,d.symm⟩
  ·exact .inr ⟨i,m,k,r.symm⟩
theorem ce(w:World)(o:Go.Obj):(w.alloc o).heap.size=w.heap.size+1∧(∀b,b<w.heap.size->(w.alloc o).heap[b]? =w.heap[b]?)∧(w.alloc o).heap[w.heap.size]? =some o:=by
 refine⟨by simp,?_,?_⟩;·intro b c;show (w.heap.push o)[b]? =_;rw[Cl,if_neg (by omega)]
 ·show (w.heap.push o)[w.heap.size]? =_;simp
theorem cI(b:Nat):∀(vs:List Value)(o:Nat)(w:World)(d:Array Value)(e:TypeId)(f:Nat×Nat),w.heap[b]? =some (.cells d e f)->
  (∃c,(w.setCells b o vs).heap[b]? =some (.cells c e f)∧c.size=d.size)∧(∀i,i≠b->(w.setCells b o vs).heap[i]? =w.heap[i]?)∧
   (w.setCells b o vs).heap.size=w.heap.size∧(w.setCells b o vs).os=w.os∧(w.setCells b o vs).tape=w.tape∧(w.setCells b o vs).output=w.output
 | [],o,w,d,e,f,h=>⟨⟨d,h,rfl⟩,λ_ _=>rfl,rfl,rfl,rfl,rfl⟩
 |v::vs,o,w,d,e,f,h=>by
  have m:(w.setCell ⟨b,o,none⟩ v).heap[b]? =some (.cells (d.setIfInBounds o v) e f):=by simp[CZ,A3,h]
  obtain⟨⟨c,k1,k2⟩,k3,k4,k5,k6,k⟩:=cI b vs (o+1) (w.setCell ⟨b,o,none⟩ v) _ e f m;refine⟨⟨c,k1,by simpa using k2⟩,λi j=>?_,k4.trans (by simp[CZ]),k5,k6,k⟩;rw[show (w.setCells b o (v::vs))=(w.setCell ⟨b,o,none⟩ v).setCells b (o+1) vs from rfl,k3 i j];simp only[CZ,A3];rw[if_neg (by simpa using Cr j)]
theorem km{α:Type}(l news:List α)(o:Nat)(d:o+news.length<=l.length)(j:Nat):
  (l.take o++news++l.drop (o+news.length))[j]? =if o<=j∧j<o+news.length then news[j-o]? else l[j]?:=by
 have e:(l.take o).length=o:=by simp;omega
 split;·rename_i c;rw[Be,Aj (by omega),e,Am (by omega)]
 ·rename_i c;rcases AG j o with b|b;·rw[Be,Am (by omega),AW,if_pos b]
  ·rw[Aj (by simp;omega),A9]
   congr 1
   simp;omega
theorem rt{b:Nat}{d:Array Value}{e:TypeId}{f:Nat×Nat}(h:w.heap[b]? =some (.cells d e f))(o:Nat)(vs:List Value)(k:o+vs.length<=d.size):
  ∃c,(w.setCells b o vs).heap[b]? =some (.cells c e f)∧c.size=d.size∧∀j,c[j]? =if o<=j∧j<o+vs.length then vs[j-o]? else d[j]?:=by
 obtain⟨⟨c,k1,k2⟩,_⟩:=cI b vs o w d e f h;refine⟨c,k1,k2,λj=>?_⟩;rw[<-cell_of_heap k1 j];split;·rename_i i;have:=BY b vs o w (λp m=>by rw[cell_of_heap h,Ag (by omega)];rfl) (j-o) (by omega);rw[show o+(j-o)=j by omega] at this;rw[this,Ac (by omega)]
 ·rename_i i;rw[<-cell_of_heap h j];refine Bj b vs o w _ ?_;intro _ _;show j<o∨o+vs.length<=j;omega
end
end Go.DM
end
