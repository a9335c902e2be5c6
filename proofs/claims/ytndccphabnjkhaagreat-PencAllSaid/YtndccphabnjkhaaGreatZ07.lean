import Derived.KernelRfl
import Derived.WalkKit
import Derived.WalkSpells
import Derived.Laws.Externs
import Derived.Laws.AppendOwn
import Derived.Lib.SliceRun
import Derived.Lib.Walk
import Derived.Lib.Bytealg
import Derived.Below
import Derived.Deep.LoopGhost
import Derived.Test.YtndccphabnjkhaaGreatZ02
import Derived.Test.YtndccphabnjkhaaGreatZ03
import Derived.Test.YtndccphabnjkhaaGreatZ04
set_option linter.all false
open Array renaming getElem?_eq_none→BY
open Bool renaming and_eq_true→Ac,not_false→Bh,eq_iff_iff→BH,not_true→B8
open Go.IntKind renaming wrap→Ab,signed→AN,max→Bo
open Go.Lib renaming run_eql_slice_nil→CQ
open Go.Op renaming bytesLess→A2
open Go.Oper renaming upon_value→DB
open Go.World renaming cell?→By
open Int renaming toNat→Ad,le_refl→Av,toNat_natCast→AK,tmod_eq_emod_of_nonneg→Bj,tdiv_eq_ediv_of_nonneg→BZ,toNat_zero→DI
open List renaming length→Aa,getD→Af,getElem?_eq_getElem→Ah,length_cons→Ai,length_append→Ak,length_nil→Al,drop→An,take→Ao,getD_eq_getElem?_getD→Aq,mem_singleton→Ay,mem_append→Az,mem_map→AH,length_drop→AL,append_assoc→AP,take_length→AZ,mem_cons→A3,map_cons→Bb,getD_cons_zero→Bm,length_take→Bt,mem_of_mem_take→Bv,mem_of_mem_drop→Bw,drop_zero→Bz,map_append→BB,drop_eq_getElem_cons→BD,foldl_cons→BG,take_append_drop→BS,getElem_mem→BU,set→BV,nil_append→B7,length_pos_iff→Cc,take_succ_cons→Cd,find?_cons→Cl,mem_of_find?_eq_some→Cs,cons_append→CB,take_zero→CR,tail_cons→CT,foldl_nil→CZ,drop_eq_nil_of_le→Dm,singleton_append→Dq
open Nat renaming le_refl→Ap,lt_or_ge→AG,lt_of_lt_of_le→AJ,zero_le→AR,le_trans→A7,pow_succ→CA,strongRecOn→C7
open Option renaming map_eq_some_iff→As
open UInt8 renaming toNat→AW,toNat_lt→BP
set_option maxRecDepth 100000
noncomputable section
namespace Go.Proofs.YtndccphabnjkhaaGreat
open Go.AM
def vx(a b:List UInt8)(r:Int):Prop:=qQ a b r
def iZ(l r:List PFl):Prop:=r=l
def nK(l r:List (List UInt8)):Prop:=r=l
def rG(a:Int)(r:Bool):Prop:=r=false
def qm(a:Int)(r:Bool):Prop:=r=false
def pl(a b r:Int):Prop:=r=ayl a b
def nP(a b r:Int):Prop:=r=ayl a b
def alw{α:Type}(p:α->Bool)(l:List α)(r:Int):Prop:=-1<=r∧r<l.length∧(r<0->l.all (λx=> !p x)=true)∧∀d:α,0<=r->p (l.getD r.toNat d)=true∧(l.take r.toNat).all (λx=> !p x)=true
def tQ(l:List Int)(x r:Int):Prop:=alw (λy=>x==y) l r
def qn(l:List Int)(x:Int)(r:Bool):Prop:=r=l.any (λy=>x==y)
def zf(m:PMs)(s:List UInt8)(r:Bool):Prop:=r=decide (m.name=s)
def dD(l:List PMs)(s:List UInt8)(r:Int):Prop:=alw (λm:PMs=>decide (m.name=s)) l r
def adS(a:List PMs)(es:List PEn)(s:List UInt8)(r:PMs×Bool):Prop:=r=dU a s
def abP(f:PFl)(n:Int)(r:Bool):Prop:=r=(f.num==n)
def d8(l:List PFl)(n r:Int):Prop:=alw (λf:PFl=>f.num==n) l r
def agF(m:PMs)(n:Int)(r:PFl×Bool):Prop:=r=cK m n
def aaO(p:PMs)(x:bF):Bool:=(cK p x.num).2 &&sA (cK p x.num).1 x.wire
def yp(k:Int)(r:Bool):Prop:=r=(decide (0<=ei k)&& !(ei k==2))
def aaP(f:PFl)(w:Int)(r:Bool):Prop:=r=sA f w
def agG(k:Int)(r:Bool):Prop:=r=aiG k
def amw(k:Int)(a b:aC)(r:Int):Prop:=r=nn k a b
def acr(fs:List (Int×List aC))(rest:List UInt8)(r:Bool):Prop:=r=(decide (fs.length=0)&&decide (rest=[]))
def acs(v:aC)(r:Bool):Prop:=r=(v.n==0&&decide (v.s=[]))
def amx(a:List PMs)(es:List PEn)(k:Int)(t:List UInt8)(v:aC)(r:Bool):Prop:=r=pf a k t v
def ahW(a:List PMs)(es:List PEn)(f:PFl)(l:List aC)(r:Bool):Prop:=r=(qj a f true none l&&decide (l.length%2=0))
def adT(v:aC)(f:List PMs)(es:List PEn)(a:Int)(b:List UInt8)(c k:Int)(t:List UInt8)(d:Int)(e:Bool)(g:Int)(r:Bool):Prop:=r= !pf f k t v
def fh(l:List aC)(f:List PMs)(es:List PEn)(a:Int)(b:List UInt8)(c k:Int)(t:List UInt8)(d:Int)(e:Bool)(g r:Int):Prop:=alw (λv=> !pf f k t v) l r
def eF(l:List aC)(f:List PMs)(es:List PEn)(a:Int)(b:List UInt8)(c k:Int)(t:List UInt8)(d:Int)(e:Bool)(g:Int)(r:Bool):Prop:=r=l.any (λv=> !pf f k t v)
def ahX(a:List PMs)(es:List PEn)(f:PFl)(l:List aC)(r:Bool):Prop:=r=nO a f l
def ae4(x:bF)(a:List UInt8)(fs:List PFl)(c:List (List UInt8))(r:Bool):Prop:=r=aaO ⟨a,fs,c⟩ x
def ey(l:List bF)(a:List UInt8)(fs:List PFl)(c:List (List UInt8))(r:Int):Prop:=alw (aaO ⟨a,fs,c⟩) l r
def dY(l:List bF)(a:List UInt8)(fs:List PFl)(c:List (List UInt8))(r:Bool):Prop:=r=l.any (aaO ⟨a,fs,c⟩)
def ajR(p:PMs)(s:List UInt8)(r:Bool):Prop:=r=rz p s
def ajS(a:List PMs)(es:List PEn)(t:List UInt8)(fs:List (Int×List aC))(rest:List UInt8)(r:Bool):Prop:=r=uL a t fs rest
def amy(b:List PMs)(es:List PEn)(a k:Int)(t:List UInt8)(v:aC)(r:List UInt8):Prop:=r=pg b a k t v
def ajT(k:Int)(v:aC)(r:List UInt8):Prop:=r=pJ k v.n
def ahY(a:List PMs)(es:List PEn)(f:PFl)(l:List aC)(r:List UInt8):Prop:=r=wl a f l
def ae5(a:List PMs)(es:List PEn)(t:List UInt8)(fs:List (Int×List aC))(rest r:List UInt8):Prop:=r=aaH a t fs rest
def agH(a:List PMs)(es:List PEn)(t:List UInt8)(fs:List (Int×List aC))(rest:List UInt8)(r:List UInt8×Int):Prop:=r=sR a t fs rest
def lC(a:List PMs)(b:List PEn)(e:Bs)(c:List (Int×List aC))(d:Bs)(r:aiH):Prop:=aH Tryz.prog 14 [.agg [vF .pms a,vF .pen b],vT e,.agg [vF .pfd c,vT d]] (.tup [vF .u8 r.1,vI r.2])∧agH a b e c d r
def aeu:bq Tryz.prog:=.mk 14 λ
 | [.agg [.sl .pms (.may _) a,.sl .pen (.may _) b],.str e,.agg [.sl .pfd (.may _) c,.str d]]=>pk (lC a b e c d) λr=>.tup [vF .u8 r.1,vI r.2]
 |_=>none
def iL(a:List PMs)(b:List PEn)(c:Bs)(r:ai0):Prop:=aH Tryz.prog 47 [.agg [vF .pms a,vF .pen b],vT c] (.tup [.agg (enc .pms r.1),vB r.2])∧adS a b c r
def aaQ:bq Tryz.prog:=.mk 47 λ
 | [.agg [.sl .pms (.may _) a,.sl .pen (.may _) b],.str c]=>pk (iL a b c) λr=>.tup [.agg (enc .pms r.1),vB r.2]
 |_=>none
def fQ(a:List PMs)(b:List PEn)(e:Bs)(c:List (Int×List aC))(d:Bs)(r:Bool):Prop:=aH Tryz.prog 48 [.agg [vF .pms a,vF .pen b],vT e,.agg [vF .pfd c,vT d]] (vB r)∧ajS a b e c d r
def asY:bq Tryz.prog:=.mk 48 λ
 | [.agg [.sl .pms (.may _) a,.sl .pen (.may _) b],.str e,.agg [.sl .pfd (.may _) c,.str d]]=>pk (fQ a b e c d) λr=>vB r
 |_=>none
def gM(a:List PMs)(b:List PEn)(e:Bs)(c:List (Int×List aC))(d r:Bs):Prop:=aH Tryz.prog 49 [.agg [vF .pms a,vF .pen b],vT e,.agg [vF .pfd c,vT d]] (vT r)∧ae5 a b e c d r
def ajU:bq Tryz.prog:=.mk 49 λ
 | [.agg [.sl .pms (.may _) a,.sl .pen (.may _) b],.str e,.agg [.sl .pfd (.may _) c,.str d]]=>pk (gM a b e c d) λr=>.str r
 |_=>none
def cd(b:List PMs)(a:Bs)(r:Int):Prop:=aH Tryz.prog 84 [vF .pms b,.fn 85 [.ea [vT a]]] (vI r)∧dD b a r
def hR:bq Tryz.prog:=.mk 84 λ
 | [.sl .pms (.may _) b,.fn 85 [.ea [.str a]]]=>pk (cd b a) λr=>vI r
 |_=>none
def oF(a:PMs)(b:Bs)(r:Bool):Prop:=aH Tryz.prog 85 [.agg (enc .pms a),.ea [vT b]] (vB r)∧zf a b r
def apZ:bq Tryz.prog:=.mk 85 λ
 | [.agg [.str a,.sl .pfl (.may _) b,.sl .str (.may _) c],.ea [.str d]]=>pk (oF (⟨a,b,c⟩) d) λr=>vB r
 |_=>none
abbrev uN:=List PFl
def dX(a:List PFl)(r:uN):Prop:=aH Tryz.prog 86 [vF .pfl a] (vF .pfl r)∧iZ a r
def uO:bq Tryz.prog:=.mk 86 λ
 | [.sl .pfl (.may _) a]=>pk (dX a) λr=>vF .pfl r
 |_=>none
def fW(a r:Bss):Prop:=aH Tryz.prog 87 [vF .str a] (vF .str r)∧nK a r
def acu:bq Tryz.prog:=.mk 87 λ
 | [.sl .str (.may _) a]=>pk (fW a) λr=>vF .str r
 |_=>none
def ac1(a:PMs)(b:Bs)(r:Bool):Prop:=aH Tryz.prog 88 [.agg (enc .pms a),vT b] (vB r)∧ajR a b r
def aFT:bq Tryz.prog:=.mk 88 λ
 | [.agg [.str a,.sl .pfl (.may _) b,.sl .str (.may _) c],.str d]=>pk (ac1 (⟨a,b,c⟩) d) λr=>vB r
 |_=>none
def lD(a:PMs)(b:Int)(r:aoJ):Prop:=aH Tryz.prog 89 [.agg (enc .pms a),vI b] (.tup [.agg (enc .pfl r.1),vB r.2])∧agF a b r
def aev:bq Tryz.prog:=.mk 89 λ
 | [.agg [.str a,.sl .pfl (.may _) b,.sl .str (.may _) c],.int .i64 d]=>pk (lD (⟨a,b,c⟩) d) λr=>.tup [.agg (enc .pfl r.1),vB r.2]
 |_=>none
def qo(a:List PMs)(b:List PEn)(c:PFl)(d:List aC)(r:Bool):Prop:=aH Tryz.prog 90 [.agg [vF .pms a,vF .pen b],.agg (enc .pfl c),vF .pval d] (vB r)∧ahX a b c d r
def aDN:bq Tryz.prog:=.mk 90 λ
 | [.agg [.sl .pms (.may _) a,.sl .pen (.may _) b],.agg [.int .i64 c,.str d,.int .i64 e,.int .i64 f,.str g,.int .i64 h,.bool i,.int .i64 j],.sl .pval (.may _) k]=>pk (qo a b (⟨c,d,e,f,g,h,i,j⟩) k) λr=>vB r
 |_=>none
def aaR(a:List PMs)(b:List PEn)(c:PFl)(d:List aC)(r:Bs):Prop:=aH Tryz.prog 92 [.agg [vF .pms a,vF .pen b],.agg (enc .pfl c),vF .pval d] (vT r)∧ahY a b c d r
def aDO:bq Tryz.prog:=.mk 92 λ
 | [.agg [.sl .pms (.may _) a,.sl .pen (.may _) b],.agg [.int .i64 c,.str d,.int .i64 e,.int .i64 f,.str g,.int .i64 h,.bool i,.int .i64 j],.sl .pval (.may _) k]=>pk (aaR a b (⟨c,d,e,f,g,h,i,j⟩) k) λr=>.str r
 |_=>none
def cp(d:List bF)(a:Bs)(b:List PFl)(c:Bss)(r:Bool):Prop:=aH Tryz.prog 103 [vF .record d,.fn 138 [.ea [vT a,vF .pfl b,vF .str c]]] (vB r)∧dY d a b c r
def jO:bq Tryz.prog:=.mk 103 λ
 | [.sl .record (.may _) d,.fn 138 [.ea [.str a,.sl .pfl (.may false) b,.sl .str (.may false) c]]]=>pk (cp d a b c) λr=>vB r
 |_=>none
def sT(a:aC)(r:Bool):Prop:=aH Tryz.prog 106 [.agg (enc .pval a)] (vB r)∧acs a r
def aFU:bq Tryz.prog:=.mk 106 λ
 | [.agg [.int .u64 a,.str b,.sl .pfd (.may _) c,.str d]]=>pk (sT (.mk a b c d)) λr=>vB r
 |_=>none
def vy(a:bF)(d:Bs)(b:List PFl)(c:Bss)(r:Bool):Prop:=aH Tryz.prog 138 [.agg (enc .record a),.ea [vT d,vF .pfl b,vF .str c]] (vB r)∧ae4 a d b c r
def ayp:bq Tryz.prog:=.mk 138 λ
 | [.agg [.int .i64 a,.int .i64 b,.int .u64 c,.str d,.str e],.ea [.str i,.sl .pfl (.may false) f,.sl .str (.may false) h]]=>pk (vy (⟨a,b,c,d,e⟩) i f h) λr=>vB r
 |_=>none
def aaS(a:PFl)(b:Int)(r:Bool):Prop:=aH Tryz.prog 139 [.agg (enc .pfl a),vI b] (vB r)∧aaP a b r
def aDP:bq Tryz.prog:=.mk 139 λ
 | [.agg [.int .i64 a,.str b,.int .i64 c,.int .i64 d,.str e,.int .i64 f,.bool g,.int .i64 h],.int .i64 i]=>pk (aaS (⟨a,b,c,d,e,f,g,h⟩) i) λr=>vB r
 |_=>none
def ct(b:List PFl)(a r:Int):Prop:=aH Tryz.prog 140 [vF .pfl b,.fn 141 [.ea [vI a]]] (vI r)∧d8 b a r
def kg:bq Tryz.prog:=.mk 140 λ
 | [.sl .pfl (.may _) b,.fn 141 [.ea [.int .i64 a]]]=>pk (ct b a) λr=>vI r
 |_=>none
def rH(a:PFl)(b:Int)(r:Bool):Prop:=aH Tryz.prog 141 [.agg (enc .pfl a),.ea [vI b]] (vB r)∧abP a b r
def aua:bq Tryz.prog:=.mk 141 λ
 | [.agg [.int .i64 a,.str b,.int .i64 c,.int .i64 d,.str e,.int .i64 f,.bool g,.int .i64 h],.ea [.int .i64 i]]=>pk (rH (⟨a,b,c,d,e,f,g,h⟩) i) λr=>vB r
 |_=>none
def aaT(a:List PMs)(b:List PEn)(c:PFl)(d:List aC)(r:Bool):Prop:=aH Tryz.prog 142 [.agg [vF .pms a,vF .pen b],.agg (enc .pfl c),vF .pval d] (vB r)∧ahW a b c d r
def aDQ:bq Tryz.prog:=.mk 142 λ
 | [.agg [.sl .pms (.may _) a,.sl .pen (.may _) b],.agg [.int .i64 c,.str d,.int .i64 e,.int .i64 f,.str g,.int .i64 h,.bool i,.int .i64 j],.sl .pval (.may _) k]=>pk (aaT a b (⟨c,d,e,f,g,h,i,j⟩) k) λr=>vB r
 |_=>none
def aM(k:List aC)(a:List PMs)(b:List PEn)(c:Int)(d:Bs)(e f:Int)(g:Bs)(h:Int)(i:Bool)(j:Int)(r:Bool):Prop:=aH Tryz.prog 143 [vF .pval k,.fn 144 [.ea [vF .pms a,vF .pen b],.ea [vI c,vT d,vI e,vI f,vT g,vI h,vB i,vI j]]] (vB r)∧eF k a b c d e f g h i j r
def lP:bq Tryz.prog:=.mk 143 λ
 | [.sl .pval (.may _) k,.fn 144 [.ea [.sl .pms (.may false) a,.sl .pen (.may false) b],.ea [.int .i64 c,.str d,.int .i64 e,.int .i64 f,.str g,.int .i64 h,.bool i,.int .i64 j]]]=>pk (aM k a b c d e f g h i j) λr=>vB r
 |_=>none
def tR(a:aC)(e:List PMs)(b:List PEn)(c:Int)(j:Bs)(d l:Int)(k:Bs)(h:Int)(f:Bool)(i:Int)(r:Bool):Prop:=aH Tryz.prog 144 [.agg (enc .pval a),.ea [vF .pms e,vF .pen b],.ea [vI c,vT j,vI d,vI l,vT k,vI h,vB f,vI i]] (vB r)∧adT a e b c j d l k h f i r
def av9:bq Tryz.prog:=.mk 144 λ
 | [.agg [.int .u64 a,.str b,.sl .pfd (.may _) c,.str d],.ea [.sl .pms (.may false) i,.sl .pen (.may false) e],.ea [.int .i64 f,.str m,.int .i64 h,.int .i64 q,.str p,.int .i64 k,.bool j,.int .i64 l]]=>pk (tR (.mk a b c d) i e f m h q p k j l) λr=>vB r
 |_=>none
def vz(a:List PMs)(b:List PEn)(c:Int)(d:Bs)(e:aC)(r:Bool):Prop:=aH Tryz.prog 145 [.agg [vF .pms a,vF .pen b],vI c,vT d,.agg (enc .pval e)] (vB r)∧amx a b c d e r
def awa:bq Tryz.prog:=.mk 145 λ
 | [.agg [.sl .pms (.may _) a,.sl .pen (.may _) b],.int .i64 g,.str h,.agg [.int .u64 c,.str d,.sl .pfd (.may _) e,.str f]]=>pk (vz a b g h (.mk c d e f)) λr=>vB r
 |_=>none
def oG(a:List PMs)(b:List PEn)(c d:Int)(e:Bs)(f:aC)(r:Bs):Prop:=aH Tryz.prog 147 [.agg [vF .pms a,vF .pen b],vI c,vI d,vT e,.agg (enc .pval f)] (vT r)∧amy a b c d e f r
def awb:bq Tryz.prog:=.mk 147 λ
 | [.agg [.sl .pms (.may _) a,.sl .pen (.may _) b],.int .i64 g,.int .i64 h,.str i,.agg [.int .u64 c,.str d,.sl .pfd (.may _) e,.str f]]=>pk (oG a b g h i (.mk c d e f)) λr=>.str r
 |_=>none
def ac2(a:Int)(b:aC)(r:Bs):Prop:=aH Tryz.prog 149 [vI a,.agg (enc .pval b)] (vT r)∧ajT a b r
def aFV:bq Tryz.prog:=.mk 149 λ
 | [.int .i64 e,.agg [.int .u64 a,.str b,.sl .pfd (.may _) c,.str d]]=>pk (ac2 e (.mk a b c d)) λr=>.str r
 |_=>none
def cI(d:List bF)(a:Bs)(b:List PFl)(c:Bss)(r:Int):Prop:=aH Tryz.prog 157 [vF .record d,.fn 138 [.ea [vT a,vF .pfl b,vF .str c]]] (vI r)∧ey d a b c r
def kN:bq Tryz.prog:=.mk 157 λ
 | [.sl .record (.may _) d,.fn 138 [.ea [.str a,.sl .pfl (.may false) b,.sl .str (.may false) c]]]=>pk (cI d a b c) λr=>vI r
 |_=>none
def xS(a:Int)(r:Bool):Prop:=aH Tryz.prog 186 [vI a] (vB r)∧yp a r
def aBa:bq Tryz.prog:=.mk 186 λ
 | [.int .i64 a]=>pk (xS a) λr=>vB r
 |_=>none
def aaU(a:Int)(b c:aC)(r:Int):Prop:=aH Tryz.prog 187 [vI a,.agg (enc .pval b),.agg (enc .pval c)] (vI r)∧amw a b c r
def aHD:bq Tryz.prog:=.mk 187 λ
 | [.int .i64 i,.agg [.int .u64 a,.str b,.sl .pfd (.may _) c,.str d],.agg [.int .u64 e,.str f,.sl .pfd (.may _) g,.str h]]=>pk (aaU i (.mk a b c d) (.mk e f g h)) λr=>vI r
 |_=>none
def cY(k:List aC)(a:List PMs)(b:List PEn)(c:Int)(d:Bs)(e f:Int)(g:Bs)(h:Int)(i:Bool)(j r:Int):Prop:=aH Tryz.prog 188 [vF .pval k,.fn 144 [.ea [vF .pms a,vF .pen b],.ea [vI c,vT d,vI e,vI f,vT g,vI h,vB i,vI j]]] (vI r)∧fh k a b c d e f g h i j r
def nq:bq Tryz.prog:=.mk 188 λ
 | [.sl .pval (.may _) k,.fn 144 [.ea [.sl .pms (.may false) a,.sl .pen (.may false) b],.ea [.int .i64 c,.str d,.int .i64 e,.int .i64 f,.str g,.int .i64 h,.bool i,.int .i64 j]]]=>pk (cY k a b c d e f g h i j) λr=>vI r
 |_=>none
def ac3(a:List (Int×List aC))(b:Bs)(r:Bool):Prop:=aH Tryz.prog 189 [.agg [vF .pfd a,vT b]] (vB r)∧acr a b r
def aFW:bq Tryz.prog:=.mk 189 λ
 | [.agg [.sl .pfd (.may _) a,.str b]]=>pk (ac3 a b) λr=>vB r
 |_=>none
def xT(a:Int)(r:Bool):Prop:=aH Tryz.prog 218 [vI a] (vB r)∧agG a r
def aBb:bq Tryz.prog:=.mk 218 λ
 | [.int .i64 a]=>pk (xT a) λr=>vB r
 |_=>none
def nJ(a b r:Int):Prop:=aH Tryz.prog 219 [vI a,vI b] (vI r)∧pl a b r
def anH:bq Tryz.prog:=.mk 219 λ
 | [.int .i64 a,.int .i64 b]=>pk (nJ a b) λr=>vI r
 |_=>none
def mz(a b r:Int):Prop:=aH Tryz.prog 220 [vU a,vU b] (vI r)∧nP a b r
def alx:bq Tryz.prog:=.mk 220 λ
 | [.int .u64 a,.int .u64 b]=>pk (mz a b) λr=>vI r
 |_=>none
def gZ(a:List Int)(b:Int)(r:Bool):Prop:=aH Tryz.prog 224 [.sl (.num .i64) (.may false) a,vI b] (vB r)∧qn a b r
def afC:bq Tryz.prog:=.mk 224 λ
 | [.sl (.num .i64) (.may _) a,.int .i64 b]=>pk (gZ a b) λr=>vB r
 |_=>none
def gt(a b:Bs)(r:Int):Prop:=aH Tryz.prog 236 [vT a,vT b] (vI r)∧vx a b r
def yq:bq Tryz.prog:=.mk 236 λ
 | [.str a,.str b]=>pk (gt a b) λr=>vI r
 |_=>none
def lQ(a:Int)(r:Bool):Prop:=aH Tryz.prog 237 [vI a] (vB r)∧rG a r
def arY:bq Tryz.prog:=.mk 237 λ
 | [.int .i64 a]=>pk (lQ a) λr=>vB r
 |_=>none
def kH(a:Int)(r:Bool):Prop:=aH Tryz.prog 238 [vU a] (vB r)∧qm a r
def ap0:bq Tryz.prog:=.mk 238 λ
 | [.int .u64 a]=>pk (kH a) λr=>vB r
 |_=>none
def kh(a:List Int)(b r:Int):Prop:=aH Tryz.prog 240 [.sl (.num .i64) (.may false) a,vI b] (vI r)∧tQ a b r
def aiI:bq Tryz.prog:=.mk 240 λ
 | [.sl (.num .i64) (.may _) a,.int .i64 b]=>pk (kh a b) λr=>vI r
 |_=>none
section
open Go.AM Go.RowKit Go.Lib
set_option maxHeartbeats 2000000 in
theorem aFX(w:World):Calls Tryz.prog 87 #[.slice none 0 0] w λe w'=>e=.returned (.slice none 0 0)∧w'=w:=by
 have q:∀(w:World)(a:Option Addr)(n c b d:Nat),(binOp .eql 42 (.slice a n c) (.slice none b d)).run Tryz.prog w=.ok (.bool a.isNone) w:=λw a n c b d=>CQ w _ _ a n c b d Tryz.underlying42
 go_enter Tryz.func87,Tryz.ntmps87
 go_wp2
 go_ret
 exact⟨rfl,rfl⟩
set_option maxHeartbeats 2000000 in
theorem aDR(a:Addr)(c:Nat)(w:World):Calls Tryz.prog 87 #[.slice (some a) 0 c] w λe w'=>∃f,e=.returned f∧w'.ownsRow w.heap.size 9 1 f 0 []∧Below w.heap.size w w':=by
 have q:∀(w:World)(a:Option Addr)(n c m t:Nat),(binOp .eql 42 (.slice a n c) (.slice none m t)).run Tryz.prog w=.ok (.bool a.isNone) w:=λw a n c m t=>CQ w _ _ a n c m t Tryz.underlying42
 obtain⟨h,A,y⟩:∃i,Tryz.prog.info? 9=some i∧(i.zero,i.size,i.bytes)=(some (.string {data:= #[]}),1,16):=As.1 (show (Tryz.prog.info? 9).map (λi=>(i.zero,i.size,i.bytes))=some (some (.string {data:= #[]}),1,16) by kernel_rfl);obtain⟨r,p,l⟩:h.zero=some (.string {data:= #[]})∧h.size=1∧h.bytes=16:=by simpa using y
 have u:∀w,Sem.run Tryz.prog (underlying 42) w=.ok (TypeDesc.slice 9) w:=run_underlying Tryz.underlying42
 go_enter Tryz.func87,Tryz.ntmps87
 go_wp2_with (at_builtin;refine wpList_append_own _ rfl _ _ 42 rfl w.heap.size 9 h (.string {data:= #[]}) 1 16 Tryz.underlying42 A r p l rfl (by decide) _ _ _ rfl (World.ownsRow_made w #[] 0 (Ap _) (AR _) rfl) a 0 c [] rfl rfl (by intro j u B;simp at B) (by intro u x;cases x) (by unfold maxLen;omega) (by omega) (by simp) ?_)
 intro f C d b v
 go_wp2
 go_ret
 refine⟨f,rfl,by simpa using d,?_⟩;exact((Below.refl _ w).alloc (Ap _) _).grown b (by simp) (by intro k z;simp[Value.ownBlock] at z;omega)
set_option maxHeartbeats 2000000 in
theorem aFY(w:World):Calls Tryz.prog 86 #[.slice none 0 0] w λe w'=>e=.returned (.slice none 0 0)∧w'=w:=by
 have q:∀(w:World)(a:Option Addr)(n c b d:Nat),(binOp .eql 85 (.slice a n c) (.slice none b d)).run Tryz.prog w=.ok (.bool a.isNone) w:=λw a n c b d=>CQ w _ _ a n c b d Tryz.underlying85
 go_enter Tryz.func86,Tryz.ntmps86
 go_wp2
 go_ret
 exact⟨rfl,rfl⟩
set_option maxHeartbeats 2000000 in
theorem aDS(a:Addr)(c:Nat)(w:World):Calls Tryz.prog 86 #[.slice (some a) 0 c] w λe w'=>∃f,e=.returned f∧w'.ownsRow w.heap.size 91 8 f 0 []∧Below w.heap.size w w':=by
 have q:∀(w:World)(a:Option Addr)(n c m t:Nat),(binOp .eql 85 (.slice a n c) (.slice none m t)).run Tryz.prog w=.ok (.bool a.isNone) w:=λw a n c m t=>CQ w _ _ a n c m t Tryz.underlying85
 obtain⟨h,A,y⟩:∃i,Tryz.prog.info? 91=some i∧(i.zero,i.size,i.bytes)=(some (.agg #[.int .i64 0,.string {data:= #[]},.int .i64 0,.int .i64 0,.string {data:= #[]},.int .i64 0,.bool false,.int .i64 0]),8,80):=As.1 (show (Tryz.prog.info? 91).map (λi=>(i.zero,i.size,i.bytes))=some (some (.agg #[.int .i64 0,.string {data:= #[]},.int .i64 0,.int .i64 0,.string {data:= #[]},.int .i64 0,.bool false,.int .i64 0]),8,80) by kernel_rfl);obtain⟨r,p,l⟩:h.zero=some (.agg #[.int .i64 0,.string {data:= #[]},.int .i64 0,.int .i64 0,.string {data:= #[]},.int .i64 0,.bool false,.int .i64 0])∧h.size=8∧h.bytes=80:=by simpa using y
 have u:∀w,Sem.run Tryz.prog (underlying 85) w=.ok (TypeDesc.slice 91) w:=run_underlying Tryz.underlying85
 go_enter Tryz.func86,Tryz.ntmps86
 go_wp2_with (at_builtin;refine wpList_append_own _ rfl _ _ 85 rfl w.heap.size 91 h (.agg #[.int .i64 0,.string {data:= #[]},.int .i64 0,.int .i64 0,.string {data:= #[]},.int .i64 0,.bool false,.int .i64 0]) 8 80 Tryz.underlying85 A r p l rfl (by decide) _ _ _ rfl (World.ownsRow_made w #[] 0 (Ap _) (AR _) rfl) a 0 c [] rfl rfl (by intro j u B;simp at B) (by intro u x;cases x) (by unfold maxLen;omega) (by omega) (by simp) ?_)
 intro f C d b v
 go_wp2
 go_ret
 refine⟨f,rfl,by simpa using d,?_⟩;exact((Below.refl _ w).alloc (Ap _) _).grown b (by simp) (by intro k z;simp[Value.ownBlock] at z;omega)
theorem aHE{P:Program}{g:Gh}{w w':World}(h:HR g [] w)(c:Below w.heap.size w w'):HR g [] w'∧FR g [] w g [] w':=by
 have lt:∀b j,g.I b j->b<w.heap.size:=by
  intro b j d;have:=h.exI b j d;rcases AG b w.heap.size with e|e;·exact e
  ·simp[By,BY e] at this
 have a:∀b j,g.I b j->w'.cell? ⟨b,j,none⟩=w.cell? ⟨b,j,none⟩:=by intro b j d;simp only[By,c.block b (lt b j d)]
 refine⟨⟨by simp,by simp,by simp,by simp,λb j d=>by rw[a b j d];exact h.exI b j d,λb o i=>AJ (h.oLt b o i) c.size⟩,?_⟩;exact⟨rfl,c.os,c.tape,c.output,c.size,λb f _ _=>c.block b f,⟨λ_ _ h=>h,a,λ_ _=>rfl,Ap _⟩,λ_ _ _ _ _ h=>h,λ_ _ _ h=>h,λ_ cs h=>by simp at h⟩
theorem amz{k:EK}{f:FuncId}{e:TypeId}{n:Nat}(u:∀w,Calls Tryz.prog f #[.slice none 0 0] w λe w'=>e=.returned (.slice none 0 0)∧w'=w)
  (t:∀(a:Addr)(c:Nat)(w:World),Calls Tryz.prog f #[.slice (some a) 0 c] w λx w'=>∃p,x=.returned p∧w'.ownsRow w.heap.size e n p 0 []∧Below w.heap.size w w'):aH Tryz.prog f [.sl k (.may false) []] (.sl k (.may false) []):=by
 refine⟨[],?_⟩;intro w g j v m i q h;match j,i,h with
 |⟨[E]⟩,i,h=>
  have r0:=h 0 (.sl k (.may false) []) E rfl rfl;have d:∀(a:Addr)(c:Nat),Calls Tryz.prog f #[.slice (some a) 0 c] w λx w'=>∃cv l,x=.returned cv∧HR l [] w'∧FR g [] w l [] w'∧VRel l.I l.ρ 0 w' (.sl k (.may false) []) cv∧aP l w' .res (.sl k (.may false) []) cv:=by
   intro a c;refine(t a c w).mono ?_;rintro x w' ⟨p,rfl,⟨-,G⟩,z⟩;obtain⟨A,F⟩:=aHE (P:=Tryz.prog) m z;refine⟨p,g,rfl,A,F,?_,by simp[aP]⟩;rcases G with⟨rfl,_⟩|⟨b,cap,B,rfl,_,_,_,D,_⟩
   ·exact .sln _ _
   ·exact .sl k _ [] b 0 0 cap rfl (AR _) (A7 D (by decide)) (by simp) (λ_ _=>.bool false) (by simp) (by simp) (by simp)
  cases r0 with
  |sln=>refine(u w).mono ?_;rintro x w' ⟨rfl,rfl⟩;exact⟨_,g,rfl,m,FR.refl _ _ _,.sln _ _,by simp[aP]⟩
  |sle _ _ C=>exact d C 0
  |sl _ _ _ b r H cap y=>cases y;exact d ⟨b,r,none⟩ cap
theorem aKf(a b:ByteArray)(w:World):(callFunc 251 #[.string a,.string b]).run Tryz.prog w=.ok (.value (.int .i64 (compareBytes a.data.toList b.data.toList))) w:=by rw[run_callFunc_extern Tryz.func251 (by kernel_rfl) (by kernel_rfl) (by kernel_rfl) (e:=Extern.BytealgCompare.compare) (by kernel_rfl)];rw[Lib.run_compareString];rfl
set_option maxHeartbeats 1000000 in
theorem aIY(a b:ByteArray)(w:World):Calls Tryz.prog 236 #[.string a,.string b] w λe w'=>e=.returned (.int .i64 (compareBytes a.data.toList b.data.toList))∧w'=w:=by
 go_enter Tryz.func236,Tryz.ntmps236
 go_wp2
 rw[aKf];rw[DB]
 go_wp2
 go_ret
 exact⟨rfl,rfl⟩
theorem awc:∀a b:List UInt8,compareBytes a b=if a=b then 0 else if A2 a b then -1 else 1
 | [],[]=>by simp[compareBytes]
 | [],_::_=>by simp[compareBytes,A2]
 |_::_,[]=>by simp[compareBytes,A2]
 |a::f,b::i=>by
  simp only[compareBytes,A2,awc f i];by_cases h:a<b
  ·have c:a≠b:=λe=>by subst e;exact absurd h (UInt8.lt_irrefl _)
   simp[h,c]
  ·by_cases d:b<a
   ·have c:a≠b:=λe=>by subst e;exact absurd d (UInt8.lt_irrefl _)
    simp[h,d,c]
   ·have:a=b:=UInt8.le_antisymm (UInt8.not_lt.1 d) (UInt8.not_lt.1 h);subst this;simp[h]
theorem arZ(a b:List UInt8):∃r,gt a b r:=by
 refine⟨_,⟨[],?_⟩,rfl⟩;intro w g f p i d h c;match f,d,c with
 |⟨[j,q]⟩,d,c=>
  have r0:=c 0 (.str a) j rfl rfl;have t:=c 1 (.str b) q rfl rfl;cases r0 with
  |str _ x m u=>
  cases t with
  |str _ y k l=>
  subst m k;refine(aIY x y w).mono ?_;rintro e w' ⟨rfl,rfl⟩;refine⟨_,g,rfl,i,FR.refl _ _ _,?_,by simp[aP]⟩;rw[awc];refine .int _ _ ?_;split;·exact⟨by decide,by decide⟩
  ·split;·exact⟨by decide,by decide⟩
   ·exact⟨by decide,by decide⟩
end
def PIn(l:List Tok)(i:Int):Prop:=aCA l∧0<=i∧i<l.length
theorem PIn.next{l:List Tok}{i:Int}(h:PIn l i)(b:(l.getD i.toNat (aI .tok)).kind≠5):i+1<l.length:=by
 obtain⟨⟨d,j,c, -⟩,k,f⟩:=h;rcases Int.lt_or_le (i+1) l.length with h|h;·exact h
 ·rw[show i.toNat=l.length-1 by omega] at b;exact absurd c b
theorem PIn.small{l:List Tok}{i:Int}(h:PIn l i):(l.length:Int)<=3001:=by have:=h.1.2.1;omega
theorem PIn.tok{l:List Tok}{i:Int}(h:PIn l i):(l.getD i.toNat (aI .tok)).text.length<=3000:=by
 have b:i.toNat<l.length:=by have:=h.2;omega
 rw[Aq,Ah b];exact(h.1.2.2.2 _ (BU b)).1
theorem vA{l:List Tok}{i:Int}(h:PIn l i):Ab .i64 (i+1)=i+1:=by have:=h.2;have:=h.small;exact aT _ (by omega)
theorem aLK{l:List Tok}{i:Int}(h:PIn l i)(e a:Int):∃r,aY l i e a r:=by apply am3 1;unfold adz ady;exact aD (ixt h.2) (aE ⟨l.getD i.toNat (aI .tok),_,_,_,_,_,rfl,rfl,rfl⟩)
section
variable{Q:V×List aK->Prop}{l:List Tok}{i e a:Int}
theorem gP{K:Tok×List Tok×Int×Int×Int->Ro}(h:PIn l i)(b:Tot (K (l.getD i.toNat (aI .tok),l,i,e,a)) Q):Tot (aA (aY l i e a) K) Q:=
 aX (aLK h e a) (by rintro _ ⟨-,rfl⟩;exact b)
theorem aIZ(h:PIn l i)(p:Int):∃r,aN l i e a p r:=by
 apply akZ 1;unfold abe abd;dsimp only;refine aB (λb=>gP h ?_) (λb=>?_);·exact aE ⟨_,_,_,_,_,rfl,rfl,rfl,rfl,λh=>h⟩
 ·exact aE ⟨_,_,_,_,_,rfl,rfl,rfl,rfl,λ_=>by simpa using b⟩
theorem dr{p:Int}{K:List Tok×Int×Int×Int->Ro}(h:PIn l i)(hp:p≠0)(d:∀b c,b≠0->Tot (K (l,i,b,c)) Q):Tot (aA (aN l i e a p) K) Q:=
 aX (aIZ h p) (by rintro⟨_,_,b,c⟩ ⟨-,rfl,rfl,f⟩;exact d b c (f hp))
theorem aI0(h:PIn l i)(p:List UInt8):∃r,bw l i e a p r:=by
 apply ak0 1;unfold abh abg;dsimp only;refine aB (λb=>gP h (aB (λc=>gP h ?_) (λ_=>?_))) (λb=>?_);·refine aE ⟨_,_,_,_,_,_,rfl,rfl,rfl,λ_=>⟨by simpa using b,h.next ?_⟩⟩;dsimp only at c;rw[show (l.getD i.toNat (aI .tok)).kind=4 by simpa using c];decide
 ·exact aE ⟨_,_,_,_,_,_,rfl,rfl,rfl,λh=>by simp at h⟩
 ·exact aE ⟨_,_,_,_,_,_,rfl,rfl,rfl,λh=>by simp at h⟩
theorem aI1(h:PIn l i)(p:List UInt8):∃r,cl l i e a p r:=by
 apply ak1 1;unfold abk abj;dsimp only;refine aB (λb=>gP h (aB (λc=>gP h ?_) (λ_=>?_))) (λb=>?_);·refine aE ⟨_,_,_,_,_,_,rfl,rfl,rfl,λ_=>⟨by simpa using b,h.next ?_⟩⟩;dsimp only at c;rw[show (l.getD i.toNat (aI .tok)).kind=1 by simpa using c];decide
 ·exact aE ⟨_,_,_,_,_,_,rfl,rfl,rfl,λh=>by simp at h⟩
 ·exact aE ⟨_,_,_,_,_,_,rfl,rfl,rfl,λh=>by simp at h⟩
theorem aGB{p:List UInt8}{K:Bool×List Tok×Int×Int×Int->Ro}(h:PIn l i)(d:e=0->i+1<l.length->Tot (K (true,l,i,e,a)) Q)(f:Tot (K (false,l,i,e,a)) Q):Tot (aA (bw l i e a p) K) Q:=
 aX (aI0 h p) (by rintro⟨b,_,_,_,_⟩ ⟨-,j,c⟩;cases j;cases b;exact f;exact d (c rfl).1 (c rfl).2)
theorem aDT{p:List UInt8}{K:Bool×List Tok×Int×Int×Int->Ro}(h:PIn l i)(d:e=0->i+1<l.length->Tot (K (true,l,i,e,a)) Q)(f:Tot (K (false,l,i,e,a)) Q):Tot (aA (cl l i e a p) K) Q:=
 aX (aI1 h p) (by rintro⟨b,_,_,_,_⟩ ⟨-,j,c⟩;cases j;cases b;exact f;exact d (c rfl).1 (c rfl).2)
theorem aKg(h:PIn l i)(p:List UInt8):∃r,aJ l i e a p r:=by
 apply ak2 1;unfold abn abm;dsimp only;refine aGB h (λd f=>aB (λc=>by simp at c) (λ_=>?_)) (aB (λ_=>dr h (by decide) (λj k b=>?_)) (λc=>by simp at c));·dsimp only;rw[vA h];exact aE ⟨_,_,_,_,_,rfl,rfl,rfl,by dsimp only;omega,by dsimp only;omega,λ_=>⟨d,by dsimp only;omega⟩⟩
 ·exact aE ⟨_,_,_,_,_,rfl,rfl,rfl,Av _,h.2.2,λh=>absurd h b⟩
theorem fx{p:List UInt8}{K:List Tok×Int×Int×Int->Ro}(h:PIn l i)(k:∀b c d,PIn l b->i<=b->(c=0->e=0∧i<b)->Tot (K (l,b,c,d)) Q):Tot (aA (aJ l i e a p) K) Q:=
 aX (aKg h p) (by rintro⟨_,b,c,d⟩ ⟨-,rfl,f,j,m⟩;exact k b c d ⟨h.1,by have:=h.2;dsimp only at f;omega,j⟩ f m)
theorem aKh(h:PIn l i)(p:List UInt8):∃r,bU l i e a p r:=by
 apply ak3 1;unfold abq abp;dsimp only;refine aDT h (λb c=>?_) ?_;·dsimp only[cond_true];rw[vA h];exact aE ⟨_,_,_,_,_,_,rfl,rfl,λ_=>⟨b,rfl,c⟩,λh=>by simp at h⟩
 ·exact aE ⟨_,_,_,_,_,_,rfl,rfl,λh=>by simp at h,λ_=>rfl⟩
theorem afJ{p:List UInt8}{K:Bool×List Tok×Int×Int×Int->Ro}(h:PIn l i)(c:e=0->PIn l (i+1)->Tot (K (true,l,i+1,e,a)) Q)(f:Tot (K (false,l,i,e,a)) Q):Tot (aA (bU l i e a p) K) Q:=
 aX (aKh h p) (by
  rintro⟨b,v,u,r,t⟩ ⟨-,k,q⟩;cases b;·cases q rfl;exact f
  ·obtain⟨j,d,m⟩:=k rfl;cases d;exact c j ⟨h.1,by have:=h.2;omega,m⟩)
end
theorem aHF(s:List UInt8):∃r,pX s r:=by
 by_cases k:s.length<=9223372036854775807
 ·obtain⟨N,p⟩:∃N:Nat,N=s.length+1:=⟨_,rfl⟩
  apply axX N;unfold amh rX;refine aW (λ(x:fO)=>x.1=s∧0<=x.2∧x.2<=(s.length:Int)) (λx=>((s.length:Int)-x.2).toNat) ?_ _ _ ⟨rfl,Av 0,by dsimp only;omega⟩ (by dsimp only;omega);rintro c ⟨s',i⟩ ⟨h,d,m⟩ f;dsimp only at h d m f;subst h;unfold vk;dsimp only;refine aB (λb=>aD (ixt ⟨d,of_decide_eq_true b⟩) (aB (λ_=>aE ⟨_,_,rfl,rfl⟩) (λ_=>?_))) (λ_=>aE ⟨_,_,rfl,rfl⟩);have b:=of_decide_eq_true b;rw[aT _ (by omega)];exact f _ ⟨rfl,by dsimp only;omega,by dsimp only;omega⟩ (by dsimp only;omega)
 ·exact⟨true,aH.fits λj=>absurd (j (.str s) (by simp)) k⟩
theorem aKi(s:List UInt8):∃r,o7 s r:=by
 obtain⟨N,m⟩:∃N:Nat,N=20:=⟨_,rfl⟩
 apply aAE N;unfold ao8 uB;refine aW (λ(x:rY)=>x.2.2.1.length=15∧0<=x.2.2.2∧x.2.2.2<=15) (λx=>(15-x.2.2.2).toNat) ?_ _ _ ⟨rfl,Av 0,by dsimp only;omega⟩ (by dsimp only;omega);rintro c ⟨s',f,v,i⟩ ⟨d,h,k⟩ j;dsimp only at d h k j;unfold xB;dsimp only;refine aB (λb=>aD (ixt ⟨h,of_decide_eq_true b⟩) ?_) (λ_=>aE ⟨_,_,rfl,rfl,Av 0,by decide⟩);have b:=of_decide_eq_true b;rw[aT _ (by omega)];refine aB (λ_=>aE ⟨_,_,rfl,rfl,by omega,by omega⟩) (λ_=>?_);exact j _ ⟨d,by dsimp only;omega,by dsimp only;omega⟩ (by dsimp only;omega)
section
variable{Q:V×List aK->Prop}{l:List Tok}{i e a:Int}
theorem azC{s:List UInt8}{K:Bool->Ro}(d:Tot (K true) Q)(c:Tot (K false) Q):Tot (aA (pX s) K) Q:=aX (aHF s) (by rintro b -;cases b;exact c;exact d)
theorem ayq{s:List UInt8}{K:Int->Ro}(h:∀b:Int,0<=b∧b<=15->Tot (K b) Q):Tot (aA (o7 s) K) Q:=aX (aKi s) (by rintro b ⟨-,c⟩;exact h b c)
theorem uP{l:List Tok}{i e b:Int}(h:PIn l i)(c:b≠0):Eat l i e l i b:=⟨rfl,Av _,h.2.2,λh=>absurd h c⟩
theorem aq4{l:List Tok}{i e d:Int}(h:PIn l i)(c:(l.getD i.toNat (aI .tok)).kind≠5)(b:e=0):Eat l i e l (i+1) d:=⟨rfl,by omega,h.next c,λ_=>⟨b,by omega⟩⟩
theorem aI2(h:PIn l i):∃r,dn l i e a r:=by
 apply ajd 1;unfold aah aag;dsimp only;refine gP h (aB (λ_=>?_) (λd=>aB (λ_=>?_) (λj=>azC ?_ ?_)));·exact dr h (by decide) λc f b=>aE ⟨_,_,_,_,_,_,rfl,rfl,uP h b,AR _⟩
 ·exact dr h (by decide) λc f b=>aE ⟨_,_,_,_,_,_,rfl,rfl,uP h b,AR _⟩
 ·dsimp only at d j ⊢;rw[vA h];refine aE ⟨_,_,_,_,_,_,rfl,rfl,aq4 h ?_ (by simpa using d),h.tok⟩;rw[show (l.getD i.toNat (aI .tok)).kind=1 by simpa using j];decide
 ·refine aB (λ_=>?_) (λk=>by simp at k);exact dr h (by decide) λc f b=>aE ⟨_,_,_,_,_,_,rfl,rfl,uP h b,AR _⟩
theorem aI3(h:PIn l i):∃r,dh l i e a r:=by
 apply ak5 1;unfold abu abt;dsimp only;refine gP h (aB (λ_=>?_) (λc=>aB (λ_=>?_) (λd=>?_)));·exact dr h (by decide) λf j b=>aE ⟨_,_,_,_,_,_,rfl,rfl,uP h b,AR _⟩
 ·exact dr h (by decide) λf j b=>aE ⟨_,_,_,_,_,_,rfl,rfl,uP h b,AR _⟩
 dsimp only at c d ⊢;rw[vA h];refine aE ⟨_,_,_,_,_,_,rfl,rfl,aq4 h ?_ (by simpa using c),h.tok⟩;rw[show (l.getD i.toNat (aI .tok)).kind=1 by simpa using d];decide
theorem aI4(h:PIn l i):∃r,bG l i e a r:=by
 apply ak6 1;unfold abx abw;dsimp only;refine gP h (aB (λ_=>?_) (λc=>aB (λ_=>?_) (λd=>?_)));·exact dr h (by decide) λf j b=>aE ⟨_,_,_,_,_,_,rfl,rfl,uP h b,AR _⟩
 ·exact dr h (by decide) λf j b=>aE ⟨_,_,_,_,_,_,rfl,rfl,uP h b,AR _⟩
 dsimp only at c d ⊢;rw[vA h];refine aE ⟨_,_,_,_,_,_,rfl,rfl,aq4 h ?_ (by simpa using c),h.tok⟩;rw[show (l.getD i.toNat (aI .tok)).kind=3 by simpa using d];decide
theorem aLL(h:PIn l i):∃r,dv l i e a r:=by
 apply anb 1;unfold adC adB;dsimp only;refine gP h (aB (λ_=>?_) (λc=>aB (λ_=>?_) (λd=>?_)));·exact dr h (by decide) λf j b=>aE ⟨_,_,_,_,_,_,rfl,rfl,uP h b⟩
 ·exact dr h (by decide) λf j b=>aE ⟨_,_,_,_,_,_,rfl,rfl,uP h b⟩
 dsimp only at c d ⊢;rw[vA h];refine aE ⟨_,_,_,_,_,_,rfl,rfl,aq4 h ?_ (by simpa using c)⟩;rw[show (l.getD i.toNat (aI .tok)).kind=2 by simpa using d];decide
theorem acv{K:List UInt8×List Tok×Int×Int×Int->Ro}(h:PIn l i)(m:∀t b c d,t.length<=3000->PIn l b->i<=b->(c=0->e=0∧i<b)->Tot (K (t,l,b,c,d)) Q):Tot (aA (dn l i e a) K) Q:=
 aX (aI2 h) (by rintro⟨t,_,b,c,d⟩ ⟨-,⟨rfl,f,j,p⟩,k⟩;exact m t b c d k ⟨h.1,by have:=h.2;dsimp only at f;omega,j⟩ f p)
theorem ayr{K:List UInt8×List Tok×Int×Int×Int->Ro}(h:PIn l i)(m:∀t b c d,t.length<=3000->PIn l b->i<=b->(c=0->e=0∧i<b)->Tot (K (t,l,b,c,d)) Q):Tot (aA (dh l i e a) K) Q:=
 aX (aI3 h) (by rintro⟨t,_,b,c,d⟩ ⟨-,⟨rfl,f,j,p⟩,k⟩;exact m t b c d k ⟨h.1,by have:=h.2;dsimp only at f;omega,j⟩ f p)
theorem ays{K:List UInt8×List Tok×Int×Int×Int->Ro}(h:PIn l i)(m:∀t b c d,t.length<=3000->PIn l b->i<=b->(c=0->e=0∧i<b)->Tot (K (t,l,b,c,d)) Q):Tot (aA (bG l i e a) K) Q:=
 aX (aI4 h) (by rintro⟨t,_,b,c,d⟩ ⟨-,⟨rfl,f,j,p⟩,k⟩;exact m t b c d k ⟨h.1,by have:=h.2;dsimp only at f;omega,j⟩ f p)
theorem awd{K:Int×List Tok×Int×Int×Int->Ro}(h:PIn l i)(k:∀t b c d,PIn l b->i<=b->(c=0->e=0∧i<b)->Tot (K (t,l,b,c,d)) Q):Tot (aA (dv l i e a) K) Q:=
 aX (aLL h) (by rintro⟨t,_,b,c,d⟩ ⟨-,rfl,f,j,m⟩;exact k t b c d ⟨h.1,by have:=h.2;dsimp only at f;omega,j⟩ f m)
theorem adU{l:List Tok}{i e b c:Int}(h:PIn l b)(d:i<=b)(f:c=0->e=0∧i<b):Eat l i e l b c:=⟨rfl,d,h.2.2,f⟩
theorem PIn.up{l:List Tok}{i:Int}(h:PIn l i)(b:i+1<l.length):PIn l (i+1):=⟨h.1,by have:=h.2;omega,b⟩
theorem uQ{p:List UInt8}{K:Bool×List Tok×Int×Int×Int->Ro}(h:PIn l i)(d:e=0->PIn l (i+1)->Ab .i64 (i+1)=i+1->Tot (K (true,l,i,e,a)) Q)(c:Tot (K (false,l,i,e,a)) Q):Tot (aA (bw l i e a p) K) Q:=
 aGB h (λa b=>d a (h.up b) (vA h)) c
theorem oH{p:List UInt8}{K:Bool×List Tok×Int×Int×Int->Ro}(h:PIn l i)(d:e=0->PIn l (i+1)->Tot (K (true,l,i,e,a)) Q)(c:Tot (K (false,l,i,e,a)) Q):Tot (aA (cl l i e a p) K) Q:=
 aDT h (λa b=>d a (h.up b)) c
end
section
variable{Q:V×List aK->Prop}{l:List Tok}{i e a:Int}
theorem aKj(h:PIn l i)(p:Int):∃r,bI l i e a p r:=by
 apply ak7 1;unfold abA abz;dsimp only;refine aB (λb=>aB (λhp=>dr h (by decide) (λd f c=>?_)) (λhp=>?_)) (λb=>?_);·exact aE ⟨_,_,_,_,_,_,rfl,rfl,rfl,rfl,λ_=>c,λh=>by simp at h;exact absurd h c,λh=>absurd h c⟩
 ·have b:e=0:=by simpa using b
  have hp:=of_decide_eq_false hp;exact aE ⟨_,_,_,_,_,_,rfl,rfl,rfl,rfl,λh=>by simp[b] at h,λ_=>b,λ_=>⟨b,by omega⟩⟩
 ·have b:e≠0:=by simpa using b
  exact aE ⟨_,_,_,_,_,_,rfl,rfl,rfl,rfl,λ_=>b,λh=>by simp at h;exact absurd h b,λh=>absurd h b⟩
theorem vC{p:Int}{K:Bool×List Tok×Int×Int×Int->Ro}(h:PIn l i)(k:∀d c,d≠0->Tot (K (true,l,i,d,c)) Q)(m:∀c,e=0->p<30->Tot (K (false,l,i,0,c)) Q):Tot (aA (bI l i e a p) K) Q:=
 aX (aKj h p) (by
  rintro⟨b,_,_,d,c⟩ ⟨-,rfl,rfl,q,f,j⟩;cases b;·have f:=f rfl;dsimp only at f j;subst f;exact m c (j rfl).1 (j rfl).2
  ·exact k d c (q rfl))
theorem aI5(h:PIn l i)(n:List UInt8)(fs:List bM)(q:List (List UInt8))(j:List bi)(es:List PEn)(f:List (Int×Int))(k:List (List UInt8)):∃r,ga l i e a n fs q j es f k r:=by
 apply ajg 1;unfold aak aaj;dsimp only;have fin:∀(d p:Int),(d=0->e=0)->Tot (aA (bI l i d p (↑(Aa fs):Int)) (λr=>(some (.tup [],[some [.sl .tok (.may false) r.2.1,.int .i64 r.2.2.1,.int .i64 r.2.2.2.1,.int .i64 r.2.2.2.2],some [.str n,.sl .ffld .own fs,.sl .str .own q,.ul .fmsg j,.sl .pen .own es,.sl .u2 .own f,.sl .str .own k]]):Ro))) (λz=>∃(w:List Tok)(t A C:Int)(D:Bs)(u:List bM)(v:Bss)(x:List bi)(y:List PEn)(B:List (Int×Int))(c:Bss)(rest:List aK),z.1.dimR=.tup []∧z.2=some [.sl .tok (.may false) w,.int .i64 t,.int .i64 A,.int .i64 C]::some [.str D,.sl .ffld .own u,.sl .str .own v,.ul .fmsg x,.sl .pen .own y,.sl .u2 .own B,.sl .str .own c]::rest∧oV l i e a n fs q j es f k (w,t,A,C,D,u,v,x,y,B,c)):=by
  intro d p m;refine vC h (λG F E=>?_) (λF b hp=>?_);·exact aE ⟨_,_,_,_,_,_,_,_,_,_,_,_,rfl,rfl,rfl,rfl,λh=>absurd h E,rfl⟩
  ·exact aE ⟨_,_,_,_,_,_,_,_,_,_,_,_,rfl,rfl,rfl,rfl,λ_=>⟨m b,by omega⟩,rfl⟩
 refine aB (λm=>gP h (aB (λ_=>dr h (by decide) (λd p b=>fin _ _ λh=>absurd h b)) (λ_=>fin _ _ λh=>h))) (λm=>fin _ _ λh=>h)
theorem aDU{n:List UInt8}{fs:List bM}{k:List (List UInt8)}{j:List bi}{es:List PEn}{c:List (Int×Int)}{d:List (List UInt8)}{K:List Tok×Int×Int×Int×af0->Ro}(h:PIn l i)(p:∀b f,(b=0->e=0∧fs.length<30)->Tot (K (l,i,b,f,n,fs,k,j,es,c,d)) Q):Tot (aA (ga l i e a n fs k j es c d) K) Q:=
 aX (aI5 h n fs k j es c d) (by rintro⟨_,_,b,f,r⟩ ⟨-,rfl,rfl,m,rfl⟩;exact p b f m)
set_option maxHeartbeats 4000000 in
theorem aKk(h:PIn l i)(n:List UInt8)(fs:List bM)(w:List (List UInt8))(q:List bi)(es:List PEn)(m:List (Int×Int))(v:List (List UInt8))(p:bM)(hp:n8 p)(y:fs.length<=31):∃r,dV l i e a n fs w q es m v p r:=by
 apply ak9 1;unfold abD abC;dsimp only;obtain⟨A,C,B,D,z⟩:=hp
 repeat' (first|(with_reducible refine aB ?_ ?_<;>(intro k;(try simp only[bnl] at k);(try revert k;intro _)))|with_reducible refine aD ?_ ?_|with_reducible refine aE ?_|((refine ayr (by assumption) (λt j c d u hp f b=>?_);dsimp only))|((refine acv (by assumption) (λt j c d u hp f b=>?_);dsimp only))|((refine awd (by assumption) (λt j c d hp f b=>?_);dsimp only))|((refine fx (by assumption) (λj c d hp f b=>?_);dsimp only))|((refine dr (by assumption) (by decide) (λc d b=>?_);dsimp only))|((refine afJ (by assumption) (λb hp=>?_) ?_<;>dsimp only[cond_true,cond_false,B8,Bh]))|((refine uQ (by assumption) (λb hp x=>?_) ?_<;>dsimp only[cond_true,cond_false,B8,Bh]<;>(try rw[x])))|fail)
 all_goals first
  |contradiction
  |exact decide_eq_true (by simp only[Ai,Al];omega)
  |(refine⟨_,_,_,_,_,_,_,_,_,_,_,_,rfl,rfl,adU (by assumption) ?_ ?_,⟨_,_,_,_,_,_,_⟩,⟨?_,?_,?_,?_,?_⟩,rfl⟩<;>(try dsimp only)<;>omega)
theorem aGC{n:List UInt8}{fs:List bM}{m:List (List UInt8)}{k:List bi}{es:List PEn}{d:List (Int×Int)}{f:List (List UInt8)}{p:bM}{K:List Tok×Int×Int×Int×af0->Ro}(h:PIn l i)(hp:n8 p)(t:fs.length<=31)(v:∀b c j x,n8 x->PIn l b->i<=b->(c=0->e=0∧i<b)->Tot (K (l,b,c,j,n,fs++[x],m,k,es,d,f)) Q):Tot (aA (dV l i e a n fs m k es d f p) K) Q:=
 aX (aKk h n fs m k es d f p hp t) (by rintro⟨_,b,c,j,r⟩ ⟨-,⟨rfl,q,w,y⟩,x,u,rfl⟩;exact v b c j x u ⟨h.1,by have:=h.2;dsimp only at q;omega,w⟩ q y)
end
def FQ(l:List Tok)(i e:Int)(n:List UInt8)(fs:List bM)(v:List (List UInt8))(u:List bi)(es:List PEn)(r:List (Int×Int))(t:List (List UInt8)):V×List aK->Prop:=λz=>∃(k:List Tok)(f h w:Int)(q:Bs)(j:List bM)(c:Bss)(m:List bi)(d:List PEn)(p:List (Int×Int))(b:Bss)(rest:List aK),z.1.dimR=.tup []∧z.2=some [.sl .tok (.may false) k,.int .i64 f,.int .i64 h,.int .i64 w]::some [.str q,.sl .ffld .own j,.sl .str .own c,.ul .fmsg m,.sl .pen .own d,.sl .u2 .own p,.sl .str .own b]::rest∧Eat l i e k f h∧∃x,n8 x∧(q,j,c,m,d,p,b)=(n,fs++[x],v,u,es,r,t)
set_option maxHeartbeats 4000000 in
theorem aLM(N:Nat)(l:List Tok)(i b c d:Int)(n:List UInt8)(fs:List bM)(r:List (List UInt8))(p:List bi)(es:List PEn)(m:List (Int×Int))(q:List (List UInt8))(h:PIn l b)(f:i<b)(v:fs.length<=31):Tot (kY N (l,b,c,d,n,fs,r,p,es,m,q,0,[],[],[],0,0,0)) (FQ l i 0 n fs r p es m q):=by
 unfold kY;dsimp only
 repeat' (first|(with_reducible refine aB ?_ ?_<;>(intro k;(try simp only[bnl] at k);(try revert k;intro _)))|with_reducible refine aD ?_ ?_|with_reducible refine aE ?_|((refine ayr (by assumption) (λt b c d u hp f j=>?_);dsimp only))|((refine acv (by assumption) (λt b c d u hp f j=>?_);dsimp only))|((refine awd (by assumption) (λt b c d hp f j=>?_);dsimp only))|((refine fx (by assumption) (λb c d hp f j=>?_);dsimp only))|fail)
 ·exact decide_eq_true (by simp only[Ai,Al];omega)
 ·refine⟨_,_,_,_,_,_,_,_,_,_,_,_,rfl,rfl,adU (by assumption) ?_ ?_,⟨_,_,_,_,_,_,_⟩,⟨?_,?_,?_,?_,?_⟩,rfl⟩<;>(try dsimp only)<;>omega
set_option maxHeartbeats 4000000 in
theorem aI6{l:List Tok}{i e a:Int}(h:PIn l i)(n:List UInt8)(fs:List bM)(t:List (List UInt8))(m:List bi)(es:List PEn)(j:List (Int×Int))(p:List (List UInt8))(v:fs.length<=31):∃r,nE l i e a n fs t m es j p r:=by
 apply aji 1;show Tot _ (FQ l i e n fs t m es j p);unfold aam iv;dsimp only;have zero:∀k:Int,n8 ⟨k,[],[],[],0,0,0⟩:=λk=>⟨AR _,AR _,AR _,Av 0,by dsimp only;omega⟩
 refine afJ h (λq hp=>?_) ?_
 ·dsimp only[cond_true];subst q;have J:=λc d f (u:PIn l c) (z:i+1<=c)=>aLM 1 l i c d f n fs t m es j p u (by omega) v
  repeat' (first|(with_reducible refine aB ?_ ?_<;>(intro w;(try simp only[bnl] at w);(try revert w;intro _)))|with_reducible refine aD ?_ ?_|with_reducible refine aE ?_|((refine fx (by assumption) (λc d f hp I q=>?_);dsimp only))|((refine gP (by assumption) ?_;dsimp only))|((refine ayq (λk H=>?_)))|((refine dr (by assumption) (by decide) (λd f q=>?_);dsimp only))|fail)
  all_goals exact J _ _ _ (by assumption) (by omega)
 dsimp only[cond_false];have R:∀(k c d f:Int),PIn l c->i<=c->(d=0->e=0)->Tot (aA (dV l c d f n fs t m es j p ⟨k,[],[],[],0,0,0⟩) (λb=>(some (.tup [],[some [.sl .tok (.may false) b.1,.int .i64 b.2.1,.int .i64 b.2.2.1,.int .i64 b.2.2.2.1],some [.str b.2.2.2.2.1,.sl .ffld .own b.2.2.2.2.2.1,.sl .str .own b.2.2.2.2.2.2.1,.ul .fmsg b.2.2.2.2.2.2.2.1,.sl .pen .own b.2.2.2.2.2.2.2.2.1,.sl .u2 .own b.2.2.2.2.2.2.2.2.2.1,.sl .str .own b.2.2.2.2.2.2.2.2.2.2],some [.int .i64 k,.str ([]:Bs),.str ([]:Bs),.str ([]:Bs),.int .u64 0,.int .i64 0,.int .i64 0]]):Ro))) (FQ l i e n fs t m es j p):=by
  intro k c d f u z A;refine aGC u (zero k) v (λD G L x C E F y=>?_);have B:i<=D:=by omega
  exact aE ⟨_,_,_,_,_,_,_,_,_,_,_,_,rfl,rfl,adU E B (λh=>⟨A (y h).1,by have:=(y h).2;dsimp only;omega⟩),x,C,rfl⟩
 refine afJ h (λq hp=>?_) ?_;·dsimp only[cond_true];exact R 1 _ _ _ hp (by omega) (λh=>h)
 dsimp only[cond_false];refine afJ h (λq hp=>?_) ?_;·dsimp only[cond_true];exact R 2 _ _ _ hp (by omega) (λh=>h)
 ·dsimp only[cond_false];exact R 0 _ _ _ h (Av _) (λh=>h)
theorem aHG(c:Int):∃r,ej c r:=by
 apply avK 1;unfold ai4 ai3;dsimp only
 repeat' (first|(with_reducible refine aB ?_ ?_<;>(intro b;(try simp only[bnl] at b);(try revert b;intro _)))|with_reducible refine aD ?_ ?_|with_reducible refine aE ?_|fail)
 all_goals exact⟨_,_,rfl,rfl,λh=>by first|omega|(simp at h;omega)⟩
theorem aI7(c:Int):∃r,fG c r:=by
 apply axT 1;unfold amc amb
 repeat' (first|(with_reducible refine aB ?_ ?_<;>(intro b;(try simp only[bnl] at b);(try revert b;intro _)))|with_reducible refine aD ?_ ?_|with_reducible refine aE ?_|fail)
 all_goals exact⟨_,_,rfl,rfl,λh=>by first|omega|(exfalso;simp at h;done)|(simp at h;omega)⟩
theorem aI8(c:Int):∃r,mW c r:=by
 apply axV 1;unfold amf ame;dsimp only
 repeat' (first|(with_reducible refine aB ?_ ?_<;>(intro b;(try simp only[bnl] at b);(try revert b;intro _)))|with_reducible refine aD ?_ ?_|with_reducible refine aE ?_|fail)
 all_goals
  refine⟨_,_,rfl,rfl,?_⟩;unfold zD
  (try simp(disch:=omega) only[jX,aT])
  refine⟨?_,?_,?_⟩<;>intros<;>first|omega|trivial
theorem ap1(s:List UInt8)(i e a c b:Int):∃r,bH s i e a c b r:=by apply amU 1;unfold adp ado;exact aE ⟨⟨0,[],0,0⟩,_,_,_,_,_,rfl,rfl,rfl⟩
theorem afD(s:List UInt8)(i e a:Int)(t:List UInt8)(c:0<=i∧i<=s.length)(d:s.length<=3000)(f:t.length<=10):∃r,cG s i e a t r:=by
 apply ai7 1;unfold z9 z8;dsimp only;rw[aT _ (by omega)]
 repeat' (first|(with_reducible refine aB ?_ ?_<;>(intro b;(try simp only[bnl] at b);(try revert b;intro _)))|with_reducible refine aD ?_ ?_|with_reducible refine aE ?_|fail)
 ·first|(simp only[bnl,lnl];done)|(simp only[bnl,lnl];omega)
 ·exact⟨_,_,_,_,_,_,rfl,rfl,rfl,λ_=>by omega⟩
 ·exact⟨_,_,_,_,_,_,rfl,rfl,rfl,λh=>by simp at h⟩
theorem aKl(s:List UInt8)(i e a k:Int)(c:0<=i∧i<=s.length)(d:s.length<=3000)(f:0<=k∧k<=10):∃r,cB s i e a k r:=by
 apply amW 1;unfold ads adr;dsimp only;rw[aT _ (by omega)]
 repeat' (first|(with_reducible refine aB ?_ ?_<;>(intro b;(try simp only[bnl] at b);(try revert b;intro _)))|with_reducible refine aD ?_ ?_|with_reducible refine aE ?_|fail)
 ·exact ixt (by omega)
 ·have:=(s.getD (i+k).toNat 0).toNat_lt;exact⟨_,_,_,_,_,_,rfl,rfl,rfl,by omega,by omega,λ_=>by omega⟩
 ·exact⟨_,_,_,_,_,_,rfl,rfl,rfl,by omega,by omega,λh=>absurd rfl h⟩
theorem aI9(s:List UInt8)(i e a:Int)(hi:0<=i∧i<=s.length)(hs:s.length<=3000):∃r,oh s i e a r:=by
 apply akU 4000;unfold abb jl;refine aW (λ(x:cD)=>x.1=s∧i<=x.2.1∧x.2.1<=(s.length:Int)) (λx=>((s.length:Int)-x.2.1).toNat) ?_ _ _ ⟨rfl,by dsimp only;omega,by dsimp only;omega⟩ (by dsimp only;omega);rintro c ⟨s',j,R,S⟩ ⟨rfl,Y,Z⟩ ih;dsimp only at Y Z hs hi;unfold lY kX;dsimp only
 have q:∀(j R S:Int),i<=j->j<=s'.length->Tot (some ((.tup [],[some [.str s',.int .i64 j,.int .i64 R,.int .i64 S]]):V×List aK)) (λz=>∃(f:Bs)(d l m:Int)(rest:List aK),z.1.dimR=.tup []∧z.2=some [.str f,.int .i64 d,.int .i64 l,.int .i64 m]::rest∧dk s' i e a (f,d,l,m)):=
  λj R S h M=>aE ⟨_,_,_,_,_,rfl,rfl,rfl,h,M⟩
 have step:∀(k:Int),k=1∨k=2->j+k<=s'.length->∀u y,Tot (c (s',Ab .i64 (j+k),u,y)) (λz=>∃(f:Bs)(d l m:Int)(rest:List aK),z.1.dimR=.tup []∧z.2=some [.str f,.int .i64 d,.int .i64 l,.int .i64 m]::rest∧dk s' i e a (f,d,l,m)):=by intro k J G u y;rw[aT _ (by omega)];exact ih _ ⟨rfl,by dsimp only;omega,by dsimp only;omega⟩ (by dsimp only;omega)
 have afM:∀(z:Tok×List UInt8×Int×Int×Int)(j2 u y p1 p2:Int),qS s' j2 u y p1 p2 z->i<=j2->j2<=s'.length->Tot (some ((.tup [],[some [.str z.2.1,.int .i64 z.2.2.1,.int .i64 z.2.2.2.1,.int .i64 z.2.2.2.2]]):V×List aK)) (λz=>∃(f:Bs)(d l m:Int)(rest:List aK),z.1.dimR=.tup []∧z.2=some [.str f,.int .i64 d,.int .i64 l,.int .i64 m]::rest∧dk s' i e a (f,d,l,m)):=by rintro _ j2 u y p1 p2 rfl h M;exact q _ _ _ h M
 have N:∀(u y:Int),j<s'.length->(↑(AW (Af s' (Ad j) 0)):Int)≠10->Tot (aO 4000 (eM 4000 c) (s',j,u,y)) (λz=>∃(f:Bs)(d l m:Int)(rest:List aK),z.1.dimR=.tup []∧z.2=some [.str f,.int .i64 d,.int .i64 l,.int .i64 m]::rest∧dk s' i e a (f,d,l,m)):=by
  intro u y W hc;refine aW (λ(x:cD)=>x.1=s'∧j<=x.2.1∧x.2.1<=(s'.length:Int)) (λx=>((s'.length:Int)-x.2.1).toNat) ?_ _ _ ⟨rfl,by dsimp only;omega,by dsimp only;omega⟩ (by dsimp only;omega);rintro B ⟨O,k,P,X⟩ ⟨t,k1,L⟩ H;dsimp only at t k1 L;subst t;unfold eM;dsimp only;have go:∀k',j<k'->k'<=O.length->∀P X,Tot (c (O,k',P,X)) (λz=>∃(f:Bs)(d l m:Int)(rest:List aK),z.1.dimR=.tup []∧z.2=some [.str f,.int .i64 d,.int .i64 l,.int .i64 m]::rest∧dk O i e a (f,d,l,m)):=λk' h M P X=>ih _ ⟨rfl,by dsimp only;omega,M⟩ (by dsimp only;omega)
  repeat' (first|(with_reducible refine aB ?_ ?_<;>(intro C;(try simp only[bnl] at C);(try revert C;intro _)))|with_reducible refine aD ?_ ?_|with_reducible refine aE ?_|fail)
  ·exact ixt (by omega)
  ·rw[aT _ (by omega)];exact H _ ⟨rfl,by dsimp only;omega,by dsimp only;omega⟩ (by dsimp only;omega)
  ·rename_i ac;have:j≠k:=λe=>hc (by rw[e];simpa using ac)
   exact go k (by omega) L _ _
  ·exact go k (by omega) L _ _
 have w:∀(v u y:Int),j+2<=s'.length->Tot (aO 4000 (eN 4000 c) (v,s',j+2,u,y)) (λz=>∃(f:Bs)(d l m:Int)(rest:List aK),z.1.dimR=.tup []∧z.2=some [.str f,.int .i64 d,.int .i64 l,.int .i64 m]::rest∧dk s' i e a (f,d,l,m)):=by
  intro v u y W;refine aW (λ(x:iq)=>x.2.1=s'∧j+2<=x.2.2.1∧x.2.2.1<=(s'.length:Int)) (λx=>((s'.length:Int)-x.2.2.1).toNat) ?_ _ _ ⟨rfl,by dsimp only;omega,by dsimp only;omega⟩ (by dsimp only;omega);rintro B ⟨v,O,k,P,X⟩ ⟨t,k1,L⟩ H;dsimp only at t k1 L;subst t;unfold eN;dsimp only;refine aB (λJ=>?_) (λJ=>?_)
  ·have J:=of_decide_eq_true J;refine aX (afD O k P X [42,47] (by omega) hs (by decide)) ?_;rintro⟨b,s3,k3,e4,a4⟩ ⟨-,I,C⟩;dsimp only at I C ⊢;cases I;refine aB (λp=>?_) (λp=>?_);·rw[aT _ (by omega)];exact H _ ⟨rfl,by dsimp only;omega,by dsimp only;omega⟩ (by dsimp only;omega)
   ·have C:=C (by simpa using p);simp only[Ai,Al] at C;refine aB (λG=>?_) (λ_=>?_);·have G:=of_decide_eq_true G;omega
    ·rw[aT _ (by omega)];exact ih _ ⟨rfl,by dsimp only;omega,by dsimp only;omega⟩ (by dsimp only;omega)
  ·have J:=of_decide_eq_false J;refine aB (λG=>?_) (λG=>?_);·refine aX (ap1 _ _ _ _ _ _) ?_;rintro z ⟨-,hz⟩;exact afM z _ _ _ _ _ hz (by omega) L
   ·have G:=of_decide_eq_false G;omega
 refine aB (λW=>?_) (λ_=>q _ _ _ Y Z);have W:=of_decide_eq_true W;refine aB (λ_=>?_) (λ_=>q _ _ _ Y Z);refine aD (ixt (by omega)) ?_;have F:(↑(AW (Af s' (Ad j) 0)):Int)≠10->Tot (aA (cG s' j R S ([47,47]:Bs)) (λD=>cond D.1 (aO 4000 (eM 4000 c) (D.2.1,D.2.2.1,D.2.2.2.1,D.2.2.2.2)) (aA (cG D.2.1 D.2.2.1 D.2.2.2.1 D.2.2.2.2 ([47,42]:Bs)) (λA=>cond A.1 (aO 4000 (eN 4000 c) (A.2.2.1,A.2.1,Ab .i64 (A.2.2.1+2),A.2.2.2.1,A.2.2.2.2)) (some ((.tup [],[some [.str A.2.1,.int .i64 A.2.2.1,.int .i64 A.2.2.2.1,.int .i64 A.2.2.2.2]]):V×List aK)))))) (λz=>∃(f:Bs)(d l m:Int)(rest:List aK),z.1.dimR=.tup []∧z.2=some [.str f,.int .i64 d,.int .i64 l,.int .i64 m]::rest∧dk s' i e a (f,d,l,m)):=by intro hc;refine aX (afD s' j R S [47,47] (by omega) hs (by decide)) ?_;rintro⟨b,s3,k3,e4,a4⟩ ⟨-,I,C⟩;dsimp only at I C ⊢;cases I;refine aB (λp=>N _ _ W hc) (λp=>?_);refine aX (afD _ _ _ _ [47,42] (by omega) hs (by decide)) ?_;rintro⟨b2,s4,k4,I,a5⟩ ⟨-,e6,E⟩;dsimp only at e6 E ⊢;cases e6;refine aB (λp=>?_) (λp=>q _ _ _ Y Z);have E:=E p;simp only[Ai,Al] at E;rw[aT _ (by omega)];exact w _ _ _ (by omega)
 refine aB (λh9=>aB (λ_=>step 1 (.inl rfl) (by omega) _ _) (λaf=>aB (λ_=>step 1 (.inl rfl) (by omega) _ _) (λ_=>F ?_))) (λh9=>aB (λ_=>step 1 (.inl rfl) (by omega) _ _) (λ_=>F ?_));·have:=of_decide_eq_false af;omega
 ·have:=of_decide_eq_false h9;omega
section
variable{Q:V×List aK->Prop}{s:List UInt8}{i e a:Int}
theorem aKm{c b:Int}{K:Tok×List UInt8×Int×Int×Int->Ro}(h:Tot (K (⟨0,[],0,0⟩,s,i,c,b)) Q):Tot (aA (bH s i e a c b) K) Q:=
 aX (ap1 _ _ _ _ _ _) (by rintro _ ⟨-,rfl⟩;exact h)
theorem aJa{t:List UInt8}{K:Bool×List UInt8×Int×Int×Int->Ro}(d:0<=i∧i<=s.length)(f:s.length<=3000)(k:t.length<=10)(h:i+t.length<=s.length->Tot (K (true,s,i,e,a)) Q)(j:Tot (K (false,s,i,e,a)) Q):Tot (aA (cG s i e a t) K) Q:=
 aX (afD _ _ _ _ _ d f k) (by rintro⟨b,s',q,m,p⟩ ⟨-,c,l⟩;cases c;cases b;exact j;exact h (l rfl))
theorem zg{k:Int}{K:Int×List UInt8×Int×Int×Int->Ro}(f:0<=i∧i<=s.length)(j:s.length<=3000)(p:0<=k∧k<=10)(h:∀c:Int,0<=c∧c<=255->(c≠0->i+k<s.length)->Tot (K (c,s,i,e,a)) Q):Tot (aA (cB s i e a k) K) Q:=
 aX (aKl _ _ _ _ _ f j p) (by rintro⟨b,s',u,r,t⟩ ⟨-,d,l,m,q⟩;cases d;exact h b ⟨l,m⟩ q)
theorem zh{c:Int}{K:Bool->Ro}(h:65<=c->Tot (K true) Q)(f:Tot (K false) Q):Tot (aA (ej c) K) Q:=aX (aHG c) (by rintro b ⟨-,d⟩;cases b;exact f;exact h (d rfl))
theorem agI{c:Int}{K:Bool->Ro}(h:48<=c∧c<=57->Tot (K true) Q)(f:Tot (K false) Q):Tot (aA (fG c) K) Q:=aX (aI7 c) (by rintro b ⟨-,d⟩;cases b;exact f;exact h (d rfl))
theorem aDV{c:Int}{K:Int->Ro}(h:∀b:Int, -1<=b∧b<=15->(48<=c->c<=57->b=c-48)->Tot (K b) Q):Tot (aA (mW c) K) Q:=aX (aI8 c) (by rintro b ⟨-,d,f,j⟩;exact h b ⟨d,f⟩ j)
end
theorem aLN{b:Tok×List UInt8×Int×Int×Int->Prop}(t:Tok)(s:List UInt8)(i e a:Int)(rest:List aK)(h:b (t,s,i,e,a)):
  Tot (some ((.agg [.int .i64 t.kind,.str t.text,.int .u64 t.n,.int .i64 t.pos],some [.str s,.int .i64 i,.int .i64 e,.int .i64 a]::rest):V×List aK)) (λz=>∃(f:Tok)(c:Bs)(d j k:Int)(rest:List aK),z.1.dimR=.agg (enc .tok f)∧z.2=some [.str c,.int .i64 d,.int .i64 j,.int .i64 k]::rest∧b (f,c,d,j,k)):=
 aE ⟨t,s,i,e,a,rest,rfl,rfl,h⟩
theorem xp.fail{s:List UInt8}{i j e a:Int}{t:Tok}(h:i<=j∧j<=s.length)(b:e≠0):xp s i (t,s,j,e,a):=⟨rfl,h.1,h.2,λh=>absurd h b⟩
theorem awe(s:List UInt8)(i e a:Int)(hi:0<=i∧i<s.length)(m:s.length<=3000)(W:(48:Int)<=(s.getD i.toNat 0).toNat∧((s.getD i.toNat 0).toNat:Int)<=57):∃r,jk s i e a r:=by
 apply ajc 4000;unfold aac iu;have go:∀(b j u D:Int),b≠0->(j=i∧(b=8∧(s.getD i.toNat 0).toNat=48∨b=10)∨i<j)->j<=s.length->Tot (aO 4000 (gF 4000) (i,b,0,s,j,u,D,0,([]:Bs),0,0)) (λz=>∃(t:Tok)(p:Bs)(C F A:Int)(rest:List aK),z.1.dimR=.agg (enc .tok t)∧z.2=some [.str p,.int .i64 C,.int .i64 F,.int .i64 A]::rest∧oU s i e a (t,p,C,F,A)):=by
  intro b j u D f R H;refine aW (λ(x:c9)=>x.1=i∧x.2.1=b∧x.2.2.2.1=s∧x.2.2.2.2.1<=(s.length:Int)∧(x.2.2.2.2.1=i∧(b=8∧(s.getD i.toNat 0).toNat=48∨b=10)∨i<x.2.2.2.2.1)) (λx=>((s.length:Int)-x.2.2.2.2.1).toNat) ?_ _ _ ⟨rfl,rfl,rfl,H,R⟩ (by dsimp only;omega);rintro l ⟨E,b',v,s',k,e3,a3,Y,t1,Z,X⟩ ⟨w,B,y,O,J⟩ q;dsimp only at w B y O J q;subst w B y;unfold gF;dsimp only;have P:0<=k∧k<=s'.length:=by omega
  have hx:k=E->(s'.getD k.toNat 0).toNat=(s'.getD E.toNat 0).toNat:=λh=>by rw[h]
  have S:=(s'.getD k.toNat 0).toNat_lt
  repeat' (first|(with_reducible refine aB ?_ ?_<;>(intro f;(try simp only[bnl] at f);(try revert f;intro _)))|with_reducible refine aD ?_ ?_|with_reducible refine aE ?_|(refine aDV (λd N M=>?_))|((refine zg P m (by omega) (λc I G=>?_);dsimp only))|(refine zh (λL=>?_) ?_<;>dsimp only[cond_true,cond_false])|(refine agI (λL=>?_) ?_<;>dsimp only[cond_true,cond_false])|((refine aKm ?_;dsimp only))|fail)
  all_goals (try refine⟨⟨_,_,_,_⟩,_,_,_,_,_,rfl,rfl,?_⟩)
  all_goals (try rw[dz _ (by omega)] at*)
  all_goals first
   |exact ixt (by omega)
   |(rw[beq_eq_false_iff_ne.2 f];rfl)
   |(rw[aT (k+1) (by omega)];exact q _ ⟨rfl,rfl,rfl,by dsimp only;omega,by dsimp only;omega⟩ (by dsimp only;omega))
   |exact xp.fail (by omega) (by decide)
   |exact⟨rfl,by dsimp only;omega,by dsimp only;omega,λ_=>⟨⟨by simp,by simp⟩,.inr (by dsimp only;omega)⟩⟩
 repeat' (first|(with_reducible refine aB ?_ ?_<;>(intro f;(try simp only[bnl] at f);(try revert f;intro _)))|with_reducible refine aD ?_ ?_|with_reducible refine aE ?_|((refine aJa (by omega) m (by decide) (λf=>?_) ?_<;>dsimp only[cond_true,cond_false]))|((refine zg (by omega) m (by omega) (λc I G=>?_);dsimp only))|(refine aDV (λd N M=>?_))|fail)
 all_goals (try simp only[Ai,Al] at*)
 all_goals first
  |exact ixt (by omega)
  |(rw[aT _ (by omega)];exact go _ _ _ _ (by decide) (by omega) (by omega))
  |exact go _ _ _ _ (by decide) (by omega) (by omega)
def mu(L:Nat)(i e:Int):Nat:=(2*((L:Int)-i)).toNat+if e=0 then 1 else 0
theorem iM{L:Nat}{i e a b:Int}(c:e=0)(h:i<=a)(d:a<L)(f:b=0->i<a):mu L a b<mu L i e:=by unfold mu;rw[if_pos c];split<;>omega
theorem awf(L:Nat)(i e:Int)(h:0<=i)(a:L<=3001):mu L i e<7000:=by unfold mu;split<;>omega
theorem ayt{l:List (List UInt8)}{t:List UInt8}(h:jZ l)(b:t.length<=3000):jZ (l++[t]):=λx a=>by
 rcases Az.1 a with a|a;·exact h x a
 ·rw[Ay.1 a];exact b
theorem aKn(s:List UInt8):∃r,wK s r:=by
 by_cases j:s.length<=9223372036854775807
 ·obtain⟨N,m⟩:∃N:Nat,N=s.length+2:=⟨_,rfl⟩
  apply aAA N;unfold aoT uA;refine aW (λ(x:fO)=>x.1=s∧0<=x.2∧x.2<=(s.length:Int)) (λx=>((s.length:Int)-x.2).toNat) ?_ _ _ ⟨rfl,Av 0,by dsimp only;omega⟩ (by dsimp only;omega);rintro a ⟨s',i⟩ ⟨e,c,l⟩ d;dsimp only at e c l d;subst e;unfold xA;dsimp only;refine aB (λb=>aD (ixt ⟨c,of_decide_eq_true b⟩) ?_) (λ_=>aE ⟨_,_,rfl,rfl⟩);have b:=of_decide_eq_true b;have next:Tot (a (s',Ab .i64 (i+1))) (λz=>∃(k:Bool)(rest:List aK),z.1.dimR=.bool k∧z.2=rest):=by rw[aT _ (by omega)];exact d _ ⟨rfl,by dsimp only;omega,by dsimp only;omega⟩ (by dsimp only;omega)
  refine zh (λ_=>aB (λh=>by simp at h) (λ_=>next)) (aB (λ_=>?_) (λh=>by simp at h));refine aB (λ_=>aE ⟨_,_,rfl,rfl⟩) (λ_=>aD (ixt ⟨c,b⟩) ?_);exact agI (λ_=>aB (λh=>by simp at h) (λ_=>next)) (aB (λ_=>aE ⟨_,_,rfl,rfl⟩) (λh=>by simp at h))
 ·exact⟨true,aH.fits λf=>absurd (f (.str s) (by simp)) j⟩
theorem aLO{Q:V×List aK->Prop}{s:List UInt8}{K:Bool->Ro}(c:Tot (K true) Q)(a:Tot (K false) Q):Tot (aA (wK s) K) Q:=aX (aKn s) (by rintro b -;cases b;exact a;exact c)
theorem sU{α:Type}{l:List α}{k:Int}(d:α)(b:0<=k)(h:k<l.length):l.take (k+1).toNat=l.take k.toNat++[l.getD k.toNat d]:=by
 have a:k.toNat<l.length:=by omega
 rw[show (k+1).toNat=k.toNat+1 by omega,List.take_add_one,Aq,Ah a];rfl
theorem dJ{α:Type}{l:List α}{k:Int}(d:α)(b:0<=k)(h:k<l.length):l.getD k.toNat d∈l:=by
 have a:k.toNat<l.length:=by omega
 rw[Aq,Ah a];exact BU a
theorem yr{α:Type}{l:List α}{k:Int}(h:¬k<l.length):l.take k.toNat=l:=List.take_of_length_le (by omega)
theorem aDW{m:bi}:∀{l:List bi},yc l->m∈l->okM m
 | [],_,h=>by simp at h
 |x::l,h,a=>by
  simp only[yc] at h;rcases A3.1 a with rfl|a;·exact h.1
  ·exact aDW h.2 a
theorem azD{m:bi}:∀{l:List bi},m∈l->aon m<=eK l
 | [],h=>by simp at h
 |x::l,a=>by
  simp only[eK];rcases A3.1 a with rfl|a;·omega
  ·have:=azD a;omega
theorem ap2:∀a b:List bi,eK (a++b)=eK a+eK b
 | [],b=>by simp[eK]
 |x::a,b=>by simp only[CB,eK,ap2 a b];omega
theorem aHH(l:List bi)(k:Nat):eK (l.take k)<=eK l:=by have:=ap2 (l.take k) (l.drop k);rw[BS] at this;omega
theorem aGD(x:bi):okM x↔x.name.length<=3000∧(x.fields.length<=31∧∀f∈x.fields,n8 f)∧(x.oneofs.length<=30∧jZ x.oneofs)∧(x.msgs.length<=31∧yc x.msgs)∧(x.enums.length<=31∧∀e∈x.enums,aeb e)∧x.nums.length<=31∧(x.names.length<=31∧jZ x.names):=by cases x;simp only[okM,bi.name,bi.fields,bi.oneofs,bi.msgs,bi.enums,bi.nums,bi.names]
theorem aKo(x:bi):aon x=eK x.msgs+1:=by cases x;simp only[aon,bi.msgs]
theorem aOf(x:bi):bi.mk x.name x.fields x.oneofs x.msgs x.enums x.nums x.names=x:=aok x
theorem aLP:okM (.mk [] [] [] [] [] [] []):=by simp only[okM,yc];exact⟨by decide,⟨by decide,λ_ h=>by simp at h⟩,⟨by decide,λ_ h=>by simp at h⟩,⟨by decide,trivial⟩,⟨by decide,λ_ h=>by simp at h⟩,by decide,by decide,λ_ h=>by simp at h⟩
theorem cu{k:Int}(a:0<=k)(h:k<1000000000000):Ab .i64 (k+1)=k+1:=aT _ (by omega)
section
variable{Q:V×List aK->Prop}
theorem aLQ(l:Bss)(s:Bs)(t:l.length<=1000000):∃r,eL l s r:=by
 obtain⟨N,q⟩:∃N:Nat,N=1000001:=⟨_,rfl⟩
 apply aDl N;unfold asL wR;refine aW (λ(x:uD)=>x.1=l∧x.2.1=s∧0<=x.2.2∧x.2.2<=l.length∧s ∉ l.take x.2.2.toNat) (λx=>(l.length-x.2.2).toNat) ?_ _ _ ⟨rfl,rfl,Av _,by dsimp only;omega,by simp⟩ (by dsimp only;omega);rintro f ⟨u,s',k⟩ ⟨i,j,d,p,e⟩ m;dsimp only at i j d p e m;subst i j;unfold aap;dsimp only;refine aB (λa=>?_) (λa=>?_)
 ·have a:=of_decide_eq_true a;refine aD (ixt ⟨d,a⟩) (aB (λb=>?_) (λb=>?_));·have b:=of_decide_eq_true b;exact aE ⟨true,_,rfl,rfl,λ_=>b▸dJ _ d a,λ_=>rfl⟩
  ·have b:=of_decide_eq_false b;rw[cu d (by omega)];refine m _ ⟨rfl,rfl,by first|omega|(dsimp only;omega),by first|omega|(dsimp only;omega),?_⟩ (by first|omega|(dsimp only;omega));dsimp only;rw[sU (aI .str) d a];intro c;rcases Az.1 c with c|c;·exact e c
   ·exact b (Ay.1 c).symm
 ·have a:=of_decide_eq_false a;rw[yr a] at e;exact aE ⟨false,_,rfl,rfl,λh=>by simp at h,λh=>absurd h e⟩
theorem ap3{l:Bss}{s:Bs}{K:Bool->Ro}(e:l.length<=1000000)(c:s∈l->Tot (K true) Q)(d:s ∉ l->Tot (K false) Q):Tot (aA (eL l s) K) Q:=aX (aLQ l s e) (by
 rintro b ⟨-,a⟩;cases b;·exact d (λh=>by simpa using a.2 h)
 ·exact c (a.1 rfl))
theorem aKp(a b:Bs)(d:a.length<=1000000000)(c:b.length<=1000000000):∃r,o8 a b r:=by
 apply aAI 1;unfold apd apc;dsimp only;refine aB (λ_=>aD (decide_eq_true (by omega)) (aE ⟨_,_,rfl,rfl,?_⟩)) (λ_=>aB (λ_=>aD (decide_eq_true (by omega)) (aE ⟨_,_,rfl,rfl,?_⟩)) (λ_=>aD (decide_eq_true (by simp only[Ai,Al];omega)) (aD (decide_eq_true (by simp only[Ak,Ai,Al];omega)) (aE ⟨_,_,rfl,rfl,?_⟩))));·show (a++b).length<=_;simp only[Ak];omega
 ·show (a++b).length<=_;simp only[Ak];omega
 ·show (a++[46]++b).length<=_;simp only[Ak,Ai,Al];omega
theorem ayu{a b:Bs}{K:Bs->Ro}(d:a.length<=1000000000)(e:b.length<=1000000000)(h:∀r,r.length<=a.length+b.length+1->Tot (K r) Q):Tot (aA (o8 a b) K) Q:=aX (aKp a b d e) (by rintro r ⟨-,c⟩;exact h r c)
def aKq(n:Nat):Prop:=∀(b:List bi)(es:List PEn)(c a:Bs),eK b<=n->yc b->b.length<=31->es.length<=31->(∀e∈es,aeb e)->c.length+3001*(eK b+1)<=100000000->∃r,rW b es c a r
def WQ8(d:List bi)(es:List PEn)(b a:Bs):V×List aK->Prop:=λz=>∃(c:List PNm)(rest:List aK),z.1.dimR=.sl .nms (.may false) c∧z.2=rest∧yd d es b a c
theorem aFZ(n:Nat)(hW:∀k,k<n->aKq k):aKq n:=by
 intro i es f e hn H ad W G R;obtain⟨N,hN⟩:∃N:Nat,N=1000:=⟨_,rfl⟩
 apply avO N;show Tot _ (WQ8 i es f e);unfold ajq p9;have ab:eK i<=100000:=by omega
 obtain⟨B,hB⟩:∃B,B=f.length+3001*(eK i+1):=⟨_,rfl⟩
 have X:B<=100000000:=by omega
 have S:f.length+3001<=B:=by omega
 refine aW (λ(x:f9)=>match x with|(P,A,v,y,c,k)=>(P,A,v,y)=(i,es,f,e)∧0<=k∧k<=i.length∧c.length<=32*eK (i.take k.toNat)∧∀x∈c,aoo B x) (λx=>(i.length-x.2.2.2.2.2).toNat) ?_ _ _ ⟨rfl,Av _,by omega,AR _,λx u=>by simp at u⟩ (by dsimp only;omega);rintro I ⟨P,A,v,y,c,k⟩ ⟨q,p,hk,L,u⟩ J;cases q;dsimp only at J;unfold tA rj;dsimp only;have ht:=aHH i k.toNat;refine aB (λb=>?_) (λb=>?_)
 ·have b:=of_decide_eq_true b;have l:=dJ (aI .fmsg) p b;have z:=sU (aI .fmsg) p b;obtain⟨m,t⟩:∃m,m=Af i k.toNat (aI .fmsg):=⟨_,rfl⟩
  rw[<-t] at l z ⊢;have w:=aDW H l;have Y:=azD l;have aa:=aKo m;have r:=(aGD m).1 w;refine aD (ixt ⟨p,b⟩) (ayu (by omega) (by have:=r.1;omega) (λM F=>aD (ixt ⟨p,b⟩) (aD (decide_eq_true (by simp only[Ai,Al];omega)) (aD (ixt ⟨p,b⟩) (aD (ixt ⟨p,b⟩) ?_)))));have af:=r.1;refine aX (hW (eK m.msgs) (by omega) m.msgs m.enums M e (Ap _) r.2.2.2.1.2 r.2.2.2.1.1 r.2.2.2.2.1.1 r.2.2.2.2.1.2 (by omega)) ?_;rintro r2 ⟨-,p1,Z⟩;have O:=r.2.2.2.2.1.1;refine aD (decide_eq_true (by simp only[Ak,Ai,Al];omega)) ?_;rw[cu p (by omega)];refine J _ ⟨rfl,by first|omega|(dsimp only;omega),by first|omega|(dsimp only;omega),?_,?_⟩ (by first|omega|(dsimp only;omega));·rw[z,ap2];simp only[eK,Ak,Ai,Al];omega
  ·intro x a;rw[aOf] at a;rcases Az.1 a with a|a
   ·rcases Az.1 a with a|a;·exact u x a
    ·rw[Ay.1 a];exact⟨.inl rfl,w,⟨AR _,AR _,λ_ h=>by simp at h⟩,by dsimp only;omega⟩
   ·have:=Z x a;exact⟨this.1,this.2.1,this.2.2.1,by have:=this.2.2.2;omega⟩
 ·have b:=of_decide_eq_false b;rw[yr b] at L;refine aW (λ(x:oi)=>match x with|(A,v,y,c,k)=>(A,v,y)=(es,f,e)∧0<=k∧k<=es.length∧(c.length:Int)<=32*eK i+k∧∀x∈c,aoo B x) (λx=>(es.length-x.2.2.2.2).toNat) ?_ _ _ ⟨rfl,Av _,by omega,by omega,u⟩ (by dsimp only;omega);rintro D ⟨A,v,y,c,j⟩ ⟨q,E,hj,L,u⟩ C;cases q;dsimp only at C;unfold oj;dsimp only;refine aB (λd=>?_) (λd=>?_)
  ·have d:=of_decide_eq_true d;have l:=G _ (dJ (aI .pen) E d);obtain⟨m,t⟩:∃m,m=Af es j.toNat (aI .pen):=⟨_,rfl⟩
   rw[<-t] at l ⊢;refine aD (ixt ⟨E,d⟩) (ayu (by omega) (by have:=l.1;omega) (λM F=>aD (ixt ⟨E,d⟩) (aD (decide_eq_true (by simp only[Ai,Al];omega)) ?_)));rw[cu E (by omega)];refine C _ ⟨rfl,by first|omega|(dsimp only;omega),by first|omega|(dsimp only;omega),by simp only[Ak,Ai,Al];omega,?_⟩ (by first|omega|(dsimp only;omega));intro x a;rcases Az.1 a with a|a;·exact u x a
   ·rw[Ay.1 a];exact⟨.inr rfl,aLP,l,by have:=l.1;dsimp only;omega⟩
  ·have d:=of_decide_eq_false d;exact aE ⟨c,_,rfl,rfl,by omega,λx a=>hB▸u x a⟩
theorem aHI(n:Nat):aKq n:=by
 induction n using C7 with
 |_ n a=>exact aFZ n a
theorem aLR(l:List ch)(h:u7 l):∃r,vg l r:=by
 obtain⟨N,A⟩:∃N:Nat,N=1000:=⟨_,rfl⟩
 apply aDo N;unfold asN wS;have y:=h.1;refine aW (λ(x:uE)=>match x with|(p,c,k)=>p=l∧0<=k∧k<=l.length∧(c.length:Int)<=100000*k∧∀x∈c,aoo 10000000 x) (λx=>(l.length-x.2.2).toNat) ?_ _ _ ⟨rfl,Av _,by omega,by simp,λx d=>by simp at d⟩ (by dsimp only;omega);rintro j ⟨p,c,k⟩ ⟨q,f,E,y,d⟩ u;subst q;dsimp only at u;unfold aas;dsimp only;refine aB (λb=>?_) (λb=>?_)
 ·have b:=of_decide_eq_true b;have w:=(h.2 _ (dJ (aI .fil) f b)).1;obtain⟨m,i⟩:∃m,m=Af p k.toNat (aI .fil):=⟨_,rfl⟩
  rw[<-i] at w ⊢;have e:=ixt ⟨f,b⟩;obtain⟨B,F,v,t⟩:=w;refine aD e (aD e (aD e (aD e (aX (aHI _ m.msgs m.enums m.pack m.name (Ap _) v.2.1 v.1 t.1 t.2 (by omega)) ?_))));rintro C ⟨-,D,z⟩;refine aD (decide_eq_true (by omega)) ?_;rw[cu f (by omega)];refine u _ ⟨rfl,by first|omega|(dsimp only;omega),by first|omega|(dsimp only;omega),by simp only[Ak];omega,?_⟩ (by first|omega|(dsimp only;omega));intro x a;rcases Az.1 a with a|a;·exact d x a
  ·have:=z x a;exact⟨this.1,this.2.1,this.2.2.1,by have:=this.2.2.2;omega⟩
 ·exact aE ⟨c,_,rfl,rfl,λ_=>⟨by omega,d⟩⟩
theorem aJb{l:List ch}{K:List PNm->Ro}(h:u7 l)(b:∀r:List PNm,r.length<=100000->(∀x∈r,aoo 10000000 x)->Tot (K r) Q):Tot (aA (vg l) K) Q:=aX (aLR l h) (by rintro r ⟨-,a⟩;exact b r (a h).1 (a h).2)
def FiQ:V×List aK->Prop:=λz=>∃(c:Bs)(a b:Int)(rest:List aK),z.1.dimR=.tup [.str c,.int .i64 a,.int .i64 b]∧z.2=rest∧(b=0->a=16∨a=17)
theorem aLS(N:Nat)(Y:N=20000000)(J t:Bs)(i:Bss)(l:List PNm)(O:J.length<=10000000)(hr:t.length<=3000)(H:i.length<=1000000)(hl:l.length<=100000)(W:∀x∈l,aoo 10000000 x):Tot (aO N (nT N) (J,t,i,l)) FiQ:=by
 refine aW (λ(x:eW)=>match x with|(v,z,B,P)=>(z,B,P)=(t,i,l)∧v.length<=10000000) (λx=>x.1.length) ?_ _ _ ⟨rfl,O⟩ (by dsimp only;omega);rintro p ⟨v,z,B,P⟩ ⟨q,O⟩ I;cases q;dsimp only at I;unfold nT vo;dsimp only;have m:∀(f w:Bs),f.length<=v.length->Tot (aO N (nS N p) (f,t,i,l,w,0)) FiQ:=by
  intro f w R;refine aW (λ(x:iY)=>match x with|(a,b,c,d,e,k)=>(a,b,c,d,e)=(f,t,i,l,w)∧0<=k∧k<=l.length) (λx=>(l.length-x.2.2.2.2.2).toNat) ?_ _ _ ⟨rfl,Av _,by omega⟩ (by dsimp only;omega);rintro F ⟨a,b,c,d,e,k⟩ ⟨q,G,u⟩ D;cases q;dsimp only at D;unfold nS vn;dsimp only;refine aB (λr=>?_) (λr=>?_);·have r:=of_decide_eq_true r;have e:=ixt ⟨G,r⟩;have S:=W _ (dJ (aI .nms) G r);rw[cu G (by omega)];have go:=D (f,t,i,l,w,k+1) ⟨rfl,by first|omega|(dsimp only;omega),by first|omega|(dsimp only;omega)⟩ (by first|omega|(dsimp only;omega));exact aD e (aB (λ_=>aD e (ap3 H (λ_=>aB (λ_=>aD e (aE ⟨_,_,_,_,rfl,rfl,λ_=>S.1⟩)) (λh=>by simp at h)) (λ_=>aB (λh=>by simp at h) (λ_=>go)))) (λ_=>go))
  ·refine aB (λ_=>aE ⟨_,_,_,_,rfl,rfl,λh=>by simp at h⟩) (λj=>?_);have j:f≠[]:=of_decide_eq_false j;have y:0<f.length:=Cc.2 j;rw[aT ((f.length:Int)-1) (by omega)];refine aW (λ(x:sb)=>match x with|(a,b,c,d,k)=>(a,b,c,d)=(f,t,i,l)∧ -1<=k∧k<f.length) (λx=>(x.2.2.2.2+1).toNat) ?_ _ _ ⟨rfl,by omega,by omega⟩ (by dsimp only;omega);rintro E ⟨a,b,c,d,k⟩ ⟨q,k0,L⟩ C;cases q;dsimp only at C;unfold sd;dsimp only;have A:∀x:Int,0<=x->x<f.length->Tot (chk ((decide (0<=x)&&decide (x<=(↑(Aa f):Int)))) (p (An 0 (Ao (Ad x) f),t,i,l))) FiQ:=by
    intro x x0 Z;have M:(An 0 (Ao (Ad x) f)).length=x.toNat:=by simp only[Bz,Bt];omega
    exact aD (by simp only[Ac,decide_eq_true_eq];omega) (I _ ⟨rfl,by first|omega|(dsimp only;omega)⟩ (by first|omega|(dsimp only;omega)))
   refine aB (λu=>?_) (λu=>?_);·have u:=of_decide_eq_true u;rw[if_neg (by omega)];refine aD (ixt ⟨u,L⟩) (aB (λ_=>?_) (λ_=>A k u L));rw[aT (k-1) (by omega)];exact C _ ⟨rfl,by first|omega|(dsimp only;omega),by first|omega|(dsimp only;omega)⟩ (by first|omega|(dsimp only;omega))
   ·have u:=of_decide_eq_false u;rw[if_pos (by omega)];exact A 0 (Av _) (by omega)
 refine ayu (by omega) (by omega) (λr2 X=>aB (λj=>aD ?_ (aB (λ_=>aD ?_ (m _ _ (AR _))) (λ_=>m _ _ (Ap _)))) (λ_=>m _ _ (Ap _)))
 all_goals
  have j:t≠[]:=by simpa using j
  have y:0<t.length:=Cc.2 j;simp only[Ac,decide_eq_true_eq];omega
theorem aKr(l:List ch)(a d f:Bs)(h:u7 l)(A:d.length<=10000000)(B:f.length<=3000):∃r,ac0 l a d f r:=by
 obtain⟨N,w⟩:∃N:Nat,N=20000000:=⟨_,rfl⟩
 apply aAL N;show Tot _ FiQ;unfold ape uF;have C:=h.1;refine aW (λ(x:iX)=>match x with|(v,u,s',t,m,k)=>(v,u,s',t)=(l,a,d,f)∧m.length<=1000000∧0<=k∧k<=l.length) (λx=>(l.length-x.2.2.2.2.2).toNat) ?_ _ _ ⟨rfl,AR _,Av _,by omega⟩ (by dsimp only;omega);rintro p ⟨v,u,s',t,m,k⟩ ⟨q,c,i,E⟩ j;cases q;dsimp only at j;unfold xH vp;dsimp only;refine aB (λb=>?_) (λb=>aJb h (λr y z=>aLS N w _ _ _ _ A B c y z));have b:=of_decide_eq_true b;have e:=ixt ⟨i,b⟩;have D:=(h.2 _ (dJ (aI .fil) i b)).2;rw[cu i (by omega)];refine aD e (aB (λ_=>aD e ?_) (λ_=>?_));·exact j (l,a,d,f,_,k+1) ⟨rfl,by first|omega|(dsimp only;omega),by first|omega|(dsimp only;omega),by first|omega|(dsimp only;omega)⟩ (by first|omega|(dsimp only;omega))
 ·exact j (l,a,d,f,m,k+1) ⟨rfl,c,by first|omega|(dsimp only;omega),by first|omega|(dsimp only;omega)⟩ (by first|omega|(dsimp only;omega))
end
theorem rI{α R:Type}(n:Nat)(B:(α->Option R)->α->Option R)(x:α):aO (n+1) B x=B (aO n B) x:=rfl
theorem qp(N:Nat)(rec:(List UInt8×Int×Int×Int×Int)->Option (V×List aK))(s:List UInt8)(v n i:Nat)(l:Int)(x:UInt8)(a:s.getD i 0=x)(f:v<2^20)(b:i<n)(j:n<=s.length)(e:n<=4):
  fe N rec (s,(n:Int),(v:Int),l,(i:Int))=if 128<=x.toNat∧x.toNat<=191 then rec (s,(n:Int),((v*64+x.toNat%64:Nat):Int),l,((i+1:Nat):Int)) else some (.tup [.int .u32 0,.int .i64 0],[]):=by
 have h:=BP x;simp only[fe,AK,a];by_cases c:x.toNat<128;·rw[if_neg (by omega)];simp(disch:=omega) only[bj,]
 by_cases d:191<x.toNat;·rw[if_neg (by omega)];simp(disch:=omega) only[bj,]
 ·rw[if_pos (by omega)];simp(disch:=omega) only[bj,];rw[show (v:Int)*64+((x.toNat:Int)-128)=((v*64+x.toNat%64:Nat):Int) by omega];rfl
theorem aly(N:Nat)(rec:(List UInt8×Int×Int×Int×Int)->Option (V×List aK))(s:List UInt8)(v n l:Nat):
  fe N rec (s,(n:Int),(v:Int),(l:Int),(n:Int))=if l<=v∧v<=1114111∧¬(55296<=v∧v<=57343) then some (.tup [.int .u32 v,.int .i64 n],[]) else some (.tup [.int .u32 0,.int .i64 0],[]):=by
 simp only[fe];by_cases a:v<l;·rw[if_neg (by omega)];simp(disch:=omega) only[bj,]
 by_cases c:1114111<v;·rw[if_neg (by omega)];simp(disch:=omega) only[bj,]
 by_cases b:55296<=v
 ·by_cases d:v<=57343;·rw[if_neg (by omega)];simp(disch:=omega) only[bj,]
  ·rw[if_pos (by omega)];simp(disch:=omega) only[bj,]
 ·rw[if_pos (by omega)];simp(disch:=omega) only[bj,]
theorem aKs(M:Nat)(a b:UInt8)(t:List UInt8)(v:Nat)(f:v<32)(e:a.toNat=192+v):
  aO (M+5) (fe (M+5)) (a::b::t,((2:Nat):Int),(v:Int),((128:Nat):Int),((1:Nat):Int))=some (.tup [.int .u32 (dT 2 v (a::b::t)).1,.int .i64 (dT 2 v (a::b::t)).2],[]):=by
 have d:=aOs a b v f e;rw[rI,qp _ _ _ _ 2 1 _ b rfl (by omega) (by omega) (by simp) (by omega),rI,aly];simp only[dT];rw[if_neg (show ¬(a::b::t).length<2 by simp)];simp only[Cd,CR,CT,BG,CZ,d];by_cases c:128<=b.toNat∧b.toNat<=191
 ·rw[if_pos c];by_cases h:128<=v*64+b.toNat%64;·rw[if_pos (by omega),if_pos (by omega)]
  ·rw[if_neg (by omega),if_neg (by omega)];rfl
 ·rw[if_neg c,if_neg (by omega)];rfl
theorem aKt(M:Nat)(a b c:UInt8)(t:List UInt8)(v:Nat)(i:v<16)(h:a.toNat=224+v):
  aO (M+5) (fe (M+5)) (a::b::c::t,((3:Nat):Int),(v:Int),((2048:Nat):Int),((1:Nat):Int))=some (.tup [.int .u32 (dT 3 v (a::b::c::t)).1,.int .i64 (dT 3 v (a::b::c::t)).2],[]):=by
 have f:=aOt a b c v i h _ rfl;rw[rI,qp _ _ _ _ 3 1 _ b rfl (by omega) (by omega) (by simp) (by omega),rI,qp _ _ _ _ 3 2 _ c rfl (by omega) (by omega) (by simp) (by omega),rI,aly];simp only[dT];rw[if_neg (show ¬(a::b::c::t).length<3 by simp)];simp only[Cd,CR,CT,BG,CZ,f];by_cases d:128<=b.toNat∧b.toNat<=191
 ·rw[if_pos d];by_cases e:128<=c.toNat∧c.toNat<=191
  ·rw[if_pos e];by_cases j:2048<=(v*64+b.toNat%64)*64+c.toNat%64∧¬(55296<=(v*64+b.toNat%64)*64+c.toNat%64∧(v*64+b.toNat%64)*64+c.toNat%64<=57343);·rw[if_pos (by omega),if_pos (by omega)]
   ·rw[if_neg (by omega),if_neg (by omega)];rfl
  ·rw[if_neg e,if_neg (by omega)];rfl
 ·rw[if_neg d,if_neg (by omega)];rfl
theorem aKu(M:Nat)(a b c d:UInt8)(t:List UInt8)(v:Nat)(k:v<8)(j:a.toNat=240+v):
  aO (M+5) (fe (M+5)) (a::b::c::d::t,((4:Nat):Int),(v:Int),((65536:Nat):Int),((1:Nat):Int))=some (.tup [.int .u32 (dT 4 v (a::b::c::d::t)).1,.int .i64 (dT 4 v (a::b::c::d::t)).2],[]):=by
 have i:=aOu a b c d v k j _ rfl;rw[rI,qp _ _ _ _ 4 1 _ b rfl (by omega) (by omega) (by simp) (by omega),rI,qp _ _ _ _ 4 2 _ c rfl (by omega) (by omega) (by simp) (by omega),rI,qp _ _ _ _ 4 3 _ d rfl (by omega) (by omega) (by simp) (by omega),rI,aly];simp only[dT];rw[if_neg (show ¬(a::b::c::d::t).length<4 by simp)];simp only[Cd,CR,CT,BG,CZ,i];by_cases e:128<=b.toNat∧b.toNat<=191
 ·rw[if_pos e];by_cases f:128<=c.toNat∧c.toNat<=191
  ·rw[if_pos f];by_cases h:128<=d.toNat∧d.toNat<=191
   ·rw[if_pos h];by_cases l:65536<=((v*64+b.toNat%64)*64+c.toNat%64)*64+d.toNat%64∧((v*64+b.toNat%64)*64+c.toNat%64)*64+d.toNat%64<=1114111;·rw[if_pos (by omega),if_pos (by omega)]
    ·rw[if_neg (by omega),if_neg (by omega)];rfl
   ·rw[if_neg h,if_neg (by omega)];rfl
  ·rw[if_neg f,if_neg (by omega)];rfl
 ·rw[if_neg e,if_neg (by omega)];rfl
theorem aub(M:Nat)(s:List UInt8)(a:s.length<=9223372036854775807):
  aet (M+5) s=some (.tup [.int .u32 (fC s).1,.int .i64 (fC s).2],[]):=by
 match s with
 | []=>rfl
 |c::t=>
  have i:c.toNat<256:=BP _;rw[Ai] at a;simp only[aet,sq,fC,fY,Ai,DI,Bm];by_cases h:c.toNat<128;·simp(disch:=omega) only[bj,];rfl
  by_cases k:c.toNat<192;·simp(disch:=omega) only[bj,];rfl
  by_cases j:c.toNat<224
  ·have e:c.toNat / 32=6:=by omega
   match t with
   | []=>simp(disch:=omega) only[bj,dT,Ai,Al];rfl
   |b::t=>rw[Ai] at a;simp(disch:=omega) only[bj,e,Ai];rw[show (c.toNat:Int)-192=((c.toNat%32:Nat):Int) by omega];exact aKs M c b t _ (by omega) (by omega)
  by_cases l:c.toNat<240
  ·have e:c.toNat / 16=14:=by omega
   match t with
   | []=>simp(disch:=omega) only[bj,dT,Ai,Al];rfl
   | [b]=>simp(disch:=omega) only[bj,dT,Ai,Al];rfl
   |b::d::t=>rw[Ai,Ai] at a;simp(disch:=omega) only[bj,e,Ai];rw[show (c.toNat:Int)-224=((c.toNat%16:Nat):Int) by omega];exact aKt M c b d t _ (by omega) (by omega)
  by_cases m:c.toNat<248
  ·have e:c.toNat / 8=30:=by omega
   match t with
   | []=>simp(disch:=omega) only[bj,dT,Ai,Al];rfl
   | [b]=>simp(disch:=omega) only[bj,dT,Ai,Al];rfl
   | [b,d]=>simp(disch:=omega) only[bj,dT,Ai,Al];rfl
   |b::d::f::t=>rw[Ai,Ai,Ai] at a;simp(disch:=omega) only[bj,e,Ai];rw[show (c.toNat:Int)-240=((c.toNat%8:Nat):Int) by omega];exact aKu M c b d f t _ (by omega) (by omega)
  ·simp(disch:=omega) only[bj,];rfl
theorem mA{P:Program}{f:FuncId}{vs:List V}{R:Type}{ret:R->V}{r0:R}(h:(∀x∈vs,x.fits)->∃r,aH P f vs (ret r)∧r=r0):∃r,aH P f vs (ret r)∧r=r0:=
 ⟨r0,aH.fits λa=>by obtain⟨r,b,rfl⟩:=h a;exact b,rfl⟩
theorem aL{R a:Type}{Q:R->Prop}[Inhabited a]{C:a->Prop}{K:a->Option R}{r0:a}(h:∃r,C r)(c:∀r,C r->r=r0)(d:Tot (K r0) Q):Tot (aA C K) Q:=aX h λr b=>by rw[c r b];exact d
theorem aJc(s:List UInt8):∃r,ait s r:=⟨fo s,axz s,rfl⟩
theorem aHJ(s:List UInt8):∃r,agh s r:=⟨fo s,avp s,rfl⟩
theorem afK(x:bF)(h:x.s.length<=9223372036854000000):∃r,qG x r:=⟨i9 x,aCZ _ _ _ _ _ (decide_eq_true h),rfl⟩
theorem agJ(x:bF)(h:x.s.length<=9223372036854000000):∃r,q8 x r:=⟨i9 x,aAh _ _ _ _ _ (decide_eq_true h),rfl⟩
theorem aBc(v:Int):∃r,yh v r:=⟨dK v,aa7 v,rfl⟩
theorem aGE(v n:Int)(h:n<=1000):∃r,afx v n r:=⟨gX v n,al1 v n (decide_eq_true h),rfl⟩
theorem ap4(k:Int):∃r,wJ k r:=⟨ei k,axG k,rfl⟩
theorem aLT(k n:Int):∃r,aoN k n r:=⟨toR k n,aC4 k n,rfl⟩
theorem aJd(k n:Int):∃r,aiv k n r:=⟨afq k n,axH k n,rfl⟩
theorem aHK(s:List UInt8):∃r,aeh s r:=⟨rU s,atO s,rfl⟩
theorem acw(k:Int):∃r,j3 k r:=by
 apply aAW 1;unfold apq apn
 repeat' (first|(with_reducible refine aB ?_ ?_<;>(intro a;(try simp only[bnl] at a);(try revert a;intro _)))|with_reducible refine aD ?_ ?_|with_reducible refine aE ?_|fail)
 all_goals exact⟨_,_,rfl,rfl,by unfold ab5;rw[uk];unfold acN;(repeat' split)<;>omega⟩
theorem awg(v:Int):∃r,fN v r:=by
 refine mA (ret:=λr=>.int .u64 r) λb=>?_
 have c:=jK (b (.int .u64 v) (by simp));apply avZ 1;unfold ajA ajz;dsimp only;rw[Bj c.1]
 repeat' (first|(with_reducible refine aB ?_ ?_<;>(intro a;(try simp only[bnl] at a);(try revert a;intro _)))|with_reducible refine aD ?_ ?_|with_reducible refine aE ?_|fail)
 ·exact⟨_,_,rfl,rfl,by unfold qR eJ;rw[dz _ (by omega),if_neg (by omega)]⟩
 ·exact⟨_,_,rfl,rfl,by unfold qR eJ;rw[if_pos (by omega)]⟩
theorem aGF(x:Int)(a:0<=x∧x<=18446744073709551615):bE .xor .u64 (if AN .u64 then -1 else Bo .u64) x=18446744073709551615-x:=by rw[show (if AN .u64 then -1 else Bo .u64)=(18446744073709551615:Int) from rfl,<-aFl x a];simp only[bE,BitVec.xor_comm]
theorem aLU(v:Int):∃r,z6 v r:=by
 refine mA (ret:=λr=>.int .u64 r) λc=>?_
 have a:=jK (c (.int .u64 v) (by simp));apply aDz 1;unfold asR asQ;dsimp only;rw[Bj a.1,BZ a.1,dz _ (by omega),aGF _ (by omega)]
 repeat' (first|(with_reducible refine aB ?_ ?_<;>(intro b;(try simp only[bnl] at b);(try revert b;intro _)))|with_reducible refine aD ?_ ?_|with_reducible refine aE ?_|fail)
 ·rename_i h;exact⟨_,_,rfl,rfl,by unfold xn;rw[if_pos h]⟩
 ·rename_i h;exact⟨_,_,rfl,rfl,by unfold xn;rw[if_neg h]⟩
theorem aLV(v:Int):∃r,z4 v r:=by
 refine mA (ret:=λr=>.int .u64 r) λb=>?_
 have c:=jK (b (.int .u64 v) (by simp));apply aDA 1;unfold asT asS;dsimp only;rw[aGF _ c]
 repeat' (first|(with_reducible refine aB ?_ ?_<;>(intro a;(try simp only[bnl] at a);(try revert a;intro _)))|with_reducible refine aD ?_ ?_|with_reducible refine aE ?_|fail)
 ·have e:Ab .u64 ((18446744073709551615-v)*2)=(18446744073709551615-v)*2:=dz _ (by omega);exact⟨_,_,rfl,rfl,by unfold xo;rw[e,dz _ (by omega),if_neg (by omega)]⟩
 ·exact⟨_,_,rfl,rfl,by unfold xo;rw[dz _ (by omega),if_pos (by omega)]⟩
theorem azE(k n:Int):∃r,wI k n r:=by
 refine mA (ret:=λr=>.int .u64 r) λb=>?_
 have c:=jK (b (.int .u64 n) (by simp));apply aAY 1;unfold aps apr;dsimp only;rw[Bj c.1]
 repeat' (first|(with_reducible refine aB ?_ ?_<;>(intro a;(try simp only[bnl] at a);(try revert a;intro _)))|with_reducible refine aD ?_ ?_|with_reducible refine aE ?_|(refine aL (awg _) (λ_ h=>h.2) ?_)|(refine aL (aLU _) (λ_ h=>h.2) ?_)|fail)
 all_goals
  refine⟨_,_,rfl,rfl,?_⟩;unfold ab6;rw[azo];unfold u0 eJ
  (repeat' split)<;>omega
theorem ayv(k n:Int):∃r,yO k n r:=by
 refine mA (ret:=λr=>.int .u64 r) λb=>?_
 have c:=jK (b (.int .u64 n) (by simp));have d:0<=eJ n:=by unfold eJ;split<;>omega
 apply aFH 1;unfold av1 av0;dsimp only
 repeat' (first|(with_reducible refine aB ?_ ?_<;>(intro a;(try simp only[bnl] at a);(try revert a;intro _)))|with_reducible refine aD ?_ ?_|with_reducible refine aE ?_|(refine aL (awg _) (λ_ h=>h.2) ?_)|(refine aL (aLV _) (λ_ h=>h.2) ?_)|fail)
 all_goals
  refine⟨_,_,rfl,rfl,?_⟩;unfold afY;rw[aq3]
  (try rw[Bj (by first|exact c.1|(unfold eJ;(repeat' split)<;>omega))])
  unfold toD eJ
  (repeat' split)<;>omega
theorem ahZ(n:Int):eJ (n%4294967296)=eJ n:=by unfold eJ;rw[Int.emod_emod]
theorem aHL(n:Int):eJ n%4294967296=n%4294967296:=by unfold eJ;split<;>omega
theorem awh(n:Int):eJ (eJ n)=eJ n:=by rw[<-ahZ (eJ n),aHL,ahZ]
theorem aLW(n:Int):u0 7 (toD 7 n)=eJ n:=by
 have d:0<=n%4294967296∧n%4294967296<4294967296:=by omega
 have c:toD 7 n=if n%4294967296<2147483648 then n%4294967296*2 else (4294967295-n%4294967296)*2+1:=rfl
 have b:∀n,u0 7 n=if n%2=1 then eJ (4294967295-n%4294967296 / 2) else eJ (n%4294967296 / 2):=λ_=>rfl
 rw[<-ahZ n,c];generalize n%4294967296=m at*
 by_cases a:m<2147483648;·rw[if_pos a,b,if_neg (by omega)];congr 1;omega
 ·rw[if_neg a,b,if_pos (by omega)];congr 1;omega
theorem aKv(n:Int)(d:0<=n∧n<=18446744073709551615):u0 8 (toD 8 n)=n:=by
 have c:toD 8 n=if n<9223372036854775808 then n*2 else (18446744073709551615-n)*2+1:=rfl
 have a:∀n,u0 8 n=if n%2=1 then 18446744073709551615-n / 2 else n / 2:=λ_=>rfl
 rw[c];by_cases b:n<9223372036854775808;·rw[if_pos b,a,if_neg (by omega)];omega
 ·rw[if_neg b,a,if_pos (by omega)];omega
theorem aJe(k n:Int)(f:0<=n∧n<=18446744073709551615)(l:1<=k∧k<=17)(j:acN k≠2):(u0 k (toD k n)==n)=xl k n:=by
 rw[BH,beq_iff_eq];by_cases e:k=3∨k=7∨k=11∨k=17
 ·have c:u0 k (toD k n)=eJ n:=by
   rcases e with rfl|rfl|rfl|rfl;·exact awh n
   ·exact aLW n
   ·show eJ (n%4294967296)=_;exact ahZ n
   ·exact awh n
  have b:xl k n=decide (n=eJ n):=by unfold xl;rw[if_pos e]
  rw[c,b,decide_eq_true_iff,eq_comm]
 by_cases a:k=5∨k=9∨k=2
 ·have c:u0 k (toD k n)=n%4294967296%4294967296:=by rcases a with rfl|rfl|rfl<;>rfl
  have b:xl k n=decide (n<4294967296):=by rcases a with rfl|rfl|rfl<;>rfl
  rw[c,b,decide_eq_true_iff];omega
 by_cases d:k=13
 ·subst d;have c:u0 13 (toD 13 n)=if 1<(if 1<n then 1 else n) then 1 else (if 1<n then 1 else n):=rfl
  have b:xl 13 n=decide (n<=1):=rfl;rw[c,b,decide_eq_true_iff];(repeat' split)<;>omega
 have i:¬(k=14∨k=15∨k=16):=by rintro(rfl|rfl|rfl)<;>exact j rfl
 have b:xl k n=true:=by unfold xl;rw[if_neg e,if_neg a,if_neg d,decide_eq_true_iff];omega
 have c:u0 k (toD k n)=n:=by
  by_cases h:k=8;·subst h;exact aKv n f
  ·unfold u0 toD;rw[if_neg (by omega),if_neg (by omega),if_neg (by omega),if_neg (by omega),if_neg (by omega),if_neg (by omega),if_neg (by omega),if_neg (by omega),if_neg (by omega),if_neg (by omega)]
 rw[c,b];simp
theorem aKw(k n:Int)(a:acN k=2∨17<k∨k<1):xl k n=false:=by
 have:acN k=2->(k=14∨k=15∨k=16):=by unfold acN;(repeat' split)<;>omega
 have:¬(k=3∨k=7∨k=11∨k=17):=by omega
 unfold xl;rw[if_neg (by omega),if_neg (by omega),if_neg (by omega),decide_eq_false_iff_not];omega
theorem aJf(k n:Int):∃r,acZ k n r:=by
 refine mA (ret:=λr=>.bool r) λb=>?_
 have c:=jK (b (.int .u64 n) (by simp));apply aAZ 1;unfold apv apt
 repeat' (first|(with_reducible refine aB ?_ ?_<;>(intro a;(try simp only[bnl] at a);(try revert a;intro _)))|with_reducible refine aD ?_ ?_|with_reducible refine aE ?_|(refine aL (acw _) (λ_ h=>h.2) ?_)|(refine aL (ayv _ _) (λ_ h=>h.2) ?_)|(refine aL (azE _ _) (λ_ h=>h.2) ?_)|fail)
 all_goals
  refine⟨_,_,rfl,rfl,?_⟩;unfold ab7;rw[aom]
  (try rw[azo,aq3])
  (try rw[uk] at*)
 ·exact aJe k n c (by omega) (by assumption)
 all_goals exact(aKw k n (by first|exact .inl (by assumption)|(right;omega))).symm
theorem aJg{P:Program}{f:FuncId}{vs:List V}{R:Type}{ret:R->V}{Q:R->Prop}(d:R)(b:Q d)(h:(∀x∈vs,x.fits)->∃r,aH P f vs (ret r)∧Q r):∃r,aH P f vs (ret r)∧Q r:=by
 by_cases a:∀x∈vs,x.fits;·exact h a
 ·exact⟨d,aH.fits λh=>absurd h a,b⟩
theorem azF(v:Int):∃r,uv v r:=by
 refine aJg (ret:=λr=>.str r) (d:=[]) (by simp[kV]) λj=>?_
 have f:=jK (j (.int .u64 v) (by simp));refine aye 21 v ?_;unfold amr sp;refine aW (λx=>match x with|(n,s)=>0<=n∧n<=18446744073709551615∧n<(10^(20-s.length):Nat)∧s.length<20) (λx=>20-x.2.length) ?_ _ _ ⟨f.1,f.2,by simp;omega,by simp⟩ (by simp);rintro b ⟨n,s⟩ ⟨k,m,e,l⟩ i;unfold vu;dsimp only at i ⊢;have hp:(10^(20-s.length):Nat)=10*10^(20-(s.length+1)):=by rw[show 20-s.length=(20-(s.length+1))+1 by omega,CA];omega
 rw[hp] at e;obtain⟨q,a⟩:∃q:Nat,q=10^(20-(s.length+1)):=⟨_,rfl⟩
 rw[<-a] at e;rw[BZ k];rw[dz (n / 10) (by omega)];refine aD (decide_eq_true (by simp only[Ai,Al];omega)) (aB (λc=>aE ⟨_,_,rfl,rfl,?_⟩) (λc=>i _ ⟨?_,?_,?_,?_⟩ ?_));·unfold kV;simp only[Ak,Ai,Al];omega
 ·omega
 ·omega
 ·simp only[Ak,Ai,Al];rw[show 20-(0+1+s.length)=20-(s.length+1) by omega,<-a];omega
 ·simp only[Ak,Ai,Al];rcases AG (s.length+1) 20 with h|h;·omega
  ·exfalso;rw[show 20-(s.length+1)=0 by omega] at a;simp only[beq_eq_false_iff_ne,ne_eq,Nat.pow_zero] at c a;omega
 ·simp only[Ak,Ai,Al];omega
theorem aKx(v:Int):∃r,hY v r:=by
 refine aAT 1 v ?_;unfold apl apk;dsimp only;refine aB (λ_=>aX (azF _) λr a=>?_) (λ_=>aX (azF _) λr a=>aE ⟨_,_,rfl,rfl,?_⟩);·have:=a.2;unfold kV at this;refine aD (decide_eq_true (by simp only[Ai,Al];omega)) (aE ⟨_,_,rfl,rfl,?_⟩);unfold u6;simp only[Ak,Ai,Al];omega
 ·have:=a.2;unfold kV at this;unfold u6;omega
theorem aJh(t:List UInt8):∃r,z3 t r:=by
 refine mA (ret:=λ(r:Int×Int)=>.tup [.int .u32 r.1,.int .i64 r.2]) λa=>?_
 have b:t.length<=9223372036854775807:=a (.str t) (by simp);exact ayi 100 t ⟨_,aub 95 t b,_,_,_,rfl,rfl,rfl⟩
theorem aJi(s:List UInt8):0<=(fC s).2 ∧(fC s).2 <=s.length:=by have:=aC5 s;simp only[fC];omega
theorem azG(s:List UInt8):∃r,mV s r:=by
 refine mA (ret:=λr=>.bool r) λj=>?_
 have q:s.length<=9223372036854775807:=j (.str s) (by simp);refine ayk (s.length+1) s ?_;unfold amu su;refine aW (λx=>x.length<=s.length∧rU x=rU s) (λx=>x.length) ?_ _ _ ⟨Ap _,rfl⟩ (by omega);rintro e t ⟨k,d⟩ l;unfold vw;dsimp only;cases t with
 |nil=>simp only[Al];exact aB (λh=>by simp at h) (λ_=>aE ⟨_,_,rfl,rfl,d⟩)
 |cons c t=>
  refine aB (λ_=>?_) (λh=>by simp only[Ai,decide_eq_false_iff_not] at h;omega);refine aX (aJh _) ?_;rintro⟨m,f⟩ ⟨-,hp'⟩;have a:=aJi (c::t);have b:=asD c t;have hp':(m,f)=fC (c::t):=hp';rw[<-hp'] at a;have p:f=((fY (c::t)).2 :Int):=congrArg Prod.snd hp';simp only[Ai] at a k;dsimp only at a ⊢
  repeat' (first|(with_reducible refine aB ?_ ?_<;>(intro i;(try simp only[bnl] at i);(try revert i;intro _)))|with_reducible refine aD ?_ ?_|with_reducible refine aE ?_|fail)
  ·rename_i h;rw[if_pos (by omega)] at b;exact⟨_,_,rfl,rfl,by rw[zC,<-d,b]⟩
  ·simp only[Ac,decide_eq_true_iff,Ai];exact a
  ·rename_i h;rw[if_neg (by omega)] at b;refine l _ ⟨?_,?_⟩ ?_;·simp only[AL,Bt,Ai];omega
   ·rw[AZ,p,AK,<-b,d]
   ·simp only[AL,Bt,Ai];omega
def RQ(l:List Tok)(i e:Int)(n:List UInt8)(fs:List bM)(u:List (List UInt8))(t:List bi)(es:List PEn):V×List aK->Prop:=λz=>∃(m:List Tok)(j d v:Int)(r:Bs)(k:List bM)(f:Bss)(p:List bi)(h:List PEn)(q:List (Int×Int))(c:Bss)(rest:List aK),z.1.dimR=.tup []∧z.2=some [.sl .tok (.may false) m,.int .i64 j,.int .i64 d,.int .i64 v]::some [.str r,.sl .ffld .own k,.sl .str .own f,.ul .fmsg p,.sl .pen .own h,.sl .u2 .own q,.sl .str .own c]::rest∧Eat l i e m j d∧∃b a,(b.length<=31∧(d=0->b.length<=30))∧(a.length<=31∧(d=0->a.length<=30)∧jZ a)∧(r,k,f,p,h,q,c)=(n,fs,u,t,es,b,a)
set_option maxHeartbeats 8000000 in
theorem aDX{l:List Tok}{i e a:Int}(h:PIn l i)(h1:i+1<l.length)(n:List UInt8)(fs:List bM)(z:List (List UInt8))(w:List bi)(es:List PEn)(Y:List (Int×Int))(R:List (List UInt8))(hn:Y.length<=30)(hs:R.length<=30)(W:jZ R):∃r,j4 l i e a n fs z w es Y R r:=by
 obtain⟨N,hN⟩:∃N:Nat,N=7000:=⟨_,rfl⟩
 apply agl N;show Tot _ (RQ l i e n fs z w es);unfold v7 fZ;dsimp only;rw[vA h];have u:=h.up h1;have go:∀(b:Bool)(y:Int),Tot (aO N (fI N) (b,l,i+1,e,y,n,fs,z,w,es,Y,R)) (RQ l i e n fs z w es):=by
  intro b y;refine aW (λ(x:fH)=>match x with|(_,l',E,p,_,n',L,I,F,J,f,c)=>(l',n',L,I,F,J)=(l,n,fs,z,w,es)∧PIn l E∧i+1<=E∧(p=0->e=0)∧(f.length<=31∧(p=0->f.length<=30))∧(c.length<=31∧(p=0->c.length<=30)∧jZ c)) (λx=>mu l.length x.2.2.1 x.2.2.2.1) ?_ _ _ ⟨rfl,u,Av _,λh=>h,⟨by omega,λ_=>hn⟩,⟨by omega,λ_=>hs,W⟩⟩ (by rw[hN];exact awf _ _ _ u.2.1 u.1.2.1);rintro D ⟨b,l',E,p,y,n',L,I,F,J,f,c⟩ ⟨q,hp,hi,v,⟨O,C⟩,⟨H,A,B⟩⟩ ih;cases q;dsimp only at ih;unfold fI;dsimp only;refine aB (λd=>?_) (λd=>aE ?_)
  ·have d:p=0:=by simpa using d
   have Z:=C d;have ab:=A d;have hE:=v d;clear v C A;subst d;have G:∀(m:List (Int×Int))(k:List (List UInt8))(M j a2:Int),PIn l M->E<=M->(m.length<=31∧(j=0->m.length<=30))->(k.length<=31∧(j=0->k.length<=30)∧jZ k)->Tot (aA (bw l M j a2 ([59]:Bs)) (λr=>cond r.1 (some (.tup [],[some [.sl .tok (.may false) r.2.1,.int .i64 (Ab .i64 (r.2.2.1+1)),.int .i64 r.2.2.2.1,.int .i64 r.2.2.2.2],some [.str n,.sl .ffld .own fs,.sl .str .own z,.ul .fmsg w,.sl .pen .own es,.sl .u2 .own m,.sl .str .own k]])) (aA (aJ r.2.1 r.2.2.1 r.2.2.2.1 r.2.2.2.2 ([44]:Bs)) (λP=>D (b,P.1,P.2.1,P.2.2.1,P.2.2.2,n,fs,z,w,es,m,k))))) (RQ l i e n fs z w es):=by
    intro m k M j a2 g1 g2 S Q;have g5:i<M:=by omega
    refine uQ g1 (λv hp hw=>?_) ?_;·dsimp only[cond_true];rw[hw];exact aE ⟨_,_,_,_,_,_,_,_,_,_,_,_,rfl,rfl,adU hp (by (try dsimp only);omega) (λ_=>⟨hE,by (try dsimp only);omega⟩),_,_,S,Q,rfl⟩
    ·dsimp only[cond_false];refine fx g1 (λi4 e4 a4 k1 k2 k3=>?_);refine ih _ ⟨rfl,k1,by dsimp only;omega,λ_=>hE,⟨S.1,λh=>S.2 (k3 h).1⟩,⟨Q.1,λh=>Q.2.1 (k3 h).1,Q.2.2⟩⟩ (iM rfl (by dsimp only;omega) k1.2.2 (λh=>by have:=(k3 h).2;dsimp only;omega))
   have cap:∀(x:Int×Int)(j:Int),(j=0->f.length<30)->((f++[x]).length<=31∧(j=0->(f++[x]).length<=30)):=λx j hx=>⟨by simp;omega,λh=>by have:=hx h;simp;omega⟩
   have aa:∀(x:List UInt8)(j:Int),x.length<=3000->(j=0->c.length<30)->((c++[x]).length<=31∧(j=0->(c++[x]).length<=30)∧jZ (c++[x])):=λx j hl hx=>⟨by simp;omega,λh=>by have:=hx h;simp;omega,ayt B hl⟩
   have ac:∀j:Int,f.length<=31∧(j=0->f.length<=30):=λ_=>⟨O,λ_=>Z⟩
   have X:∀j:Int,c.length<=31∧(j=0->c.length<=30)∧jZ c:=λ_=>⟨H,λ_=>ab,B⟩
   repeat' (first|(with_reducible refine aB ?_ ?_<;>(intro hb;(try simp only[bnl] at hb);(try revert hb;intro _)))|with_reducible refine aD ?_ ?_|with_reducible refine aE ?_|((refine gP (by assumption) ?_;dsimp only))|((refine awd (by assumption) (λt E p y hp hi v=>?_);dsimp only))|((refine ays (by assumption) (λt E p y ht hp hi v=>?_);dsimp only))|((refine dr (by assumption) (by decide) (λp y v=>?_);dsimp only))|((refine vC (by assumption) (λp y v=>?_) (λy v hp=>?_)<;>dsimp only))|((refine afJ (by assumption) (λv hp=>?_) ?_<;>dsimp only[cond_true,cond_false,B8,Bh]))|((refine aLO ?_ ?_<;>(try dsimp only[cond_true,cond_false,B8,Bh])))|((refine G _ _ _ _ _ (by assumption) (by omega) ?_ ?_))|fail)
   all_goals first
    |contradiction
    |exact decide_eq_true (by simp only[Ai,Al];omega)
    |exact ac _
    |exact X _
    |exact cap _ _ (by omega)
    |exact aa _ _ (by assumption) (by omega)
  ·have d:p≠0:=by simpa using d
   exact⟨_,_,_,_,_,_,_,_,_,_,_,_,rfl,rfl,adU hp (by omega) (λh=>absurd h d),_,_,⟨O,C⟩,⟨H,A,B⟩,rfl⟩
 refine aB (λ_=>gP u (go _ _)) (λ_=>go _ _)
def aDY(l:List PVl):Prop:=∀v∈l,v.name.length<=3000
theorem aLX{l:List PVl}{t:PVl}(h:aDY l)(b:t.name.length<=3000):aDY (l++[t]):=λx a=>by
 rcases Az.1 a with a|a;·exact h x a
 ·rw[Ay.1 a];exact b
theorem aNm{l:List Tok}{i:Int}(h:PIn l i):i<l.length:=h.2.2
def EQ(l:List Tok)(i e:Int):V×List aK->Prop:=λz=>∃(c:PEn)(a:List Tok)(b d f:Int)(rest:List aK),z.1.dimR=.agg (enc .pen c)∧z.2=some [.sl .tok (.may false) a,.int .i64 b,.int .i64 d,.int .i64 f]::rest∧Eat l i e a b d∧aeb c
set_option maxHeartbeats 8000000 in
theorem aDZ{l:List Tok}{i e a:Int}(h:PIn l i)(h1:i+1<l.length):∃r,ku l i e a r:=by
 obtain⟨N,hN⟩:∃N:Nat,N=7000:=⟨_,rfl⟩
 apply ald N;show Tot _ (EQ l i e);unfold abE jq;dsimp only;rw[vA h];have P:=h.up h1;refine acv P (λz c f u ab ae ax aw=>?_);dsimp only;refine fx ae (λZ e3 a3 J av ar=>?_);dsimp only;refine aW (λ(x:bZ)=>match x with|(l',A,w,_,n',z',O,vs)=>(l',n',z',O)=(l,[],[],z)∧PIn l A∧i+1<=A∧(w=0->e=0)∧(vs.length<=31∧(w=0->vs.length<=30))∧aDY vs) (λx=>mu l.length x.2.1 x.2.2.1) ?_ _ _ ⟨rfl,J,by omega,by omega,⟨AR _,λ_=>AR _⟩,λv hv=>by simp at hv⟩ (by rw[hN];exact awf _ _ _ J.2.1 P.1.2.1);rintro j ⟨l',A,w,F,n',z',O,vs⟩ ⟨q,hp,hi,y,⟨W,R⟩,E⟩ Y;cases q;dsimp only at Y;unfold me lg;dsimp only;have done:∀c f u,PIn l c->A<=c->(f=0->w=0)->Tot (some ((.agg [.str z,.sl .pvl (.may false) vs],[some [.sl .tok (.may false) l,.int .i64 c,.int .i64 f,.int .i64 u],some [.str z,.sl .pvl (.may false) vs],some [.str z,.sl .pvl .own vs]]):V×List aK)) (EQ l i e):=by
  intro c f u H X L;have g4:i<=c:=by omega
  exact aE ⟨⟨z,vs⟩,_,_,_,_,_,rfl,rfl,adU H g4 (λh=>⟨y (L h),by (try dsimp only);omega⟩),ab,W,E⟩
 have D:∀c f u,PIn l c->A<=c->(f=0->w=0)->EQ l i e ((.agg [.str z,.sl .pvl (.may false) vs],[some [.sl .tok (.may false) l,.int .i64 c,.int .i64 f,.int .i64 u],some [.str z,.sl .pvl (.may false) vs],some [.str z,.sl .pvl .own vs]]):V×List aK):=λc f u H X L=>by obtain⟨_,hr,hq⟩:=done c f u H X L;cases hr;exact hq
 refine aB (λp=>?_) (λp=>?_)
 ·have p:w=0:=by simpa using p
  have ad:=R p;have hE:=y p;clear y R;subst p;have J2:∀(b:Bool)(c f u:Int)(t:List UInt8),PIn l c->A<=c->(f=0->vs.length<=29)->t.length<=3000->Tot (ix N j (b,l,c,f,u,[],[],z,vs,t,0)) (EQ l i e):=by
   intro b c f u t H X L g4;unfold ix;dsimp only;refine awd H (λk Z e3 a3 g5 g6 g7=>?_);dsimp only;have fin:∀(m C I Q:Int),PIn l C->Z<=C->(I=0->e3=0∧Z<C)->Tot (j (l,C,I,Q,[],[],z,vs++[⟨t,m⟩])) (EQ l i e):=by
    intro m C I Q B G d;have hl:(vs++[(⟨t,m⟩:PVl)]).length=vs.length+1:=by simp
    exact Y _ ⟨rfl,B,by dsimp only;omega,λ_=>hE,⟨by dsimp only;omega,λh=>by have:=d h;have:=L (g7 this.1).1;dsimp only;omega⟩,aLX E g4⟩ (iM rfl (by dsimp only;omega) B.2.2 (λh=>by have:=d h;dsimp only;omega))
   have S:decide ((Aa vs+Aa ([(⟨t,0⟩:PVl)]:List PVl))*24<=140737488355328)=true:=decide_eq_true (by simp only[Ai,Al];omega);refine aB (λ_=>?_) (λ_=>?_);·refine fx g5 (λC I Q B G d=>?_);exact aD S (fin _ _ _ _ B G d)
   ·refine fx g5 (λC I Q B G d=>?_);exact aD S (fin _ _ _ _ B G d)
  have J1:∀(c f u:Int),PIn l c->A<=c->Tot (iy N j (l,c,f,u,[],[],z,vs)) (EQ l i e):=by
   intro c f u H X;unfold iy lf;dsimp only
   repeat' (first|(with_reducible refine aB ?_ ?_<;>(intro M;(try simp only[bnl] at M);(try revert M;intro _)))|with_reducible refine aD ?_ ?_|with_reducible refine aE ?_|((refine gP (by assumption) ?_;dsimp only))|((refine acv (by assumption) (λt A w F ht hp hi y=>?_);dsimp only))|((refine fx (by assumption) (λA w F hp hi y=>?_);dsimp only))|((refine dr (by assumption) (by decide) (λw F y=>?_);dsimp only))|((refine vC (by assumption) (λw F y=>?_) (λF y hp=>?_)<;>dsimp only))|((refine uQ (by assumption) (λy hp hw=>?_) ?_<;>dsimp only[cond_true,cond_false,B8,Bh]<;>(try rw[hw])))|fail)
   all_goals first
    |contradiction
    |exact J2 _ _ _ _ _ (by assumption) (by omega) (by omega) (by assumption)
  repeat' (first|(with_reducible refine aB ?_ ?_<;>(intro M;(try simp only[bnl] at M);(try revert M;intro _)))|with_reducible refine aD ?_ ?_|with_reducible refine aE ?_|((refine gP (by assumption) ?_;dsimp only))|((refine azC ?_ ?_<;>(try dsimp only[cond_true,cond_false,B8,Bh])))|((refine fx (by assumption) (λA w F hp hi y=>?_);dsimp only))|((refine dr (by assumption) (by decide) (λw F y=>?_);dsimp only))|((refine uQ (by assumption) (λy hp hw=>?_) ?_<;>dsimp only[cond_true,cond_false,B8,Bh]<;>(try rw[hw])))|fail)
  all_goals first
   |contradiction
   |exact J1 _ _ _ (by assumption) (by omega)
   |exact done _ _ _ (by assumption) (by omega) (by omega)
   |exact D _ _ _ (by assumption) (by omega) (by omega)
   |exact Y _ ⟨rfl,by assumption,by (try dsimp only);omega,λ_=>hE,⟨W,λ_=>ad⟩,E⟩ (iM rfl (by (try dsimp only);omega) (aNm (by assumption)) (by (try dsimp only);omega))
 ·refine fx hp (λC I Q B G d=>?_);exact done _ _ _ B G (λh=>(d h).1)
def OQ(l:List Tok)(i e:Int)(n:List UInt8)(v:List bi)(es:List PEn)(t:List (Int×Int))(u:List (List UInt8)):V×List aK->Prop:=λz=>∃(m:List Tok)(j d w:Int)(r:Bs)(k:List bM)(f:Bss)(q:List bi)(h:List PEn)(p:List (Int×Int))(c:Bss)(rest:List aK),z.1.dimR=.tup []∧z.2=some [.sl .tok (.may false) m,.int .i64 j,.int .i64 d,.int .i64 w]::some [.str r,.sl .ffld .own k,.sl .str .own f,.ul .fmsg q,.sl .pen .own h,.sl .u2 .own p,.sl .str .own c]::rest∧Eat l i e m j d∧∃a b,(a.length<=31∧(d=0->a.length<=30)∧∀x∈a,n8 x)∧(b.length<=30∧jZ b)∧(r,k,f,q,h,p,c)=(n,a,b,v,es,t,u)
theorem aD0{l:List bM}{t:bM}(h:∀x∈l,n8 x)(b:n8 t):∀x∈l++[t],n8 x:=λx a=>by
 rcases Az.1 a with a|a;·exact h x a
 ·rw[Ay.1 a];exact b
set_option maxHeartbeats 8000000 in
theorem aJj{l:List Tok}{i e a:Int}(h:PIn l i)(h1:i+1<l.length)(n:List UInt8)(fs:List bM)(Q:List (List UInt8))(B:List bi)(es:List PEn)(D:List (Int×Int))(C:List (List UInt8))(hf:fs.length<=30)(X:∀x∈fs,n8 x)(ho:Q.length<=30)(W:jZ Q):∃r,nD l i e a n fs Q B es D C r:=by
 obtain⟨N,hN⟩:∃N:Nat,N=7000:=⟨_,rfl⟩
 apply ajk N;show Tot _ (OQ l i e n B es D C);unfold aan iw;dsimp only;have ab:=h.up h1;have hL:=h.small;refine vC h (λY P he=>?_) (λP he hp=>?_);·exact aE ⟨_,_,_,_,_,_,_,_,_,_,_,_,rfl,rfl,uP h he,fs,Q,⟨by omega,λh=>absurd h he,X⟩,⟨ho,W⟩,rfl⟩
 dsimp only[cond_false];rw[vA h];subst he;refine acv ab (λt w J a2 ht aq a5 bc=>?_);dsimp only;refine aD (decide_eq_true (by simp only[Ai,Al];omega)) (fx aq (λi3 e3 a3 L be G=>?_));dsimp only;obtain⟨d,y⟩:∃d:List (List UInt8),d=Q++[t]:=⟨_,rfl⟩
 have ao:d.length<=30:=by rw[y];simp only[Ak,Ai,Al];omega
 have S:jZ d:=by rw[y];exact ayt W ht
 rw[<-y];clear y;refine aW (λ(x:dl)=>match x with|(_,ws,c,l',I,Y,_,M,b,o',j,v,m,p)=>(l',M,o',j,v,m,p)=(l,n,d,B,es,D,C)∧ws.length=7∧PIn l I∧i+1<=I∧(b.length<=31∧(Y=0->b.length<=30)∧∀x∈b,n8 x)) (λx=>mu l.length x.2.2.2.2.1 x.2.2.2.2.2.1) ?_ _ _ ⟨rfl,rfl,L,by omega,⟨by omega,λ_=>hf,X⟩⟩ (by rw[hN];exact awf _ _ _ L.2.1 ab.1.2.1);rintro E ⟨f,ws,c,l',I,Y,P,M,b,o',j,v,m,p⟩ ⟨q,hw,hp,hi,⟨O,Z,H⟩⟩ ih;cases q;dsimp only at ih;unfold lb j7;dsimp only;have done:∀w J a2,PIn l w->I<=w->(J=0->Y=0)->Tot (some ((.tup [],[some [.sl .tok (.may false) l,.int .i64 w,.int .i64 J,.int .i64 a2],some [.str n,.sl .ffld .own b,.sl .str .own d,.ul .fmsg B,.sl .pen .own es,.sl .u2 .own D,.sl .str .own C]]):V×List aK)) (OQ l i 0 n B es D C):=by
  intro w J a2 g1 g2 g3;have g4:i<=w:=by omega
  exact aE ⟨_,_,_,_,_,_,_,_,_,_,_,_,rfl,rfl,adU g1 g4 (λh=>⟨rfl,by (try dsimp only);omega⟩),b,d,⟨O,λh=>Z (g3 h),H⟩,⟨ao,S⟩,rfl⟩
 refine aB (λz=>?_) (λz=>fx hp (λi4 e4 a4 g8 g9 aa=>done _ _ _ g8 g9 (λh=>(aa h).1)));have z:Y=0:=by simpa using z
 subst z;have bh:=Z rfl;have u:∀P,Tot (aO N (ft N E) (f,ws,c,0,l,I,0,P,n,b,d,B,es,D,C)) (OQ l i 0 n B es D C):=by
  intro P;refine aW (λ(x:gG)=>match x with|(_,R,_,k,l',w,J,_,M,f',o',j,v,m,p)=>(R,l',w,M,f',o',j,v,m,p)=(ws,l,I,n,b,d,B,es,D,C)∧0<=k∧k<=7) (λx=>(7-x.2.2.2.1).toNat) ?_ _ _ ⟨rfl,Av 0,by decide⟩ (by dsimp only;omega);rintro af ⟨f',R,c',k,l',w,J,a2,M,f2,o',j,v,m,p⟩ ⟨q,k1,k2⟩ F;cases q;dsimp only at F;unfold ft;dsimp only;refine aB (λhk=>?_) (λhk=>?_)
  ·have hk:=of_decide_eq_true hk;refine aD (ixt ⟨k1,hk⟩) ?_;rw[aT (k+1) (by omega)];refine oH hp (λ_ _=>?_) ?_;·dsimp only[cond_true];refine dr hp (by decide) (λe3 a3 G=>?_);exact F _ ⟨rfl,by dsimp only;omega,by dsimp only;omega⟩ (by dsimp only;omega)
   ·dsimp only[cond_false];exact F _ ⟨rfl,by dsimp only;omega,by dsimp only;omega⟩ (by dsimp only;omega)
  ·refine aDU hp (λe3 a3 G=>?_);dsimp only;refine aB (λA=>?_) (λA=>?_)
   ·have A:e3=0:=by simpa using A
    refine aGC hp ⟨AR _,AR _,AR _,by dsimp only;omega,by dsimp only;omega⟩ (by omega) (λi4 e4 a4 x hx g1 g2 g3=>?_);have hl:(b++[x]).length=b.length+1:=by simp
    have:=G A;exact ih _ ⟨rfl,hw,g1,by dsimp only;omega,by rw[hl];omega,λ_=>by rw[hl];omega,aD0 H hx⟩ (iM rfl g2 g1.2.2 (λh=>(g3 h).2))
   ·have A:e3≠0:=by simpa using A
    exact ih _ ⟨rfl,hw,hp,hi,O,λh=>absurd h A,H⟩ (iM rfl (Av _) hp.2.2 (λh=>absurd h A))
 refine aB (λ_=>u _) (λ_=>uQ hp (λ_ _ _=>?_) ?_);·refine aB (λhb=>by simp at hb) (λ_=>fx hp (λi4 e4 a4 g8 g9 aa=>?_));exact done _ _ _ g8 g9 (λh=>rfl)
 ·refine aB (λ_=>?_) (λhb=>by simp at hb);exact u _
theorem ap5(m:bi):∀l:List bi,eK (l++[m])=eK l+aon m
 | []=>by simp[eK]
 |x::l=>by simp only[CB,eK,ap5 m l];omega
theorem auc(m:bi)(a:okM m):∀l:List bi,yc l->yc (l++[m])
 | [],_=>by simp only[B7,yc];exact⟨a,trivial⟩
 |x::l,h=>by simp only[yc] at h;simp only[CB,yc];exact⟨h.1,auc m a l h.2⟩
theorem aKy(l:List bi)(a b:bi):BV (l++[a]) l.length b=l++[b]:=by simp
theorem aGG{l:List PEn}{t:PEn}(h:∀x∈l,aeb x)(b:aeb t):∀x∈l++[t],aeb x:=λx a=>by
 rcases Az.1 a with a|a;·exact h x a
 ·rw[Ay.1 a];exact b
def Cap{α:Type}(l:List α)(e:Int):Prop:=l.length<=31∧(e=0->l.length<=30)
theorem Cap.nil{α:Type}(e:Int):Cap ([]:List α) e:=⟨AR _,λ_=>AR _⟩
theorem Cap.add{α:Type}{l:List α}{x:α}{e:Int}(h:l.length<30):Cap (l++[x]) e:=⟨by simp;omega,λ_=>by simp;omega⟩
theorem Cap.bad{α:Type}{l:List α}{e a:Int}(h:Cap l e)(b:a≠0):Cap l a:=⟨h.1,λh=>absurd h b⟩
theorem Cap.of{α:Type}{l:List α}(a:Int)(h:Cap l 0):Cap l a:=⟨h.1,λ_=>h.2 rfl⟩
structure MIn(l:List Tok)(i e i' e':Int)(fs:List bM)(os:List (List UInt8))(ms:List bi)(es:List PEn)(ns:List (Int×Int))(ss:List (List UInt8)):Prop where
 at_:PIn l i'
 up:i+1<=i'
 stay:e'=0->e=0
 fs_:Cap fs e'∧∀x∈fs,n8 x
 os_:os.length<=30∧jZ os
 ms_:Cap ms e'
 good:e'=0->yc ms∧(eK ms:Int)+(i+1)<=i'
 es_:Cap es e'∧∀x∈es,aeb x
 ns_:Cap ns e'
 ss_:Cap ss e'∧jZ ss
theorem MIn.fail{l:List Tok}{i e f p b m:Int}{fs:List bM}{k:List (List UInt8)}{j:List bi}{es:List PEn}{c:List (Int×Int)}{d:List (List UInt8)}(h:MIn l i e f p fs k j es c d)(hp:PIn l b)(q:f<=b)(a:m≠0):MIn l i e b m fs k j es c d:=
 ⟨hp,by have:=h.up;omega,λh=>absurd h a,⟨h.fs_.1.bad a,h.fs_.2⟩,h.os_,h.ms_.bad a,λh=>absurd h a,⟨h.es_.1.bad a,h.es_.2⟩,h.ns_.bad a,⟨h.ss_.1.bad a,h.ss_.2⟩⟩
theorem MIn.go{l:List Tok}{i e f b:Int}{fs:List bM}{k:List (List UInt8)}{j:List bi}{es:List PEn}{d:List (Int×Int)}{c:List (List UInt8)}(h:MIn l i e f 0 fs k j es d c)(a:Int)(hp:PIn l b)(m:f<=b):MIn l i e b a fs k j es d c:=
 ⟨hp,by have:=h.up;omega,λ_=>h.stay rfl,⟨h.fs_.1.of a,h.fs_.2⟩,h.os_,h.ms_.of a,λ_=>⟨(h.good rfl).1,by have:=(h.good rfl).2;omega⟩,⟨h.es_.1.of a,h.es_.2⟩,h.ns_.of a,⟨h.ss_.1.of a,h.ss_.2⟩⟩
def MQ(l:List Tok)(i e:Int):V×List aK->Prop:=λz=>∃(b:bi)(d:List Tok)(a c f:Int)(rest:List aK),z.1.dimR=.agg (enc .fmsg b)∧z.2=some [.sl .tok (.may false) d,.int .i64 a,.int .i64 c,.int .i64 f]::rest∧Eat l i e d a c∧(c=0->okM b∧(aon b:Int)<=a-i)
def aKz(m:Nat):Prop:=∀(l:List Tok)(i e a d:Int),(22-d).toNat<=m->0<=d->d<=21->PIn l i->i+1<l.length->∃r,gB l i e a d r
set_option maxHeartbeats 8000000 in
theorem aD1(m:Nat)(hM:aKz m):aKz (m+1):=by
 intro l i e a d hd d0 d1 h h1;obtain⟨N,hN⟩:∃N:Nat,N=7000:=⟨_,rfl⟩
 apply ahf N;show Tot _ (MQ l i e);unfold wP ge;dsimp only;have Z:=h.up h1;have hL:=h.small;refine aB (λ_=>dr h (by decide) (λX a' he=>aE ⟨.mk [] [] [] [] [] [] [],_,_,_,_,_,rfl,rfl,uP h he,λh=>absurd h he⟩)) (λW=>?_);have W:=of_decide_eq_false W;rw[vA h];refine acv Z (λH P e2 a2 ah al a5 bd=>?_);dsimp only;refine fx al (λi3 e3 L S bh j=>?_);dsimp only;refine aW (λ(x:f4)=>match x with|(d',l',i',X,_,o0,o1,o2,o3,o4,o5,o6,n',fs,z,p,es,E,D)=>(d',l',o0,o1,o2,o3,o4,o5,o6,n')=(d,l,[],[],[],[],[],[],[],H)∧MIn l i e i' X fs z p es E D) (λx=>mu l.length x.2.2.1 x.2.2.2.1) ?_ _ _ ⟨rfl,⟨S,by omega,by omega,⟨Cap.nil _,λx B=>by simp at B⟩,⟨AR _,λx B=>by simp at B⟩,Cap.nil _,λ_=>⟨trivial,by simp only[eK];omega⟩,⟨Cap.nil _,λx B=>by simp at B⟩,Cap.nil _,⟨Cap.nil _,λx B=>by simp at B⟩⟩⟩ (by rw[hN];exact awf _ _ _ S.2.1 Z.1.2.1);rintro ae ⟨d',l',i',X,a',o0,o1,o2,o3,o4,o5,o6,n',fs,z,p,es,E,D⟩ ⟨q,I⟩ C;cases q;dsimp only at C;have hp:=I.at_;unfold je;dsimp only;have done:∀P e2 a2,PIn l P->i'<=P->(e2=0->X=0)->Tot (some ((.agg [.str H,.sl .ffld (.may false) fs,.sl .str (.may false) z,.sl .fmsg (.may false) p,.sl .pen (.may false) es,.sl .u2 (.may false) E,.sl .str (.may false) D],[some [.sl .tok (.may false) l,.int .i64 P,.int .i64 e2,.int .i64 a2],some [.str H,.sl .ffld (.may false) fs,.sl .str (.may false) z,.sl .fmsg (.may false) p,.sl .pen (.may false) es,.sl .u2 (.may false) E,.sl .str (.may false) D],some [.str H,.sl .ffld .own fs,.sl .str .own z,.sl .fmsg .own p,.sl .pen .own es,.sl .u2 .own E,.sl .str .own D]]):V×List aK)) (MQ l i e):=by
  intro P e2 a2 t g2 g3;have up:=I.up;have g4:i<=P:=by omega
  refine aE ⟨.mk H fs z p es E D,_,_,_,_,_,rfl,rfl,adU t g4 (λh=>⟨I.stay (g3 h),by (try dsimp only);omega⟩),λh=>?_⟩;have G:=I.good (g3 h);refine⟨?_,?_⟩;·simp only[okM];exact⟨ah,⟨I.fs_.1.1,I.fs_.2⟩,I.os_,⟨I.ms_.1,G.1⟩,⟨I.es_.1.1,I.es_.2⟩,I.ns_.1,⟨I.ss_.1.1,I.ss_.2⟩⟩
  ·simp only[aon];have:=G.2;omega
 refine aB (λF=>?_) (λF=>fx hp (λw u Q g8 g9 Y=>done _ _ _ g8 g9 (λh=>(Y h).1)));have F:X=0:=by simpa using F
 subst F;refine uQ hp (λ_ _ _=>aB (λv=>by simp at v) (λ_=>fx hp (λw u Q g8 g9 Y=>done _ _ _ g8 g9 (λh=>rfl)))) (aB (λ_=>?_) (λv=>by simp at v));refine uQ hp (λ_ t g2=>?_) ?_;·dsimp only[cond_true];rw[g2];exact C _ ⟨rfl,I.go 0 t (by dsimp only;omega)⟩ (iM rfl (by dsimp only;omega) t.2.2 (λ_=>by dsimp only;omega))
 dsimp only[cond_false];refine oH hp (λ_ t=>?_) ?_
 ·dsimp only[cond_true];refine vC hp (λe3 L j=>?_) (λL _ hc=>?_);·refine aB (λv=>by simp at v) (λ_=>?_);exact C _ ⟨rfl,I.fail hp (Av _) j⟩ (iM rfl (Av _) hp.2.2 (λh=>absurd h j))
  ·refine aB (λ_=>?_) (λv=>by simp at v);dsimp only;rw[aT (d+1) (by omega)];refine aX (hM l i' 0 L (d+1) (by omega) (by omega) (by omega) hp t.2.2) ?_;rintro⟨x,A,w,u,Q⟩ ⟨-,⟨q,c,f,k⟩,R⟩;dsimp only at q c f k R ⊢;subst q;have aa:p.length<30:=by omega
   rw[show ((p.length:Int)).toNat=p.length from AK _,aKy,aok];have l1:∀y:bi,(p++[y]).length=p.length+1:=λy=>by simp
   have b:PIn A w:=⟨hp.1,by have:=hp.2;omega,f⟩
   refine aD (by simp;omega) (aD (by simp;omega) (aD (by simp) (aD (by simp) ?_)));refine C _ ⟨rfl,?_⟩ (iM rfl c f (λh=>(k h).2));by_cases h4:u=0;·have I':=I.go 0 b c;have G:=I.good rfl;subst h4;exact{I' with ms_:=Cap.add aa,good:=λ_=>⟨auc _ (R rfl).1 _ G.1,by rw[ap5];have:=(R rfl).2;have:=G.2;dsimp only;omega⟩}
   ·have I':=I.fail b c h4;exact{I' with ms_:=Cap.add aa,good:=λh=>absurd h h4}
 dsimp only[cond_false];refine oH hp (λ_ t=>?_) ?_
 ·dsimp only[cond_true];refine vC hp (λe3 L j=>?_) (λL _ hc=>?_);·refine aB (λv=>by simp at v) (λ_=>?_);exact C _ ⟨rfl,I.fail hp (Av _) j⟩ (iM rfl (Av _) hp.2.2 (λh=>absurd h j))
  ·refine aB (λ_=>?_) (λv=>by simp at v);dsimp only;refine aX (aDZ (e:=0) (a:=L) hp t.2.2) ?_;rintro⟨x,A,w,u,Q⟩ ⟨-,⟨q,c,f,k⟩,R⟩;dsimp only at q c f k R ⊢;subst q;have aj:es.length<30:=by omega
   have b:PIn A w:=⟨hp.1,by have:=hp.2;omega,f⟩
   refine aD (decide_eq_true (by simp only[Ai,Al];omega)) ?_;have I':=I.go u b c;exact C _ ⟨rfl,{I' with es_:=⟨Cap.add aj,aGG I.es_.2 R⟩}⟩ (iM rfl c f (λh=>(k h).2))
 dsimp only[cond_false];refine oH hp (λ_ t=>?_) ?_
 ·dsimp only[cond_true];refine aX (aJj (e:=0) (a:=a') hp t.2.2 H fs z p es E D (I.fs_.1.2 rfl) I.fs_.2 I.os_.1 I.os_.2) ?_;rintro⟨A,w,u,Q,r⟩ ⟨-,⟨q,c,f,k⟩,a6,bg,M,O,J⟩;dsimp only at q c f k M J ⊢;subst q J;have b:PIn A w:=⟨hp.1,by have:=hp.2;omega,f⟩
  have I':=I.go u b c;exact C _ ⟨rfl,{I' with fs_:=⟨⟨M.1,M.2.1⟩,M.2.2⟩,os_:=O}⟩ (iM rfl c f (λh=>(k h).2))
 dsimp only[cond_false];refine oH hp (λ_ t=>?_) ?_
 ·dsimp only[cond_true];refine aX (aDX (e:=0) (a:=a') hp t.2.2 H fs z p es E D (I.ns_.2 rfl) (I.ss_.1.2 rfl) I.ss_.2) ?_;rintro⟨A,w,u,Q,r⟩ ⟨-,⟨q,c,f,k⟩,a9,ba,M,O,J⟩;dsimp only at q c f k M O J ⊢;subst q J;have b:PIn A w:=⟨hp.1,by have:=hp.2;omega,f⟩
  have I':=I.go u b c;exact C _ ⟨rfl,{I' with ns_:=M,ss_:=⟨⟨O.1,O.2.1⟩,O.2.2⟩}⟩ (iM rfl c f (λh=>(k h).2))
 dsimp only[cond_false];refine aDU hp (λe3 L j=>?_);dsimp only;refine aX (aI6 (e:=e3) (a:=L) hp H fs z p es E D (by have:=I.fs_.1.1;omega)) ?_;rintro⟨A,w,u,Q,r⟩ ⟨-,⟨q,c,f,k⟩,x,B,J⟩;dsimp only at q c f k J ⊢;subst q J;have b:PIn A w:=⟨hp.1,by have:=hp.2;omega,f⟩
 have I':=I.go u b c;have hf:=I.fs_.1.2 rfl;exact C _ ⟨rfl,{I' with fs_:=⟨⟨by simp;omega,λh=>by have:=(j (k h).1).2;simp;omega⟩,aD0 I.fs_.2 B⟩}⟩ (iM rfl c f (λh=>(k h).2))
theorem asZ:∀m,aKz m
 |0=>λl i e a d h _ b=>by omega
 |m+1=>aD1 m (asZ m)
theorem aKA{Q:V×List aK->Prop}{s:List UInt8}{K:Bool->Ro}(c:Tot (K true) Q)(a:Tot (K false) Q):Tot (aA (mV s) K) Q:=aX (azG s) (by rintro b -;cases b;exact a;exact c)
theorem lend{s:List UInt8}{j e a b f i:Int}(h:i<=j∧j<=s.length)(hp:b≠0):Tot (aA (bH s j e a b f) (λr=>some ((.agg [.int .i64 r.1.kind,.str r.1.text,.int .u64 r.1.n,.int .i64 r.1.pos],[some [.str r.2.1,.int .i64 r.2.2.1,.int .i64 r.2.2.2.1,.int .i64 r.2.2.2.2],some [.int .i64 r.1.kind,.str r.1.text,.int .u64 r.1.n,.int .i64 r.1.pos]]):V×List aK))) (λz=>∃(k:Tok)(c:Bs)(d l m:Int)(rest:List aK),z.1.dimR=.agg (enc .tok k)∧z.2=some [.str c,.int .i64 d,.int .i64 l,.int .i64 m]::rest∧xp s i (k,c,d,l,m)):=
 aX (ap1 _ _ _ _ _ _) (by rintro _ ⟨-,rfl⟩;exact aE ⟨⟨0,[],0,0⟩,s,j,b,f,_,rfl,rfl,xp.fail h hp⟩)
theorem alz(s:List UInt8)(i e a:Int)(L:0<=i∧i<s.length)(z:s.length<=3000):∃r,f6 s i e a r:=by
 apply amZ 4000;unfold adu kw;refine aD (ixt (by omega)) ?_;dsimp only;rw[aT _ (by omega)];refine aW (λ(x:jm)=>x.1=i∧x.2.2.2.1=s∧i<x.2.2.2.2.1∧x.2.2.2.2.1<=(s.length:Int)∧x.2.2.1.length+i+1<=x.2.2.2.2.1) (λx=>((s.length:Int)-x.2.2.2.2.1).toNat) ?_ _ _ ⟨rfl,rfl,by dsimp only;omega,by dsimp only;omega,by simp⟩ (by dsimp only;omega);rintro f ⟨A,q,v,s',k,M,N,G,I,H,F⟩ ⟨m,p,y,B,w⟩ b;dsimp only at m p y B w b;subst m p;unfold nF;dsimp only;have J:0<=k∧k<=s'.length:=by omega
 have one:∀j:Int,0<=j->j<s'.length->(An j.toNat (Ao (j+1).toNat s')).length=1:=λj C D=>by simp only[AL,Bt];omega
 refine aB (λd=>?_) (λd=>lend (by omega) (by decide));have d:=of_decide_eq_true d;refine aD (ixt (by omega)) ?_;rw[aT (k+1) (by omega)];refine aB (λ_=>?_) (λ_=>aB (λ_=>lend (by omega) (by decide)) (λ_=>aB (λ_=>?_) (λ_=>?_)))
 ·refine aKA ?_ ?_;·exact aLN ⟨3,v,0,A⟩ _ _ _ _ _ ⟨rfl,by dsimp only;omega,by dsimp only;omega,λ_=>⟨⟨by dsimp only;omega,λh=>absurd (show (3:Int)=1 from h) (by decide)⟩,.inr (by dsimp only;omega)⟩⟩
  ·exact lend (by omega) (by decide)
 ·refine vck (aD (decide_eq_true ?_) (b _ ⟨rfl,rfl,by dsimp only;omega,by dsimp only;omega,?_⟩ (by dsimp only;omega)));·rw[one k (by omega) (by omega)];omega
  ·dsimp only;rw[Ak,one k (by omega) (by omega)];omega
 ·refine zg (by omega) z (by omega) (λc E u=>?_);dsimp only;by_cases l:c=0;·subst l;refine aB (λh=>by simp at h) (λ_=>aB (λh=>by simp at h) (λ_=>aB (λh=>by simp at h) (λ_=>aB (λh=>by simp at h) (λ_=>lend (by omega) (by decide)))))
  have l:=u l;rw[aT (k+1+1) (by omega)];have t:=one (k+1) (by omega) (by omega);refine aB (λ_=>?_) (λ_=>aB (λ_=>?_) (λ_=>aB (λ_=>?_) (λ_=>aB (λ_=>?_) (λ_=>lend (by omega) (by decide)))));·refine aD (decide_eq_true (by simp only[Ai,Al];omega)) (b _ ⟨rfl,rfl,by dsimp only;omega,by dsimp only;omega,?_⟩ (by dsimp only;omega));simp only[Ak,Ai,Al];omega
  all_goals
   refine vck (aD (decide_eq_true ?_) (b _ ⟨rfl,rfl,by dsimp only;omega,by dsimp only;omega,?_⟩ (by dsimp only;omega)));·rw[t];omega
   ·dsimp only;rw[Ak,t];omega
def WQ(s:List UInt8)(i:Int):V×List aK->Prop:=λz=>∃(c:Tok)(a:Bs)(b d e:Int)(rest:List aK),z.1.dimR=.agg (enc .tok c)∧z.2=some [.str a,.int .i64 b,.int .i64 d,.int .i64 e]::rest∧xp s i (c,a,b,d,e)
theorem WQ.mk{s s':List UInt8}{i k n p j e a:Int}{t:List UInt8}{rest:List aK}(h:xp s i (⟨k,t,n,p⟩,s',j,e,a)):Tot (some ((.agg [.int .i64 k,.str t,.int .u64 n,.int .i64 p],some [.str s',.int .i64 j,.int .i64 e,.int .i64 a]::rest):V×List aK)) (WQ s i):=aE ⟨⟨k,t,n,p⟩,s',j,e,a,rest,rfl,rfl,h⟩
theorem WQ.end{s:List UInt8}{i:Int}{r:Tok×List UInt8×Int×Int×Int}{rest:List aK}(h:xp s i r):Tot (some ((.agg [.int .i64 r.1.kind,.str r.1.text,.int .u64 r.1.n,.int .i64 r.1.pos],some [.str r.2.1,.int .i64 r.2.2.1,.int .i64 r.2.2.2.1,.int .i64 r.2.2.2.2]::rest):V×List aK)) (WQ s i):=aE ⟨r.1,_,_,_,_,rest,rfl,rfl,h⟩
theorem aD2(N:Nat)(H:N=4000)(s:List UInt8)(i j w F:Int)(J:0<=i)(l:s.length<=3000)(E:i<j)(p:j<=s.length):Tot (aO N (jo N) (i,s,j,w,F,0,([]:Bs),0,0)) (WQ s i):=by
 refine aW (λ(x:jn)=>x.1=i∧x.2.1=s∧i<x.2.2.1∧x.2.2.1<=(s.length:Int)) (λx=>((s.length:Int)-x.2.2.1).toNat) ?_ _ _ ⟨rfl,rfl,E,p⟩ (by dsimp only;omega);rintro d ⟨a,s',k,t,v,B,D,C,A⟩ ⟨r,u,z,G⟩ m;dsimp only at r u z G m;subst r u;unfold jo;dsimp only;have f:0<=k∧k<=s'.length:=by omega
 have e:((decide (0<=k)&&decide (k<=(↑(Aa s'):Int))&&(decide (0<=a)&&decide (a<=k))))=true:=by first|(simp only[bnl,lnl];done)|(simp only[bnl,lnl];omega)
 have fin:xp s' a (⟨1,An (Ad a) (Ao (Ad k) s'),0,a⟩,s',k,t,v):=by
  have p:(An (Ad a) (Ao (Ad k) s')).length=(k-a).toNat:=by simp only[AL,Bt];omega
  exact⟨rfl,by dsimp only;omega,by dsimp only;omega,λ_=>⟨⟨by dsimp only;omega,λ_=>by dsimp only;omega⟩,.inr (by dsimp only;omega)⟩⟩
 have next:k<s'.length->Tot (d (a,s',Ab .i64 (k+1),t,v,B,D,C,A)) (WQ s' a):=λh=>by rw[aT (k+1) (by omega)];exact m _ ⟨rfl,rfl,by dsimp only;omega,by dsimp only;omega⟩ (by dsimp only;omega)
 refine zg f l (by omega) (λc q b=>?_);dsimp only;rw[Int.add_zero] at b;refine zh (λe=>?_) ?_;·exact next (b (by omega))
 dsimp only[cond_false];refine zg f l (by omega) (λc q b=>?_);dsimp only;rw[Int.add_zero] at b;refine agI (λe=>?_) ?_;·exact next (b (by omega))
 dsimp only[cond_false];refine zg f l (by omega) (λc q b=>?_);dsimp only;rw[Int.add_zero] at b;refine aB (λe=>?_) (λ_=>aD e (WQ.mk fin));have y:c=46:=by simpa using e
 refine zg f l (by omega) (λI _ _=>?_);dsimp only;refine zh (λ_=>?_) ?_;·exact next (b (by omega))
 ·exact aD (by assumption) (WQ.mk fin)
theorem aD3(N:Nat)(q:N=4000)(s:List UInt8)(i c l m:Int)(z:0<=i)(A:s.length<=3000)(r:i<s.length):Tot (aO N (jp N) (i,c,0,s,i,l,m,0,([]:Bs),0,0)) (WQ s i):=by refine aW (λ(x:c9)=>x.1=i∧x.2.2.2.1=s∧x.2.2.2.2.1=i∧0<=x.2.2.1) (λx=>(12-x.2.2.1).toNat) ?_ _ _ ⟨rfl,rfl,rfl,Av 0⟩ (by dsimp only;omega);rintro a ⟨D,c,v,s',k,B,C,u,y,w,t⟩ ⟨d,f,e,p⟩ b;dsimp only at d f e p b;subst d f e;unfold jp;dsimp only;refine aB (λj=>?_) (λ_=>lend (by omega) (by decide));have j:=of_decide_eq_true j;rw[aT (k+1) (by omega),aT (v+1) (by omega)];refine aD (ixt ⟨by omega,by simp only[Ai,Al];omega⟩) (aB (λ_=>vck (WQ.mk ?_)) (λ_=>b _ ⟨rfl,rfl,rfl,by dsimp only;omega⟩ (by dsimp only;omega)));refine⟨rfl,by dsimp only;omega,by dsimp only;omega,λ_=>⟨⟨?_,λh=>absurd (show (4:Int)=1 from h) (by decide)⟩,.inr (by dsimp only;omega)⟩⟩;simp only[AL,Bt];omega
theorem aKB(s:List UInt8)(i e a:Int)(j:0<=i∧i<=s.length)(b:s.length<=3000):∃r,pz s i e a r:=by
 obtain⟨N,f⟩:∃N:Nat,N=4000:=⟨_,rfl⟩
 apply am2 N;show Tot _ (WQ s i);unfold adw kz;dsimp only;refine aB (λk=>WQ.mk ⟨rfl,by dsimp only;omega,by dsimp only;omega,λ_=>⟨⟨AR _,λh=>absurd (show (5:Int)=1 from h) (by decide)⟩,.inl rfl⟩⟩) (λk=>?_);have k:i≠s.length:=by simpa using k
 refine aD (ixt (by omega)) ?_;rw[aT (i+1) (by omega)];refine zh (λ_=>?_) ?_;·dsimp only[cond_true];exact aD2 N f _ _ _ _ _ j.1 b (by omega) (by omega)
 dsimp only[cond_false];refine aB (λ_=>?_) (λ_=>?_)
 ·refine zg (by omega) b (by omega) (λc _ _=>?_);dsimp only;rw[aT (i+1) (by omega)];refine zh (λ_=>?_) ?_;·dsimp only[cond_true];exact aD2 N f _ _ _ _ _ j.1 b (by omega) (by omega)
  dsimp only[cond_false];refine agI (λh=>aX (awe s i e a (by omega) b h) λr d=>WQ.end d.2) ?_;dsimp only[cond_false];exact aB (λ_=>aX (alz s i e a (by omega) b) λr d=>WQ.end d.2) (λ_=>aB (λ_=>aX (alz s i e a (by omega) b) λr d=>WQ.end d.2) (λ_=>aD3 N f _ _ _ _ _ j.1 b (by omega)))
 ·refine agI (λh=>aX (awe s i e a (by omega) b h) λr d=>WQ.end d.2) ?_;dsimp only[cond_false];exact aB (λ_=>aX (alz s i e a (by omega) b) λr d=>WQ.end d.2) (λ_=>aB (λ_=>aX (alz s i e a (by omega) b) λr d=>WQ.end d.2) (λ_=>aD3 N f _ _ _ _ _ j.1 b (by omega)))
theorem aLY(s:List UInt8):∃r,afA s r:=by
 obtain⟨N,hN⟩:∃N:Nat,N=4000:=⟨_,rfl⟩
 apply aDj N;unfold asJ wQ;dsimp only
 have u:∀(e a:Int)(rest:List aK),e≠0->Tot (some ((.tup [.sl .tok (.may false) ([]:List Tok),.int .i64 e,.int .i64 a],rest):V×List aK)) (λz=>∃(E:List Tok)(A I:Int)(rest:List aK),z.1.dimR=.tup [.sl .tok (.may false) E,.int .i64 A,.int .i64 I]∧z.2=rest∧aea s (E,A,I)):=
  λe a rest f=>aE ⟨[],e,a,rest,rfl,rfl,λh=>absurd h f⟩
 refine aB (λ_=>u 3 0 _ (by decide)) (λH=>?_);have H:=of_decide_eq_false H;refine aW (λ(x:uC)=>x.2.1=s∧0<=x.2.2.1∧x.2.2.1<=(s.length:Int)∧(x.1.length:Int)<=x.2.2.1∧∀t∈x.1,t.text.length<=3000∧(t.kind=1->0<t.text.length)) (λx=>((s.length:Int)-x.2.2.1).toNat) ?_ _ _ ⟨rfl,Av 0,by dsimp only;omega,Av 0,λt Y=>absurd Y (by simp)⟩ (by dsimp only;omega);rintro y ⟨v,s',i,e,a⟩ ⟨F,M,S,h4,C⟩ B;dsimp only at F M S h4 C B;subst F;unfold aao;dsimp only;refine aX (aI9 s' i e a (by omega) (by omega)) ?_;rintro⟨W,L,G,a2⟩ ⟨-,q,R,X⟩;dsimp only at q R X ⊢;subst q;refine aB (λf=>?_) (λf=>aB (λ_=>u _ _ _ (by simpa using f)) (λh=>by rw[f] at h;exact absurd h (by decide)));have f:G=0:=by simpa using f
 refine aX (aKB W L G a2 (by omega) (by omega)) ?_;rintro⟨⟨k,t,n,p⟩,s3,Q,Z,a3⟩ ⟨-,q,O,m2,D⟩;dsimp only at q O m2 D ⊢;subst q;refine aB (λc=>u _ _ _ (by simpa using c)) (λc=>?_);have c:Z=0:=by simpa using c
 obtain⟨⟨P,J⟩,j⟩:=D c;dsimp only at P J j;have l:∀x∈v++[(⟨k,t,n,p⟩:Tok)],x.text.length<=3000∧(x.kind=1->0<x.text.length):=λx m=>by
  rcases Az.1 m with m|m;·exact C x m
  ·rw[Ay.1 m];exact⟨by dsimp only;omega,J⟩
 have b:(v++[(⟨k,t,n,p⟩:Tok)]).length=v.length+1:=by simp
 refine aD (decide_eq_true (by simp only[Ai,Al];omega)) (aB (λd=>?_) (λd=>?_))
 ·have w:k=5:=by simpa using d
  refine aE ⟨_,_,_,_,rfl,rfl,λ_=>⟨by rw[b];omega,by rw[b];omega,?_,l⟩⟩;rw[b];simp[Aq,w]
 ·have w:k≠5:=by simpa using d
  have:L<Q:=by rcases j with j|j<;>first|exact absurd j w|exact j
  exact B _ ⟨rfl,by dsimp only;omega,by dsimp only;omega,by dsimp only;rw[b];omega,l⟩ (by dsimp only;omega)
def FRQ:V×List aK->Prop:=λz=>∃(c:Bs)(a:Bss)(b:List bi)(d:List PEn)(e f:Int)(rest:List aK),z.1.dimR=.tup [.agg [.str c,.sl .str (.may false) a,.sl .fmsg (.may false) b,.sl .pen (.may false) d],.int .i64 e,.int .i64 f]∧z.2=rest∧(e=0->aHg c a b d)
theorem PIn.named{l:List Tok}{i:Int}(h:PIn l i)(b:(l.getD i.toNat (aI .tok)).kind=1):0<(l.getD i.toNat (aI .tok)).text.length:=by
 have a:i.toNat<l.length:=by have:=h.2;omega
 rw[Aq,Ah a] at b ⊢;exact(h.1.2.2.2 _ (BU a)).2 b
structure SIn(l:List Tok)(i e pk:Int)(nm:Bs)(im:Bss)(ms:List bi)(es:List PEn):Prop where
 at_:PIn l i
 pk_:0<=pk∧pk<=1
 nm_:nm.length<=3000
 im_:Cap im e∧jZ im
 ms_:Cap ms e
 good:e=0->yc ms∧(eK ms:Int)<=i
 es_:Cap es e∧∀x∈es,aeb x
theorem SIn.fail{l:List Tok}{i e pk f d:Int}{j:Bs}{b:Bss}{c:List bi}{es:List PEn}(h:SIn l i e pk j b c es)(hp:PIn l f)(a:d≠0):SIn l f d pk j b c es:=
 ⟨hp,h.pk_,h.nm_,⟨h.im_.1.bad a,h.im_.2⟩,h.ms_.bad a,λh=>absurd h a,⟨h.es_.1.bad a,h.es_.2⟩⟩
theorem SIn.go{l:List Tok}{i pk b:Int}{e:Bs}{c:Bss}{d:List bi}{es:List PEn}(h:SIn l i 0 pk e c d es)(a:Int)(hp:PIn l b)(f:i<=b):SIn l b a pk e c d es:=
 ⟨hp,h.pk_,h.nm_,⟨h.im_.1.of a,h.im_.2⟩,h.ms_.of a,λ_=>⟨(h.good rfl).1,by have:=(h.good rfl).2;omega⟩,⟨h.es_.1.of a,h.es_.2⟩⟩
set_option maxHeartbeats 8000000 in
theorem aJk(s:Bs):∃r,z5 s r:=by
 obtain⟨N,hN⟩:∃N:Nat,N=7000:=⟨_,rfl⟩
 apply ax0 N;show Tot _ FRQ;unfold amj sa;dsimp only;refine aX (aLY s) ?_;rintro⟨l,le,la⟩ ⟨-,hL⟩;dsimp only at hL ⊢;refine aB (λh=>aE ⟨_,_,_,_,_,_,_,rfl,rfl,λh0=>?_⟩) (λh=>?_);·rw[h0] at h;simp at h
 have hl:aCA l:=hL (by simpa using h);have h0:PIn l 0:=⟨hl,Av _,by have:=hl.1;omega⟩
 have aj:∀i e a,PIn l i->Tot (aO N (fb N) (0,[],[],[],[],l,i,e,a,[],[],[],[])) FRQ:=by
  intro i e a Y;refine aW (λ(x:p8)=>match x with|(pk,o0,o1,o2,o3,l',i',e',_,nm,im,ms,es)=>(o0,o1,o2,o3,l')=([],[],[],[],l)∧SIn l i' e' pk nm im ms es) (λx=>mu l.length x.2.2.2.2.2.2.1 x.2.2.2.2.2.2.2.1) ?_ _ _ ⟨rfl,⟨Y,by decide,AR _,⟨Cap.nil _,λx hx=>by simp at hx⟩,Cap.nil _,λ_=>⟨trivial,by simp only[eK];exact Y.2.1⟩,⟨Cap.nil _,λx hx=>by simp at hx⟩⟩⟩ (by rw[hN];exact awf _ _ _ Y.2.1 Y.1.2.1);rintro ab ⟨pk,o0,o1,o2,o3,l',i',e',a',nm,im,ms,es⟩ ⟨q,I⟩ w;cases q;dsimp only at w;have hp:=I.at_;unfold fb;dsimp only;have ak:∀(o:List aK)(Q a2:Int),(Q=0->e'=0)->Tot (cond (!(Q==0)) (some (.tup [.agg [.str ([]:Bs),.sl .str (.may true) ([]:Bss),.sl .fmsg (.may true) ([]:List bi),.sl .pen (.may true) ([]:List PEn)],.int .i64 Q,.int .i64 a2],some [.str ([]:Bs),.sl .str (.may true) ([]:Bss),.sl .fmsg (.may true) ([]:List bi),.sl .pen (.may true) ([]:List PEn)]::o)) (some (.tup [.agg [.str nm,.sl .str (.may false) im,.sl .fmsg (.may false) ms,.sl .pen (.may false) es],.int .i64 0,.int .i64 0],some [.str nm,.sl .str (.may false) im,.sl .fmsg (.may false) ms,.sl .pen (.may false) es]::o))) FRQ:=by
   intro o Q a2 he;refine aB (λh=>aE ⟨_,_,_,_,_,_,_,rfl,rfl,λh0=>?_⟩) (λh=>aE ⟨_,_,_,_,_,_,_,rfl,rfl,λ_=>?_⟩);·rw[h0] at h;simp at h
   ·have m:Q=0:=by simpa using h
    have G:=I.good (he m);have hs:=hp.small;have:=hp.2.2;exact⟨I.nm_,⟨I.im_.1.1,I.im_.2⟩,⟨I.ms_.1,G.1,by omega⟩,⟨I.es_.1.1,I.es_.2⟩⟩
  refine aB (λm=>?_) (λm=>ak _ _ _ (λh=>h));have m:e'=0:=by simpa using m
  subst m;refine gP hp ?_;dsimp only;refine aB (λhk=>?_) (λ_=>ak _ _ _ (λh=>h));refine uQ hp (λ_ f g2=>?_) ?_;·dsimp only[cond_true];rw[g2];exact w _ ⟨rfl,I.go 0 f (by dsimp only;omega)⟩ (iM rfl (by dsimp only;omega) f.2.2 (λ_=>by dsimp only;omega))
  dsimp only[cond_false];refine oH hp (λ_ f=>?_) ?_
  ·dsimp only[cond_true];refine aB (λac=>dr hp (by decide) (λD k b=>?_)) (λac=>?_);·exact w _ ⟨rfl,I.fail hp b⟩ (iM rfl (Av _) hp.2.2 (λh=>absurd h b))
   have ac:=of_decide_eq_false ac;have az:pk=0:=by have:=I.pk_;omega
   subst az;rw[vA hp];have fin:∀Q a2,Tot (aA (dh l (i'+1) Q a2) (λp=>aA (aJ p.2.1 p.2.2.1 p.2.2.2.1 p.2.2.2.2 ([59]:Bs)) (λL=>ab (Ab .i64 (0+1),[],[],[],[],L.1,L.2.1,L.2.2.1,L.2.2.2,p.1,im,ms,es)))) FRQ:=by intro Q a2;refine ayr f (λt i4 e4 a4 ht W v u=>fx W (λi5 e5 a5 h5 z y=>?_));dsimp only at z y ⊢;rw[show Ab .i64 (0+1)=1 from by decide];exact w _ ⟨rfl,{I.go e5 h5 (by omega) with pk_:=⟨by dsimp only;decide,by dsimp only;decide⟩,nm_:=ht}⟩ (iM rfl (by dsimp only;omega) h5.2.2 (λh=>by dsimp only;omega))
   refine gP f (aB (λhn=>gP f (aD ?_ (aB (λ_=>dr f (by decide) (λD k b=>fin D k)) (λ_=>fin _ _)))) (λ_=>fin _ _));have:=f.named (by simpa using hn);exact decide_eq_true (by dsimp only;omega)
  dsimp only[cond_false];refine oH hp (λ_ f=>?_) ?_
  ·dsimp only[cond_true];refine vC hp (λD k b=>?_) (λk _ hc=>?_);·refine aB (λd=>by simp at d) (λ_=>?_);exact w _ ⟨rfl,I.fail hp b⟩ (iM rfl (Av _) hp.2.2 (λh=>absurd h b))
   ·refine aB (λ_=>?_) (λd=>by simp at d);dsimp only;rw[vA hp];have ay:im.length<30:=by omega
    refine ays f (λt i4 e4 a4 ht W v u=>aD (decide_eq_true (by simp only[Ai,Al];omega)) (fx W (λi5 e5 a5 h5 z y=>?_)));dsimp only at z y ⊢;exact w _ ⟨rfl,{I.go e5 h5 (by omega) with im_:=⟨Cap.add ay,ayt I.im_.2 ht⟩}⟩ (iM rfl (by dsimp only;omega) h5.2.2 (λh=>by dsimp only;omega))
  dsimp only[cond_false];refine oH hp (λ_ f=>?_) ?_
  ·dsimp only[cond_true];refine vC hp (λD k b=>?_) (λk _ hc=>?_);·refine aB (λd=>by simp at d) (λ_=>?_);exact w _ ⟨rfl,I.fail hp b⟩ (iM rfl (Av _) hp.2.2 (λh=>absurd h b))
   ·refine aB (λ_=>?_) (λd=>by simp at d);dsimp only;refine aX (asZ 21 l i' 0 k 1 (by decide) (by decide) (by decide) hp f.2.2) ?_;rintro⟨x,l2,i4,e4,a4⟩ ⟨-,⟨q,v,u,z⟩,y⟩;dsimp only at q v u z y ⊢;subst q;have al:ms.length<30:=by omega
    rw[aok];have C:PIn l2 i4:=⟨hp.1,by have:=hp.2;omega,u⟩
    refine aD (decide_eq_true (by simp only[Ai,Al];omega)) ?_;refine w _ ⟨rfl,?_⟩ (iM rfl v u (λh=>(z h).2));by_cases W:e4=0;·have I':=I.go 0 C v;have G:=I.good rfl;subst W;exact{I' with ms_:=Cap.add al,good:=λ_=>⟨auc _ (y rfl).1 _ G.1,by dsimp only;rw[ap5];have:=(y rfl).2;have:=G.2;omega⟩}
    ·have I':=I.fail C W;exact{I' with ms_:=Cap.add al,good:=λh=>absurd h W}
  dsimp only[cond_false];refine oH hp (λ_ f=>?_) ?_
  ·dsimp only[cond_true];refine vC hp (λD k b=>?_) (λk _ hc=>?_);·refine aB (λd=>by simp at d) (λ_=>?_);exact w _ ⟨rfl,I.fail hp b⟩ (iM rfl (Av _) hp.2.2 (λh=>absurd h b))
   ·refine aB (λ_=>?_) (λd=>by simp at d);dsimp only;refine aX (aDZ (e:=0) (a:=k) hp f.2.2) ?_;rintro⟨x,l2,i4,e4,a4⟩ ⟨-,⟨q,v,u,z⟩,y⟩;dsimp only at q v u z y ⊢;subst q;have ax:es.length<30:=by omega
    have C:PIn l2 i4:=⟨hp.1,by have:=hp.2;omega,u⟩
    refine aD (decide_eq_true (by simp only[Ai,Al];omega)) ?_;exact w _ ⟨rfl,{I.go e4 C v with es_:=⟨Cap.add ax,aGG I.es_.2 y⟩}⟩ (iM rfl v u (λh=>(z h).2))
  dsimp only[cond_false];refine dr hp (by decide) (λD k b=>?_);exact w _ ⟨rfl,I.fail hp b⟩ (iM rfl (Av _) hp.2.2 (λh=>absurd h b))
 have j:∀i e a,PIn l i->Tot (aA (bG l i e a) (λA=>aA (aJ A.2.1 A.2.2.1 A.2.2.2.1 A.2.2.2.2 ([59]:Bs)) (λR=>aO N (fb N) (0,[],[],[],[],R.1,R.2.1,R.2.2.1,R.2.2.2,[],[],[],[])))) FRQ:=by intro i e a Y;exact ays Y (λt i4 e4 a4 ht W v u=>fx W (λi5 e5 a5 h5 z y=>aj _ _ _ h5))
 have X:∀i e a,PIn l i->Tot (aA (aJ l i e a ([61]:Bs)) (λP=>
       cond (P.2.2.1==0) (
        aA (aY P.1 P.2.1 P.2.2.1 P.2.2.2) (λB=>
         cond (!(B.1.kind==3)) (
          aA (aN B.2.1 B.2.2.1 B.2.2.2.1 B.2.2.2.2 2) (λr6=>
           aA (bG r6.1 r6.2.1 r6.2.2.1 r6.2.2.2) (λA=>
            aA (aJ A.2.1 A.2.2.1 A.2.2.2.1 A.2.2.2.2 ([59]:Bs)) (λR=>
             aO N (fb N) (0,[],[],[],[],R.1,R.2.1,R.2.2.1,R.2.2.2,[],[],[],[]))))) (
          aA (aY B.2.1 B.2.2.1 B.2.2.2.1 B.2.2.2.2) (λc=>
           cond (!decide (c.1.text=([112,114,111,116,111,51]:Bs))) (
            aA (aN c.2.1 c.2.2.1 c.2.2.2.1 c.2.2.2.2 2) (λE=>
             aA (bG E.1 E.2.1 E.2.2.1 E.2.2.2) (λS=>
              aA (aJ S.2.1 S.2.2.1 S.2.2.2.1 S.2.2.2.2 ([59]:Bs)) (λM=>
               aO N (fb N) (0,[],[],[],[],M.1,M.2.1,M.2.2.1,M.2.2.2,[],[],[],[]))))) (
            aA (bG c.2.1 c.2.2.1 c.2.2.2.1 c.2.2.2.2) (λO=>
             aA (aJ O.2.1 O.2.2.1 O.2.2.2.1 O.2.2.2.2 ([59]:Bs)) (λJ=>
              aO N (fb N) (0,[],[],[],[],J.1,J.2.1,J.2.2.1,J.2.2.2,[],[],[],[])))))))) (
        aA (bG P.1 P.2.1 P.2.2.1 P.2.2.2) (λH=>
         aA (aJ H.2.1 H.2.2.1 H.2.2.2.1 H.2.2.2.2 ([59]:Bs)) (λF=>
          aO N (fb N) (0,[],[],[],[],F.1,F.2.1,F.2.2.1,F.2.2.2,[],[],[],[])))))) FRQ:=by
  intro i e a Y;refine fx Y (λi2 Q a2 Z v u=>aB (λ_=>gP Z (aB (λ_=>dr Z (by decide) (λD k _=>j _ _ _ Z)) (λ_=>gP Z (aB (λ_=>dr Z (by decide) (λD k _=>j _ _ _ Z)) (λ_=>j _ _ _ Z))))) (λ_=>j _ _ _ Z))
 refine afJ h0 (λ_ h1=>?_) ?_;·exact aB (λd=>by simp at d) (λ_=>X _ _ _ h1)
 ·exact aB (λ_=>dr h0 (by decide) (λD k _=>X _ _ _ h0)) (λd=>by simp at d)
section
variable{Q:V×List aK->Prop}
theorem aJl(x:PEn)(h:x.values.length<=31):∃r,acY x r:=by
 obtain⟨N,F⟩:∃N:Nat,N=1000:=⟨_,rfl⟩
 apply aAN N;unfold apg uG;dsimp only;have a:∀n:Int,Tot (some ((.int .i64 n,[]):V×List aK)) (λz=>∃(B:Int)(rest:List aK),z.1.dimR=.int .i64 B∧z.2=rest):=λn=>aE ⟨_,_,rfl,rfl⟩
 refine aB (λ_=>a 6) (λA=>aD ?_ (aB (λ_=>a 6) (λ_=>?_)))
 ·have:(x.values.length:Int)≠0:=by simpa using A
  exact decide_eq_true (by omega)
 refine aW (λ(y:gk)=>y.1=x∧0<=y.2∧y.2<=x.values.length) (λy=>(x.values.length-y.2).toNat) ?_ _ _ ⟨rfl,Av _,by dsimp only;omega⟩ (by dsimp only;omega);rintro i ⟨E,k⟩ ⟨q,d,C⟩ m;dsimp only at q d C m;subst q;unfold xL vq;dsimp only;refine aB (λf=>?_) (λ_=>a 0);have f:=of_decide_eq_true f;refine aW (λ(y:sh)=>y.1=E∧y.2.1=k∧0<=y.2.2∧y.2.2<=k) (λy=>(k-y.2.2).toNat) ?_ _ _ ⟨rfl,rfl,Av _,d⟩ (by dsimp only;omega);rintro c ⟨w,G,j⟩ ⟨q,u,e,D⟩ b;dsimp only at q u e D b;subst q u;unfold si;dsimp only;refine aB (λv=>?_) (λ_=>?_);·have v:=of_decide_eq_true v;have t:=ixt (l:=w.values) ⟨e,by omega⟩;have p:=ixt (l:=w.values) ⟨d,f⟩;refine aD t (aD p (aB (λ_=>a 5) (λ_=>aD t (aD p (aB (λ_=>a 5) (λ_=>?_))))));rw[cu e (by omega)];exact b _ ⟨rfl,rfl,by first|omega|(dsimp only;omega),by first|omega|(dsimp only;omega)⟩ (by first|omega|(dsimp only;omega))
 ·rw[cu d (by omega)];exact m _ ⟨rfl,by first|omega|(dsimp only;omega),by first|omega|(dsimp only;omega)⟩ (by first|omega|(dsimp only;omega))
theorem ajV{α:Type}(l:List α)(x:α)(k:Nat)(h:k<=l.length):((([]:List α)++An 0 (Ao k l))++[x]++An k (Ao l.length l)).length=l.length+1:=by simp only[B7,Bz,AZ,Ak,Bt,Ai,Al,AL];omega
theorem aq5{α:Type}{l:List α}{x y:α}{k:Nat}(h:y∈(([]:List α)++An 0 (Ao k l))++[x]++An k (Ao l.length l)):y∈l∨y=x:=by
 simp only[B7,Bz,AZ,Az,Ay] at h;rcases h with(h|h)|h;·exact .inl (Bv h)
 ·exact .inr h
 ·exact .inl (Bw h)
theorem acx{α:Type}(l:List α)(k:Nat):(([]:List α)++An 0 (Ao k l)).length<=l.length:=by simp only[B7,Bz,Bt];omega
theorem lE{α:Type}(l:List α)(k:Nat):(An k (Ao l.length l)).length<=l.length:=by simp only[AZ,AL];omega
theorem aF0(l:List PEn)(x:PEn)(u:l.length<=100000):∃r,vh l x r:=by
 obtain⟨N,m⟩:∃N:Nat,N=100001:=⟨_,rfl⟩
 apply atT N;unfold ahI ol;refine aW (λ(y:mZ)=>y.1=l∧y.2.1=x∧0<=y.2.2∧y.2.2<=l.length) (λy=>(l.length-y.2.2).toNat) ?_ _ _ ⟨rfl,rfl,Av _,by dsimp only;omega⟩ (by dsimp only;omega);rintro e ⟨d,p,k⟩ ⟨q,h,c,j⟩ i;dsimp only at q h c j i;subst q h;unfold rk;dsimp only;have f:=acx d k.toNat;have t:=lE d k.toNat;have b:(decide (0<=k)&&decide (k<=(↑(Aa d):Int)))=true:=by simp only[Ac,decide_eq_true_eq];omega
 refine aB (λa=>?_) (λa=>?_)
 ·have a:=of_decide_eq_true a;refine aD (ixt ⟨c,a⟩) (aB (λ_=>?_) (λ_=>?_));·rw[cu c (by omega)];exact i _ ⟨rfl,rfl,by first|omega|(dsimp only;omega),by first|omega|(dsimp only;omega)⟩ (by first|omega|(dsimp only;omega))
  ·refine aD b (aD (decide_eq_true ?_) (aD (decide_eq_true ?_) (aD b (aD (decide_eq_true ?_) (aE ⟨_,_,rfl,rfl,ajV _ _ _ (by omega)⟩)))))<;>(simp only[Ak,Ai,Al] at f ⊢;omega)
 ·refine aD b (aD (decide_eq_true ?_) (aD (decide_eq_true ?_) (aD b (aD (decide_eq_true ?_) (aE ⟨_,_,rfl,rfl,ajV _ _ _ (by omega)⟩)))))<;>(simp only[Ak,Ai,Al] at f ⊢;omega)
theorem ayw(l:List PMs)(x:PMs)(v:l.length<=100000):∃r,px l x r:=by
 obtain⟨N,p⟩:∃N:Nat,N=100001:=⟨_,rfl⟩
 apply ank N;unfold adE kA;refine aW (λ(y:jr)=>y.1=l∧y.2.1=x∧0<=y.2.2∧y.2.2<=l.length) (λy=>(l.length-y.2.2).toNat) ?_ _ _ ⟨rfl,rfl,Av _,by dsimp only;omega⟩ (by dsimp only;omega);rintro f ⟨e,t,k⟩ ⟨q,i,d,m⟩ j;dsimp only at q i d m j;subst q i;unfold nH;dsimp only;have h:=acx e k.toNat;have u:=lE e k.toNat;have b:(decide (0<=k)&&decide (k<=(↑(Aa e):Int)))=true:=by simp only[Ac,decide_eq_true_eq];omega
 refine aB (λa=>?_) (λa=>?_)
 ·have a:=of_decide_eq_true a;refine aD (ixt ⟨d,a⟩) (aB (λ_=>?_) (λ_=>?_));·rw[cu d (by omega)];exact j _ ⟨rfl,rfl,by first|omega|(dsimp only;omega),by first|omega|(dsimp only;omega)⟩ (by first|omega|(dsimp only;omega))
  ·refine aD b (aD (decide_eq_true ?_) (aD (decide_eq_true ?_) (aD b (aD (decide_eq_true ?_) (aE ⟨_,_,rfl,rfl,ajV _ _ _ (by omega),λy c=>aq5 c⟩)))))<;>(simp only[Ak,Ai,Al] at h ⊢;omega)
 ·refine aD b (aD (decide_eq_true ?_) (aD (decide_eq_true ?_) (aD b (aD (decide_eq_true ?_) (aE ⟨_,_,rfl,rfl,ajV _ _ _ (by omega),λy c=>aq5 c⟩)))))<;>(simp only[Ak,Ai,Al] at h ⊢;omega)
def BQ(f:bM):V×List aK->Prop:=λz=>∃(a:Bool)(rest:List aK),z.1.dimR=.bool a∧z.2=rest∧(a=false->1<=f.num∧f.num<=536870911)
theorem aLZ(m:bi)(f:bM)(h:m.nums.length<=31)(C:m.names.length<=31):∃r,afz m f r:=by
 obtain⟨N,B⟩:∃N:Nat,N=1000:=⟨_,rfl⟩
 apply aDu N;show Tot _ (BQ f);unfold asP wT;dsimp only;have a:Tot (some ((.bool true,[]):V×List aK)) (BQ f):=aE ⟨true,_,rfl,rfl,λh=>by simp at h⟩;refine aB (λ_=>a) (λp=>aB (λ_=>a) (λu=>?_));have p:=of_decide_eq_false p;have u:=of_decide_eq_false u;have c:Tot (aO N (qc N) (m,f,0)) (BQ f):=by refine aW (λ(y:uH)=>y.1=m∧y.2.1=f∧0<=y.2.2∧y.2.2<=m.nums.length) (λy=>(m.nums.length-y.2.2).toNat) ?_ _ _ ⟨rfl,rfl,Av _,by dsimp only;omega⟩ (by dsimp only;omega);rintro i ⟨v,z,k⟩ ⟨q,w,j,x⟩ t;dsimp only at q w j x t;subst q w;unfold qc;dsimp only;refine aB (λd=>?_) (λ_=>aE ⟨false,_,rfl,rfl,λ_=>by omega⟩);have d:=of_decide_eq_true d;have e:=ixt (l:=v.nums) ⟨j,d⟩;rw[cu j (by omega)];have go:=t (v,z,k+1) ⟨rfl,rfl,by first|omega|(dsimp only;omega),by first|omega|(dsimp only;omega)⟩ (by first|omega|(dsimp only;omega));exact aD e (aD (by decide) (aB (λ_=>aD e (aD (by decide) (aB (λ_=>a) (λ_=>go)))) (λ_=>go)))
 have b:Tot (aA (eL m.names f.name) (λ(A:Bool)=>cond A (some (.bool true,[])) (aO N (qc N) (m,f,0)))) (BQ f):=
  ap3 (by omega) (λ_=>a) (λ_=>c)
 exact aB (λ_=>aB (λ_=>a) (λ_=>b)) (λ_=>b)
theorem aJm{x:PFl}{l:List PFl}{k:Nat}(c:(l.map PFl.num).Nodup)(f:x.num ∉ l.map PFl.num):(((([]:List PFl)++An 0 (Ao k l))++[x]++An k (Ao l.length l)).map PFl.num).Nodup:=by
 have e:l.map PFl.num=(l.take k).map PFl.num++(l.drop k).map PFl.num:=by rw[<-BB,BS]
 rw[e] at c f;simp only[Az,not_or] at f;simp only[B7,Bz,AZ,BB,Bb,List.map_nil,AP];rw[List.nodup_append] at c ⊢;refine⟨c.1,?_,?_⟩;·rw[Dq,List.nodup_cons];exact⟨f.2,c.2.1⟩
 ·intro a h b d;rw[Dq,A3] at d;rcases d with rfl|d;·rintro rfl;exact f.1 h
  ·exact c.2.2 a h b d
def MkQ:V×List aK->Prop:=λz=>∃(a:PMs)(b:Int)(rest:List aK),z.1.dimR=.tup [.agg (enc .pms a),.int .i64 b]∧z.2=rest∧(b=0->zK a)
theorem aKC{x:PFl}{l:List PFl}{k:Nat}(b:∀f∈l,akJ f)(c:akJ x):∀y∈(([]:List PFl)++An 0 (Ao k l))++[x]++An k (Ao l.length l),akJ y:=λy a=>by
 rcases aq5 a with a|rfl;·exact b y a
 ·exact c
set_option maxHeartbeats 4000000 in
theorem aD4(d:List ch)(x:PNm)(hF:u7 d)(hx:aoo 10000000 x):∃r,vi d x r:=by
 obtain⟨N,hN⟩:∃N:Nat,N=1000:=⟨_,rfl⟩
 apply atW N;show Tot _ MkQ;unfold ahL ou;have hm:=(aGD x.m).1 hx.2.1;have bn:=hm.2.1.1;have bl:=hm.2.2.1.1;refine aW (λ(y:dC)=>match y with|(H,z,k,a,b,c,u,fs,v)=>(H,z,a,b,c,u,v)=(d,x,[],[],[],x.name,x.m.oneofs)∧0<=k∧k<=x.m.fields.length∧(fs.length:Int)=k∧(∀f∈fs,akJ f)∧(fs.map PFl.num).Nodup∧∀f∈fs,f.num∈(x.m.fields.take k.toNat).map bM.num) (λy=>(x.m.fields.length-y.2.2.1).toNat) ?_ _ _ ⟨rfl,Av _,by omega,rfl,λf hf=>by simp at hf,by simp,λf hf=>by simp at hf⟩ (by dsimp only;omega);rintro I ⟨H,z,k,a,b,c,u,fs,v⟩ ⟨q,k0,k1,bs,aj,al,aa⟩ ih;cases q;dsimp only at ih;unfold rq pG;dsimp only;refine aB (λR=>?_) (λR=>?_)
 ·have R:=of_decide_eq_true R;have S:=dJ (aI .ffld) k0 R;obtain⟨g,hg⟩:∃g,g=Af x.m.fields k.toNat (aI .ffld):=⟨_,rfl⟩
  rw[<-hg] at S ⊢;have L:=hm.2.1.2 g S;rw[aok];refine aD (ixt ⟨k0,R⟩) (aX (aLZ x.m g hm.2.2.2.2.2.1 hm.2.2.2.2.2.2.1) ?_);rintro r1 ⟨-,hb⟩;have G:∀(e:Int)(o:List aK),e≠0->Tot (some ((.tup [.agg [.str x.name,.sl .pfl (.may false) fs,.sl .str (.may false) x.m.oneofs],.int .i64 e],o):V×List aK)) MkQ:=λe o he=>aE ⟨⟨x.name,fs,x.m.oneofs⟩,_,_,rfl,rfl,λh=>absurd h he⟩
  refine aB (λ_=>G _ _ (by decide)) (λhr=>?_);have hb:=hb hr;refine aW (λ(y:fJ)=>match y with|(H,z,k',g',j,a,b,c,u,p,v)=>(H,z,k',g',a,b,c,u,p,v)=(d,x,k,g,[],[],[],x.name,fs,x.m.oneofs)∧0<=j∧j<=k∧g.num ∉ (x.m.fields.take j.toNat).map bM.num) (λy=>(k-y.2.2.2.2.1).toNat) ?_ _ _ ⟨rfl,Av _,k0,by simp⟩ (by dsimp only;omega);rintro am ⟨H,z,k',g',j,a,b,c,u,p,v⟩ ⟨q,M,j1,ab⟩ Y;cases q;dsimp only at Y;unfold nc pE;dsimp only;refine aB (λE=>?_) (λE=>?_);·have E:=of_decide_eq_true E;have e:=ixt (l:=x.m.fields) ⟨M,by omega⟩;refine aD e (aB (λ_=>G _ _ (by decide)) (λah=>aD e (aB (λ_=>G _ _ (by decide)) (λ_=>?_))));rw[cu M (by omega)];refine Y _ ⟨rfl,by first|omega|(dsimp only;omega),by first|omega|(dsimp only;omega),?_⟩ (by first|omega|(dsimp only;omega));dsimp only;rw[sU (aI .ffld) M (by omega),BB,Az,not_or];refine⟨ab,λh=>?_⟩;rw[Bb,List.map_nil,Ay] at h;rw[h] at ah;simp at ah
  have E:j=k:=by have:=of_decide_eq_false E;omega
  subst E;have ax:g.num ∉ fs.map PFl.num:=λh=>by obtain⟨f,hf,ay⟩:=AH.1 h;exact ab (ay▸aa f hf)
  refine ap3 (by omega) (λ_=>aB (λ_=>G _ _ (by decide)) (λh=>by simp at h)) (λ_=>aB (λh=>by simp at h) (λ_=>?_));rw[show Ab .i64 g.num=g.num from aT _ (by omega)];have put:∀(A:Int)(O:Bs)(B:Int)(pk:Bool),1<=A->A<=17->0<=B->B<=15->(pk=true->ei A≠2∧g.label=2)->Tot (aO N (jL N I) (d,x,j,0,[],[],[],x.name,fs,x.m.oneofs,g.num,g.name,g.label,A,O,B,pk,g.oneof)) MkQ:=by
   intro A O B pk d1 d2 d3 d4 d5;have W:akJ ⟨g.num,g.name,g.label,A,O,B,pk,g.oneof⟩:=⟨d1,d2,L.2.2.2.1,L.2.2.2.2,hb.1,hb.2,d3,d4,d5⟩
   refine aW (λ(y:na)=>match y with|(H,z,k',i,a,b,c,u,p,v,w0,w1,w2,w3,w4,w5,w6,w7)=>(H,z,k',a,b,c,u,p,v,w0,w1,w2,w3,w4,w5,w6,w7)=(d,x,j,[],[],[],x.name,fs,x.m.oneofs,g.num,g.name,g.label,A,O,B,pk,g.oneof)∧0<=i∧i<=fs.length) (λy=>(fs.length-y.2.2.2.1).toNat) ?_ _ _ ⟨rfl,Av _,by omega⟩ (by dsimp only;omega);rintro aq ⟨H,z,k',i,a,b,c,u,p,v,w0,w1,w2,w3,w4,w5,w6,w7⟩ ⟨q,X,i1⟩ ad;cases q;dsimp only at ad;unfold jL;dsimp only;have h1:=acx fs i.toNat;have h2:=lE fs i.toNat;have ek:(decide (0<=i)&&decide (i<=(↑(Aa fs):Int)))=true:=by simp only[Ac,decide_eq_true_eq];omega
   rw[cu k0 (by omega)];have aw:=ajV fs (⟨g.num,g.name,g.label,A,O,B,pk,g.oneof⟩:PFl) i.toNat (by omega);have az:=aJm (x:=(⟨g.num,g.name,g.label,A,O,B,pk,g.oneof⟩:PFl)) (k:=i.toNat) al ax;have go:=ih (d,x,j+1,[],[],[],x.name,_,x.m.oneofs) ⟨rfl,by first|omega|(dsimp only;omega),by first|omega|(dsimp only;omega),by dsimp only;rw[aw];omega,aKC (k:=i.toNat) aj W,az,λy hy=>by
    rw[sU (aI .ffld) k0 R,<-hg,BB,Az];rcases aq5 hy with hy|rfl;·exact .inl (aa y hy)
    ·exact .inr (by simp)⟩ (by dsimp only;omega)
   refine aB (λJ=>?_) (λJ=>?_)
   ·have J:=of_decide_eq_true J;refine aD (ixt ⟨X,J⟩) (aB (λ_=>?_) (λ_=>?_));·rw[cu X (by omega)];exact ad _ ⟨rfl,by first|omega|(dsimp only;omega),by first|omega|(dsimp only;omega)⟩ (by first|omega|(dsimp only;omega))
    ·refine aD ek (aD (decide_eq_true ?_) (aD (decide_eq_true ?_) (aD ek (aD (decide_eq_true ?_) go))))<;>(simp only[Ak,Ai,Al] at h1 ⊢;omega)
   ·refine aD ek (aD (decide_eq_true ?_) (aD (decide_eq_true ?_) (aD ek (aD (decide_eq_true ?_) go))))<;>(simp only[Ak,Ai,Al] at h1 ⊢;omega)
  refine ayq (λA bx=>ayq (λB t=>aB (λ_=>?_) (λhz=>?_)))
  ·refine aX (aKr d x.file x.name g.typ hF hx.2.2.2 L.1) ?_;rintro⟨w,k2,e2⟩ ⟨-,hr⟩;dsimp only[ab8] at hr ⊢;refine aB (λhe=>G _ _ (by simpa using he)) (λhe=>?_);have hr:=hr (by simpa using he);refine aL (acw _) (λ_ h=>h.2) ?_;have P:(!(ei k2==2))=true->(g.label==2)=true->_:=λD C=>put k2 w B (!(g.packed==2)) (by omega) (by omega) t.1 t.2 (λ_=>⟨by simpa using D,by simpa using C⟩)
   have F:=put k2 w B false (by omega) (by omega) t.1 t.2 (λh=>by simp at h);exact aB (λ_=>aB (λ_=>G _ _ (by decide)) (λ_=>aB (λ_=>G _ _ (by decide)) (λ_=>aB (λC=>aB (λD=>P D C) (λ_=>F)) (λ_=>F)))) (λ_=>aB (λC=>aB (λD=>P D C) (λ_=>F)) (λ_=>F))
  ·have hz:A≠0:=by simpa using hz
   refine aL (acw _) (λ_ h=>h.2) ?_;have P:(!(ei A==2))=true->(g.label==2)=true->_:=λD C=>put A [] B (!(g.packed==2)) (by omega) (by omega) t.1 t.2 (λ_=>⟨by simpa using D,by simpa using C⟩)
   have F:=put A [] B false (by omega) (by omega) t.1 t.2 (λh=>by simp at h);exact aB (λ_=>aB (λ_=>G _ _ (by decide)) (λ_=>aB (λ_=>G _ _ (by decide)) (λ_=>aB (λC=>aB (λD=>P D C) (λ_=>F)) (λ_=>F)))) (λ_=>aB (λC=>aB (λD=>P D C) (λ_=>F)) (λ_=>F))
 ·refine aW (λ(y:eP)=>match y with|(z,j,a,b,c,u,p,v)=>(z,a,b,c,u,p,v)=(x,[],[],[],x.name,fs,x.m.oneofs)∧0<=j∧j<=x.m.oneofs.length) (λy=>(x.m.oneofs.length-y.2.1).toNat) ?_ _ _ ⟨rfl,Av _,by omega⟩ (by dsimp only;omega);rintro ap ⟨z,j,a,b,c,u,p,v⟩ ⟨q,M,j1⟩ Z;cases q;dsimp only at Z;unfold nh pF;dsimp only;refine aB (λE=>?_) (λ_=>aE ⟨⟨x.name,fs,x.m.oneofs⟩,_,_,rfl,rfl,λ_=>⟨by dsimp only;omega,aj,by dsimp only;omega,al⟩⟩);have E:=of_decide_eq_true E;refine aW (λ(y:ne)=>match y with|(z,j',i,a,b,c,u,p,v)=>(z,j',a,b,c,u,p,v)=(x,j,[],[],[],x.name,fs,x.m.oneofs)∧0<=i∧i<=j) (λy=>(j-y.2.2.1).toNat) ?_ _ _ ⟨rfl,Av _,M⟩ (by dsimp only;omega);rintro ar ⟨z,j',i,a,b,c,u,p,v⟩ ⟨q,X,i1⟩ ag;cases q;dsimp only at ag;unfold nf;dsimp only;refine aB (λJ=>?_) (λ_=>?_);·have J:=of_decide_eq_true J;refine aD (ixt ⟨X,by omega⟩) (aD (ixt ⟨M,E⟩) (aB (λ_=>aE ⟨⟨x.name,fs,x.m.oneofs⟩,_,_,rfl,rfl,λh=>by simp at h⟩) (λ_=>?_)));rw[cu X (by omega)];exact ag _ ⟨rfl,by first|omega|(dsimp only;omega),by first|omega|(dsimp only;omega)⟩ (by first|omega|(dsimp only;omega))
  ·rw[cu M (by omega)];exact Z _ ⟨rfl,by first|omega|(dsimp only;omega),by first|omega|(dsimp only;omega)⟩ (by first|omega|(dsimp only;omega))
def ScQ:V×List aK->Prop:=λz=>∃(c:List PMs)(a:List PEn)(b:Int)(d:Bs)(rest:List aK),z.1.dimR=.tup [.agg [.sl .pms (.may false) c,.sl .pen (.may false) a],.int .i64 b,.str d]∧z.2=rest∧(b=0->nL c∧a.length<=60)
def ScI(c:List ch)(l:List PNm)(y:List ch×List PNm×Int×List PMs×List PEn×List PMs×List PEn):Prop:=match y with|(e,f,k,a,b,d,es)=>(e,f,a,b)=(c,l,[],[])∧0<=k∧k<=l.length∧(d.length+es.length:Int)=k∧∀m∈d,zK m
set_option maxHeartbeats 4000000 in
theorem aHM(c:List ch)(J:u7 c):∃r,xz c r:=by
 obtain⟨N,hN⟩:∃N:Nat,N=1000000:=⟨_,rfl⟩
 apply avU N;show Tot _ ScQ;unfold aju qe;refine aJb J (λl hl Z=>?_);have C:∀(e:Int)(s:Bs)(o:List aK),e≠0->Tot (some ((.tup [.agg [.sl .pms (.may false) ([]:List PMs),.sl .pen (.may false) ([]:List PEn)],.int .i64 e,.str s],o):V×List aK)) ScQ:=λe s o t=>aE ⟨[],[],e,s,_,rfl,rfl,λh=>absurd h t⟩
 refine aW (λ(y:fp)=>match y with|(u,v,k,a,b)=>(u,v,a,b)=(c,l,[],[])∧0<=k∧k<=l.length) (λy=>(l.length-y.2.2.1).toNat) ?_ _ _ ⟨rfl,Av _,by omega⟩ (by dsimp only;omega);rintro I ⟨u,v,k,a,b⟩ ⟨q,p,Y⟩ L;cases q;dsimp only at L;unfold tJ rt;dsimp only;refine aB (λf=>?_) (λf=>?_)
 ·have f:=of_decide_eq_true f;refine aW (λ(y:oz)=>match y with|(u,v,k',j,a,b)=>(u,v,k',a,b)=(c,l,k,[],[])∧0<=j∧j<=k) (λy=>(k-y.2.2.2.1).toNat) ?_ _ _ ⟨rfl,Av _,p⟩ (by dsimp only;omega);rintro B ⟨u,v,k',j,a,b⟩ ⟨q,P,j1⟩ A;cases q;dsimp only at A;unfold oA;dsimp only;refine aB (λS=>?_) (λ_=>?_);·have S:=of_decide_eq_true S;have e:=ixt (l:=l) ⟨p,f⟩;refine aD (ixt ⟨P,by omega⟩) (aD e (aB (λ_=>aD e (C _ _ _ (by decide))) (λ_=>?_)));rw[cu P (by omega)];exact A _ ⟨rfl,by first|omega|(dsimp only;omega),by first|omega|(dsimp only;omega)⟩ (by first|omega|(dsimp only;omega))
  ·rw[cu p (by omega)];exact L _ ⟨rfl,by first|omega|(dsimp only;omega),by first|omega|(dsimp only;omega)⟩ (by first|omega|(dsimp only;omega))
 refine aB (λd=>aD ?_ (C _ _ _ (by decide))) (λd=>?_);·have d:=of_decide_eq_true d;exact decide_eq_true (by omega)
 have d:=of_decide_eq_false d;refine aW (ScI c l) (λy=>(l.length-y.2.2.1).toNat) ?_ _ _ ⟨rfl,Av _,by omega,rfl,λm w=>by simp at w⟩ (by dsimp only;omega);rintro D ⟨u,v,k,a,b,G,es⟩ ⟨q,p,Y,hc,i⟩ z;cases q;unfold oB;dsimp only;refine aB (λf=>?_) (λf=>aE ⟨G,es,0,_,_,rfl,rfl,λ_=>⟨⟨by omega,i⟩,by omega⟩⟩);have f:=of_decide_eq_true f;have e:=ixt (l:=l) ⟨p,f⟩;have w:=Z _ (dJ (aI .nms) p f);obtain⟨m,H⟩:∃m,m=Af l k.toNat (aI .nms):=⟨_,rfl⟩
 rw[<-H] at w ⊢;rw[cu p (by omega),aNh];refine aD e (aB (λ_=>aD e (aX (aJl m.x w.2.2.1.2.1) (λr2 _=>aD e (aD e (aX (aF0 es _ (by omega)) ?_))))) (λ_=>aD e (aX (aD4 c m J w) ?_)));·rintro O ⟨-,R⟩;refine aB (λt=>aD e (C _ _ _ (by simpa using t))) (λ_=>?_);have R:O.length=es.length+1:=R;exact z (c,l,k+1,[],[],G,O) ⟨rfl,by first|omega|(dsimp only;omega),by first|omega|(dsimp only;omega),by first|omega|(dsimp only;omega),i⟩ (by first|omega|(dsimp only;omega))
 ·rintro⟨W,e4⟩ ⟨-,E⟩;dsimp only[wd] at E ⊢;refine aX (ayw G W (by omega)) ?_;rintro M ⟨-,h5,F⟩;refine aB (λt=>aD e (C _ _ _ (by simpa using t))) (λt=>?_);have E:=E (by simpa using t);have F:∀y∈M,zK y:=λy X=>by
   rcases F y X with h|rfl;·exact i y h
   ·exact E
  exact z (c,l,k+1,[],[],M,es) ⟨rfl,by first|omega|(dsimp only;omega),by first|omega|(dsimp only;omega),by first|omega|(dsimp only;omega),F⟩ (by first|omega|(dsimp only;omega))
theorem ap6(l:List eS)(fs:List ch)(e:Int)(f:Bs)(a p:Int)(s:Bs)(q:Int):∃r,gz l fs e f a p s q r:=by apply alj 1;unfold abG abF;dsimp only;refine aB (λ_=>aE ⟨_,_,_,_,_,_,rfl,rfl,rfl,rfl,λh=>h⟩) (λb=>aE ⟨_,_,_,_,_,_,rfl,rfl,rfl,rfl,λ_=>by simpa using b⟩)
theorem awi(l:List eS)(fs:List ch)(e:Int)(f:Bs)(a:Int)(s:Bs)(u:l.length<=100):∃r,io l fs e f a s r:=by
 obtain⟨N,p⟩:∃N:Nat,N=1000:=⟨_,rfl⟩
 apply aiF N;unfold yZ gI;refine aW (λ(y:gf)=>match y with|(s',k,r)=>s'=s∧r=(l,fs,e,f,a)∧0<=k∧k<=l.length) (λy=>(l.length-y.2.1).toNat) ?_ _ _ ⟨rfl,rfl,Av _,by omega⟩ (by dsimp only;omega);rintro d ⟨s',k,r⟩ ⟨q,j,c,t⟩ i;subst q j;dsimp only at i;unfold kb;dsimp only;refine aB (λb=>?_) (λ_=>aE ⟨_,_,_,_,_,_,_,_,rfl,rfl,rfl,λh=>by simp at h⟩);have b:=of_decide_eq_true b;have e:=ixt (l:=l) ⟨c,b⟩;refine aD e (aB (λm=>aD e (aE ⟨_,_,_,_,_,_,_,_,rfl,rfl,rfl,λ_=>⟨_,dJ _ c b,of_decide_eq_true m⟩⟩)) (λ_=>?_));rw[cu c (by omega)];exact i _ ⟨rfl,rfl,by first|omega|(dsimp only;omega),by first|omega|(dsimp only;omega)⟩ (by first|omega|(dsimp only;omega))
def DnQ:V×List aK->Prop:=λz=>∃(c:List eS)(a:List ch)(b:Int)(d:Bs)(e:Int)(rest:List aK),z.1.dimR=.tup []∧z.2=some [.sl .src (.may false) c,.sl .fil .own a,.int .i64 b,.str d,.int .i64 e]::rest∧(b=0->u7 a)
set_option maxHeartbeats 4000000 in
theorem aKD(x:eS):∃r,ks [x] [] 0 [] 0 x.name [] r:=by
 obtain⟨N,hN⟩:∃N:Nat,N=1000:=⟨_,rfl⟩
 apply alm N;show Tot _ DnQ;unfold abI js;refine aX (awi _ _ _ _ _ _ (by simp)) ?_;rintro⟨t,is,r⟩ ⟨-,q, -⟩;dsimp only[jc] at q ⊢;subst q;dsimp only;refine aX (aJk t) ?_;rintro⟨pk,i,B,es,e,a⟩ ⟨-,hp⟩;dsimp only[zJ] at hp ⊢;refine aB (λS=>aX (ap6 _ _ _ _ _ _ _ _) ?_) (λS=>?_);·rintro⟨l,fs,R,O,W⟩ ⟨-,j,m,Z⟩;dsimp only at j m Z ⊢;exact aE ⟨_,_,_,_,_,_,rfl,rfl,λh=>absurd h (Z (by simpa using S))⟩
 have X:=hp (by simpa using S);refine aD (by decide) (aD (by simp) ?_);have af:=X.2.1.1;refine aW (λ(y:dw)=>match y with|(Y,op,p,z,A,D,b,k,l,fs,R,O,W)=>(Y,op,p,z,A,D,l,fs)=(x.name,[]++[]++[x.name],pk,i,B,es,[x],[])∧0<=k∧k<=i.length∧(b.length:Int)<=k) (λy=>(i.length-y.2.2.2.2.2.2.2.1).toNat) ?_ _ _ ⟨rfl,Av _,by omega,by simp⟩ (by dsimp only;omega);rintro c ⟨Y,op,p,z,A,D,b,k,l,fs,R,O,W⟩ ⟨q,k0,k1,ad⟩ H;cases q;dsimp only at H;unfold ml lh;dsimp only;have v:Tot (chk (decide ((Aa b+Aa ([x.name]:Bss))*16<=140737488355328)) (chk (decide ((Aa ([]:List ch)+Aa ([⟨x.name,pk,i,B,es,b++[x.name]⟩]:List ch))*128<=140737488355328)) (some ((.tup [],[some [.sl .src (.may false) [x],.sl .fil .own ([]++[⟨x.name,pk,i,B,es,b++[x.name]⟩]),.int .i64 R,.str O,.int .i64 W]]):V×List aK)))) DnQ:=by refine aD (decide_eq_true (by simp only[Ai,Al];omega)) (aD (by simp) (aE ⟨_,_,_,_,_,_,rfl,rfl,λ_=>⟨by simp,λf u=>?_⟩⟩));simp only[B7,Ay] at u;subst u;exact⟨X,by simp only[Ak,Ai,Al];omega⟩
 refine aB (λP=>aB (λ_=>?_) (λ_=>v)) (λ_=>v);have P:=of_decide_eq_true P;refine aD (ixt ⟨k0,P⟩) (aX (awi _ _ _ _ _ _ (by simp)) ?_);rintro⟨t,is,r⟩ ⟨-,q,d⟩;dsimp only[jc] at q d ⊢;subst q;dsimp only;obtain⟨G,L⟩:∃G,G=Af i k.toNat (aI .str):=⟨_,rfl⟩
 rw[<-L] at d ⊢;rw[show N=N from rfl];obtain⟨M,hM⟩:∃M,N=M+1:=⟨999,by omega⟩
 rw[hM];show Tot (fV (M+1) c _ _) DnQ;unfold fV;dsimp only;refine aB (λh=>by simp at h) (λ_=>?_);rw[cu k0 (by omega)];have next:∀(C:Int)(w:Bs)(F:Int),Tot (aA (eL b G) (λ(r6:Bool)=>cond (!r6) (chk (decide ((Aa b+Aa ([G]:Bss))*16<=140737488355328)) (c (x.name,[]++[]++[x.name],pk,i,B,es,b++[G],k+1,[x],[],C,w,F))) (c (x.name,[]++[]++[x.name],pk,i,B,es,b,k+1,[x],[],C,w,F)))) DnQ:=by
  intro C w F;refine ap3 (by omega) (λ_=>aB (λh=>by simp at h) (λ_=>?_)) (λ_=>aB (λ_=>aD (decide_eq_true (by simp only[Ai,Al];omega)) ?_) (λh=>by simp at h));·exact H _ ⟨rfl,by first|omega|(dsimp only;omega),by first|omega|(dsimp only;omega),by first|omega|(dsimp only;omega)⟩ (by first|omega|(dsimp only;omega))
  ·exact H _ ⟨rfl,by first|omega|(dsimp only;omega),by first|omega|(dsimp only;omega),by simp only[Ak,Ai,Al];omega⟩ (by first|omega|(dsimp only;omega))
 refine aB (λ_=>aX (ap6 _ _ _ _ _ _ _ _) ?_) (λJ=>ap3 (by simp) (λ_=>aB (λ_=>aX (ap6 _ _ _ _ _ _ _ _) ?_) (λh=>by simp at h)) (λI=>?_));·rintro⟨l,fs,C,w,F⟩ ⟨-,j,m, -⟩;dsimp only at j m ⊢;subst j m;exact next _ _ _
 ·rintro⟨l,fs,C,w,F⟩ ⟨-,j,m, -⟩;dsimp only at j m ⊢;subst j m;exact next _ _ _
 ·obtain⟨y,hy,E⟩:=d (by simpa using J);rw[Ay.1 hy] at E;exact absurd (by rw[E];simp) I
theorem aKE(x:eS):∃r,acX [x] r:=by
 obtain⟨N,v⟩:∃N:Nat,N=3:=⟨_,rfl⟩
 apply aAQ N;unfold api uK;dsimp only;refine aB (λh=>by simp at h) (λ_=>?_);refine aW (λ(y:gl)=>y.1=[x]∧0<=y.2∧y.2<=1) (λy=>(1-y.2).toNat) ?_ _ _ ⟨rfl,Av _,by dsimp only;omega⟩ (by dsimp only;omega);rintro i ⟨l,k⟩ ⟨q,p,u⟩ m;dsimp only at q p u m;subst q;unfold xQ vr;dsimp only;refine aB (λb=>?_) (λ_=>aD (by simp) (aX (aKD x) ?_))
 ·have b:=of_decide_eq_true b;have b:k=0:=by simp at b;omega
  subst b;refine aW (λ(y:sj)=>y=([x],0,0)) (λy=>0) ?_ _ _ rfl (by omega);rintro d _ rfl t;unfold sk;dsimp only;refine aB (λh=>by simp at h) (λ_=>m ([x],1) ⟨rfl,by first|omega|(dsimp only;omega),by first|omega|(dsimp only;omega)⟩ (by first|omega|(dsimp only;omega)))
 ·rintro⟨l,fs,e,f,a⟩ ⟨-,h⟩;dsimp only[pU] at h ⊢;refine aB (λc=>aE ⟨_,_,_,_,_,rfl,rfl,λj=>?_⟩) (λc=>aE ⟨_,_,_,_,_,rfl,rfl,λ_=>h (by simpa using c)⟩);dsimp only at j;rw[j] at c;simp at c
theorem dm{α:Type}{l:List α}{k:Int}(d:α)(b:0<=k)(h:k<l.length):l.drop k.toNat=l.getD k.toNat d::l.drop (k+1).toNat:=by
 have a:k.toNat<l.length:=by omega
 rw[show (k+1).toNat=k.toNat+1 by omega,BD a,Aq,Ah a];rfl
theorem dP{α:Type}{l:List α}{k:Int}(h:¬k<l.length):l.drop k.toNat=[]:=Dm (by omega)
theorem aD5(d:List PMs)(es:List PEn)(s:Bs)(h:d.length<=1000):∃r,gw d es s r:=by
 obtain⟨N,z⟩:∃N:Nat,N=2000:=⟨_,rfl⟩
 apply at1 N;unfold ahN oC;refine aW (λ(y:nk)=>match y with|(s',j,p,k,a,b,c)=>(s',j,p,a,b,c)=(s,d,es,[],[],[])∧0<=k∧k<=d.length∧dU (d.drop k.toNat) s=dU d s) (λy=>(d.length-y.2.2.2.1).toNat) ?_ _ _ ⟨rfl,Av _,by omega,rfl⟩ (by dsimp only;omega);rintro v ⟨s',j,p,k,a,b,c⟩ ⟨q,t,A,i⟩ w;cases q;dsimp only at w;unfold ru;dsimp only;refine aB (λf=>?_) (λf=>?_)
 ·have f:=of_decide_eq_true f;have e:=ixt (l:=d) ⟨t,f⟩;rw[dm (aI .pms) t f] at i;obtain⟨m,x⟩:∃m,m=Af d k.toNat (aI .pms):=⟨_,rfl⟩
  rw[<-x] at i ⊢;refine aD e (aB (λu=>aD e (aE ⟨m,true,_,rfl,rfl,?_⟩)) (λu=>?_));·show _=dU d s;rw[<-i];simp only[dU,Cl,u]
  ·rw[cu t (by omega)];refine w _ ⟨rfl,by first|omega|(dsimp only;omega),by first|omega|(dsimp only;omega),?_⟩ (by first|omega|(dsimp only;omega));rw[<-i];simp only[dU,Cl,u]
 ·have f:=of_decide_eq_false f;rw[dP f] at i;exact aE ⟨⟨[],[],[]⟩,false,_,rfl,rfl,i⟩
theorem ac4{a:List PMs}{es:List PEn}{s:Bs}{K:PMs×Bool->Ro}(h:a.length<=1000)(b:Tot (K (dU a s)) Q):Tot (aA (gw a es s) K) Q:=aL (aD5 a es s h) (λ_ h=>h.2) b
theorem aHN(m:PMs)(n:Int)(h:m.fields.length<=1000):∃r,mU m n r:=by
 obtain⟨N,v⟩:∃N:Nat,N=2000:=⟨_,rfl⟩
 apply ayc N;unfold amq sm;refine aW (λ(y:qg)=>match y with|(t,j,k,r)=>(t,j,r)=(n,m,0,[],0,0,[],0,false,0)∧0<=k∧k<=m.fields.length∧cK ⟨[],m.fields.drop k.toNat,[]⟩ n=cK m n) (λy=>(m.fields.length-y.2.2.1).toNat) ?_ _ _ ⟨rfl,Av _,by omega,rfl⟩ (by dsimp only;omega);rintro i ⟨t,j,k,r⟩ ⟨q,c,w,b⟩ p;cases q;dsimp only at p;unfold vt;dsimp only;refine aB (λa=>?_) (λa=>?_)
 ·have a:=of_decide_eq_true a;have e:=ixt (l:=m.fields) ⟨c,a⟩;rw[dm (aI .pfl) c a] at b;obtain⟨f,u⟩:∃f,f=Af m.fields k.toNat (aI .pfl):=⟨_,rfl⟩
  rw[<-u] at b ⊢;refine aD e (aB (λd=>aD e (aE ⟨f,true,_,rfl,rfl,?_⟩)) (λd=>?_));·show _=cK m n;rw[<-b];simp only[cK,Cl,d]
  ·rw[cu c (by omega)];refine p _ ⟨rfl,by first|omega|(dsimp only;omega),by first|omega|(dsimp only;omega),?_⟩ (by first|omega|(dsimp only;omega));rw[<-b];simp only[cK,Cl,d]
 ·have a:=of_decide_eq_false a;rw[dP a] at b;exact aE ⟨⟨0,[],0,0,[],0,false,0⟩,false,_,rfl,rfl,b⟩
theorem ap7{m:PMs}{n:Int}{K:PFl×Bool->Ro}(h:m.fields.length<=1000)(a:Tot (K (cK m n)) Q):Tot (aA (mU m n) K) Q:=aL (aHN m n h) (λ_ h=>h.2) a
theorem ajW{a:List PMs}(s:Bs)(h:nL a):zK (dU a s).1 :=by
 unfold dU;split;·rename_i m c;exact h.2 m (Cs c)
 ·exact⟨by decide,λf b=>by simp at b,by decide,by simp⟩
theorem aq6{m:PMs}(n:Int)(h:zK m)(b:(cK m n).2 =true):akJ (cK m n).1 ∧(cK m n).1.num =n∧(cK m n).1 ∈m.fields:=by
 unfold cK at b ⊢;split at b;·rename_i f a;dsimp only;exact⟨h.2.1 f (Cs a),by have:=List.find?_some a;simpa using this,Cs a⟩
 ·simp at b
end
end Go.Proofs.YtndccphabnjkhaaGreat
end
