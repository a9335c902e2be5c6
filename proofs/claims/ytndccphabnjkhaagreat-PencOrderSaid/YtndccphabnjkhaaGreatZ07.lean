import Derived.KernelRfl
import Derived.WalkKit
import Derived.WalkSpells
import Derived.Laws.Externs
import Derived.Laws.AppendOwn
import Derived.Lib.SliceRun
import Derived.Lib.Walk
import Derived.Lib.Bytealg
import Derived.Below
import Derived.Deep.LoopGhost
import Derived.Test.YtndccphabnjkhaaGreatZ02
import Derived.Test.YtndccphabnjkhaaGreatZ03
import Derived.Test.YtndccphabnjkhaaGreatZ04
open Array renaming getElem?_eq_none→B7
open Bool renaming and_eq_true→Ac,not_false→A9,and_false→Br,eq_iff_iff→BD,not_true→B2,or_eq_false_iff→Cj,and_true→Cl,false_eq_true→Cw,false_or→CE,not_eq_true→CK
open Go.IntKind renaming wrap→Ab,signed→AU,max→Bz
open Go.Lib renaming run_eql_slice_nil→CY
open Go.Op renaming bytesLess→AO
open Go.Oper renaming upon_value→DB
open Go.World renaming cell?→BM
open Int renaming toNat→Ad,le_refl→As,toNat_natCast→AC,tmod→Bd,tmod_eq_emod_of_nonneg→Bh,tdiv_eq_ediv_of_nonneg→B9,toNat_zero→DM
open List renaming length→Aa,length_cons→Af,getElem?_eq_getElem→Ah,getD→Ai,length_append→Aj,length_nil→Ak,drop→An,take→Ao,getD_eq_getElem?_getD→Ar,mem_singleton→Av,mem_append→Aw,append_assoc→AB,mem_map→AD,map_append→AK,map_cons→AL,mem_cons→AN,cons_append→AP,take_length→AQ,length_drop→AT,drop_eq_getElem_cons→AX,mem_cons_self→AZ,append_nil→A5,take_append_drop→Ba,foldl_cons→Bf,nil_append→Bg,drop_zero→Bm,getElem?_drop→Bq,pairwise_append→By,pairwise_cons→BA,length_take→BE,getD_cons_zero→BH,mem_of_mem_take→BJ,mem_of_mem_drop→BL,flatMap_cons→BV,mem_map_of_mem→BX,length_map→BY,getElem_mem→B1,drop_eq_nil_of_le→B6,foldl_nil→Cc,mem_of_find?_eq_some→Cf,take_succ_cons→Cp,getD_cons_succ→Cq,length_pos_iff→Cr,drop_take→Ct,singleton_append→Cy,take_left'→CA,find?_cons→CB,drop_succ_cons→CL,take_of_length_le→CT,tail_cons→CX,take_zero→C4,drop_drop→Dj,foldl_append→Dp
open List.cons renaming inj→Bt
open Nat renaming le_refl→Ap,lt_or_ge→AH,lt_of_lt_of_le→AI,zero_le→A0,le_trans→A6,mod_eq_of_lt→Bn,pow_succ→B5,add_zero→Ck,add_assoc→CC,add_sub_cancel→CQ,strongRecOn→DG,add_sub_cancel_left→Ec
open Option renaming map_eq_some_iff→Aq,getD_some→Bo
open UInt8 renaming ofNat→Az,toNat_lt→BT,toNat_inj→Ci,toNat_ofNat'→CP
set_option linter.all false
set_option maxRecDepth 100000
noncomputable section
namespace Go.Proofs.YtndccphabnjkhaaGreat
open Go.AM
def va(a b:List UInt8)(r:Int):Prop:=qr a b r
def jd(l r:List PFl):Prop:=r=l
def nx(l r:List (List UInt8)):Prop:=r=l
def rc(a:Int)(r:Bool):Prop:=r=false
def pZ(a:Int)(r:Bool):Prop:=r=false
def pc(a b r:Int):Prop:=r=awo a b
def nC(a b r:Int):Prop:=r=awo a b
def aj3{α:Type}(p:α->Bool)(l:List α)(r:Int):Prop:=-1<=r∧r<l.length∧(r<0->l.all (λx=> !p x)=true)∧∀d:α,0<=r->p (l.getD r.toNat d)=true∧(l.take r.toNat).all (λx=> !p x)=true
def tq(l:List Int)(x r:Int):Prop:=aj3 (λy=>x==y) l r
def p7(l:List Int)(x:Int)(r:Bool):Prop:=r=l.any (λy=>x==y)
def yl(m:PMs)(s:List UInt8)(r:Bool):Prop:=r=decide (m.name=s)
def dH(l:List PMs)(s:List UInt8)(r:Int):Prop:=aj3 (λm:PMs=>decide (m.name=s)) l r
def acU(ms:List PMs)(es:List PEn)(s:List UInt8)(r:PMs×Bool):Prop:=r=dh ms s
def abc(f:PFl)(n:Int)(r:Bool):Prop:=r=(f.num==n)
def d9(l:List PFl)(n r:Int):Prop:=aj3 (λf:PFl=>f.num==n) l r
def afq(m:PMs)(n:Int)(r:PFl×Bool):Prop:=r=cQ m n
def aab(p:PMs)(x:bi):Bool:=(cQ p x.num).2 &&auh (cQ p x.num).1 x.wire
def xD(k:Int)(r:Bool):Prop:=r=(decide (0<=dO k)&& !(dO k==2))
def aac(f:PFl)(w:Int)(r:Bool):Prop:=r=auh f w
def afr(k:Int)(r:Bool):Prop:=r=afl k
def ak9(k:Int)(a b:aC)(r:Int):Prop:=r=gr k a b
def abG(fs:List (Int×List aC))(rest:List UInt8)(r:Bool):Prop:=r=(decide (fs.length=0)&&decide (rest=[]))
def abH(v:aC)(r:Bool):Prop:=r=(v.n==0&&decide (v.s=[]))
def ala(ms:List PMs)(es:List PEn)(k:Int)(t:List UInt8)(v:aC)(r:Bool):Prop:=r=gj ms k t v
def agD(ms:List PMs)(es:List PEn)(f:PFl)(l:List aC)(r:Bool):Prop:=r=(iK ms f true none l&&decide (l.length%2=0))
def acV(v:aC)(ms:List PMs)(es:List PEn)(a:Int)(b:List UInt8)(c k:Int)(t:List UInt8)(d:Int)(e:Bool)(g:Int)(r:Bool):Prop:=r= !gj ms k t v
def fb(l:List aC)(ms:List PMs)(es:List PEn)(a:Int)(b:List UInt8)(c k:Int)(t:List UInt8)(d:Int)(e:Bool)(g r:Int):Prop:=aj3 (λv=> !gj ms k t v) l r
def eI(l:List aC)(ms:List PMs)(es:List PEn)(a:Int)(b:List UInt8)(c k:Int)(t:List UInt8)(d:Int)(e:Bool)(g:Int)(r:Bool):Prop:=r=l.any (λv=> !gj ms k t v)
def agE(ms:List PMs)(es:List PEn)(f:PFl)(l:List aC)(r:Bool):Prop:=r=sE ms f l
def ad1(x:bi)(a:List UInt8)(fs:List PFl)(c:List (List UInt8))(r:Bool):Prop:=r=aab ⟨a,fs,c⟩ x
def eA(l:List bi)(a:List UInt8)(fs:List PFl)(c:List (List UInt8))(r:Int):Prop:=aj3 (aab ⟨a,fs,c⟩) l r
def dZ(l:List bi)(a:List UInt8)(fs:List PFl)(c:List (List UInt8))(r:Bool):Prop:=r=l.any (aab ⟨a,fs,c⟩)
def aiu(p:PMs)(s:List UInt8)(r:Bool):Prop:=r=u9 p s
def aiv(ms:List PMs)(es:List PEn)(t:List UInt8)(fs:List (Int×List aC))(rest:List UInt8)(r:Bool):Prop:=r=ui ms t fs rest
def alb(ms:List PMs)(es:List PEn)(num k:Int)(t:List UInt8)(v:aC)(r:List UInt8):Prop:=r=nB ms num k t v
def aiw(k:Int)(v:aC)(r:List UInt8):Prop:=r=agB k v.n
def agF(ms:List PMs)(es:List PEn)(f:PFl)(l:List aC)(r:List UInt8):Prop:=r=adv ms f l
def ad2(ms:List PMs)(es:List PEn)(t:List UInt8)(fs:List (Int×List aC))(rest r:List UInt8):Prop:=r=zU ms t fs rest
def afs(ms:List PMs)(es:List PEn)(t:List UInt8)(fs:List (Int×List aC))(rest:List UInt8)(r:List UInt8×Int):Prop:=r=yi ms t fs rest
def nJ(a:List PMs)(b:List PEn)(e:Bs)(c:List (Int×List aC))(d:Bs)(r:aq6):Prop:=aH Tryz.prog 14 [.agg [vF .pms a,vF .pen b],vT e,.agg [vF .pfd c,vT d]] (.tup [vF .u8 r.1,vI r.2])∧afs a b e c d r
def alc:bA Tryz.prog:=.mk 14 λ
 | [.agg [.sl .pms (.may _) a,.sl .pen (.may _) b],.str e,.agg [.sl .pfd (.may _) c,.str d]]=>pk (nJ a b e c d) λr=>.tup [vF .u8 r.1,vI r.2]
 |_=>none
def iT(a:List PMs)(b:List PEn)(c:Bs)(r:ahE):Prop:=aH Tryz.prog 47 [.agg [vF .pms a,vF .pen b],vT c] (.tup [.agg (enc .pms r.1),vB r.2])∧acU a b c r
def aad:bA Tryz.prog:=.mk 47 λ
 | [.agg [.sl .pms (.may _) a,.sl .pen (.may _) b],.str c]=>pk (iT a b c) λr=>.tup [.agg (enc .pms r.1),vB r.2]
 |_=>none
def fP(a:List PMs)(b:List PEn)(e:Bs)(c:List (Int×List aC))(d:Bs)(r:Bool):Prop:=aH Tryz.prog 48 [.agg [vF .pms a,vF .pen b],vT e,.agg [vF .pfd c,vT d]] (vB r)∧aiv a b e c d r
def arb:bA Tryz.prog:=.mk 48 λ
 | [.agg [.sl .pms (.may _) a,.sl .pen (.may _) b],.str e,.agg [.sl .pfd (.may _) c,.str d]]=>pk (fP a b e c d) λr=>.bool r
 |_=>none
def gZ(a:List PMs)(b:List PEn)(e:Bs)(c:List (Int×List aC))(d r:Bs):Prop:=aH Tryz.prog 49 [.agg [vF .pms a,vF .pen b],vT e,.agg [vF .pfd c,vT d]] (vT r)∧ad2 a b e c d r
def aix:bA Tryz.prog:=.mk 49 λ
 | [.agg [.sl .pms (.may _) a,.sl .pen (.may _) b],.str e,.agg [.sl .pfd (.may _) c,.str d]]=>pk (gZ a b e c d) λr=>.str r
 |_=>none
def b9(b:List PMs)(a:Bs)(r:Int):Prop:=aH Tryz.prog 84 [vF .pms b,.fn 85 [.ea [vT a]]] (vI r)∧dH b a r
def io:bA Tryz.prog:=.mk 84 λ
 | [.sl .pms (.may _) b,.fn 85 [.ea [.str a]]]=>pk (b9 b a) λr=>vI r
 |_=>none
def oD(a:PMs)(b:Bs)(r:Bool):Prop:=aH Tryz.prog 85 [.agg (enc .pms a),.ea [vT b]] (vB r)∧yl a b r
def aou:bA Tryz.prog:=.mk 85 λ
 | [.agg [.str a,.sl .pfl (.may _) b,.sl .str (.may _) c],.ea [.str d]]=>pk (oD (⟨a,b,c⟩) d) λr=>.bool r
 |_=>none
abbrev um:=List PFl
def dY(a:List PFl)(r:um):Prop:=aH Tryz.prog 86 [vF .pfl a] (vF .pfl r)∧jd a r
def uo:bA Tryz.prog:=.mk 86 λ
 | [.sl .pfl (.may _) a]=>pk (dY a) λr=>vF .pfl r
 |_=>none
def fS(a r:Bss):Prop:=aH Tryz.prog 87 [vF .str a] (vF .str r)∧nx a r
def abI:bA Tryz.prog:=.mk 87 λ
 | [.sl .str (.may _) a]=>pk (fS a) λr=>vF .str r
 |_=>none
def acd(a:PMs)(b:Bs)(r:Bool):Prop:=aH Tryz.prog 88 [.agg (enc .pms a),vT b] (vB r)∧aiu a b r
def aDN:bA Tryz.prog:=.mk 88 λ
 | [.agg [.str a,.sl .pfl (.may _) b,.sl .str (.may _) c],.str d]=>pk (acd (⟨a,b,c⟩) d) λr=>.bool r
 |_=>none
def lr(a:PMs)(b:Int)(r:aA1):Prop:=aH Tryz.prog 89 [.agg (enc .pms a),vI b] (.tup [.agg (enc .pfl r.1),vB r.2])∧afq a b r
def adw:bA Tryz.prog:=.mk 89 λ
 | [.agg [.str a,.sl .pfl (.may _) b,.sl .str (.may _) c],.int .i64 d]=>pk (lr (⟨a,b,c⟩) d) λr=>.tup [.agg (enc .pfl r.1),vB r.2]
 |_=>none
def p8(a:List PMs)(b:List PEn)(c:PFl)(d:List aC)(r:Bool):Prop:=aH Tryz.prog 90 [.agg [vF .pms a,vF .pen b],.agg (enc .pfl c),vF .pval d] (vB r)∧agE a b c d r
def aBF:bA Tryz.prog:=.mk 90 λ
 | [.agg [.sl .pms (.may _) a,.sl .pen (.may _) b],.agg [.int .i64 c,.str d,.int .i64 e,.int .i64 f,.str g,.int .i64 h,.bool i,.int .i64 j],.sl .pval (.may _) k]=>pk (p8 a b (⟨c,d,e,f,g,h,i,j⟩) k) λr=>.bool r
 |_=>none
def aae(a:List PMs)(b:List PEn)(c:PFl)(d:List aC)(r:Bs):Prop:=aH Tryz.prog 92 [.agg [vF .pms a,vF .pen b],.agg (enc .pfl c),vF .pval d] (vT r)∧agF a b c d r
def aBG:bA Tryz.prog:=.mk 92 λ
 | [.agg [.sl .pms (.may _) a,.sl .pen (.may _) b],.agg [.int .i64 c,.str d,.int .i64 e,.int .i64 f,.str g,.int .i64 h,.bool i,.int .i64 j],.sl .pval (.may _) k]=>pk (aae a b (⟨c,d,e,f,g,h,i,j⟩) k) λr=>.str r
 |_=>none
def cm(d:List bi)(a:Bs)(b:List PFl)(c:Bss)(r:Bool):Prop:=aH Tryz.prog 103 [vF .record d,.fn 138 [.ea [vT a,vF .pfl b,vF .str c]]] (vB r)∧dZ d a b c r
def jN:bA Tryz.prog:=.mk 103 λ
 | [.sl .record (.may _) d,.fn 138 [.ea [.str a,.sl .pfl (.may false) b,.sl .str (.may false) c]]]=>pk (cm d a b c) λr=>.bool r
 |_=>none
def sj(a:aC)(r:Bool):Prop:=aH Tryz.prog 106 [.agg (enc .pval a)] (vB r)∧abH a r
def aDO:bA Tryz.prog:=.mk 106 λ
 | [.agg [.int .u64 a,.str b,.sl .pfd (.may _) c,.str d]]=>pk (sj (.mk a b c d)) λr=>.bool r
 |_=>none
def vb(a:bi)(c:Bs)(d:List PFl)(b:Bss)(r:Bool):Prop:=aH Tryz.prog 138 [.agg (enc .record a),.ea [vT c,vF .pfl d,vF .str b]] (vB r)∧ad1 a c d b r
def awq:bA Tryz.prog:=.mk 138 λ
 | [.agg [.int .i64 a,.int .i64 b,.int .u64 c,.str d,.str e],.ea [.str h,.sl .pfl (.may false) i,.sl .str (.may false) f]]=>pk (vb (⟨a,b,c,d,e⟩) h i f) λr=>.bool r
 |_=>none
def aaf(a:PFl)(b:Int)(r:Bool):Prop:=aH Tryz.prog 139 [.agg (enc .pfl a),vI b] (vB r)∧aac a b r
def aBH:bA Tryz.prog:=.mk 139 λ
 | [.agg [.int .i64 a,.str b,.int .i64 c,.int .i64 d,.str e,.int .i64 f,.bool g,.int .i64 h],.int .i64 i]=>pk (aaf (⟨a,b,c,d,e,f,g,h⟩) i) λr=>.bool r
 |_=>none
def cr(b:List PFl)(a r:Int):Prop:=aH Tryz.prog 140 [vF .pfl b,.fn 141 [.ea [vI a]]] (vI r)∧d9 b a r
def kg:bA Tryz.prog:=.mk 140 λ
 | [.sl .pfl (.may _) b,.fn 141 [.ea [.int .i64 a]]]=>pk (cr b a) λr=>vI r
 |_=>none
def rh(a:PFl)(b:Int)(r:Bool):Prop:=aH Tryz.prog 141 [.agg (enc .pfl a),.ea [vI b]] (vB r)∧abc a b r
def asn:bA Tryz.prog:=.mk 141 λ
 | [.agg [.int .i64 a,.str b,.int .i64 c,.int .i64 d,.str e,.int .i64 f,.bool g,.int .i64 h],.ea [.int .i64 i]]=>pk (rh (⟨a,b,c,d,e,f,g,h⟩) i) λr=>.bool r
 |_=>none
def aag(a:List PMs)(b:List PEn)(c:PFl)(d:List aC)(r:Bool):Prop:=aH Tryz.prog 142 [.agg [vF .pms a,vF .pen b],.agg (enc .pfl c),vF .pval d] (vB r)∧agD a b c d r
def aBI:bA Tryz.prog:=.mk 142 λ
 | [.agg [.sl .pms (.may _) a,.sl .pen (.may _) b],.agg [.int .i64 c,.str d,.int .i64 e,.int .i64 f,.str g,.int .i64 h,.bool i,.int .i64 j],.sl .pval (.may _) k]=>pk (aag a b (⟨c,d,e,f,g,h,i,j⟩) k) λr=>.bool r
 |_=>none
def aL(k:List aC)(a:List PMs)(b:List PEn)(c:Int)(d:Bs)(e f:Int)(g:Bs)(h:Int)(i:Bool)(j:Int)(r:Bool):Prop:=aH Tryz.prog 143 [vF .pval k,.fn 144 [.ea [vF .pms a,vF .pen b],.ea [vI c,vT d,vI e,vI f,vT g,vI h,vB i,vI j]]] (vB r)∧eI k a b c d e f g h i j r
def lI:bA Tryz.prog:=.mk 143 λ
 | [.sl .pval (.may _) k,.fn 144 [.ea [.sl .pms (.may false) a,.sl .pen (.may false) b],.ea [.int .i64 c,.str d,.int .i64 e,.int .i64 f,.str g,.int .i64 h,.bool i,.int .i64 j]]]=>pk (aL k a b c d e f g h i j) λr=>.bool r
 |_=>none
def tr(a:aC)(l:List PMs)(i:List PEn)(f:Int)(c:Bs)(b k:Int)(d:Bs)(h:Int)(j:Bool)(e:Int)(r:Bool):Prop:=aH Tryz.prog 144 [.agg (enc .pval a),.ea [vF .pms l,vF .pen i],.ea [vI f,vT c,vI b,vI k,vT d,vI h,vB j,vI e]] (vB r)∧acV a l i f c b k d h j e r
def aum:bA Tryz.prog:=.mk 144 λ
 | [.agg [.int .u64 a,.str b,.sl .pfd (.may _) c,.str d],.ea [.sl .pms (.may false) q,.sl .pen (.may false) l],.ea [.int .i64 j,.str f,.int .i64 e,.int .i64 p,.str h,.int .i64 k,.bool m,.int .i64 i]]=>pk (tr (.mk a b c d) q l j f e p h k m i) λr=>.bool r
 |_=>none
def vc(a:List PMs)(b:List PEn)(c:Int)(d:Bs)(e:aC)(r:Bool):Prop:=aH Tryz.prog 145 [.agg [vF .pms a,vF .pen b],vI c,vT d,.agg (enc .pval e)] (vB r)∧ala a b c d e r
def aun:bA Tryz.prog:=.mk 145 λ
 | [.agg [.sl .pms (.may _) a,.sl .pen (.may _) b],.int .i64 g,.str h,.agg [.int .u64 c,.str d,.sl .pfd (.may _) e,.str f]]=>pk (vc a b g h (.mk c d e f)) λr=>.bool r
 |_=>none
def oE(a:List PMs)(b:List PEn)(c d:Int)(e:Bs)(f:aC)(r:Bs):Prop:=aH Tryz.prog 147 [.agg [vF .pms a,vF .pen b],vI c,vI d,vT e,.agg (enc .pval f)] (vT r)∧alb a b c d e f r
def auo:bA Tryz.prog:=.mk 147 λ
 | [.agg [.sl .pms (.may _) a,.sl .pen (.may _) b],.int .i64 g,.int .i64 h,.str i,.agg [.int .u64 c,.str d,.sl .pfd (.may _) e,.str f]]=>pk (oE a b g h i (.mk c d e f)) λr=>.str r
 |_=>none
def ace(a:Int)(b:aC)(r:Bs):Prop:=aH Tryz.prog 149 [vI a,.agg (enc .pval b)] (vT r)∧aiw a b r
def aDP:bA Tryz.prog:=.mk 149 λ
 | [.int .i64 e,.agg [.int .u64 a,.str b,.sl .pfd (.may _) c,.str d]]=>pk (ace e (.mk a b c d)) λr=>.str r
 |_=>none
def cD(d:List bi)(a:Bs)(b:List PFl)(c:Bss)(r:Int):Prop:=aH Tryz.prog 157 [vF .record d,.fn 138 [.ea [vT a,vF .pfl b,vF .str c]]] (vI r)∧eA d a b c r
def kH:bA Tryz.prog:=.mk 157 λ
 | [.sl .record (.may _) d,.fn 138 [.ea [.str a,.sl .pfl (.may false) b,.sl .str (.may false) c]]]=>pk (cD d a b c) λr=>vI r
 |_=>none
def xg(a:Int)(r:Bool):Prop:=aH Tryz.prog 186 [vI a] (vB r)∧xD a r
def ay4:bA Tryz.prog:=.mk 186 λ
 | [.int .i64 a]=>pk (xg a) λr=>.bool r
 |_=>none
def aah(a:Int)(b c:aC)(r:Int):Prop:=aH Tryz.prog 187 [vI a,.agg (enc .pval b),.agg (enc .pval c)] (vI r)∧ak9 a b c r
def aFD:bA Tryz.prog:=.mk 187 λ
 | [.int .i64 i,.agg [.int .u64 a,.str b,.sl .pfd (.may _) c,.str d],.agg [.int .u64 e,.str f,.sl .pfd (.may _) g,.str h]]=>pk (aah i (.mk a b c d) (.mk e f g h)) λr=>vI r
 |_=>none
def cR(k:List aC)(a:List PMs)(b:List PEn)(c:Int)(d:Bs)(e f:Int)(g:Bs)(h:Int)(i:Bool)(j r:Int):Prop:=aH Tryz.prog 188 [vF .pval k,.fn 144 [.ea [vF .pms a,vF .pen b],.ea [vI c,vT d,vI e,vI f,vT g,vI h,vB i,vI j]]] (vI r)∧fb k a b c d e f g h i j r
def mW:bA Tryz.prog:=.mk 188 λ
 | [.sl .pval (.may _) k,.fn 144 [.ea [.sl .pms (.may false) a,.sl .pen (.may false) b],.ea [.int .i64 c,.str d,.int .i64 e,.int .i64 f,.str g,.int .i64 h,.bool i,.int .i64 j]]]=>pk (cR k a b c d e f g h i j) λr=>vI r
 |_=>none
def acf(a:List (Int×List aC))(b:Bs)(r:Bool):Prop:=aH Tryz.prog 189 [.agg [vF .pfd a,vT b]] (vB r)∧abG a b r
def aDQ:bA Tryz.prog:=.mk 189 λ
 | [.agg [.sl .pfd (.may _) a,.str b]]=>pk (acf a b) λr=>.bool r
 |_=>none
def xh(a:Int)(r:Bool):Prop:=aH Tryz.prog 218 [vI a] (vB r)∧afr a r
def ay5:bA Tryz.prog:=.mk 218 λ
 | [.int .i64 a]=>pk (xh a) λr=>.bool r
 |_=>none
def nv(a b r:Int):Prop:=aH Tryz.prog 219 [vI a,vI b] (vI r)∧pc a b r
def amj:bA Tryz.prog:=.mk 219 λ
 | [.int .i64 a,.int .i64 b]=>pk (nv a b) λr=>vI r
 |_=>none
def mo(a b r:Int):Prop:=aH Tryz.prog 220 [vU a,vU b] (vI r)∧nC a b r
def aj4:bA Tryz.prog:=.mk 220 λ
 | [.int .u64 a,.int .u64 b]=>pk (mo a b) λr=>vI r
 |_=>none
def ig(a:List Int)(b:Int)(r:Bool):Prop:=aH Tryz.prog 224 [.sl (.num .i64) (.may false) a,vI b] (vB r)∧p7 a b r
def aep:bA Tryz.prog:=.mk 224 λ
 | [.sl (.num .i64) (.may _) a,.int .i64 b]=>pk (ig a b) λr=>.bool r
 |_=>none
def gA(a b:Bs)(r:Int):Prop:=aH Tryz.prog 236 [vT a,vT b] (vI r)∧va a b r
def xE:bA Tryz.prog:=.mk 236 λ
 | [.str a,.str b]=>pk (gA a b) λr=>vI r
 |_=>none
def lJ(a:Int)(r:Bool):Prop:=aH Tryz.prog 237 [vI a] (vB r)∧rc a r
def aql:bA Tryz.prog:=.mk 237 λ
 | [.int .i64 a]=>pk (lJ a) λr=>.bool r
 |_=>none
def kD(a:Int)(r:Bool):Prop:=aH Tryz.prog 238 [vU a] (vB r)∧pZ a r
def aov:bA Tryz.prog:=.mk 238 λ
 | [.int .u64 a]=>pk (kD a) λr=>.bool r
 |_=>none
def kh(a:List Int)(b r:Int):Prop:=aH Tryz.prog 240 [.sl (.num .i64) (.may false) a,vI b] (vI r)∧tq a b r
def ahh:bA Tryz.prog:=.mk 240 λ
 | [.sl (.num .i64) (.may _) a,.int .i64 b]=>pk (kh a b) λr=>vI r
 |_=>none
section
open Go.AM Go.RowKit Go.Lib
set_option maxHeartbeats 2000000 in
theorem aDR(w:World):Calls Tryz.prog 87 #[.slice none 0 0] w λe w'=>e=.returned (.slice none 0 0)∧w'=w:=by
 have q:∀(w:World)(a:Option Addr)(n c b d:Nat),(binOp .eql 42 (.slice a n c) (.slice none b d)).run Tryz.prog w=.ok (.bool a.isNone) w:=λw a n c b d=>CY w _ _ a n c b d Tryz.underlying42
 go_enter Tryz.func87,Tryz.ntmps87
 go_wp2
 go_ret
 exact⟨rfl,rfl⟩
set_option maxHeartbeats 2000000 in
theorem aBJ(a:Addr)(c:Nat)(w:World):Calls Tryz.prog 87 #[.slice (some a) 0 c] w λe w'=>∃f,e=.returned f∧w'.ownsRow w.heap.size 9 1 f 0 []∧Below w.heap.size w w':=by
 have q:∀(w:World)(a:Option Addr)(n c p r:Nat),(binOp .eql 42 (.slice a n c) (.slice none p r)).run Tryz.prog w=.ok (.bool a.isNone) w:=λw a n c p r=>CY w _ _ a n c p r Tryz.underlying42
 obtain⟨h,B,y⟩:∃i,Tryz.prog.info? 9=some i∧(i.zero,i.size,i.bytes)=(some (.string {data:= #[]}),1,16):=Aq.1 (show (Tryz.prog.info? 9).map (λi=>(i.zero,i.size,i.bytes))=some (some (.string {data:= #[]}),1,16) by kernel_rfl);obtain⟨m,v,l⟩:h.zero=some (.string {data:= #[]})∧h.size=1∧h.bytes=16:=by simpa using y
 have u:∀w,Sem.run Tryz.prog (underlying 42) w=.ok (TypeDesc.slice 9) w:=run_underlying Tryz.underlying42
 go_enter Tryz.func87,Tryz.ntmps87
 go_wp2_with (at_builtin;refine wpList_append_own _ rfl _ _ 42 rfl w.heap.size 9 h (.string {data:= #[]}) 1 16 Tryz.underlying42 B m v l rfl (by decide) _ _ _ rfl (World.ownsRow_made w #[] 0 (Ap _) (A0 _) rfl) a 0 c [] rfl rfl (by intro j u C;simp at C) (by intro u z;cases z) (by unfold maxLen;omega) (by omega) (by simp) ?_)
 intro f D d b x
 go_wp2
 go_ret
 refine⟨f,rfl,by simpa using d,?_⟩;exact((Below.refl _ w).alloc (Ap _) _).grown b (by simp) (by intro k A;simp[Value.ownBlock] at A;omega)
set_option maxHeartbeats 2000000 in
theorem aDS(w:World):Calls Tryz.prog 86 #[.slice none 0 0] w λe w'=>e=.returned (.slice none 0 0)∧w'=w:=by
 have q:∀(w:World)(a:Option Addr)(n c b d:Nat),(binOp .eql 85 (.slice a n c) (.slice none b d)).run Tryz.prog w=.ok (.bool a.isNone) w:=λw a n c b d=>CY w _ _ a n c b d Tryz.underlying85
 go_enter Tryz.func86,Tryz.ntmps86
 go_wp2
 go_ret
 exact⟨rfl,rfl⟩
set_option maxHeartbeats 2000000 in
theorem aBK(a:Addr)(c:Nat)(w:World):Calls Tryz.prog 86 #[.slice (some a) 0 c] w λe w'=>∃f,e=.returned f∧w'.ownsRow w.heap.size 91 8 f 0 []∧Below w.heap.size w w':=by
 have q:∀(w:World)(a:Option Addr)(n c p r:Nat),(binOp .eql 85 (.slice a n c) (.slice none p r)).run Tryz.prog w=.ok (.bool a.isNone) w:=λw a n c p r=>CY w _ _ a n c p r Tryz.underlying85
 obtain⟨h,B,y⟩:∃i,Tryz.prog.info? 91=some i∧(i.zero,i.size,i.bytes)=(some (.agg #[.int .i64 0,.string {data:= #[]},.int .i64 0,.int .i64 0,.string {data:= #[]},.int .i64 0,.bool false,.int .i64 0]),8,80):=Aq.1 (show (Tryz.prog.info? 91).map (λi=>(i.zero,i.size,i.bytes))=some (some (.agg #[.int .i64 0,.string {data:= #[]},.int .i64 0,.int .i64 0,.string {data:= #[]},.int .i64 0,.bool false,.int .i64 0]),8,80) by kernel_rfl);obtain⟨m,v,l⟩:h.zero=some (.agg #[.int .i64 0,.string {data:= #[]},.int .i64 0,.int .i64 0,.string {data:= #[]},.int .i64 0,.bool false,.int .i64 0])∧h.size=8∧h.bytes=80:=by simpa using y
 have u:∀w,Sem.run Tryz.prog (underlying 85) w=.ok (TypeDesc.slice 91) w:=run_underlying Tryz.underlying85
 go_enter Tryz.func86,Tryz.ntmps86
 go_wp2_with (at_builtin;refine wpList_append_own _ rfl _ _ 85 rfl w.heap.size 91 h (.agg #[.int .i64 0,.string {data:= #[]},.int .i64 0,.int .i64 0,.string {data:= #[]},.int .i64 0,.bool false,.int .i64 0]) 8 80 Tryz.underlying85 B m v l rfl (by decide) _ _ _ rfl (World.ownsRow_made w #[] 0 (Ap _) (A0 _) rfl) a 0 c [] rfl rfl (by intro j u C;simp at C) (by intro u z;cases z) (by unfold maxLen;omega) (by omega) (by simp) ?_)
 intro f D d b x
 go_wp2
 go_ret
 refine⟨f,rfl,by simpa using d,?_⟩;exact((Below.refl _ w).alloc (Ap _) _).grown b (by simp) (by intro k A;simp[Value.ownBlock] at A;omega)
theorem aFE{P:Program}{g:Gh}{w w':World}(h:HR g [] w)(c:Below w.heap.size w w'):HR g [] w'∧FR g [] w g [] w':=by
 have lt:∀b j,g.I b j->b<w.heap.size:=by
  intro b j d;have:=h.exI b j d;rcases AH b w.heap.size with e|e;·exact e
  ·simp[BM,B7 e] at this
 have a:∀b j,g.I b j->w'.cell? ⟨b,j,none⟩=w.cell? ⟨b,j,none⟩:=by intro b j d;simp only[BM,c.block b (lt b j d)]
 refine⟨⟨by simp,by simp,by simp,by simp,λb j d=>by rw[a b j d];exact h.exI b j d,λb o i=>AI (h.oLt b o i) c.size⟩,?_⟩;exact⟨rfl,c.os,c.tape,c.output,c.size,λb f _ _=>c.block b f,⟨λ_ _ h=>h,a,λ_ _=>rfl,Ap _⟩,λ_ _ _ _ _ h=>h,λ_ _ _ h=>h,λ_ cs h=>by simp at h⟩
theorem ald{k:EK}{f:FuncId}{e:TypeId}{n:Nat}(E:∀w,Calls Tryz.prog f #[.slice none 0 0] w λe w'=>e=.returned (.slice none 0 0)∧w'=w)
  (D:∀(a:Addr)(c:Nat)(w:World),Calls Tryz.prog f #[.slice (some a) 0 c] w λx w'=>∃p,x=.returned p∧w'.ownsRow w.heap.size e n p 0 []∧Below w.heap.size w w'):aH Tryz.prog f [.sl k (.may false) []] (.sl k (.may false) []):=by
 refine⟨[],?_⟩;intro w g j v m i q h;match j,i,h with
 |⟨[F]⟩,i,h=>
  have r0:=h 0 (.sl k (.may false) []) F rfl rfl;have d:∀(a:Addr)(c:Nat),Calls Tryz.prog f #[.slice (some a) 0 c] w λx w'=>∃cv l,x=.returned cv∧HR l [] w'∧FR g [] w l [] w'∧VRel l.I l.ρ 0 w' (.sl k (.may false) []) cv∧aO l w' .res (.sl k (.may false) []) cv:=by
   intro a c;refine(D a c w).mono ?_;rintro x w' ⟨p,rfl,⟨-,C⟩,u⟩;obtain⟨z,H⟩:=aFE (P:=Tryz.prog) m u;refine⟨p,g,rfl,z,H,?_,by simp[aO]⟩;rcases C with⟨rfl,_⟩|⟨b,cap,G,rfl,_,_,_,A,_⟩
   ·exact .sln _ _
   ·exact .sl k _ [] b 0 0 cap rfl (A0 _) (A6 A (by decide)) (by simp) (λ_ _=>.bool false) (by simp) (by simp) (by simp)
  cases r0 with
  |sln=>refine(E w).mono ?_;rintro x w' ⟨rfl,rfl⟩;exact⟨_,g,rfl,m,FR.refl _ _ _,.sln _ _,by simp[aO]⟩
  |sle _ _ y=>exact d y 0
  |sl _ _ _ b r len cap B=>cases B;exact d ⟨b,r,none⟩ cap
theorem aIv(a b:ByteArray)(w:World):(callFunc 251 #[.string a,.string b]).run Tryz.prog w=.ok (.value (.int .i64 (compareBytes a.data.toList b.data.toList))) w:=by rw[run_callFunc_extern Tryz.func251 (by kernel_rfl) (by kernel_rfl) (by kernel_rfl) (e:=Extern.BytealgCompare.compare) (by kernel_rfl)];rw[Lib.run_compareString];rfl
set_option maxHeartbeats 1000000 in
theorem aG1(a b:ByteArray)(w:World):Calls Tryz.prog 236 #[.string a,.string b] w λe w'=>e=.returned (.int .i64 (compareBytes a.data.toList b.data.toList))∧w'=w:=by
 go_enter Tryz.func236,Tryz.ntmps236
 go_wp2
 rw[aIv];rw[DB]
 go_wp2
 go_ret
 exact⟨rfl,rfl⟩
theorem aup:∀a b:List UInt8,compareBytes a b=if a=b then 0 else if AO a b then -1 else 1
 | [],[]=>by simp[compareBytes]
 | [],_::_=>by simp[compareBytes,AO]
 |_::_,[]=>by simp[compareBytes,AO]
 |a::i,b::f=>by
  simp only[compareBytes,AO,aup i f];by_cases h:a<b
  ·have c:a≠b:=λe=>by subst e;exact absurd h (UInt8.lt_irrefl _)
   simp[h,c]
  ·by_cases d:b<a
   ·have c:a≠b:=λe=>by subst e;exact absurd d (UInt8.lt_irrefl _)
    simp[h,d,c]
   ·have:a=b:=UInt8.le_antisymm (UInt8.not_lt.1 d) (UInt8.not_lt.1 h);subst this;simp[h]
theorem aqm(a b:List UInt8):∃r,gA a b r:=by
 refine⟨_,⟨[],?_⟩,rfl⟩;intro w g f q h d i c;match f,d,c with
 |⟨[l,m]⟩,d,c=>
  have r0:=c 0 (.str a) l rfl rfl;have k:=c 1 (.str b) m rfl rfl;cases r0 with
  |str _ x u v=>
  cases k with
  |str _ y p j=>
  subst u p;refine(aG1 x y w).mono ?_;rintro e w' ⟨rfl,rfl⟩;refine⟨_,g,rfl,h,FR.refl _ _ _,?_,by simp[aO]⟩;rw[aup];refine .int _ _ ?_;split;·exact⟨by decide,by decide⟩
  ·split;·exact⟨by decide,by decide⟩
   ·exact⟨by decide,by decide⟩
end
theorem abJ(d:Nat)(t:Tok)(l:List Tok):clo d (t::l)=if isS t [123] then clo (d+1) l+1 else if isS t [125] then (match d with|0=>0|d+1=>clo d l+1) else clo d l+1:=by cases d<;>rfl
theorem aiy{t:Tok}(b:isS t [123]=false)(a:isS t [125]=false)(d:Nat)(l:List Tok):clo d (t::l)=clo d l+1:=by rw[abJ,b,a];rfl
theorem aso{t:Tok}(a:isS t [123]=true)(d:Nat)(l:List Tok):clo d (t::l)=clo (d+1) l+1:=by rw[abJ,a];rfl
theorem aML{t:Tok}(a:isS t [125]=true):isS t [123]=false:=by unfold isS at a ⊢;rw[Ac] at a;rw[of_decide_eq_true a.2];simp
theorem axv{t:Tok}(a:isS t [125]=true)(l:List Tok):clo 0 (t::l)=0:=by rw[abJ,aML a,a];rfl
theorem aj5:∀(l:List Tok)(d:Nat),clo d l<l.length->clo (d+1) l=clo d l+1+clo 0 (l.drop (clo d l+1))
 | [],d,h=>by simp at h
 |t::l,d,h=>by
  by_cases a:isS t [123]=true
  ·rw[aso a,aso a] at*
   rw[Af] at h;rw[aj5 l (d+1) (by omega),CL];omega
  ·rw[CK] at a;by_cases b:isS t [125]=true
   ·cases d with
    |zero=>rw[axv b,abJ,a,b];simp only[CL,Bm,Cw,if_false,if_true];omega
    |succ d=>
     have e:∀d,clo (d+1) (t::l)=clo d l+1:=λd=>by rw[abJ,a,b];rfl
     rw[e,e] at*
     rw[Af] at h;rw[aj5 l d (by omega),CL];omega
   ·rw[CK] at b;rw[aiy a b,aiy a b] at*
    rw[Af] at h;rw[aj5 l d (by omega),CL];omega
theorem awr{l:List Tok}{i:Int}(b:0<=i)(h:i<l.length):l.drop i.toNat=tk l i::l.drop (i+1).toNat:=by
 have a:i.toNat<l.length:=by omega
 rw[AX a,show (i+1).toNat=i.toNat+1 by omega];unfold tk;rw[Ar,Ah a];rfl
theorem aG2{l:List Tok}{i:Int}(c:0<=i)(h:i<l.length)(b:isS (tk l i) [123]=false)(a:isS (tk l i) [125]=false):Zed l (i+1)=Zed l i:=by unfold Zed;rw[awr c h,aiy b a];omega
theorem aG3{l:List Tok}{i:Int}(a:0<=i)(h:i<l.length)(b:isS (tk l i) [125]=true):Zed l i=i:=by unfold Zed;rw[awr a h,axv b];omega
theorem aG4{l:List Tok}{i j:Int}(d:0<=i)(h:i<l.length)(f:isS (tk l i) [123]=true)(m:j<l.length)(e:Zed l j=Zed l (i+1))(k:Zed l j=j):Zed l (j+1)=Zed l i:=by
 have c:j=Zed l (i+1):=by omega
 unfold Zed at c;have b:Zed l i=i+(clo 1 (l.drop (i+1).toNat):Int)+1:=by unfold Zed;rw[awr d h,aso f,show (0:Nat)+1=1 from rfl];omega
 have a:clo 0 (l.drop (i+1).toNat)<(l.drop (i+1).toNat).length:=by rw[AT];omega
 rw[b,show (1:Nat)=0+1 from rfl,aj5 _ 0 a,Dj];unfold Zed;rw[show (j+1).toNat=(i+1).toNat+(clo 0 (An (i+1).toNat l)+1) by omega];omega
theorem acW{t:Tok}{p:List UInt8}(a:t.kind≠4):isS t p=false:=by unfold isS;rw[beq_eq_false_iff_ne.2 a];rfl
theorem aG5{t:Tok}{p q:List UInt8}(h:isS t p=true)(a:p≠q):isS t q=false:=by unfold isS at h ⊢;rw[Ac] at h;rw[of_decide_eq_true h.2,decide_eq_false a,Br]
theorem asp{t:Tok}{p:List UInt8}(h:isW t p=true):t.kind=1∧t.text=p:=by unfold isW at h;rw[Ac] at h;exact⟨by simpa using h.1,of_decide_eq_true h.2⟩
theorem aBL{t:Tok}{p:List UInt8}(h:isS t p=true):t.kind=4∧t.text=p:=by unfold isS at h;rw[Ac] at h;exact⟨by simpa using h.1,of_decide_eq_true h.2⟩
theorem ri{l:List Tok}{i:Int}(b:0<=i)(h:i<l.length)(a:(tk l i).kind≠4):Zed l (i+1)=Zed l i:=aG2 b h (acW a) (acW a)
theorem aBM{l:List Tok}{i:Int}{p:List UInt8}(b:0<=i)(h:i<l.length)(a:isS (tk l i) p=true)(hp:p≠[123]∧p≠[125]):Zed l (i+1)=Zed l i:=aG2 b h (aG5 a hp.1) (aG5 a hp.2)
def PIn(l:List Tok)(i:Int):Prop:=amU l∧0<=i∧i<l.length
theorem PIn.next{l:List Tok}{i:Int}(h:PIn l i)(b:(l.getD i.toNat (aK .tok)).kind≠5):i+1<l.length:=by
 obtain⟨⟨f,d,c, -⟩,k,j⟩:=h;rcases Int.lt_or_le (i+1) l.length with h|h;·exact h
 ·rw[show i.toNat=l.length-1 by omega] at b;exact absurd c b
theorem PIn.small{l:List Tok}{i:Int}(h:PIn l i):(l.length:Int)<=3001:=by have:=h.1.2.1;omega
theorem PIn.tok{l:List Tok}{i:Int}(h:PIn l i):(l.getD i.toNat (aK .tok)).text.length<=3000:=by
 have b:i.toNat<l.length:=by have:=h.2;omega
 rw[Ar,Ah b];exact(h.1.2.2.2 _ (B1 b)).1.1
theorem PIn.num{l:List Tok}{i:Int}(h:PIn l i):0<=(tk l i).n∧(tk l i).n<=899:=by
 have b:i.toNat<l.length:=by have:=h.2;omega
 unfold tk;rw[Ar,Ah b];exact(h.1.2.2.2 _ (B1 b)).2
theorem vd{l:List Tok}{i:Int}(h:PIn l i):Ab .i64 (i+1)=i+1:=by have:=h.2;have:=h.small;exact aQ _ (by omega)
theorem aKe{l:List Tok}{i:Int}(h:PIn l i)(e a:Int):∃r,aV l i e a r:=by apply alE 1;unfold acC acB;exact aD (ixt h.2) (aG ⟨l.getD i.toNat (aK .tok),_,_,_,_,_,rfl,rfl,rfl⟩)
section
variable{Q:V×List aJ->Prop}{l:List Tok}{i e a:Int}
theorem hH{K:Tok×List Tok×Int×Int×Int->Ro}(h:PIn l i)(b:Tot (K (l.getD i.toNat (aK .tok),l,i,e,a)) Q):Tot (aA (aV l i e a) K) Q:=
 aY (aKe h e a) (by rintro _ ⟨-,rfl⟩;exact b)
theorem aG6(h:PIn l i)(p:Int):∃r,aM l i e a p r:=by
 apply ajy 1;unfold aaA aaz;dsimp only;refine aB (λb=>hH h ?_) (λb=>?_);·exact aG ⟨_,_,_,_,_,rfl,rfl,rfl,rfl,λh=>h⟩
 ·exact aG ⟨_,_,_,_,_,rfl,rfl,rfl,rfl,λ_=>by simpa using b⟩
theorem dv{p:Int}{K:List Tok×Int×Int×Int->Ro}(h:PIn l i)(hp:p≠0)(f:∀b c,b≠0->Tot (K (l,i,b,c)) Q):Tot (aA (aM l i e a p) K) Q:=
 aY (aG6 h p) (by rintro⟨_,_,b,c⟩ ⟨-,rfl,rfl,d⟩;exact f b c (d hp))
theorem aG7(h:PIn l i)(p:List UInt8):∃r,bk l i e a p r:=by
 apply ajz 1;unfold aaD aaC;dsimp only;refine aB (λc=>hH h (aB (λb=>hH h ?_) (λb=>?_))) (λc=>?_);·refine aG ⟨_,_,_,_,_,_,rfl,rfl,?_⟩;unfold gF isS;dsimp only at b ⊢;rw[c,b];rfl
 ·refine aG ⟨_,_,_,_,_,_,rfl,rfl,?_⟩;unfold gF isS;dsimp only at b;rw[c,b];rfl
 ·refine aG ⟨_,_,_,_,_,_,rfl,rfl,?_⟩;unfold gF;rw[c];rfl
theorem aG8(h:PIn l i)(p:List UInt8):∃r,bZ l i e a p r:=by
 apply ajA 1;unfold aaG aaF;dsimp only;refine aB (λc=>hH h (aB (λb=>hH h ?_) (λb=>?_))) (λc=>?_);·refine aG ⟨_,_,_,_,_,_,rfl,rfl,?_⟩;unfold gG isW;dsimp only at b ⊢;rw[c,b];rfl
 ·refine aG ⟨_,_,_,_,_,_,rfl,rfl,?_⟩;unfold gG isW;dsimp only at b;rw[c,b];rfl
 ·refine aG ⟨_,_,_,_,_,_,rfl,rfl,?_⟩;unfold gG;rw[c];rfl
theorem PIn.nextS{p:List UInt8}(h:PIn l i)(b:isS (tk l i) p=true):i+1<l.length:=h.next (by rw[(aBL b).1];decide)
theorem PIn.nextW{p:List UInt8}(h:PIn l i)(b:isW (tk l i) p=true):i+1<l.length:=h.next (by rw[(asp b).1];decide)
theorem aIw{p:List UInt8}{K:Bool×List Tok×Int×Int×Int->Ro}(h:PIn l i)(b:Tot (K (e==0&&isS (tk l i) p,l,i,e,a)) Q):Tot (aA (bk l i e a p) K) Q:=
 aY (aG7 h p) (by rintro _ ⟨-,rfl⟩;exact b)
theorem axw{p:List UInt8}{K:Bool×List Tok×Int×Int×Int->Ro}(h:PIn l i)(b:Tot (K (e==0&&isW (tk l i) p,l,i,e,a)) Q):Tot (aA (bZ l i e a p) K) Q:=
 aY (aG8 h p) (by rintro _ ⟨-,rfl⟩;exact b)
theorem apt{p:List UInt8}{K:Bool×List Tok×Int×Int×Int->Ro}(h:PIn l i)(d:e=0->isS (tk l i) p=true->Tot (K (true,l,i,e,a)) Q)(c:Tot (K (false,l,i,e,a)) Q):Tot (aA (bk l i e a p) K) Q:=
 aIw h (by
  cases b:(e==0&&isS (tk l i) p) with
  |false=>exact c
  |true=>rw[Ac] at b;exact d (by simpa using b.1) b.2)
theorem afu{p:List UInt8}{K:Bool×List Tok×Int×Int×Int->Ro}(h:PIn l i)(d:e=0->isW (tk l i) p=true->Tot (K (true,l,i,e,a)) Q)(c:Tot (K (false,l,i,e,a)) Q):Tot (aA (bZ l i e a p) K) Q:=
 axw h (by
  cases b:(e==0&&isW (tk l i) p) with
  |false=>exact c
  |true=>rw[Ac] at b;exact d (by simpa using b.1) b.2)
theorem aIx(h:PIn l i)(p:List UInt8):∃r,aF l i e a p r:=by
 apply ajB 1;unfold aaJ aaI;dsimp only;refine apt h (λf d=>aB (λc=>by simp at c) (λ_=>?_)) (aB (λ_=>dv h (by decide) (λm k b=>?_)) (λc=>by simp at c));·dsimp only;have j:=h.nextS d;rw[vd h];exact aG ⟨_,_,_,_,_,rfl,rfl,⟨rfl,by dsimp only;omega,by dsimp only;omega,λ_=>⟨f,rfl⟩⟩,λ_=>d⟩
 ·exact aG ⟨_,_,_,_,_,rfl,rfl,⟨rfl,As _,h.2.2,λh=>absurd h b⟩,λh=>absurd h b⟩
theorem abK{p:List UInt8}{K:List Tok×Int×Int×Int->Ro}(h:PIn l i)(m:∀b c d,PIn l b->i<=b->(c=0->(e=0∧b=i+1)∧isS (tk l i) p=true)->Tot (K (l,b,c,d)) Q):Tot (aA (aF l i e a p) K) Q:=
 aY (aIx h p) (by rintro⟨_,b,c,d⟩ ⟨-,⟨rfl,f,k,j⟩,q⟩;exact m b c d ⟨h.1,by have:=h.2;dsimp only at f;omega,k⟩ f (λh=>⟨j h,q h⟩))
theorem ym{p:List UInt8}{K:List Tok×Int×Int×Int->Ro}(h:PIn l i)(r:∀b c d,PIn l b->i<=b->(c=0->e=0∧i<b∧Zed l b=Zed l i)->Tot (K (l,b,c,d)) Q)(hp:p≠[123]∧p≠[125]:=by decide):Tot (aA (aF l i e a p) K) Q:=
 abK h (λb c d j f k=>r b c d j f (λm=>by obtain⟨⟨u,rfl⟩,q⟩:=k m;exact⟨u,by omega,aBM h.2.1 h.2.2 q hp⟩))
theorem aws{K:List Tok×Int×Int×Int->Ro}(h:PIn l i)(v:∀b c d,PIn l b->i<=b->(c=0->e=0∧b=i+1∧∀j:Int,j<l.length->Zed l j=Zed l (i+1)->Zed l j=j->Zed l (j+1)=Zed l i)->Tot (K (l,b,c,d)) Q):Tot (aA (aF l i e a [123]) K) Q:=
 abK h (λb c d m k p=>v b c d m k (λq=>by obtain⟨⟨w,rfl⟩,u⟩:=p q;exact⟨w,rfl,λj x r f=>aG4 h.2.1 h.2.2 u x r f⟩))
theorem abL{K:List Tok×Int×Int×Int->Ro}(h:PIn l i)(q:∀b c d,PIn l b->i<=b->(c=0->e=0∧b=i+1∧Zed l i=i)->Tot (K (l,b,c,d)) Q):Tot (aA (aF l i e a [125]) K) Q:=
 abK h (λb c d j f k=>q b c d j f (λm=>by obtain⟨⟨r,rfl⟩,p⟩:=k m;exact⟨r,rfl,aG3 h.2.1 h.2.2 p⟩))
theorem PIn.up{l:List Tok}{i:Int}(h:PIn l i)(b:i+1<l.length):PIn l (i+1):=⟨h.1,by have:=h.2;omega,b⟩
theorem aj6{p:List UInt8}(h:PIn l i)(b:isW (tk l i) p=true):Zed l (i+1)=Zed l i:=ri h.2.1 h.2.2 (by rw[(asp b).1];decide)
theorem aIy(h:PIn l i)(p:List UInt8):∃r,bM l i e a p r:=by
 apply ajC 1;unfold aaM aaL;dsimp only;refine axw h ?_;cases b:(e==0&&isW (tk l i) p) with
 |true=>dsimp only[cond_true];rw[vd h];refine aG ⟨_,_,_,_,_,_,rfl,rfl,?_⟩;unfold gH;rw[b];rfl
 |false=>refine aG ⟨_,_,_,_,_,_,rfl,rfl,?_⟩;unfold gH;rw[b];rfl
theorem aIz{p:List UInt8}{K:Bool×List Tok×Int×Int×Int->Ro}(h:PIn l i)(f:e=0->isW (tk l i) p=true->Tot (K (true,l,i+1,e,a)) Q)(d:(e==0&&isW (tk l i) p)=false->Tot (K (false,l,i,e,a)) Q):Tot (aA (bM l i e a p) K) Q:=
 aY (aIy h p) (by
  rintro r ⟨-,c⟩;unfold gH at c;subst c;cases b:(e==0&&isW (tk l i) p) with
  |false=>exact d b
  |true=>rw[Ac] at b;exact f (by simpa using b.1) b.2)
theorem aew{p:List UInt8}{K:Bool×List Tok×Int×Int×Int->Ro}(h:PIn l i)(f:e=0->PIn l (i+1)->Zed l (i+1)=Zed l i->Tot (K (true,l,i+1,e,a)) Q)(c:Tot (K (false,l,i,e,a)) Q):Tot (aA (bM l i e a p) K) Q:=
 aIz h (λd b=>f d (h.up (h.nextW b)) (aj6 h b)) (λ_=>c)
end
theorem aFF(s:List UInt8):∃r,pL s r:=by
 by_cases j:s.length<=9223372036854775807
 ·obtain⟨N,p⟩:∃N:Nat,N=s.length+1:=⟨_,rfl⟩
  apply av2 N;unfold akV rB;refine bj (λ(x:fM)=>x.1=s∧0<=x.2∧x.2<=(s.length:Int)) (λx=>((s.length:Int)-x.2).toNat) ?_ _ _ ⟨rfl,As 0,by dsimp only;omega⟩ (by dsimp only;omega);rintro b ⟨s',i⟩ ⟨h,f,k⟩ d;dsimp only at h f k d;subst h;unfold uR;dsimp only;refine aB (λc=>aD (ixt ⟨f,of_decide_eq_true c⟩) (aB (λ_=>aG ⟨_,_,rfl,rfl⟩) (λ_=>?_))) (λ_=>aG ⟨_,_,rfl,rfl⟩);have c:=of_decide_eq_true c;rw[aQ _ (by omega)];exact d _ ⟨rfl,by dsimp only;omega,by dsimp only;omega⟩ (by dsimp only;omega)
 ·exact⟨true,aH.fits λm=>absurd (m (.str s) (by simp)) j⟩
theorem aBN:∀(l:List (List UInt8))(k:Int)(s:List UInt8),0<=k->0<=agc l k s∧agc l k s<k+l.length∨agc l k s=0
 | [],k,s,h=>.inr rfl
 |x::l,k,s,h=>by
  unfold agc;split;·rw[Af];exact .inl ⟨h,by omega⟩
  ·rcases aBN l (k+1) s (by omega) with h|h;·rw[Af];exact .inl ⟨h.1,by omega⟩
   ·exact .inr h
theorem asq(s:List UInt8):0<=jh s∧jh s<=15:=by
 have:=aBN vQ 1 s (by decide);have e:vQ.length=15:=by decide
 unfold jh;omega
theorem aIA(s:List UInt8):∃r,oS s r:=by
 obtain⟨N,y⟩:∃N:Nat,N=20:=⟨_,rfl⟩
 apply ayB N;unfold anG t7;refine bj (λ(x:rC)=>x.1=s∧x.2.2.1=vQ∧0<=x.2.2.2∧x.2.2.2<=15∧agc (vQ.drop x.2.2.2.toNat) (x.2.2.2+1) s=jh s) (λx=>(15-x.2.2.2).toNat) ?_ _ _ ⟨rfl,rfl,As 0,by dsimp only;omega,rfl⟩ (by dsimp only;omega);rintro d ⟨s',f,v,i⟩ ⟨m,p,k,u,b⟩ j;dsimp only at m p k u b j;subst m p;have w:vQ.length=15:=by decide
 unfold wP;dsimp only;refine aB (λc=>aD (ixt ⟨k,of_decide_eq_true c⟩) ?_) (λc=>aG ⟨_,_,rfl,rfl,?_⟩)
 ·have c:=of_decide_eq_true c;rw[AX (by omega:i.toNat<vQ.length)] at b;have q:Ai vQ i.toNat (aK .str)=vQ[i.toNat]'(by omega):=by
   rw[Ar,Ah (by omega:i.toNat<vQ.length)];rfl
  rw[aQ _ (by omega),q];unfold agc at b;refine aB (λh=>aG ⟨_,_,rfl,rfl,?_⟩) (λh=>?_);·rw[if_pos (of_decide_eq_true h)] at b;exact b
  ·rw[if_neg (of_decide_eq_false h)] at b;exact j _ ⟨rfl,rfl,by dsimp only;omega,by dsimp only;omega,by dsimp only;rw[show (i+1).toNat=i.toNat+1 by omega];exact b⟩ (by dsimp only;omega)
 ·have c:=of_decide_eq_false c;rw[B6 (by omega)] at b;exact b
section
variable{Q:V×List aJ->Prop}{l:List Tok}{i e a:Int}
theorem axx{s:List UInt8}{K:Bool->Ro}(d:Tot (K true) Q)(c:Tot (K false) Q):Tot (aA (pL s) K) Q:=aY (aFF s) (by rintro b -;cases b;exact c;exact d)
theorem awt{s:List UInt8}{K:Int->Ro}(h:Tot (K (jh s)) Q):Tot (aA (oS s) K) Q:=aY (aIA s) (by rintro b ⟨-,c⟩;rw[show b=jh s from c];exact h)
theorem aai{l:List Tok}{i e b:Int}(h:PIn l i)(c:b≠0):arF l i e l i b:=⟨rfl,As _,h.2.2,λh=>absurd h c⟩
theorem aLQ{l:List Tok}{i e b:Int}(h:PIn l i)(c:b≠0):Eat l i e l i b:=⟨rfl,As _,h.2.2,λh=>absurd h c⟩
theorem apv{l:List Tok}{i e b:Int}(h:PIn l i)(d:(tk l i).kind≠5)(c:e=0):arF l i e l (i+1) b:=⟨rfl,by omega,h.next d,λ_=>⟨c,rfl⟩⟩
theorem aG9(h:PIn l i):∃r,cZ l i e a r:=by
 apply ahR 1;unfold zv zu;dsimp only;refine hH h (aB (λ_=>?_) (λf=>aB (λ_=>?_) (λc=>axx ?_ ?_)));·exact dv h (by decide) λj d b=>aG ⟨_,_,_,_,_,_,rfl,rfl,aai h b,A0 _,λh=>absurd h b⟩
 ·exact dv h (by decide) λj d b=>aG ⟨_,_,_,_,_,_,rfl,rfl,aai h b,A0 _,λh=>absurd h b⟩
 ·dsimp only at f c ⊢;rw[vd h];have c:(tk l i).kind=1:=by simpa using c
  exact aG ⟨_,_,_,_,_,_,rfl,rfl,apv h (by rw[c];decide) (by simpa using f),h.tok,λ_=>⟨c,rfl⟩⟩
 ·refine aB (λ_=>?_) (λk=>by simp at k);exact dv h (by decide) λj d b=>aG ⟨_,_,_,_,_,_,rfl,rfl,aai h b,A0 _,λh=>absurd h b⟩
theorem aHa(h:PIn l i):∃r,cV l i e a r:=by
 apply ajE 1;unfold aaP aaO;dsimp only;refine hH h (aB (λ_=>?_) (λd=>aB (λ_=>?_) (λc=>?_)));·exact dv h (by decide) λj f b=>aG ⟨_,_,_,_,_,_,rfl,rfl,aai h b,A0 _,λh=>absurd h b⟩
 ·exact dv h (by decide) λj f b=>aG ⟨_,_,_,_,_,_,rfl,rfl,aai h b,A0 _,λh=>absurd h b⟩
 dsimp only at d c ⊢;rw[vd h];have c:(tk l i).kind=1:=by simpa using c
 exact aG ⟨_,_,_,_,_,_,rfl,rfl,apv h (by rw[c];decide) (by simpa using d),h.tok,λ_=>⟨c,rfl⟩⟩
theorem aHb(h:PIn l i):∃r,bz l i e a r:=by
 apply ajF 1;unfold aaS aaR;dsimp only;refine hH h (aB (λ_=>?_) (λd=>aB (λ_=>?_) (λc=>?_)));·exact dv h (by decide) λj f b=>aG ⟨_,_,_,_,_,_,rfl,rfl,aai h b,A0 _,λh=>absurd h b⟩
 ·exact dv h (by decide) λj f b=>aG ⟨_,_,_,_,_,_,rfl,rfl,aai h b,A0 _,λh=>absurd h b⟩
 dsimp only at d c ⊢;rw[vd h];have c:(tk l i).kind=3:=by simpa using c
 exact aG ⟨_,_,_,_,_,_,rfl,rfl,apv h (by rw[c];decide) (by simpa using d),h.tok,λ_=>⟨c,rfl⟩⟩
theorem aKf(h:PIn l i):∃r,dx l i e a r:=by
 apply alM 1;unfold acF acE;dsimp only;refine hH h (aB (λ_=>?_) (λd=>aB (λ_=>?_) (λc=>?_)));·exact dv h (by decide) λj f b=>aG ⟨_,_,_,_,_,_,rfl,rfl,aai h b,⟨As 0,show (0:Int)<=899 by decide⟩,λh=>absurd h b⟩
 ·exact dv h (by decide) λj f b=>aG ⟨_,_,_,_,_,_,rfl,rfl,aai h b,⟨As 0,show (0:Int)<=899 by decide⟩,λh=>absurd h b⟩
 dsimp only at d c ⊢;rw[vd h];have c:(tk l i).kind=2:=by simpa using c
 exact aG ⟨_,_,_,_,_,_,rfl,rfl,apv h (by rw[c];decide) (by simpa using d),h.num,λ_=>c⟩
theorem agG{K:List UInt8×List Tok×Int×Int×Int->Ro}(h:PIn l i)(j:∀t b c d,t.length<=3000->PIn l b->i<=b->(c=0->(e=0∧b=i+1)∧(tk l i).kind=1∧t=(tk l i).text)->Tot (K (t,l,b,c,d)) Q):Tot (aA (cZ l i e a) K) Q:=
 aY (aG9 h) (by rintro⟨t,_,b,c,d⟩ ⟨-,⟨rfl,f,m,k⟩,q,p⟩;exact j t b c d q ⟨h.1,by have:=h.2;dsimp only at f;omega,m⟩ f (λh=>⟨k h,p h⟩))
theorem asr{K:List UInt8×List Tok×Int×Int×Int->Ro}(h:PIn l i)(r:∀t b c d,t.length<=3000->PIn l b->i<=b->(c=0->e=0∧i<b∧Zed l b=Zed l i)->Tot (K (t,l,b,c,d)) Q):Tot (aA (cZ l i e a) K) Q:=
 agG h (λt b c d f k j m=>r t b c d f k j (λp=>by obtain⟨⟨u,rfl⟩,q, -⟩:=m p;exact⟨u,by omega,ri h.2.1 h.2.2 (by rw[q];decide)⟩))
theorem ass{K:List UInt8×List Tok×Int×Int×Int->Ro}(h:PIn l i)(j:∀t b c d,t.length<=3000->PIn l b->i<=b->(c=0->(e=0∧b=i+1)∧(tk l i).kind=1∧t=(tk l i).text)->Tot (K (t,l,b,c,d)) Q):Tot (aA (cV l i e a) K) Q:=
 aY (aHa h) (by rintro⟨t,_,b,c,d⟩ ⟨-,⟨rfl,f,m,k⟩,q,p⟩;exact j t b c d q ⟨h.1,by have:=h.2;dsimp only at f;omega,m⟩ f (λh=>⟨k h,p h⟩))
theorem aEt{K:List UInt8×List Tok×Int×Int×Int->Ro}(h:PIn l i)(r:∀t b c d,t.length<=3000->PIn l b->i<=b->(c=0->e=0∧i<b∧Zed l b=Zed l i)->Tot (K (t,l,b,c,d)) Q):Tot (aA (cV l i e a) K) Q:=
 ass h (λt b c d f k j m=>r t b c d f k j (λp=>by obtain⟨⟨u,rfl⟩,q, -⟩:=m p;exact⟨u,by omega,ri h.2.1 h.2.2 (by rw[q];decide)⟩))
theorem aBO{K:List UInt8×List Tok×Int×Int×Int->Ro}(h:PIn l i)(j:∀t b c d,t.length<=3000->PIn l b->i<=b->(c=0->(e=0∧b=i+1)∧(tk l i).kind=3∧t=(tk l i).text)->Tot (K (t,l,b,c,d)) Q):Tot (aA (bz l i e a) K) Q:=
 aY (aHb h) (by rintro⟨t,_,b,c,d⟩ ⟨-,⟨rfl,f,m,k⟩,q,p⟩;exact j t b c d q ⟨h.1,by have:=h.2;dsimp only at f;omega,m⟩ f (λh=>⟨k h,p h⟩))
theorem aKg{K:List UInt8×List Tok×Int×Int×Int->Ro}(h:PIn l i)(r:∀t b c d,t.length<=3000->PIn l b->i<=b->(c=0->e=0∧i<b∧Zed l b=Zed l i)->Tot (K (t,l,b,c,d)) Q):Tot (aA (bz l i e a) K) Q:=
 aBO h (λt b c d f k j m=>r t b c d f k j (λp=>by obtain⟨⟨u,rfl⟩,q, -⟩:=m p;exact⟨u,by omega,ri h.2.1 h.2.2 (by rw[q];decide)⟩))
theorem auq{K:Int×List Tok×Int×Int×Int->Ro}(h:PIn l i)(m:∀t b c d,(0<=t∧t<=899)->PIn l b->i<=b->(c=0->e=0∧i<b∧Zed l b=Zed l i)->Tot (K (t,l,b,c,d)) Q):Tot (aA (dx l i e a) K) Q:=
 aY (aKf h) (by rintro⟨t,_,b,c,d⟩ ⟨-,⟨rfl,f,r,p⟩,v,u⟩;refine m t b c d v ⟨h.1,by have:=h.2;dsimp only at f;omega,r⟩ f (λj=>?_);obtain⟨w,k⟩:=p j;have q:=u j;dsimp only at k;subst k;exact⟨w,by omega,ri h.2.1 h.2.2 (by rw[q];decide)⟩)
theorem acX{l:List Tok}{i e b c:Int}(h:PIn l b)(f:i<=b)(d:c=0->e=0∧i<b∧Zed l b=Zed l i):Eat l i e l b c:=⟨rfl,f,h.2.2,d⟩
theorem afv{p:List UInt8}{K:Bool×List Tok×Int×Int×Int->Ro}(h:PIn l i)(d:e=0->PIn l (i+1)->Ab .i64 (i+1)=i+1->Zed l (i+1)=Zed l i->Tot (K (true,l,i,e,a)) Q)(c:Tot (K (false,l,i,e,a)) Q)(hp:p≠[123]∧p≠[125]:=by decide):Tot (aA (bk l i e a p) K) Q:=
 apt h (λa b=>d a (h.up (h.nextS b)) (vd h) (aBM h.2.1 h.2.2 b hp)) c
theorem ast{p:List UInt8}{K:Bool×List Tok×Int×Int×Int->Ro}(h:PIn l i)(d:e=0->PIn l (i+1)->Ab .i64 (i+1)=i+1->Tot (K (true,l,i,e,a)) Q)(c:Tot (K (false,l,i,e,a)) Q):Tot (aA (bk l i e a p) K) Q:=
 apt h (λa b=>d a (h.up (h.nextS b)) (vd h)) c
theorem acY{p:List UInt8}{K:Bool×List Tok×Int×Int×Int->Ro}(h:PIn l i)(d:e=0->PIn l (i+1)->Zed l (i+1)=Zed l i->Tot (K (true,l,i,e,a)) Q)(c:Tot (K (false,l,i,e,a)) Q):Tot (aA (bZ l i e a p) K) Q:=
 afu h (λa b=>d a (h.up (h.nextW b)) (aj6 h b)) c
end
section
variable{Q:V×List aJ->Prop}{l:List Tok}{i e a:Int}
theorem aIB(h:PIn l i)(p:Int):∃r,bF l i e a p r:=by
 apply ajG 1;unfold aaV aaU;dsimp only;refine aB (λb=>aB (λhp=>dv h (by decide) (λf d c=>?_)) (λhp=>?_)) (λb=>?_);·exact aG ⟨_,_,_,_,_,_,rfl,rfl,rfl,rfl,λ_=>c,λh=>by simp at h;exact absurd h c,λh=>absurd h c⟩
 ·have b:e=0:=by simpa using b
  have hp:=of_decide_eq_false hp;exact aG ⟨_,_,_,_,_,_,rfl,rfl,rfl,rfl,λh=>by simp[b] at h,λ_=>b,λ_=>⟨b,by omega⟩⟩
 ·have b:e≠0:=by simpa using b
  exact aG ⟨_,_,_,_,_,_,rfl,rfl,rfl,rfl,λ_=>b,λh=>by simp at h;exact absurd h b,λh=>absurd h b⟩
theorem yn{p:Int}{K:Bool×List Tok×Int×Int×Int->Ro}(h:PIn l i)(m:∀f c,f≠0->Tot (K (true,l,i,f,c)) Q)(k:∀c,e=0->p<30->Tot (K (false,l,i,0,c)) Q):Tot (aA (bF l i e a p) K) Q:=
 aY (aIB h p) (by
  rintro⟨b,_,_,f,c⟩ ⟨-,rfl,rfl,q,d,j⟩;cases b;·have d:=d rfl;dsimp only at d j;subst d;exact k c (j rfl).1 (j rfl).2
  ·exact m f c (q rfl))
theorem aHc(h:PIn l i)(n:List UInt8)(fs:List bI)(m:List (List UInt8))(ms:List aS)(es:List PEn)(k:List (Int×Int))(p:List (List UInt8)):∃r,f8 l i e a n fs m ms es k p r:=by
 apply ahU 1;unfold zy zx;dsimp only;have fin:∀(d f:Int),(d=0->e=0)->Tot (aA (bF l i d f (↑(Aa fs):Int)) (λr=>(some (.tup [],[some [.sl .tok (.may false) r.2.1,.int .i64 r.2.2.1,.int .i64 r.2.2.2.1,.int .i64 r.2.2.2.2],some [.str n,.sl .ffld .own fs,.sl .str .own m,.ul .fmsg ms,.sl .pen .own es,.sl .u2 .own k,.sl .str .own p]]):Ro))) (λz=>∃(q:List Tok)(x B y:Int)(C:Bs)(A:List bI)(D:Bss)(u:List aS)(w:List PEn)(v:List (Int×Int))(c:Bss)(rest:List aJ),z.1.dimR=.tup []∧z.2=some [.sl .tok (.may false) q,.int .i64 x,.int .i64 B,.int .i64 y]::some [.str C,.sl .ffld .own A,.sl .str .own D,.ul .fmsg u,.sl .pen .own w,.sl .u2 .own v,.sl .str .own c]::rest∧oN l i e a n fs m ms es k p (q,x,B,y,C,A,D,u,w,v,c)):=by
  intro d f j;refine yn h (λG F E=>?_) (λF b hp=>?_);·exact aG ⟨_,_,_,_,_,_,_,_,_,_,_,_,rfl,rfl,rfl,rfl,λh=>absurd h E,rfl⟩
  ·exact aG ⟨_,_,_,_,_,_,_,_,_,_,_,_,rfl,rfl,rfl,rfl,λ_=>⟨j b,by omega⟩,rfl⟩
 refine aB (λj=>hH h (aB (λ_=>dv h (by decide) (λd f b=>fin _ _ λh=>absurd h b)) (λ_=>fin _ _ λh=>h))) (λj=>fin _ _ λh=>h)
theorem aBP{n:List UInt8}{fs:List bI}{j:List (List UInt8)}{ms:List aS}{es:List PEn}{d:List (Int×Int)}{f:List (List UInt8)}{K:List Tok×Int×Int×Int×aeK->Ro}(h:PIn l i)(m:∀b c,(b=0->e=0∧fs.length<30)->Tot (K (l,i,b,c,n,fs,j,ms,es,d,f)) Q):Tot (aA (f8 l i e a n fs j ms es d f) K) Q:=
 aY (aHc h n fs j ms es d f) (by rintro⟨_,_,b,c,r⟩ ⟨-,rfl,rfl,k,rfl⟩;exact m b c k)
def aFG(p:bI):Prop:=(p.key.length<=3000∧0<=p.oneof∧p.oneof<=30)∧0<=p.label∧p.label<=2∧(0<p.oneof->p.label=0)
set_option maxHeartbeats 4000000 in
theorem aIC(h:PIn l i)(n:List UInt8)(fs:List bI)(u:List (List UInt8))(ms:List aS)(es:List PEn)(q:List (Int×Int))(x:List (List UInt8))(p:bI)(hp:aFG p)(D:fs.length<=31):∃r,dW l i e a n fs u ms es q x p r:=by
 apply ajI 1;unfold aaY aaX;dsimp only;obtain⟨⟨y,C,A⟩,B,z,E⟩:=hp
 repeat' (first|(with_reducible refine aB ?_ ?_<;>(intro k;(try simp only[bnl] at k);(try revert k;intro _)))|with_reducible refine aD ?_ ?_|with_reducible refine aG ?_|((refine aEt (by assumption) (λt f c d m hp j b=>?_);dsimp only))|((refine asr (by assumption) (λt f c d m hp j b=>?_);dsimp only))|((refine auq (by assumption) (λt f c d m hp j b=>?_);dsimp only))|((refine ym (by assumption) (λf c d hp j b=>?_);dsimp only))|((refine dv (by assumption) (by decide) (λc d b=>?_);dsimp only))|((refine aew (by assumption) (λb hp v=>?_) ?_<;>dsimp only[cond_true,cond_false,B2,A9]))|((refine afv (by assumption) (λb hp w v=>?_) ?_<;>dsimp only[cond_true,cond_false,B2,A9]<;>(try rw[w])))|fail)
 all_goals first
  |contradiction
  |exact decide_eq_true (by simp only[Af,Ak];omega)
  |(refine⟨_,_,_,_,_,_,_,_,_,_,_,_,rfl,rfl,acX (by assumption) ?_ ?_,⟨_,_,_,_,_,_,_⟩,λ_=>⟨?_,?_,?_,⟨?_,?_,?_,?_⟩,?_,?_,?_,?_⟩,rfl⟩<;>(try dsimp only)<;>first|omega|assumption|(intro h;omega))
theorem aEu{n:List UInt8}{fs:List bI}{k:List (List UInt8)}{ms:List aS}{es:List PEn}{f:List (Int×Int)}{j:List (List UInt8)}{p:bI}{K:List Tok×Int×Int×Int×aeK->Ro}(h:PIn l i)(hp:aFG p)(y:fs.length<=31)(v:∀b c d x,(c=0->sN x)->PIn l b->i<=b->(c=0->e=0∧i<b∧Zed l b=Zed l i)->Tot (K (l,b,c,d,n,fs++[x],k,ms,es,f,j)) Q):Tot (aA (dW l i e a n fs k ms es f j p) K) Q:=
 aY (aIC h n fs k ms es f j p hp y) (by rintro⟨_,b,c,d,r⟩ ⟨-,⟨rfl,m,u,q⟩,x,w,rfl⟩;exact v b c d x w ⟨h.1,by have:=h.2;dsimp only at m;omega,u⟩ m q)
end
def FQ(l:List Tok)(i e:Int)(n:List UInt8)(fs:List bI)(v:List (List UInt8))(ms:List aS)(es:List PEn)(u:List (Int×Int))(w:List (List UInt8)):V×List aJ->Prop:=λz=>∃(h:List Tok)(f c r:Int)(k:Bs)(m:List bI)(p:Bss)(j:List aS)(q:List PEn)(d:List (Int×Int))(b:Bss)(rest:List aJ),z.1.dimR=.tup []∧z.2=some [.sl .tok (.may false) h,.int .i64 f,.int .i64 c,.int .i64 r]::some [.str k,.sl .ffld .own m,.sl .str .own p,.ul .fmsg j,.sl .pen .own q,.sl .u2 .own d,.sl .str .own b]::rest∧Eat l i e h f c∧∃x,(c=0->sN x)∧(k,m,p,j,q,d,b)=(n,fs++[x],v,ms,es,u,w)
set_option maxHeartbeats 4000000 in
theorem aKh(N:Nat)(l:List Tok)(i b c f:Int)(n:List UInt8)(fs:List bI)(y:List (List UInt8))(ms:List aS)(es:List PEn)(x:List (Int×Int))(B:List (List UInt8))(h:PIn l b)(k:i<b)(z:c=0->Zed l b=Zed l i∧amV (jh (tk l b).text))(J:fs.length<=31):Tot (kP N (l,b,c,f,n,fs,y,ms,es,x,B,0,[],[],[],0,0,0)) (FQ l i 0 n fs y ms es x B):=by
 unfold kP;dsimp only;refine ass h (λE w A I C D H d=>?_);dsimp only;have G:A=0->amV (jh E):=λm=>by obtain⟨⟨j,L⟩,r,v⟩:=d m;rw[v];exact(z j).2
 have F:A=0->c=0∧b<w∧Zed l w=Zed l i:=λm=>by obtain⟨⟨j,rfl⟩,r,v⟩:=d m;have:=ri h.2.1 h.2.2 (by rw[r];decide);exact⟨j,by omega,by have:=(z j).1;omega⟩
 clear d
 repeat' (first|(with_reducible refine aB ?_ ?_<;>(intro q;(try simp only[bnl] at q);(try revert q;intro _)))|with_reducible refine aD ?_ ?_|with_reducible refine aG ?_|((refine aEt (by assumption) (λt b c f u hp k p=>?_);dsimp only))|((refine asr (by assumption) (λt b c f u hp k p=>?_);dsimp only))|((refine auq (by assumption) (λt b c f u hp k p=>?_);dsimp only))|((refine ym (by assumption) (λb c f hp k p=>?_);dsimp only))|fail)
 ·exact decide_eq_true (by simp only[Af,Ak];omega)
 ·refine⟨_,_,_,_,_,_,_,_,_,_,_,_,rfl,rfl,acX (by assumption) ?_ ?_,⟨_,_,_,_,_,_,_⟩,λm=>⟨?_,?_,?_,⟨?_,?_,?_,?_⟩,?_,?_,?_,λ_=>?_⟩,rfl⟩<;>(try dsimp only at*)<;>first|omega|exact G (by omega)
theorem aKi{s:List UInt8}(d:jh s≠0)(f:jh s≠1)(b:jh s≠2)(c:jh s≠15):amV (jh s):=by have:=asq s;unfold amV;omega
set_option maxHeartbeats 4000000 in
theorem aHd{l:List Tok}{i e a:Int}(h:PIn l i)(n:List UInt8)(fs:List bI)(p:List (List UInt8))(ms:List aS)(es:List PEn)(m:List (Int×Int))(q:List (List UInt8))(A:fs.length<=31):∃r,nj l i e a n fs p ms es m q r:=by
 apply ahW 1;show Tot _ (FQ l i e n fs p ms es m q);unfold zA iE;dsimp only;have zero:∀k:Int,0<=k->k<=2->aFG ⟨k,[],[],[],0,0,0⟩:=λk C v=>⟨⟨A0 _,As 0,by dsimp only;omega⟩,C,v,λh=>absurd h (show ¬(0:Int)<0 by decide)⟩
 refine aew h (λj hp u=>?_) ?_
 ·dsimp only[cond_true];subst j;have J:=λc d f (w:PIn l c) (v:i+1<=c) (y:d=0->Zed l c=Zed l i∧amV (jh (tk l c).text))=>aKh 1 l i c d f n fs p ms es m q w (by omega) y A
  repeat' (first|(with_reducible refine aB ?_ ?_<;>(intro z;(try simp only[bnl] at z);(try revert z;intro _)))|with_reducible refine aD ?_ ?_|with_reducible refine aG ?_|((refine ym (by assumption) (λc d f hp P j=>?_);dsimp only))|((refine hH (by assumption) ?_;dsimp only))|((refine awt ?_))|((refine dv (by assumption) (by decide) (λd f j=>?_);dsimp only))|fail)
  all_goals
   refine J _ _ _ (by assumption) (by omega) (λC=>?_);first
   |(exfalso;omega)
   |(refine⟨by omega,aKi ?_ ?_ ?_ ?_⟩<;>assumption)
 dsimp only[cond_false];have R:∀(k c d f:Int),0<=k->k<=2->PIn l c->i<=c->(d=0->e=0∧Zed l c=Zed l i)->Tot (aA (dW l c d f n fs p ms es m q ⟨k,[],[],[],0,0,0⟩) (λb=>(some (.tup [],[some [.sl .tok (.may false) b.1,.int .i64 b.2.1,.int .i64 b.2.2.1,.int .i64 b.2.2.2.1],some [.str b.2.2.2.2.1,.sl .ffld .own b.2.2.2.2.2.1,.sl .str .own b.2.2.2.2.2.2.1,.ul .fmsg b.2.2.2.2.2.2.2.1,.sl .pen .own b.2.2.2.2.2.2.2.2.1,.sl .u2 .own b.2.2.2.2.2.2.2.2.2.1,.sl .str .own b.2.2.2.2.2.2.2.2.2.2],some [.int .i64 k,.str ([]:Bs),.str ([]:Bs),.str ([]:Bs),.int .u64 0,.int .i64 0,.int .i64 0]]):Ro))) (FQ l i e n fs p ms es m q):=by
  intro k c d f L D w v y;refine aEu w (zero k L D) A (λH N B x I E O F=>?_);have G:i<=H:=by omega
  exact aG ⟨_,_,_,_,_,_,_,_,_,_,_,_,rfl,rfl,acX E G (λh=>by have M:=F h;have B:=y M.1;dsimp only at *;exact⟨B.1,by omega,by omega⟩),x,I,rfl⟩
 refine aew h (λj hp u=>?_) ?_;·dsimp only[cond_true];exact R 1 _ _ _ (by decide) (by decide) hp (by omega) (λh=>⟨h,u⟩)
 dsimp only[cond_false];refine aew h (λj hp u=>?_) ?_;·dsimp only[cond_true];exact R 2 _ _ _ (by decide) (by decide) hp (by omega) (λh=>⟨h,u⟩)
 ·dsimp only[cond_false];exact R 0 _ _ _ (by decide) (by decide) h (As _) (λh=>⟨h,rfl⟩)
theorem toB(c:UInt8):Az (Ad (c.toNat:Int))=c:=by simp
theorem aFH(c:Int)(j:0<=c∧c<=255):∃r,dR c r:=by
 obtain⟨b,d⟩:∃b:UInt8,(b.toNat:Int)=c:=⟨Az c.toNat,by rw[CP];omega⟩
 have f:(b==95)=decide (b.toNat=95):=by
  by_cases h:b.toNat=95;·rw[show b=95 from Ci.1 h];rfl
  ·rw[decide_eq_false h];exact beq_eq_false_iff_ne.2 λe=>h (by rw[e];rfl)
 subst d;apply at0 1;unfold ahI ahH;dsimp only
 repeat' (first|(with_reducible refine aB ?_ ?_<;>(intro d;(try simp only[bnl] at d);(try revert d;intro _)))|with_reducible refine aD ?_ ?_|with_reducible refine aG ?_|fail)
 all_goals
  refine⟨_,_,rfl,rfl,?_⟩;unfold xr jX;rw[toB,f];first
  |(rw[BD];simp;omega)
theorem aHe(c:Int)(f:0<=c∧c<=255):∃r,eS c r:=by
 obtain⟨b,d⟩:∃b:UInt8,(b.toNat:Int)=c:=⟨Az c.toNat,by rw[CP];omega⟩
 subst d;apply avY 1;unfold akQ akP
 repeat' (first|(with_reducible refine aB ?_ ?_<;>(intro d;(try simp only[bnl] at d);(try revert d;intro _)))|with_reducible refine aD ?_ ?_|with_reducible refine aG ?_|fail)
 all_goals
  refine⟨_,_,rfl,rfl,?_⟩;unfold yK jg;rw[toB];first
  |(rw[BD];simp;omega)
theorem aHf(c:Int):∃r,mG c r:=by
 apply av0 1;unfold akT akS;dsimp only
 repeat' (first|(with_reducible refine aB ?_ ?_<;>(intro b;(try simp only[bnl] at b);(try revert b;intro _)))|with_reducible refine aD ?_ ?_|with_reducible refine aG ?_|fail)
 all_goals
  refine⟨_,_,rfl,rfl,?_⟩;unfold yL
  (try simp(disch:=omega) only[jW,aQ])
  refine⟨?_,?_,?_,?_⟩<;>intros<;>first|omega|trivial
theorem aJI(t l:List UInt8):t.isPrefixOf l=decide (l.take t.length=t):=by rw[BD,List.isPrefixOf_iff_prefix,List.prefix_iff_eq_take,decide_eq_true_iff];exact eq_comm
theorem aFI(s:List UInt8)(i e a:Int)(t:List UInt8)(d:0<=i∧i<=s.length)(f:s.length<=3000)(j:t.length<=10):∃r,cB s i e a t r:=by
 apply ahL 1;unfold zm zk;dsimp only;rw[aQ _ (by omega)];have c:An i.toNat (Ao (i+(t.length:Int)).toNat s)=(s.drop i.toNat).take t.length:=by rw[show (i+(t.length:Int)).toNat=i.toNat+t.length by omega,Ct,Ec]
 refine aB (λb=>?_) (λb=>?_);·have b:=of_decide_eq_true b;refine aD (by simp only[Ac,decide_eq_true_eq];omega) (aG ⟨_,_,_,_,_,_,rfl,rfl,?_⟩);unfold jY;rw[c,aJI]
 ·refine aG ⟨_,_,_,_,_,_,rfl,rfl,?_⟩;unfold jY;rw[aJI,decide_eq_false];intro h;have h:=congrArg Aa h;simp only[BE,AT] at h;have b:=of_decide_eq_false b;omega
theorem aID(s:List UInt8)(i e a k:Int)(d:0<=i∧i<=s.length)(f:s.length<=3000)(c:0<=k∧k<=10):∃r,cj s i e a k r:=by
 apply aly 1;unfold acw acv;dsimp only;rw[aQ _ (by omega)];refine aB (λb=>aD (ixt (by have:=of_decide_eq_true b;omega)) ?_) (λb=>?_)
 ·refine aG ⟨_,_,_,_,_,_,rfl,rfl,?_⟩;have b:=of_decide_eq_true b;have c:(i+k).toNat<s.length:=by omega
  unfold lO;rw[AX c,List.headD_cons,Ar,Ah c,Bo]
 ·refine aG ⟨_,_,_,_,_,_,rfl,rfl,?_⟩;have b:=of_decide_eq_false b;unfold lO;rw[B6 (by omega)];rfl
section
variable{Q:V×List aJ->Prop}{s:List UInt8}{i e a:Int}
theorem agH{t:List UInt8}{K:Bool×List UInt8×Int×Int×Int->Ro}(c:0<=i∧i<=s.length)(d:s.length<=3000)(b:t.length<=10)(h:Tot (K (t.isPrefixOf (s.drop i.toNat),s,i,e,a)) Q):Tot (aA (cB s i e a t) K) Q:=
 aY (aFI _ _ _ _ _ c d b) (by rintro _ ⟨-,rfl⟩;exact h)
theorem abM{k:Int}{K:Int×List UInt8×Int×Int×Int->Ro}(b:0<=i∧i<=s.length)(c:s.length<=3000)(d:0<=k∧k<=10)(h:Tot (K ((((s.drop (i+k).toNat).headD 0).toNat:Int),s,i,e,a)) Q):Tot (aA (cj s i e a k) K) Q:=
 aY (aID _ _ _ _ _ b c d) (by rintro _ ⟨-,rfl⟩;exact h)
theorem yo{c:UInt8}{K:Bool->Ro}(h:Tot (K (jX c)) Q):Tot (aA (dR (c.toNat:Int)) K) Q:=aY (aFH _ (by have:=c.toNat_lt;omega)) (by rintro b ⟨-,rfl⟩;rw[toB];exact h)
theorem uq{c:UInt8}{K:Bool->Ro}(h:Tot (K (jg c)) Q):Tot (aA (eS (c.toNat:Int)) K) Q:=aY (aHe _ (by have:=c.toNat_lt;omega)) (by rintro b ⟨-,rfl⟩;rw[toB];exact h)
theorem aBQ{c:Int}{K:Int->Ro}(h:∀b:Int,(48<=c->c<=57->b=c-48)->(¬(48<=c∧c<=57)->b<0∨10<=b)->-1<=b∧b<=15->Tot (K b) Q):Tot (aA (mG c) K) Q:=aY (aHf c) (by rintro b ⟨-,j,d,f⟩;exact h b j d f)
end
theorem aFJ{s:List UInt8}{i:Int}{c:UInt8}{t rest:List UInt8}(h:dg s i (c::t) rest):(s.drop (i+0).toNat).headD 0=c:=by rw[Int.add_zero,h.2];rfl
def SQ(s:List UInt8)(i a:Int):V×List aJ->Prop:=λz=>∃(f:Bs)(b c d:Int)(rest:List aJ),z.1.dimR=.tup []∧z.2=some [.str f,.int .i64 b,.int .i64 c,.int .i64 d]::rest∧SpP s i 0 a (f,b,c,d)
theorem aHg(s:List UInt8)(i a:Int)(w rest:List UInt8)(q:∀c∈w,pG c=true)(G:∀c t,rest=c::t->pG c=false∧c≠47∧32<=c.toNat)(h:dg s i w rest)(M:i<=s.length)(F:s.length<=3000):∃r,nZ s i 0 a r:=by
 obtain⟨N,O⟩:∃N:Nat,N=4000:=⟨_,rfl⟩
 apply ajt N;show Tot _ (SQ s i a);unfold aaw jr;have f:=h.len M;have S:=h.1;refine bj (λ(x:cG)=>match x with|(s',j,E,m)=>s'=s∧E=0∧m=a∧∃d p,w=d++p∧j=i+(d.length:Int)) (λx=>((s.length:Int)-x.2.1).toNat) ?_ _ _ ⟨rfl,rfl,rfl,[],w,rfl,by simp⟩ (by dsimp only;omega);rintro b ⟨s',j,E,m⟩ ⟨rfl,rfl,rfl,d,p,rfl,rfl⟩ D;dsimp only at D;have z:dg s' (i+(d.length:Int)) p rest:=dg.step (dg.app.1 h);rw[Aj] at f;unfold lU kO;dsimp only;have done:p=[]->Tot (some ((.tup [],[some [.str s',.int .i64 (i+(d.length:Int)),.int .i64 0,.int .i64 m]]):V×List aJ)) (SQ s' i m):=by rintro rfl;exact aG ⟨_,_,_,_,_,rfl,rfl,d++[],rest,q,λc t e=>(G c t e).1,h,by rw[A5]⟩
 cases p with
 |cons c p=>
  obtain⟨B,y,P⟩:=z.at
  have A:=q c (by simp);have A:c=32∨c=10:=by simpa [pG] using A
  have next:Tot (b (s',Ab .i64 (i+(d.length:Int)+1),0,m)) (SQ s' i m):=by rw[aQ _ (by omega)];exact D _ ⟨rfl,rfl,rfl,d++[c],p,by simp,by simp only[Aj,Af,Ak];omega⟩ (by simp only;omega)
  rw[y];refine aB (λ_=>aB (λ_=>aD (ixt B) ?_) (λh=>by simp at h)) (λh=>absurd (of_decide_eq_false h) (by omega));rcases A with rfl|rfl;·exact aB (λ_=>aB (λh=>absurd (of_decide_eq_true h) (by decide)) (λ_=>aB (λ_=>next) (λh=>absurd h (by decide)))) (λh=>absurd h (by decide))
  ·exact aB (λ_=>aB (λ_=>next) (λh=>absurd h (by decide))) (λh=>absurd h (by decide))
 |nil=>
  simp only[Ak] at f;have done:=done rfl;cases rest with
  |nil=>simp only[Ak] at f;exact aB (λh=>absurd (of_decide_eq_true h) (by omega)) (λ_=>done)
  |cons c t=>
   obtain⟨J,I,R⟩:=G c t rfl;have H:dg s' (i+(d.length:Int)) (c::t) []:=⟨z.1,by rw[z.2];simp⟩
   obtain⟨B,y, -⟩:=H.at
   have C:c≠32:=λe=>by subst e;exact absurd J (by decide)
   have L:c.toNat≠32:=λe=>C (Ci.1 e)
   have u:∀x:UInt8,([47,x]:Bs).isPrefixOf (s'.drop (i+(d.length:Int)).toNat)=false:=λx=>by rw[H.2];simp only[List.isPrefixOf,AP,Bool.and_eq_false_imp,beq_iff_eq];intro e;exact absurd e.symm I
   have v:Tot (aA (cB s' (i+(d.length:Int)) 0 m ([47,47]:Bs)) (λl=>cond l.1 (aN N (iB N b) (l.2.1,l.2.2.1,l.2.2.2.1,l.2.2.2.2)) (aA (cB l.2.1 l.2.2.1 l.2.2.2.1 l.2.2.2.2 ([47,42]:Bs)) (λk=>cond k.1 (aN N (iC N b) (k.2.2.1,k.2.1,Ab .i64 (k.2.2.1+2),k.2.2.2.1,k.2.2.2.2)) (some ((.tup [],[some [.str k.2.1,.int .i64 k.2.2.1,.int .i64 k.2.2.2.1,.int .i64 k.2.2.2.2]]):V×List aJ)))))) (SQ s' i m):=by refine agH (by omega) F (by decide) ?_;rw[u];dsimp only;refine aB (λh=>absurd h (by decide)) (λ_=>agH (by omega) F (by decide) ?_);rw[u];dsimp only;exact aB (λh=>absurd h (by decide)) (λ_=>done)
   rw[y];refine aB (λ_=>aB (λ_=>aD (ixt B) (aB (λ_=>aB (λh=>absurd (of_decide_eq_true h) (by omega)) (λ_=>aB (λh=>absurd (show (c.toNat:Int)=32 by simpa using h) (by omega)) (λ_=>v))) (λh=>absurd (of_decide_eq_false h) (by omega)))) (λh=>by simp at h)) (λh=>absurd (of_decide_eq_false h) (by omega))
def WQ(s:List UInt8)(i a:Int):V×List aJ->Prop:=λz=>∃(f:Tok)(b:Bs)(c d h:Int)(rest:List aJ),z.1.dimR=.agg (enc .tok f)∧z.2=some [.str b,.int .i64 c,.int .i64 d,.int .i64 h]::rest∧WdP s i 0 a (f,b,c,d,h)
theorem WQ.mk{s:List UInt8}{i a k n j:Int}{t:List UInt8}{rest:List aJ}{w:Wd}{r:List UInt8}(h:dg s i w.t r)(f:w.ok)(d:w.nb r)(c:w.tok i=⟨k,t,n,i⟩)(b:j=i+(w.t.length:Int)):Tot (some ((.agg [.int .i64 k,.str t,.int .u64 n,.int .i64 i],some [.str s,.int .i64 j,.int .i64 0,.int .i64 a]::rest):V×List aJ)) (WQ s i a):=aG ⟨⟨k,t,n,i⟩,s,j,0,a,rest,rfl,rfl,w,r,f,d,h,by rw[c,b]⟩
theorem awu:∀(l:List UInt8)(v:Nat),v<=l.foldl (λv c=>v*10+(c.toNat-48)) v
 | [],v=>Ap _
 |c::l,v=>by rw[Bf];have:=awu l (v*10+(c.toNat-48));omega
theorem aKj(a:List UInt8)(c:UInt8)(b:List UInt8):dgV a<=dgV (a++c::b)∧dgV (a++[c])=dgV a*10+(c.toNat-48)∧dgV (a++[c])<=dgV (a++c::b):=by unfold dgV;rw[Dp,Dp];refine⟨awu _ _,rfl,?_⟩;rw[Bf,Bf,Cc];exact awu _ _
theorem aHh{c:UInt8}(h:jg c=true):48<=c.toNat∧c.toNat<=57:=of_decide_eq_true h
theorem azH{c:UInt8}(h:abl c=false):jX c=false∧jg c=false:=Cj.1 h
theorem aKk{Q:V×List aJ->Prop}{s:List UInt8}{k i a v:Int}{c:UInt8}(q:s.length<=3000)(w:0<=k∧k<=s.length)(y:(s.drop (k+0).toNat).headD 0=c)(r:abl c=false)(x:c≠46)(fin:Tot (some ((.agg [.int .i64 2,.str ([]:Bs),.int .u64 v,.int .i64 i],[some [.str s,.int .i64 k,.int .i64 0,.int .i64 a],some [.int .i64 2,.str ([]:Bs),.int .u64 v,.int .i64 i]]):V×List aJ)) Q):Tot (aA (cj s k 0 a 0) (λd=>
           aA (dR d.1) (λ(u:Bool)=>
            cond u (
             aA (bH d.2.1 d.2.2.1 d.2.2.2.1 d.2.2.2.2 2 i) (λf=>
              (some (.agg [.int .i64 f.1.kind,.str f.1.text,.int .u64 f.1.n,.int .i64 f.1.pos],[some [.str f.2.1,.int .i64 f.2.2.1,.int .i64 f.2.2.2.1,.int .i64 f.2.2.2.2],some [.int .i64 f.1.kind,.str f.1.text,.int .u64 f.1.n,.int .i64 f.1.pos]]):Ro))) (
             aA (eS d.1) (λ(m:Bool)=>
              cond m (
               aA (bH d.2.1 d.2.2.1 d.2.2.2.1 d.2.2.2.2 2 i) (λj=>
                (some (.agg [.int .i64 j.1.kind,.str j.1.text,.int .u64 j.1.n,.int .i64 j.1.pos],[some [.str j.2.1,.int .i64 j.2.2.1,.int .i64 j.2.2.2.1,.int .i64 j.2.2.2.2],some [.int .i64 j.1.kind,.str j.1.text,.int .u64 j.1.n,.int .i64 j.1.pos]]):Ro))) (
               cond (d.1==46) (
                aA (bH d.2.1 d.2.2.1 d.2.2.2.1 d.2.2.2.2 2 i) (λb=>
                 (some (.agg [.int .i64 b.1.kind,.str b.1.text,.int .u64 b.1.n,.int .i64 b.1.pos],[some [.str b.2.1,.int .i64 b.2.2.1,.int .i64 b.2.2.2.1,.int .i64 b.2.2.2.2],some [.int .i64 b.1.kind,.str b.1.text,.int .u64 b.1.n,.int .i64 b.1.pos]]):Ro))) (
                (some (.agg [.int .i64 2,.str ([]:Bs),.int .u64 v,.int .i64 i],[some [.str d.2.1,.int .i64 d.2.2.1,.int .i64 d.2.2.2.1,.int .i64 d.2.2.2.2],some [.int .i64 2,.str ([]:Bs),.int .u64 v,.int .i64 i]]):Ro)))))))) Q:=by
 obtain⟨l,p⟩:=azH r;refine abM w q (by decide) ?_;rw[y];dsimp only;refine yo ?_;rw[l];refine aB (λh=>absurd h (by decide)) (λ_=>uq ?_);rw[p];refine aB (λh=>absurd h (by decide)) (λ_=>aB (λh=>absurd (Ci.1 (?_:c.toNat=(46:UInt8).toNat)) x) (λ_=>fin));have:(c.toNat:Int)=46:=by simpa using h
 show c.toNat=46;omega
theorem aFK(s:List UInt8)(i a:Int)(n:Nat)(rest:List UInt8)(hn:n<=899)(h:dg s i (Go.Lib.decDigits n) rest)(I:avc rest)(hi:i<=s.length)(D:s.length<=3000):∃r,jq s i 0 a r:=by
 obtain⟨N,hN⟩:∃N:Nat,N=4000:=⟨_,rfl⟩
 apply ahQ N;show Tot _ (WQ s i a);unfold zp iD;obtain⟨f1,f2,f3,f4⟩:=aeJ n;have p:=h.len hi;have h0:=h.1;obtain⟨c0,t0,z⟩:∃c t,Go.Lib.decDigits n=c::t:=by
  cases z:Go.Lib.decDigits n with
  |nil=>exact absurd z f3
  |cons c t=>exact⟨c,t,rfl⟩
 have A:c0.toNat=48->n=0:=λe=>f4 (by rw[z];exact Ci.1 e)
 have go:∀b:Int,(b=8∧n=0∨b=10)->Tot (aN N (gP N) (i,b,0,s,i,0,a,0,([]:Bs),0,0)) (WQ s i a):=by
  intro b y;refine bj (λ(x:cX)=>match x with|(R,W,v,s',k,M,X,o0,o1,o2,o3)=>(R,W,s',M,X)=(i,b,s,0,a)∧∃f m,Go.Lib.decDigits n=f++m∧k=i+(f.length:Int)∧v=(dgV f:Int)) (λx=>((s.length:Int)-x.2.2.2.2.1).toNat) ?_ _ _ ⟨rfl,[],_,rfl,by simp,rfl⟩ (by dsimp only;omega);rintro H ⟨R,W,v,s',k,M,X,o0,o1,o2,o3⟩ ⟨q,f,m,j,rfl,rfl⟩ L;cases q;dsimp only at L;have E:dg s (i+(f.length:Int)) m rest:=dg.step (by rw[j] at h;exact dg.app.1 h);have ah:(Go.Lib.decDigits n).length=f.length+m.length:=by rw[j,Aj]
  unfold gP;dsimp only;cases m with
  |cons c m=>
   obtain⟨J,F,b3⟩:=E.at
   have cd:=aHh (f2 c (by rw[j];simp));obtain⟨m1,m2,m3⟩:=aKj f c m;rw[<-j,f1] at m1 m3;have c8:n=0->c.toNat=48:=λe=>by
    have:dgV (f++[c])=0:=by omega
    omega
   rw[F];refine aB (λ_=>aD (ixt J) (aBQ λd Y G e3=>?_)) (λh=>absurd (of_decide_eq_false h) (by omega));have aq:d=(c.toNat:Int)-48:=Y (by omega) (by omega);rw[cp d (by omega)];have w5:Ab .u64 ((dgV f:Int)*b)=(dgV f:Int)*b:=by rcases y with⟨rfl,_⟩|rfl<;>rw[cp _ (by omega)]
   have w6:Ab .u64 ((dgV f:Int)*b+d)=(dgV (f++[c]):Int):=by rcases y with⟨rfl,l⟩|rfl<;>rw[cp _ (by omega)]<;>omega
   refine aB (λh=>absurd (of_decide_eq_true h) (by omega)) (λ_=>aB (λh=>absurd (of_decide_eq_true h) (by rcases y with⟨rfl,l⟩|rfl<;>omega)) (λ_=>aD (by rcases y with⟨rfl,l⟩|rfl<;>decide) (aB (λh=>absurd (of_decide_eq_true h) ?_) (λ_=>?_))));·rw[cp (18446744073709551615-d) (by omega),B9 (by omega)];rcases y with⟨rfl,l⟩|rfl<;>rw[cp _ (by omega)]<;>omega
   ·rw[w5,w6,aQ _ (by omega)];exact L _ ⟨rfl,f++[c],m,by rw[j];simp,by simp only[Aj,Af,Ak];omega,rfl⟩ (by simp only;omega)
  |nil=>
   rw[A5] at j;have fin:Tot (some ((.agg [.int .i64 2,.str ([]:Bs),.int .u64 (dgV f:Int),.int .i64 i],[some [.str s,.int .i64 (i+(f.length:Int)),.int .i64 0,.int .i64 a],some [.int .i64 2,.str ([]:Bs),.int .u64 (dgV f:Int),.int .i64 i]]):V×List aJ)) (WQ s i a):=by rw[<-j,f1];exact WQ.mk (w:=.nu n) h hn I rfl rfl
   cases rest with
   |nil=>
    simp only[Ak] at p;rw[j] at p;have hz:(s.drop (i+(f.length:Int)+0).toNat).headD 0=0:=by rw[Int.add_zero,E.2];rfl
    refine aB (λh=>absurd (of_decide_eq_true h) (by omega)) (λ_=>abM (by omega) D (by decide) ?_);rw[hz];dsimp only;refine yo (aB (λh=>absurd h (by decide)) (λ_=>uq (aB (λh=>absurd h (by decide)) (λ_=>aB (λh=>absurd h (by decide)) (λ_=>fin)))))
   |cons c t=>
    obtain⟨n1,n2⟩:=I c t rfl;obtain⟨n3,O⟩:=azH n1;have Z:dg s (i+(f.length:Int)) (c::t) []:=⟨E.1,by rw[E.2];simp⟩
    obtain⟨J,F, -⟩:=Z.at
    have nd:¬(48<=(c.toNat:Int)∧(c.toNat:Int)<=57):=λP=>by unfold jg at O;exact absurd (of_decide_eq_false O) (by omega)
    have end_:=aKk (a:=a) (v:=(dgV f:Int)) (i:=i) D (by omega) (aFJ Z) n1 n2 fin;rw[F];refine aB (λ_=>aD (ixt J) (aBQ λd Y G e3=>?_)) (λh=>absurd (of_decide_eq_false h) (by omega));have G:=G nd;refine aB (λ_=>end_) (λC=>aB (λ_=>end_) (λu=>?_));have C:=of_decide_eq_false C;rw[cp d (by omega)] at u;have u:=of_decide_eq_false u;exfalso;rcases y with⟨rfl,l⟩|rfl<;>omega
 have S:=z▸h;obtain⟨a1,a2, -⟩:=dg.at S;have B:∀x:UInt8,abl x=true->jg x=false->([48,x]:Bs).isPrefixOf (s.drop i.toNat)=false:=λx P an=>by
  rw[S.2];simp only[List.isPrefixOf,AP,Bool.and_eq_false_imp,beq_iff_eq];intro e;have l:=A (by rw[<-e];rfl);subst l;rw[Go.Lib.decDigits_one (by decide)] at z;obtain⟨-,rfl⟩:=Bt z;rw[Bg];cases rest with
  |nil=>rfl
  |cons c t=>show (x==c&&true)=false;rw[Cl,beq_eq_false_iff_ne];rintro rfl;exact absurd P (by rw[(I _ t rfl).1];decide)
 refine agH (by omega) D (by decide) ?_;rw[B 120 (by decide) (by decide)];dsimp only;refine aB (λh=>absurd h (by decide)) (λ_=>agH (by omega) D (by decide) ?_);rw[B 88 (by decide) (by decide)];dsimp only;refine aB (λh=>absurd h (by decide)) (λ_=>aD (ixt a1) ?_);rw[a2];refine aB (λhc=>go 8 (.inl ⟨rfl,A ?_⟩)) (λ_=>go 10 (.inr rfl));have:(c0.toNat:Int)=48:=by simpa using hc
 omega
def mu(L:Nat)(i e:Int):Nat:=(2*((L:Int)-i)).toNat+if e=0 then 1 else 0
theorem li{L:Nat}{i e a b:Int}(c:e=0)(h:i<=a)(d:a<L)(f:b=0->i<a):mu L a b<mu L i e:=by unfold mu;rw[if_pos c];split<;>omega
theorem aur(L:Nat)(i e:Int)(h:0<=i)(a:L<=3001):mu L i e<7000:=by unfold mu;split<;>omega
theorem aEv{l:List (List UInt8)}{t:List UInt8}(h:jZ l)(b:t.length<=3000):jZ (l++[t]):=λx a=>by
 rcases Aw.1 a with a|a;·exact h x a
 ·rw[Av.1 a];exact b
theorem aIE(s:List UInt8):∃r,v9 s r:=by
 by_cases f:s.length<=9223372036854775807
 ·obtain⟨N,m⟩:∃N:Nat,N=s.length+2:=⟨_,rfl⟩
  apply ayx N;unfold anp tY;refine bj (λ(x:fM)=>x.1=s∧0<=x.2∧x.2<=(s.length:Int)) (λx=>((s.length:Int)-x.2).toNat) ?_ _ _ ⟨rfl,As 0,by dsimp only;omega⟩ (by dsimp only;omega);rintro a ⟨s',i⟩ ⟨e,c,k⟩ d;dsimp only at e c k d;subst e;unfold wO;dsimp only;refine aB (λb=>aD (ixt ⟨c,of_decide_eq_true b⟩) ?_) (λ_=>aG ⟨_,_,rfl,rfl⟩);have b:=of_decide_eq_true b;have next:Tot (a (s',Ab .i64 (i+1))) (λz=>∃(j:Bool)(rest:List aJ),z.1.dimR=.bool j∧z.2=rest):=by rw[aQ _ (by omega)];exact d _ ⟨rfl,by dsimp only;omega,by dsimp only;omega⟩ (by dsimp only;omega)
  refine yo ?_;cases jX (Ai s' i.toNat 0) with
  |true=>exact aB (λh=>by simp at h) (λ_=>next)
  |false=>
   refine aB (λ_=>?_) (λh=>by simp at h);refine aB (λ_=>aG ⟨_,_,rfl,rfl⟩) (λ_=>aD (ixt ⟨c,b⟩) ?_);refine uq ?_;cases jg (Ai s' i.toNat 0) with
   |true=>exact aB (λh=>by simp at h) (λ_=>next)
   |false=>exact aB (λ_=>aG ⟨_,_,rfl,rfl⟩) (λh=>by simp at h)
 ·exact⟨true,aH.fits λl=>absurd (l (.str s) (by simp)) f⟩
theorem aKl{Q:V×List aJ->Prop}{s:List UInt8}{K:Bool->Ro}(c:Tot (K true) Q)(a:Tot (K false) Q):Tot (aA (v9 s) K) Q:=aY (aIE s) (by rintro b -;cases b;exact a;exact c)
theorem lj{α:Type}{l:List α}{k:Int}(d:α)(b:0<=k)(h:k<l.length):l.take (k+1).toNat=l.take k.toNat++[l.getD k.toNat d]:=by
 have a:k.toNat<l.length:=by omega
 rw[show (k+1).toNat=k.toNat+1 by omega,List.take_add_one,Ar,Ah a];rfl
theorem d8{α:Type}{l:List α}{k:Int}(d:α)(b:0<=k)(h:k<l.length):l.getD k.toNat d∈l:=by
 have a:k.toNat<l.length:=by omega
 rw[Ar,Ah a];exact B1 a
theorem pd{α:Type}{l:List α}{k:Int}(h:¬k<l.length):l.take k.toNat=l:=CT (by omega)
theorem aBR{m:aS}:∀{l:List aS},xt l->m∈l->okM m
 | [],_,h=>by simp at h
 |x::l,h,a=>by
  simp only[xt] at h;rcases AN.1 a with rfl|a;·exact h.1
  ·exact aBR h.2 a
theorem axy{m:aS}:∀{l:List aS},m∈l->amW m<=eL l
 | [],h=>by simp at h
 |x::l,a=>by
  simp only[eL];rcases AN.1 a with rfl|a;·omega
  ·have:=axy a;omega
theorem aow:∀a b:List aS,eL (a++b)=eL a+eL b
 | [],b=>by simp[eL]
 |x::a,b=>by simp only[AP,eL,aow a b];omega
theorem aFL(l:List aS)(k:Nat):eL (l.take k)<=eL l:=by have:=aow (l.take k) (l.drop k);rw[Ba] at this;omega
theorem aEw(x:aS):okM x↔x.name.length<=3000∧(x.fields.length<=31∧∀f∈x.fields,sN f)∧(x.oneofs.length<=30∧jZ x.oneofs)∧(x.msgs.length<=31∧xt x.msgs)∧(x.enums.length<=31∧∀e∈x.enums,adc e)∧x.nums.length<=31∧(x.names.length<=31∧jZ x.names):=by cases x;simp only[okM,aS.name,aS.fields,aS.oneofs,aS.msgs,aS.enums,aS.nums,aS.names]
theorem aIF(x:aS):amW x=eL x.msgs+1:=by cases x;simp only[amW,aS.msgs]
theorem aJJ(x:aS):aS.mk x.name x.fields x.oneofs x.msgs x.enums x.nums x.names=x:=amS x
theorem aKm:okM (.mk [] [] [] [] [] [] []):=by simp only[okM,xt];exact⟨by decide,⟨by decide,λ_ h=>by simp at h⟩,⟨by decide,λ_ h=>by simp at h⟩,⟨by decide,trivial⟩,⟨by decide,λ_ h=>by simp at h⟩,by decide,by decide,λ_ h=>by simp at h⟩
theorem dj{k:Int}(a:0<=k)(h:k<1000000000000):Ab .i64 (k+1)=k+1:=aQ _ (by omega)
section
variable{Q:V×List aJ->Prop}
theorem aKn(l:Bss)(s:Bs)(q:l.length<=1000000):∃r,eM l s r:=by
 obtain⟨N,u⟩:∃N:Nat,N=1000001:=⟨_,rfl⟩
 apply aBh N;unfold aqZ wi;refine bj (λ(x:t9)=>x.1=l∧x.2.1=s∧0<=x.2.2∧x.2.2<=l.length∧s ∉ l.take x.2.2.toNat) (λx=>(l.length-x.2.2).toNat) ?_ _ _ ⟨rfl,rfl,As _,by dsimp only;omega,by simp⟩ (by dsimp only;omega);rintro f ⟨v,s',k⟩ ⟨m,j,d,p,e⟩ i;dsimp only at m j d p e i;subst m j;unfold zD;dsimp only;refine aB (λa=>?_) (λa=>?_)
 ·have a:=of_decide_eq_true a;refine aD (ixt ⟨d,a⟩) (aB (λb=>?_) (λb=>?_));·have b:=of_decide_eq_true b;exact aG ⟨true,_,rfl,rfl,λ_=>b▸d8 _ d a,λ_=>rfl⟩
  ·have b:=of_decide_eq_false b;rw[dj d (by omega)];refine i _ ⟨rfl,rfl,by first|omega|(dsimp only;omega),by first|omega|(dsimp only;omega),?_⟩ (by first|omega|(dsimp only;omega));dsimp only;rw[lj (aK .str) d a];intro c;rcases Aw.1 c with c|c;·exact e c
   ·exact b (Av.1 c).symm
 ·have a:=of_decide_eq_false a;rw[pd a] at e;exact aG ⟨false,_,rfl,rfl,λh=>by simp at h,λh=>absurd h e⟩
theorem aox{l:Bss}{s:Bs}{K:Bool->Ro}(c:l.length<=1000000)(e:s∈l->Tot (K true) Q)(d:s ∉ l->Tot (K false) Q):Tot (aA (eM l s) K) Q:=aY (aKn l s c) (by
 rintro b ⟨-,a⟩;cases b;·exact d (λh=>by simpa using a.2 h)
 ·exact e (a.1 rfl))
theorem axz(a b:Bs):(sP a b).length<=a.length+b.length+1:=by unfold sP;split<;>simp only[Aj,Af,Ak]<;>omega
theorem aIG(a b:Bs)(e:a.length<=1000000000)(f:b.length<=1000000000):∃r,oT a b r:=by
 apply ayF 1;unfold anL anK;dsimp only;refine aB (λd=>aD (decide_eq_true (by omega)) (aG ⟨_,_,rfl,rfl,?_⟩)) (λd=>aB (λc=>aD (decide_eq_true (by omega)) (aG ⟨_,_,rfl,rfl,?_⟩)) (λc=>aD (decide_eq_true (by simp only[Af,Ak];omega)) (aD (decide_eq_true (by simp only[Aj,Af,Ak];omega)) (aG ⟨_,_,rfl,rfl,?_⟩))))
 ·have d:a=[]:=by simpa using d
  exact(if_pos (.inl d)).symm
 ·have c:b=[]:=by simpa using c
  exact(if_pos (.inr c)).symm
 ·have d:a≠[]:=by simpa using d
  have c:b≠[]:=by simpa using c
  exact(if_neg (λh=>h.elim d c)).symm
theorem awv{a b:Bs}{K:Bs->Ro}(e:a.length<=1000000000)(c:b.length<=1000000000)(h:Tot (K (sP a b)) Q):Tot (aA (oT a b) K) Q:=aY (aIG a b e c) (by rintro r ⟨-,d⟩;rw[show r=sP a b from d];exact h)
theorem aEx(b a:Bs)(m:aS):nmM b a m=⟨sP b m.name,16,m,⟨[],[]⟩,a⟩::ahz m.msgs m.enums (sP b m.name) a:=by cases m;simp only[nmM,ahz,aS.name,aS.msgs,aS.enums]
theorem aBS(d c:Bs):∀a b:List aS,yQ d c (a++b)=yQ d c a++yQ d c b
 | [],b=>by simp[yQ]
 |m::a,b=>by simp only[AP,yQ,aBS d c a b,AB]
def aIH(n:Nat):Prop:=∀(ms:List aS)(es:List PEn)(a b:Bs),eL ms<=n->xt ms->ms.length<=31->es.length<=31->(∀e∈es,adc e)->a.length+3001*(eL ms+1)<=100000000->∃r,rA ms es a b r
def WQ8(ms:List aS)(es:List PEn)(b a:Bs):V×List aJ->Prop:=λz=>∃(c:List PNm)(rest:List aJ),z.1.dimR=.sl .nms (.may false) c∧z.2=rest∧xu ms es b a c
theorem aDT(n:Nat)(X:∀k,k<n->aIH k):aIH n:=by
 intro ms es c e hn M ae af J R;obtain⟨N,hN⟩:∃N:Nat,N=1000:=⟨_,rfl⟩
 apply at4 N;show Tot _ (WQ8 ms es c e);unfold ah4 pR;have ag:eL ms<=100000:=by omega
 obtain⟨B,hB⟩:∃B,B=c.length+3001*(eL ms+1):=⟨_,rfl⟩
 have ah:B<=100000000:=by omega
 have aa:c.length+3001<=B:=by omega
 refine bj (λ(x:f7)=>match x with|(P,A,G,C,i,k)=>(P,A,G,C)=(ms,es,c,e)∧0<=k∧k<=ms.length∧i.length<=32*eL (ms.take k.toNat)∧(∀x∈i,amX B x)∧i=yQ c e (ms.take k.toNat)) (λx=>(ms.length-x.2.2.2.2.2).toNat) ?_ _ _ ⟨rfl,As _,by omega,A0 _,λx v=>by simp at v,by simp[yQ]⟩ (by dsimp only;omega);rintro I ⟨P,A,G,C,i,k⟩ ⟨q,y,hk,S,v,d⟩ O;cases q;dsimp only at O;unfold sZ qJ;dsimp only;have ht:=aFL ms k.toNat;refine aB (λb=>?_) (λb=>?_)
 ·have b:=of_decide_eq_true b;have r:=d8 (aK .fmsg) y b;have l:=lj (aK .fmsg) y b;obtain⟨m,w⟩:∃m,m=Ai ms k.toNat (aK .fmsg):=⟨_,rfl⟩
  rw[<-w] at r l ⊢;have D:=aBR M r;have ai:=axy r;have ac:=aIF m;have u:=(aEw m).1 D;refine aD (ixt ⟨y,b⟩) (awv (by omega) (by have:=u.1;omega) (aD (ixt ⟨y,b⟩) (aD (decide_eq_true (by simp only[Af,Ak];omega)) (aD (ixt ⟨y,b⟩) (aD (ixt ⟨y,b⟩) ?_)))));have Z:=u.1;obtain⟨L,p⟩:∃L,L=sP c m.name:=⟨_,rfl⟩
  have F:=axz c m.name;rw[<-p] at F ⊢;refine aY (X (eL m.msgs) (by omega) m.msgs m.enums L e (Ap _) u.2.2.2.1.2 u.2.2.2.1.1 u.2.2.2.2.1.1 u.2.2.2.2.1.2 (by omega)) ?_;rintro r2 ⟨-,Y,p1,p2⟩;have W:=u.2.2.2.2.1.1;refine aD (decide_eq_true (by simp only[Aj,Af,Ak];omega)) ?_;rw[dj y (by omega)];refine O _ ⟨rfl,by first|omega|(dsimp only;omega),by first|omega|(dsimp only;omega),?_,?_,?_⟩ (by first|omega|(dsimp only;omega));·rw[l,aow];simp only[eL,Aj,Af,Ak];omega
  ·intro x a;rw[aJJ] at a;rcases Aw.1 a with a|a
   ·rcases Aw.1 a with a|a;·exact v x a
    ·rw[Av.1 a];exact⟨.inl rfl,D,⟨A0 _,A0 _,λ_ h=>by simp at h⟩,by dsimp only;omega⟩
   ·have:=p2 x a;exact⟨this.1,this.2.1,this.2.2.1,by have:=this.2.2.2;omega⟩
  ·dsimp only;rw[l,aBS,<-d,aJJ];simp only[yQ,aEx,A5];rw[<-p,Y,AB];rfl
 ·have b:=of_decide_eq_false b;rw[pd b] at S d;refine bj (λ(x:n7)=>match x with|(A,G,C,i,k)=>(A,G,C)=(es,c,e)∧0<=k∧k<=es.length∧(i.length:Int)<=32*eL ms+k∧(∀x∈i,amX B x)∧i=yQ c e ms++(es.take k.toNat).map (nmE c e)) (λx=>(es.length-x.2.2.2.2).toNat) ?_ _ _ ⟨rfl,As _,by omega,by omega,v,by simp[d]⟩ (by dsimp only;omega);rintro H ⟨A,G,C,i,j⟩ ⟨q,E,hj,S,v,d⟩ z;cases q;dsimp only at z;unfold n8;dsimp only;refine aB (λf=>?_) (λf=>?_)
  ·have f:=of_decide_eq_true f;have r:=J _ (d8 (aK .pen) E f);have l:=lj (aK .pen) E f;obtain⟨m,w⟩:∃m,m=Ai es j.toNat (aK .pen):=⟨_,rfl⟩
   rw[<-w] at r l ⊢;have F:=axz c m.name;refine aD (ixt ⟨E,f⟩) (awv (by omega) (by have:=r.1;omega) (aD (ixt ⟨E,f⟩) (aD (decide_eq_true (by simp only[Af,Ak];omega)) ?_)));rw[dj E (by omega)];refine z _ ⟨rfl,by first|omega|(dsimp only;omega),by first|omega|(dsimp only;omega),by simp only[Aj,Af,Ak];omega,?_,?_⟩ (by first|omega|(dsimp only;omega))
   ·intro x a;rcases Aw.1 a with a|a;·exact v x a
    ·rw[Av.1 a];exact⟨.inr rfl,aKm,r,by have:=r.1;dsimp only;omega⟩
   ·dsimp only;rw[l,AK,<-AB,<-d];rfl
  ·have f:=of_decide_eq_false f;rw[pd f] at d;exact aG ⟨i,_,rfl,rfl,d,by omega,λx a=>hB▸v x a⟩
theorem aFM(n:Nat):aIH n:=by
 induction n using DG with
 |_ n a=>exact aDT n a
theorem aKo(l:List ca)(h:xS l):∃r,uN l r:=by
 obtain⟨N,F⟩:∃N:Nat,N=1000:=⟨_,rfl⟩
 apply aBk N;unfold aq1 wj;have D:=h.1;refine bj (λ(x:ua)=>match x with|(w,d,k)=>w=l∧0<=k∧k<=l.length∧(d.length:Int)<=100000*k∧(∀x∈d,amX 10000000 x)∧d=sk (l.take k.toNat)) (λx=>(l.length-x.2.2).toNat) ?_ _ _ ⟨rfl,As _,by omega,by simp,λx i=>by simp at i,by simp[sk]⟩ (by dsimp only;omega);rintro u ⟨w,d,k⟩ ⟨q,j,L,D,i,b⟩ y;subst q;dsimp only at y;unfold zG;dsimp only;refine aB (λa=>?_) (λa=>?_)
 ·have a:=of_decide_eq_true a;have p:=(h.2 _ (d8 (aK .fil) j a)).1;have f:=lj (aK .fil) j a;obtain⟨m,v⟩:∃m,m=Ai w k.toNat (aK .fil):=⟨_,rfl⟩
  rw[<-v] at p f ⊢;have B:m.pack.length<=3000:=by rw[p.1.1];decide
  have e:=ixt ⟨j,a⟩;obtain⟨H,J,z,A⟩:=p;refine aD e (aD e (aD e (aD e (aY (aFM _ m.msgs m.enums m.pack m.name (Ap _) z.2.1 z.1 A.1 A.2 (by omega)) ?_))));rintro I ⟨-,C,G,E⟩;refine aD (decide_eq_true (by omega)) ?_;rw[dj j (by omega)];refine y _ ⟨rfl,by first|omega|(dsimp only;omega),by first|omega|(dsimp only;omega),by simp only[Aj];omega,?_,?_⟩ (by first|omega|(dsimp only;omega))
  ·intro x c;rcases Aw.1 c with c|c;·exact i x c
   ·have:=E x c;exact⟨this.1,this.2.1,this.2.2.1,by have:=this.2.2.2;omega⟩
  ·dsimp only;rw[f,b,C];simp[sk]
 ·rw[pd (of_decide_eq_false a)] at b;exact aG ⟨d,_,rfl,rfl,b,by omega,i⟩
theorem aHi{l:List ca}{K:List PNm->Ro}(h:xS l)(c:(sk l).length<=100000->(∀x∈sk l,amX 10000000 x)->Tot (K (sk l)) Q):Tot (aA (uN l) K) Q:=aY (aKo l h) (by rintro r ⟨-,rfl,b,a⟩;exact c b a)
def FiQ(l:List PNm):V×List aJ->Prop:=λz=>∃(c:Bs)(a b:Int)(rest:List aJ),z.1.dimR=.tup [.str c,.int .i64 a,.int .i64 b]∧z.2=rest∧(b=0->(a=16∨a=17)∧∃y∈l,y.name=c∧y.kind=a)
theorem aKp(N:Nat)(hN:N=20000000)(O u:Bs)(i:Bss)(l:List PNm)(P:O.length<=10000000)(hr:u.length<=3000)(I:i.length<=1000000)(hl:l.length<=100000)(X:∀x∈l,amX 10000000 x):Tot (aN N (nI N) (O,u,i,l)) (FiQ l):=by
 refine bj (λ(x:eT)=>match x with|(y,z,C,R)=>(z,C,R)=(u,i,l)∧y.length<=10000000) (λx=>x.1.length) ?_ _ _ ⟨rfl,P⟩ (by dsimp only;omega);rintro r ⟨y,z,C,R⟩ ⟨q,P⟩ L;cases q;dsimp only at L;unfold nI uV;dsimp only;have m:∀(f w:Bs),f.length<=y.length->Tot (aN N (nH N r) (f,u,i,l,w,0)) (FiQ l):=by
  intro f w Y;refine bj (λ(x:jc)=>match x with|(a,b,c,d,e,k)=>(a,b,c,d,e)=(f,u,i,l,w)∧0<=k∧k<=l.length) (λx=>(l.length-x.2.2.2.2.2).toNat) ?_ _ _ ⟨rfl,As _,by omega⟩ (by dsimp only;omega);rintro H ⟨a,b,c,d,e,k⟩ ⟨q,J,v⟩ B;cases q;dsimp only at B;unfold nH uU;dsimp only;refine aB (λp=>?_) (λp=>?_);·have p:=of_decide_eq_true p;have e:=ixt ⟨J,p⟩;have D:=d8 (aK .nms) J p;have W:=X _ D;rw[dj J (by omega)];have go:=B (f,u,i,l,w,k+1) ⟨rfl,by first|omega|(dsimp only;omega),by first|omega|(dsimp only;omega)⟩ (by first|omega|(dsimp only;omega));exact aD e (aB (λZ=>aD e (aox I (λ_=>aB (λ_=>aD e (aG ⟨_,_,_,_,rfl,rfl,λ_=>⟨W.1,_,D,of_decide_eq_true Z,rfl⟩⟩)) (λh=>by simp at h)) (λ_=>aB (λh=>by simp at h) (λ_=>go)))) (λ_=>go))
  ·refine aB (λ_=>aG ⟨_,_,_,_,rfl,rfl,λh=>by simp at h⟩) (λj=>?_);have j:f≠[]:=of_decide_eq_false j;have A:0<f.length:=Cr.2 j;rw[aQ ((f.length:Int)-1) (by omega)];refine bj (λ(x:rF)=>match x with|(a,b,c,d,k)=>(a,b,c,d)=(f,u,i,l)∧ -1<=k∧k<f.length) (λx=>(x.2.2.2.2+1).toNat) ?_ _ _ ⟨rfl,by omega,by omega⟩ (by dsimp only;omega);rintro G ⟨a,b,c,d,k⟩ ⟨q,k0,S⟩ E;cases q;dsimp only at E;unfold rG;dsimp only;have F:∀x:Int,0<=x->x<f.length->Tot (chk ((decide (0<=x)&&decide (x<=(↑(Aa f):Int)))) (r (An 0 (Ao (Ad x) f),u,i,l))) (FiQ l):=by
    intro x x0 x1;have M:(An 0 (Ao (Ad x) f)).length=x.toNat:=by simp only[Bm,BE];omega
    exact aD (by simp only[Ac,decide_eq_true_eq];omega) (L _ ⟨rfl,by first|omega|(dsimp only;omega)⟩ (by first|omega|(dsimp only;omega)))
   refine aB (λv=>?_) (λv=>?_);·have v:=of_decide_eq_true v;rw[if_neg (by omega)];refine aD (ixt ⟨v,S⟩) (aB (λ_=>?_) (λ_=>F k v S));rw[aQ (k-1) (by omega)];exact E _ ⟨rfl,by first|omega|(dsimp only;omega),by first|omega|(dsimp only;omega)⟩ (by first|omega|(dsimp only;omega))
   ·have v:=of_decide_eq_false v;rw[if_pos (by omega)];exact F 0 (As _) (by omega)
 refine awv (by omega) (by omega) (aB (λj=>aD ?_ (aB (λ_=>aD ?_ (m _ _ (A0 _))) (λ_=>m _ _ (Ap _)))) (λ_=>m _ _ (Ap _)))
 all_goals
  have j:u≠[]:=by simpa using j
  have A:0<u.length:=Cr.2 j;simp only[Ac,decide_eq_true_eq];omega
theorem aII(l:List ca)(a d c:Bs)(h:xS l)(A:d.length<=10000000)(B:c.length<=3000):∃r,acb l a d c r:=by
 obtain⟨N,y⟩:∃N:Nat,N=20000000:=⟨_,rfl⟩
 apply ayI N;show Tot _ (FiQ (sk l));unfold anM ub;have E:=h.1;refine bj (λ(x:jb)=>match x with|(w,u,s',v,j,k)=>(w,u,s',v)=(l,a,d,c)∧j.length<=1000000∧0<=k∧k<=l.length) (λx=>(l.length-x.2.2.2.2.2).toNat) ?_ _ _ ⟨rfl,A0 _,As _,by omega⟩ (by dsimp only;omega);rintro m ⟨w,u,s',v,j,k⟩ ⟨q,f,p,F⟩ i;cases q;dsimp only at i;unfold wV uW;dsimp only;refine aB (λb=>?_) (λb=>aHi h (λC z=>aKp N y _ _ _ _ A B f C z));have b:=of_decide_eq_true b;have e:=ixt ⟨p,b⟩;have D:=(h.2 _ (d8 (aK .fil) p b)).2;rw[dj p (by omega)];refine aD e (aB (λ_=>aD e ?_) (λ_=>?_));·exact i (l,a,d,c,_,k+1) ⟨rfl,by first|omega|(dsimp only;omega),by first|omega|(dsimp only;omega),by first|omega|(dsimp only;omega)⟩ (by first|omega|(dsimp only;omega))
 ·exact i (l,a,d,c,j,k+1) ⟨rfl,f,by first|omega|(dsimp only;omega),by first|omega|(dsimp only;omega)⟩ (by first|omega|(dsimp only;omega))
end
theorem rj{α R:Type}(n:Nat)(B:(α->Option R)->α->Option R)(x:α):aN (n+1) B x=B (aN n B) x:=rfl
theorem p9(N:Nat)(rec:(List UInt8×Int×Int×Int×Int)->Option (V×List aJ))(s:List UInt8)(v n i:Nat)(l:Int)(x:UInt8)(a:s.getD i 0=x)(e:v<2^20)(f:i<n)(d:n<=s.length)(b:n<=4):
  fa N rec (s,(n:Int),(v:Int),l,(i:Int))=if 128<=x.toNat∧x.toNat<=191 then rec (s,(n:Int),((v*64+x.toNat%64:Nat):Int),l,((i+1:Nat):Int)) else some (.tup [.int .u32 0,.int .i64 0],[]):=by
 have j:=BT x;simp only[fa,AC,a];by_cases h:x.toNat<128;·rw[if_neg (by omega)];simp(disch:=omega) only[aX,]
 by_cases c:191<x.toNat;·rw[if_neg (by omega)];simp(disch:=omega) only[aX,]
 ·rw[if_pos (by omega)];simp(disch:=omega) only[aX,];rw[show (v:Int)*64+((x.toNat:Int)-128)=((v*64+x.toNat%64:Nat):Int) by omega];rfl
theorem aj7(N:Nat)(rec:(List UInt8×Int×Int×Int×Int)->Option (V×List aJ))(s:List UInt8)(v n l:Nat):
  fa N rec (s,(n:Int),(v:Int),(l:Int),(n:Int))=if l<=v∧v<=1114111∧¬(55296<=v∧v<=57343) then some (.tup [.int .u32 v,.int .i64 n],[]) else some (.tup [.int .u32 0,.int .i64 0],[]):=by
 simp only[fa];by_cases d:v<l;·rw[if_neg (by omega)];simp(disch:=omega) only[aX,]
 by_cases b:1114111<v;·rw[if_neg (by omega)];simp(disch:=omega) only[aX,]
 by_cases c:55296<=v
 ·by_cases a:v<=57343;·rw[if_neg (by omega)];simp(disch:=omega) only[aX,]
  ·rw[if_pos (by omega)];simp(disch:=omega) only[aX,]
 ·rw[if_pos (by omega)];simp(disch:=omega) only[aX,]
theorem aIJ(M:Nat)(a b:UInt8)(t:List UInt8)(v:Nat)(e:v<32)(d:a.toNat=192+v):
  aN (M+5) (fa (M+5)) (a::b::t,((2:Nat):Int),(v:Int),((128:Nat):Int),((1:Nat):Int))=some (.tup [.int .u32 (dV 2 v (a::b::t)).1,.int .i64 (dV 2 v (a::b::t)).2],[]):=by
 have f:=aM3 a b v e d;rw[rj,p9 _ _ _ _ 2 1 _ b rfl (by omega) (by omega) (by simp) (by omega),rj,aj7];simp only[dV];rw[if_neg (show ¬(a::b::t).length<2 by simp)];simp only[Cp,C4,CX,Bf,Cc,f];by_cases c:128<=b.toNat∧b.toNat<=191
 ·rw[if_pos c];by_cases h:128<=v*64+b.toNat%64;·rw[if_pos (by omega),if_pos (by omega)]
  ·rw[if_neg (by omega),if_neg (by omega)];rfl
 ·rw[if_neg c,if_neg (by omega)];rfl
theorem aIK(M:Nat)(a b c:UInt8)(t:List UInt8)(v:Nat)(h:v<16)(f:a.toNat=224+v):
  aN (M+5) (fa (M+5)) (a::b::c::t,((3:Nat):Int),(v:Int),((2048:Nat):Int),((1:Nat):Int))=some (.tup [.int .u32 (dV 3 v (a::b::c::t)).1,.int .i64 (dV 3 v (a::b::c::t)).2],[]):=by
 have i:=aM4 a b c v h f _ rfl;rw[rj,p9 _ _ _ _ 3 1 _ b rfl (by omega) (by omega) (by simp) (by omega),rj,p9 _ _ _ _ 3 2 _ c rfl (by omega) (by omega) (by simp) (by omega),rj,aj7];simp only[dV];rw[if_neg (show ¬(a::b::c::t).length<3 by simp)];simp only[Cp,C4,CX,Bf,Cc,i];by_cases e:128<=b.toNat∧b.toNat<=191
 ·rw[if_pos e];by_cases d:128<=c.toNat∧c.toNat<=191
  ·rw[if_pos d];by_cases j:2048<=(v*64+b.toNat%64)*64+c.toNat%64∧¬(55296<=(v*64+b.toNat%64)*64+c.toNat%64∧(v*64+b.toNat%64)*64+c.toNat%64<=57343);·rw[if_pos (by omega),if_pos (by omega)]
   ·rw[if_neg (by omega),if_neg (by omega)];rfl
  ·rw[if_neg d,if_neg (by omega)];rfl
 ·rw[if_neg e,if_neg (by omega)];rfl
theorem aIL(M:Nat)(a b c d:UInt8)(t:List UInt8)(v:Nat)(j:v<8)(i:a.toNat=240+v):
  aN (M+5) (fa (M+5)) (a::b::c::d::t,((4:Nat):Int),(v:Int),((65536:Nat):Int),((1:Nat):Int))=some (.tup [.int .u32 (dV 4 v (a::b::c::d::t)).1,.int .i64 (dV 4 v (a::b::c::d::t)).2],[]):=by
 have k:=aM5 a b c d v j i _ rfl;rw[rj,p9 _ _ _ _ 4 1 _ b rfl (by omega) (by omega) (by simp) (by omega),rj,p9 _ _ _ _ 4 2 _ c rfl (by omega) (by omega) (by simp) (by omega),rj,p9 _ _ _ _ 4 3 _ d rfl (by omega) (by omega) (by simp) (by omega),rj,aj7];simp only[dV];rw[if_neg (show ¬(a::b::c::d::t).length<4 by simp)];simp only[Cp,C4,CX,Bf,Cc,k];by_cases f:128<=b.toNat∧b.toNat<=191
 ·rw[if_pos f];by_cases e:128<=c.toNat∧c.toNat<=191
  ·rw[if_pos e];by_cases h:128<=d.toNat∧d.toNat<=191
   ·rw[if_pos h];by_cases l:65536<=((v*64+b.toNat%64)*64+c.toNat%64)*64+d.toNat%64∧((v*64+b.toNat%64)*64+c.toNat%64)*64+d.toNat%64<=1114111;·rw[if_pos (by omega),if_pos (by omega)]
    ·rw[if_neg (by omega),if_neg (by omega)];rfl
   ·rw[if_neg h,if_neg (by omega)];rfl
  ·rw[if_neg e,if_neg (by omega)];rfl
 ·rw[if_neg f,if_neg (by omega)];rfl
theorem asu(M:Nat)(s:List UInt8)(a:s.length<=9223372036854775807):
  adu (M+5) s=some (.tup [.int .u32 (fy s).1,.int .i64 (fy s).2],[]):=by
 match s with
 | []=>rfl
 |c::t=>
  have m:c.toNat<256:=BT _;rw[Af] at a;simp only[adu,rO,fy,fU,Af,DM,BH];by_cases k:c.toNat<128;·simp(disch:=omega) only[aX,];rfl
  by_cases j:c.toNat<192;·simp(disch:=omega) only[aX,];rfl
  by_cases i:c.toNat<224
  ·have e:c.toNat / 32=6:=by omega
   match t with
   | []=>simp(disch:=omega) only[aX,dV,Af,Ak];rfl
   |b::t=>rw[Af] at a;simp(disch:=omega) only[aX,e,Af];rw[show (c.toNat:Int)-192=((c.toNat%32:Nat):Int) by omega];exact aIJ M c b t _ (by omega) (by omega)
  by_cases l:c.toNat<240
  ·have e:c.toNat / 16=14:=by omega
   match t with
   | []=>simp(disch:=omega) only[aX,dV,Af,Ak];rfl
   | [b]=>simp(disch:=omega) only[aX,dV,Af,Ak];rfl
   |b::d::t=>rw[Af,Af] at a;simp(disch:=omega) only[aX,e,Af];rw[show (c.toNat:Int)-224=((c.toNat%16:Nat):Int) by omega];exact aIK M c b d t _ (by omega) (by omega)
  by_cases h:c.toNat<248
  ·have e:c.toNat / 8=30:=by omega
   match t with
   | []=>simp(disch:=omega) only[aX,dV,Af,Ak];rfl
   | [b]=>simp(disch:=omega) only[aX,dV,Af,Ak];rfl
   | [b,d]=>simp(disch:=omega) only[aX,dV,Af,Ak];rfl
   |b::d::f::t=>rw[Af,Af,Af] at a;simp(disch:=omega) only[aX,e,Af];rw[show (c.toNat:Int)-240=((c.toNat%8:Nat):Int) by omega];exact aIL M c b d f t _ (by omega) (by omega)
  ·simp(disch:=omega) only[aX,];rfl
theorem rk{P:Program}{f:FuncId}{vs:List V}{R:Type}{ret:R->V}{r0:R}(h:(∀x∈vs,x.fits)->∃r,aH P f vs (ret r)∧r=r0):∃r,aH P f vs (ret r)∧r=r0:=
 ⟨r0,aH.fits λb=>by obtain⟨r,a,rfl⟩:=h b;exact a,rfl⟩
theorem aT{R a:Type}{Q:R->Prop}[Inhabited a]{C:a->Prop}{K:a->Option R}{r0:a}(h:∃r,C r)(c:∀r,C r->r=r0)(d:Tot (K r0) Q):Tot (aA C K) Q:=aY h λr b=>by rw[c r b];exact d
theorem aHj(s:List UInt8):∃r,ag4 s r:=⟨fT s,avD s,rfl⟩
theorem aFN(s:List UInt8):∃r,ae1 s r:=⟨fT s,atF s,rfl⟩
theorem aex(x:bi)(h:x.s.length<=9223372036854000000):∃r,qi x r:=⟨dE x,aAT _ _ _ _ _ (decide_eq_true h),rfl⟩
theorem aBT(x:bi)(h:x.s.length<=9223372036854000000):∃r,aek x r:=⟨dE x,ayd _ _ _ _ _ (decide_eq_true h),rfl⟩
theorem aoy(k:Int):∃r,v8 k r:=⟨dO k,avK k,rfl⟩
theorem aKq(k n:Int):∃r,anj k n r:=⟨toR k n,aAY k n,rfl⟩
theorem aHk(k n:Int):∃r,ag6 k n r:=⟨yH k n,avL k n,rfl⟩
theorem aFO(s:List UInt8):∃r,adj s r:=⟨lw s,ar2 s,rfl⟩
theorem aBU(k:Int):∃r,v7 k r:=by
 apply ayS 1;unfold anW anV
 repeat' (first|(with_reducible refine aB ?_ ?_<;>(intro a;(try simp only[bnl] at a);(try revert a;intro _)))|with_reducible refine aD ?_ ?_|with_reducible refine aG ?_|fail)
 all_goals exact⟨_,_,rfl,rfl,by unfold abm;rw[tN];unfold af7;(repeat' split)<;>omega⟩
theorem aFP(v:Int):∃r,lp v r:=by
 refine rk (ret:=λr=>.int .u64 r) λc=>?_
 have b:=oL (c (.int .u64 v) (by simp));apply aue 1;unfold aie aid;dsimp only;rw[Bh b.1]
 repeat' (first|(with_reducible refine aB ?_ ?_<;>(intro a;(try simp only[bnl] at a);(try revert a;intro _)))|with_reducible refine aD ?_ ?_|with_reducible refine aG ?_|fail)
 ·exact⟨_,_,rfl,rfl,by unfold qt sL;rw[cp _ (by omega),if_neg (by omega)]⟩
 ·exact⟨_,_,rfl,rfl,by unfold qt sL;rw[if_pos (by omega)]⟩
theorem aKr(x:Int)(a:0<=x∧x<=18446744073709551615):bC .xor .u64 (if AU .u64 then -1 else Bz .u64) x=18446744073709551615-x:=by rw[show (if AU .u64 then -1 else Bz .u64)=(18446744073709551615:Int) from rfl,<-aDj x a];simp only[bC,BitVec.xor_comm]
theorem aKs(v:Int):∃r,zi v r:=by
 refine rk (ret:=λr=>.int .u64 r) λc=>?_
 have a:=oL (c (.int .u64 v) (by simp));apply aBv 1;unfold aq5 aq4;dsimp only;rw[Bh a.1,B9 a.1,cp _ (by omega),aKr _ (by omega)]
 repeat' (first|(with_reducible refine aB ?_ ?_<;>(intro b;(try simp only[bnl] at b);(try revert b;intro _)))|with_reducible refine aD ?_ ?_|with_reducible refine aG ?_|fail)
 ·rename_i h;exact⟨_,_,rfl,rfl,by unfold wE;rw[if_pos h]⟩
 ·rename_i h;exact⟨_,_,rfl,rfl,by unfold wE;rw[if_neg h]⟩
theorem aHl(k n:Int):∃r,aca k n r:=by
 refine rk (ret:=λr=>.int .u64 r) λc=>?_
 have b:=oL (c (.int .u64 n) (by simp));apply ayU 1;unfold anY anX;dsimp only;rw[Bh b.1]
 repeat' (first|(with_reducible refine aB ?_ ?_<;>(intro a;(try simp only[bnl] at a);(try revert a;intro _)))|with_reducible refine aD ?_ ?_|with_reducible refine aG ?_|(refine aT (aFP _) (λ_ h=>h.2) ?_)|(refine aT (aKs _) (λ_ h=>h.2) ?_)|fail)
 all_goals
  refine⟨_,_,rfl,rfl,?_⟩;unfold abn;rw[axi];unfold azE sL
  (repeat' split)<;>omega
theorem aHm{P:Program}{f:FuncId}{vs:List V}{R:Type}{ret:R->V}{Q:R->Prop}(d:R)(b:Q d)(h:(∀x∈vs,x.fits)->∃r,aH P f vs (ret r)∧Q r):∃r,aH P f vs (ret r)∧Q r:=by
 by_cases a:∀x∈vs,x.fits;·exact h a
 ·exact⟨d,aH.fits λh=>absurd h a,b⟩
theorem aEy{n:Nat}(h:¬n<10):Go.Lib.decDigits n=Go.Lib.decDigits (n / 10)++[Az (48+n%10)]:=by rw[Go.Lib.decDigits,dif_neg h]
theorem axA(v:Int):∃r,tV v r:=by
 refine rk (ret:=λr=>.str r) λm=>?_
 have j:=oL (m (.int .u64 v) (by simp));obtain⟨N,p⟩:∃N:Nat,N=21:=⟨_,rfl⟩
 refine awh N v ?_;unfold ak4 rN;refine bj (λ(x:eo)=>match x with|(n,s)=>0<=n∧n<=18446744073709551615∧n<(10^(20-s.length):Nat)∧s.length<20∧Go.Lib.decDigits n.toNat++s=Go.Lib.decDigits v.toNat) (λx=>20-x.2.length) ?_ _ _ ⟨j.1,j.2,by simp;omega,by simp,by simp⟩ (by simp;omega);rintro c ⟨n,s⟩ ⟨k,u,i,w,d⟩ e;unfold uZ;dsimp only at e ⊢;have hp:(10^(20-s.length):Nat)=10*10^(20-(s.length+1)):=by rw[show 20-s.length=(20-(s.length+1))+1 by omega,B5];omega
 rw[hp] at i;obtain⟨q,b⟩:∃q:Nat,q=10^(20-(s.length+1)):=⟨_,rfl⟩
 rw[<-b] at i;have l:Az (Ad (Ab .u8 (Ab .u64 (48+Bd n 10))))=Az (48+n.toNat%10):=by
  rw[Bh k,cp _ (by omega),jW _ (by omega)]
  congr 1
  omega
 rw[B9 k,l];rw[cp (n / 10) (by omega)];refine aD (decide_eq_true (by simp only[Af,Ak];omega)) (aB (λa=>aG ⟨_,_,rfl,rfl,?_⟩) (λa=>e _ ⟨?_,?_,?_,?_,?_⟩ ?_))
 ·have a:n / 10=0:=by simpa using a
  have f:n.toNat<10:=by omega
  show _=Go.Lib.decDigits v.toNat;rw[<-d,Go.Lib.decDigits_one f,Bn f]
 ·omega
 ·omega
 ·simp only[Aj,Af,Ak];rw[show 20-(0+1+s.length)=20-(s.length+1) by omega,<-b];omega
 ·simp only[Aj,Af,Ak];rcases AH (s.length+1) 20 with h|h;·omega
  ·exfalso;rw[show 20-(s.length+1)=0 by omega] at b;simp only[beq_eq_false_iff_ne,ne_eq,Nat.pow_zero] at a b;omega
 ·have a:n / 10≠0:=by simpa using a
  dsimp only;rw[<-d,aEy (n:=n.toNat) (by omega),show (n / 10).toNat=n.toNat / 10 by omega,AB]
 ·simp only[Aj,Af,Ak];omega
theorem axB{n:Nat}(h:n<=18446744073709551615):(Go.Lib.decDigits n).length<=20:=by
 have key:∀k n:Nat,n<10^(k+1)->(Go.Lib.decDigits n).length<=k+1:=by
  intro k;induction k with
  |zero=>intro n h;rw[Go.Lib.decDigits_one (by omega)];simp
  |succ k b=>
   intro n h;by_cases a:n<10;·rw[Go.Lib.decDigits_one a];simp
   ·rw[aEy a,Aj];have:=b (n / 10) (by rw[B5] at h;omega);simp only[Af,Ak];omega
 exact key 19 n (by omega)
theorem aIM(v:Int):∃r,fL v r:=by
 refine aHm (ret:=λr=>.str r) (d:=Go.Lib.decDigits v.toNat) (λ_=>rfl) λe=>?_
 have h:-9223372036854775808<=v∧v<=9223372036854775807:=abk (e (.int .i64 v) (by simp));refine ayP 1 v ?_;unfold anT anS;dsimp only;refine aB (λb=>aY (axA _) λr a=>?_) (λb=>aY (axA _) λr a=>aG ⟨_,_,rfl,rfl,λ_=>?_⟩)
 ·have b:=of_decide_eq_true b;have a:r=_:=a.2;have f:r.length<=20:=by
   rw[a];rw[aQ (v+1) (by omega),aQ (0-(v+1)) (by omega),cp (0-(v+1)) (by omega),cp _ (by omega)];exact axB (by omega)
  refine aD (decide_eq_true (by simp only[Af,Ak];omega)) (aG ⟨_,_,rfl,rfl,λc=>absurd c (by omega)⟩)
 ·have b:=of_decide_eq_false b;have a:r=_:=a.2;rw[a,cp v (by omega)]
theorem aHn(t:List UInt8):∃r,zg t r:=by
 refine rk (ret:=λ(r:Int×Int)=>.tup [.int .u32 r.1,.int .i64 r.2]) λb=>?_
 have a:t.length<=9223372036854775807:=b (.str t) (by simp);exact awl 100 t ⟨_,asu 95 t a,_,_,_,rfl,rfl,rfl⟩
theorem aHo(s:List UInt8):0<=(fy s).2 ∧(fy s).2 <=s.length:=by have:=aAZ s;simp only[fy];omega
theorem aHp(s:List UInt8):∃r,tU s r:=by
 refine rk (ret:=λr=>.bool r) λp=>?_
 have q:s.length<=9223372036854775807:=p (.str s) (by simp);refine awn (s.length+1) s ?_;unfold ak7 rP;refine bj (λx=>x.length<=s.length∧lw x=lw s) (λx=>x.length) ?_ _ _ ⟨Ap _,rfl⟩ (by omega);rintro e t ⟨m,d⟩ j;unfold u6;dsimp only;cases t with
 |nil=>simp only[Ak];exact aB (λh=>by simp at h) (λ_=>aG ⟨_,_,rfl,rfl,d⟩)
 |cons c t=>
  refine aB (λ_=>?_) (λh=>by simp only[Af,decide_eq_false_iff_not] at h;omega);refine aY (aHn _) ?_;rintro⟨k,i⟩ ⟨-,hp'⟩;have a:=aHo (c::t);have b:=aqS c t;have hp':(k,i)=fy (c::t):=hp';rw[<-hp'] at a;have l:i=((fU (c::t)).2 :Int):=congrArg Prod.snd hp';simp only[Af] at a m;dsimp only at a ⊢
  repeat' (first|(with_reducible refine aB ?_ ?_<;>(intro f;(try simp only[bnl] at f);(try revert f;intro _)))|with_reducible refine aD ?_ ?_|with_reducible refine aG ?_|fail)
  ·rename_i h;rw[if_pos (by omega)] at b;exact⟨_,_,rfl,rfl,by rw[yJ,<-d,b]⟩
  ·simp only[Ac,decide_eq_true_iff,Af];exact a
  ·rename_i h;rw[if_neg (by omega)] at b;refine j _ ⟨?_,?_⟩ ?_;·simp only[AT,BE,Af];omega
   ·rw[AQ,l,AC,<-b,d]
   ·simp only[AT,BE,Af];omega
def RQ(l:List Tok)(i e:Int)(n:List UInt8)(fs:List bI)(v:List (List UInt8))(ms:List aS)(es:List PEn):V×List aJ->Prop:=λz=>∃(h:List Tok)(f d u:Int)(k:Bs)(m:List bI)(p:Bss)(j:List aS)(r:List PEn)(q:List (Int×Int))(c:Bss)(rest:List aJ),z.1.dimR=.tup []∧z.2=some [.sl .tok (.may false) h,.int .i64 f,.int .i64 d,.int .i64 u]::some [.str k,.sl .ffld .own m,.sl .str .own p,.ul .fmsg j,.sl .pen .own r,.sl .u2 .own q,.sl .str .own c]::rest∧Eat l i e h f d∧∃b a,(b.length<=31∧(d=0->b.length<=30))∧(a.length<=31∧(d=0->a.length<=30)∧jZ a)∧(k,m,p,j,r,q,c)=(n,fs,v,ms,es,b,a)
set_option maxHeartbeats 8000000 in
theorem aBV{l:List Tok}{i e a:Int}(h:PIn l i)(h1:i+1<l.length)(hz:Zed l (i+1)=Zed l i)(n:List UInt8)(fs:List bI)(y:List (List UInt8))(ms:List aS)(es:List PEn)(ns:List (Int×Int))(Q:List (List UInt8))(hn:ns.length<=30)(hs:Q.length<=30)(aa:jZ Q):∃r,j4 l i e a n fs y ms es ns Q r:=by
 obtain⟨N,hN⟩:∃N:Nat,N=7000:=⟨_,rfl⟩
 apply ae5 N;show Tot _ (RQ l i e n fs y ms es);unfold vu fV;dsimp only;rw[vd h];have v:=h.up h1;have go:∀(b:Bool)(w:Int),Tot (aN N (fE N) (b,l,i+1,e,w,n,fs,y,ms,es,ns,Q)) (RQ l i e n fs y ms es):=by
  intro b w;refine bj (λ(x:fD)=>match x with|(_,l',D,u,_,n',G,L,I,J,j,d)=>(l',n',G,L,I,J)=(l,n,fs,y,ms,es)∧PIn l D∧i+1<=D∧(u=0->e=0∧Zed l D=Zed l i)∧(j.length<=31∧(u=0->j.length<=30))∧(d.length<=31∧(u=0->d.length<=30)∧jZ d)) (λx=>mu l.length x.2.2.1 x.2.2.2.1) ?_ _ _ ⟨rfl,v,As _,λh=>⟨h,hz⟩,⟨by omega,λ_=>hn⟩,⟨by omega,λ_=>hs,aa⟩⟩ (by rw[hN];exact aur _ _ _ v.2.1 v.1.2.1);rintro B ⟨b,l',D,u,w,n',G,L,I,J,j,d⟩ ⟨q,hp,hi,p,⟨H,A⟩,⟨F,C,z⟩⟩ ih;cases q;dsimp only at ih;unfold fE;dsimp only;refine aB (λc=>?_) (λc=>aG ?_)
  ·have c:u=0:=by simpa using c
   have S:=A c;have Z:=C c;have hE:=(p c).1;have hZ:=(p c).2;clear p A C;subst c;have M:∀(m:List (Int×Int))(k:List (List UInt8))(E f a2:Int),PIn l E->D<=E->(f=0->Zed l E=Zed l i)->(m.length<=31∧(f=0->m.length<=30))->(k.length<=31∧(f=0->k.length<=30)∧jZ k)->Tot (aA (bk l E f a2 ([59]:Bs)) (λr=>cond r.1 (some (.tup [],[some [.sl .tok (.may false) r.2.1,.int .i64 (Ab .i64 (r.2.2.1+1)),.int .i64 r.2.2.2.1,.int .i64 r.2.2.2.2],some [.str n,.sl .ffld .own fs,.sl .str .own y,.ul .fmsg ms,.sl .pen .own es,.sl .u2 .own m,.sl .str .own k]])) (aA (aF r.2.1 r.2.2.1 r.2.2.2.1 r.2.2.2.2 ([44]:Bs)) (λO=>B (b,O.1,O.2.1,O.2.2.1,O.2.2.2,n,fs,y,ms,es,m,k))))) (RQ l i e n fs y ms es):=by
    intro m k E f a2 g1 g2 gz g3 P;have g5:i<E:=by omega
    refine afv g1 (λp hp hw ay=>?_) ?_;·dsimp only[cond_true];rw[hw];exact aG ⟨_,_,_,_,_,_,_,_,_,_,_,_,rfl,rfl,acX hp (by (try dsimp only);omega) (λh=>⟨hE,by (try dsimp only);omega,by have:=gz (by first|exact p|exact h);(try dsimp only);omega⟩),_,_,g3,P,rfl⟩
    ·dsimp only[cond_false];refine ym g1 (λi4 e4 a4 k1 k2 R=>?_);refine ih _ ⟨rfl,k1,by dsimp only;omega,λh=>⟨hE,by have a1:=R h;have a2:=gz a1.1;dsimp only at *;omega⟩,⟨g3.1,λh=>g3.2 (R h).1⟩,⟨P.1,λh=>P.2.1 (R h).1,P.2.2⟩⟩ (li rfl (by dsimp only;omega) k1.2.2 (λh=>by have:=R h;dsimp only;omega))
   have cap:∀(x:Int×Int)(f:Int),(f=0->j.length<30)->((j++[x]).length<=31∧(f=0->(j++[x]).length<=30)):=λx f X=>⟨by simp;omega,λh=>by have:=X h;simp;omega⟩
   have ac:∀(x:List UInt8)(f:Int),x.length<=3000->(f=0->d.length<30)->((d++[x]).length<=31∧(f=0->(d++[x]).length<=30)∧jZ (d++[x])):=λx f hl X=>⟨by simp;omega,λh=>by have:=X h;simp;omega,aEv z hl⟩
   have Y:∀f:Int,j.length<=31∧(f=0->j.length<=30):=λ_=>⟨H,λ_=>S⟩
   have W:∀f:Int,d.length<=31∧(f=0->d.length<=30)∧jZ d:=λ_=>⟨F,λ_=>Z,z⟩
   repeat' (first|(with_reducible refine aB ?_ ?_<;>(intro hb;(try simp only[bnl] at hb);(try revert hb;intro _)))|with_reducible refine aD ?_ ?_|with_reducible refine aG ?_|((refine hH (by assumption) ?_;dsimp only))|((refine auq (by assumption) (λt D u w ht hp hi p=>?_);dsimp only))|((refine aKg (by assumption) (λt D u w ht hp hi p=>?_);dsimp only))|((refine dv (by assumption) (by decide) (λu w p=>?_);dsimp only))|((refine yn (by assumption) (λu w p=>?_) (λw p hp=>?_)<;>dsimp only))|((refine aew (by assumption) (λp hp hz=>?_) ?_<;>dsimp only[cond_true,cond_false,B2,A9]))|((refine aKl ?_ ?_<;>(try dsimp only[cond_true,cond_false,B2,A9])))|((refine M _ _ _ _ _ (by assumption) (by omega) (by omega) ?_ ?_))|fail)
   all_goals first
    |contradiction
    |exact decide_eq_true (by simp only[Af,Ak];omega)
    |exact Y _
    |exact W _
    |exact cap _ _ (by omega)
    |exact ac _ _ (by assumption) (by omega)
  ·have c:u≠0:=by simpa using c
   exact⟨_,_,_,_,_,_,_,_,_,_,_,_,rfl,rfl,acX hp (by omega) (λh=>absurd h c),_,_,⟨H,A⟩,⟨F,C,z⟩,rfl⟩
 refine aB (λ_=>hH v (go _ _)) (λ_=>go _ _)
def aBW(l:List PVl):Prop:=∀v∈l,v.name.length<=3000
theorem aKt{l:List PVl}{t:PVl}(h:aBW l)(b:t.name.length<=3000):aBW (l++[t]):=λx a=>by
 rcases Aw.1 a with a|a;·exact h x a
 ·rw[Av.1 a];exact b
theorem aLR{l:List Tok}{i:Int}(h:PIn l i):i<l.length:=h.2.2
def EQ(l:List Tok)(i e:Int):V×List aJ->Prop:=λz=>∃(d:PEn)(c:List Tok)(a b f:Int)(rest:List aJ),z.1.dimR=.agg (enc .pen d)∧z.2=some [.sl .tok (.may false) c,.int .i64 a,.int .i64 b,.int .i64 f]::rest∧(Eat l i e c a b∧(b=0->a=Zed l (i+3)+1))∧adc d
def Blk(l:List Tok)(i:Int):Prop:=∀j:Int,j<l.length->Zed l j=Zed l (i+3)->Zed l j=j->Zed l (j+1)=Zed l i
set_option maxHeartbeats 8000000 in
theorem aBX{l:List Tok}{i e a:Int}(h:PIn l i)(h1:i+1<l.length)(hz:Zed l (i+1)=Zed l i):∃r,kq l i e a r:=by
 obtain⟨N,hN⟩:∃N:Nat,N=7000:=⟨_,rfl⟩
 apply ajM N;show Tot _ (EQ l i e);unfold aaZ jw;dsimp only;rw[vd h];have D:=h.up h1;refine agG D (λC c f z ao aj az R=>?_);dsimp only;refine aws aj (λP e3 a3 S a0 ab=>?_);dsimp only;have hB:e3=0->(e=0∧Blk l i)∧P=i+3:=λh0=>by obtain⟨Q,q2,q3⟩:=ab h0;obtain⟨⟨q4,rfl⟩,q5, -⟩:=R Q;have z2:=ri D.2.1 D.2.2 (by rw[q5];decide);refine⟨⟨q4,λj hj e1 f=>?_⟩,by omega⟩;rw[q3 j hj (by rw[e1,show i+1+1+1=i+3 by omega]) f];omega
 refine bj (λ(x:bV)=>match x with|(l',d,A,_,n',z',Y,vs)=>(l',n',z',Y)=(l,[],[],C)∧PIn l d∧i+1<=d∧(A=0->(e=0∧Blk l i)∧Zed l d=Zed l (i+3))∧(vs.length<=31∧(A=0->vs.length<=30))∧aBW vs) (λx=>mu l.length x.2.1 x.2.2.1) ?_ _ _ ⟨rfl,S,by omega,λh0=>⟨(hB h0).1,by rw[(hB h0).2]⟩,⟨A0 _,λ_=>A0 _⟩,λv hv=>by simp at hv⟩ (by rw[hN];exact aur _ _ _ S.2.1 D.1.2.1);rintro y ⟨l',d,A,F,n',z',Y,vs⟩ ⟨q,hp,hi,u,⟨Z,W⟩,I⟩ ih;cases q;dsimp only at ih;unfold ma kY;dsimp only;have B:∀c f z,PIn l c->d<=c->(f=0->A=0∧c=d+1∧Zed l d=d)->EQ l i e ((.agg [.str C,.sl .pvl (.may false) vs],[some [.sl .tok (.may false) l,.int .i64 c,.int .i64 f,.int .i64 z],some [.str C,.sl .pvl (.may false) vs],some [.str C,.sl .pvl .own vs]]):V×List aJ):=by
  intro c f z L g2 H;refine⟨⟨C,vs⟩,_,_,_,_,_,rfl,rfl,⟨acX L (by omega) (λh=>?_),λh=>?_⟩,ao,Z,I⟩;·obtain⟨Q,rfl,q3⟩:=H h;obtain⟨⟨q4,q5⟩,q6⟩:=u Q;exact⟨q4,by (try dsimp only);omega,q5 d hp.2.2 q6 q3⟩
  ·obtain⟨Q,rfl,q3⟩:=H h;have:=(u Q).2
   (try dsimp only);omega
 have done:∀c f z,PIn l c->d<=c->(f=0->A=0∧c=d+1∧Zed l d=d)->Tot (some ((.agg [.str C,.sl .pvl (.may false) vs],[some [.sl .tok (.may false) l,.int .i64 c,.int .i64 f,.int .i64 z],some [.str C,.sl .pvl (.may false) vs],some [.str C,.sl .pvl .own vs]]):V×List aJ)) (EQ l i e):=λc f z L g2 H=>aG (B c f z L g2 H)
 refine aB (λw=>?_) (λw=>?_)
 ·have w:A=0:=by simpa using w
  have ai:=W w;have hE:=(u w).1;have hZ:=(u w).2;clear u W hB R ab;subst w;have J2:∀(b:Bool)(c f z:Int)(t:List UInt8),PIn l c->d<=c->(f=0->vs.length<=29∧Zed l c=Zed l (i+3))->t.length<=3000->Tot (iH N y (b,l,c,f,z,[],[],C,vs,t,0)) (EQ l i e):=by
   intro b c f z t L g2 H g4;unfold iH;dsimp only;refine auq L (λk P e3 a3 _ g5 g6 g7=>?_);dsimp only;have fin:∀(m E J O:Int),PIn l E->P<=E->(J=0->e3=0∧P<E∧Zed l E=Zed l P)->Tot (y (l,E,J,O,[],[],C,vs++[⟨t,m⟩])) (EQ l i e):=by
    intro m E J O G M p;have hl:(vs++[(⟨t,m⟩:PVl)]).length=vs.length+1:=by simp
    exact ih _ ⟨rfl,G,by dsimp only;omega,λh=>⟨hE,by have a1:=p h;have z:=g7 a1.1;have a3:=H z.1;dsimp only at *;omega⟩,⟨by dsimp only;omega,λh=>by have:=p h;have:=H (g7 this.1).1;dsimp only;omega⟩,aKt I g4⟩ (li rfl (by dsimp only;omega) G.2.2 (λh=>by have:=p h;dsimp only;omega))
   have ac:decide ((Aa vs+Aa ([(⟨t,0⟩:PVl)]:List PVl))*24<=140737488355328)=true:=decide_eq_true (by simp only[Af,Ak];omega);refine aB (λ_=>?_) (λ_=>?_);·refine ym g5 (λE J O G M p=>?_);exact aD ac (fin _ _ _ _ G M p)
   ·refine ym g5 (λE J O G M p=>?_);exact aD ac (fin _ _ _ _ G M p)
  have J1:∀(c f z:Int),PIn l c->d<=c->(f=0->Zed l c=Zed l (i+3))->Tot (iI N y (l,c,f,z,[],[],C,vs)) (EQ l i e):=by
   intro c f z L g2 H;unfold iI kX;dsimp only
   repeat' (first|(with_reducible refine aB ?_ ?_<;>(intro X;(try simp only[bnl] at X);(try revert X;intro _)))|with_reducible refine aD ?_ ?_|with_reducible refine aG ?_|((refine hH (by assumption) ?_;dsimp only))|((refine asr (by assumption) (λt d A F ht hp hi u=>?_);dsimp only))|((refine ym (by assumption) (λd A F hp hi u=>?_);dsimp only))|((refine dv (by assumption) (by decide) (λA F u=>?_);dsimp only))|((refine yn (by assumption) (λA F u=>?_) (λF u hp=>?_)<;>dsimp only))|((refine afv (by assumption) (λu hp hw hz=>?_) ?_<;>dsimp only[cond_true,cond_false,B2,A9]<;>(try rw[hw])))|fail)
   all_goals first
    |contradiction
    |exact J2 _ _ _ _ _ (by assumption) (by omega) (by omega) (by assumption)
  repeat' (first|(with_reducible refine aB ?_ ?_<;>(intro X;(try simp only[bnl] at X);(try revert X;intro _)))|with_reducible refine aD ?_ ?_|with_reducible refine aG ?_|((refine hH (by assumption) ?_;dsimp only))|((refine axx ?_ ?_<;>(try dsimp only[cond_true,cond_false,B2,A9])))|((refine ym (by assumption) (λd A F hp hi u=>?_);dsimp only))|((refine abL (by assumption) (λd A F hp hi u=>?_);dsimp only))|((refine dv (by assumption) (by decide) (λA F u=>?_);dsimp only))|((refine afv (by assumption) (λu hp hw hz=>?_) ?_<;>dsimp only[cond_true,cond_false,B2,A9]<;>(try rw[hw])))|((refine ast (by assumption) (λu hp hw=>?_) ?_<;>dsimp only[cond_true,cond_false,B2,A9]<;>(try rw[hw])))|fail)
  all_goals first
   |contradiction
   |exact J1 _ _ _ (by assumption) (by omega) (by omega)
   |exact done _ _ _ (by assumption) (by omega) (by omega)
   |exact B _ _ _ (by assumption) (by omega) (by omega)
   |exact ih _ ⟨rfl,by assumption,by (try dsimp only);omega,λ_=>⟨hE,by (try dsimp only);omega⟩,⟨Z,λ_=>ai⟩,I⟩ (li rfl (by (try dsimp only);omega) (aLR (by assumption)) (by (try dsimp only);omega))
 ·refine abL hp (λE J O G M p=>?_);exact done _ _ _ G M p
def OQ(l:List Tok)(i e:Int)(n:List UInt8)(ms:List aS)(es:List PEn)(v:List (Int×Int))(w:List (List UInt8)):V×List aJ->Prop:=λz=>∃(h:List Tok)(f d u:Int)(k:Bs)(m:List bI)(p:Bss)(j:List aS)(r:List PEn)(q:List (Int×Int))(c:Bss)(rest:List aJ),z.1.dimR=.tup []∧z.2=some [.sl .tok (.may false) h,.int .i64 f,.int .i64 d,.int .i64 u]::some [.str k,.sl .ffld .own m,.sl .str .own p,.ul .fmsg j,.sl .pen .own r,.sl .u2 .own q,.sl .str .own c]::rest∧Eat l i e h f d∧∃a b,(a.length<=31∧(d=0->a.length<=30∧∀x∈a,sN x))∧(b.length<=30∧jZ b)∧(k,m,p,j,r,q,c)=(n,a,b,ms,es,v,w)
theorem aBY{l:List bI}{t:bI}(h:∀x∈l,sN x)(b:sN t):∀x∈l++[t],sN x:=λx a=>by
 rcases Aw.1 a with a|a;·exact h x a
 ·rw[Av.1 a];exact b
set_option maxHeartbeats 8000000 in
theorem aHq{l:List Tok}{i e a:Int}(h:PIn l i)(h1:i+1<l.length)(B:Zed l (i+1)=Zed l i)(n:List UInt8)(fs:List bI)(Q:List (List UInt8))(ms:List aS)(es:List PEn)(F:List (Int×Int))(H:List (List UInt8))(hf:fs.length<=30)(I:e=0->∀x∈fs,sN x)(ho:Q.length<=30)(ad:jZ Q):∃r,ni l i e a n fs Q ms es F H r:=by
 obtain⟨N,hN⟩:∃N:Nat,N=7000:=⟨_,rfl⟩
 apply ahY N;show Tot _ (OQ l i e n ms es F H);unfold zB iG;dsimp only;have D:=h.up h1;have hL:=h.small;refine yn h (λe' W he=>?_) (λW he hp=>?_);·exact aG ⟨_,_,_,_,_,_,_,_,_,_,_,_,rfl,rfl,aLQ h he,fs,Q,⟨by omega,λh=>absurd h he⟩,⟨ho,ad⟩,rfl⟩
 dsimp only[cond_false];rw[vd h];subst he;have I:=I rfl;refine agG D (λt z G a2 ht am ba al=>?_);dsimp only;refine aD (decide_eq_true (by simp only[Af,Ak];omega)) (aws am (λi3 R a3 aa bb E=>?_));dsimp only;have hB:R=0->Blk l i∧i3=i+3:=λh0=>by obtain⟨q1,q2,q3⟩:=E h0;obtain⟨⟨q4,rfl⟩,q5, -⟩:=al q1;have z2:=ri D.2.1 D.2.2 (by rw[q5];decide);refine⟨λj hj e1 G=>?_,by omega⟩;rw[q3 j hj (by rw[e1,show i+1+1+1=i+3 by omega]) G];omega
 obtain⟨d,C⟩:∃d:List (List UInt8),d=Q++[t]:=⟨_,rfl⟩
 have au:d.length<=30:=by rw[C];simp only[Aj,Af,Ak];omega
 have Y:jZ d:=by rw[C];exact aEv ad ht
 rw[<-C];clear C;refine bj (λ(x:dm)=>match x with|(_,ws,c,Z,m,e',_,X,b,o',w,y,u,p)=>(Z,X,o',w,y,u,p)=(l,n,d,ms,es,F,H)∧ws.length=7∧PIn l m∧i+1<=m∧b.length<=31∧(e'=0->(b.length<=30∧∀x∈b,sN x)∧Blk l i∧Zed l m=Zed l (i+3))) (λx=>mu l.length x.2.2.2.2.1 x.2.2.2.2.2.1) ?_ _ _ ⟨rfl,rfl,aa,by omega,by omega,λh0=>⟨⟨hf,I⟩,(hB h0).1,by rw[(hB h0).2]⟩⟩ (by rw[hN];exact aur _ _ _ aa.2.1 D.1.2.1);rintro L ⟨f,ws,c,Z,m,e',W,X,b,o',w,y,u,p⟩ ⟨q,hw,hp,hi,S,M⟩ ih;cases q;dsimp only at ih;unfold kV j7;dsimp only;have done:∀z G a2,PIn l z->m<=z->(G=0->e'=0∧z=m+1∧Zed l m=m)->Tot (some ((.tup [],[some [.sl .tok (.may false) l,.int .i64 z,.int .i64 G,.int .i64 a2],some [.str n,.sl .ffld .own b,.sl .str .own d,.ul .fmsg ms,.sl .pen .own es,.sl .u2 .own F,.sl .str .own H]]):V×List aJ)) (OQ l i 0 n ms es F H):=by
  intro z G a2 g1 g2 g3;have g4:i<=z:=by omega
  refine aG ⟨_,_,_,_,_,_,_,_,_,_,_,_,rfl,rfl,acX g1 g4 (λh=>?_),b,d,⟨S,λh=>(M (g3 h).1).1⟩,⟨au,Y⟩,rfl⟩;obtain⟨q1,rfl,q3⟩:=g3 h;obtain⟨-,q5,q6⟩:=M q1;exact⟨rfl,by (try dsimp only);omega,q5 m hp.2.2 q6 q3⟩
 refine aB (λA=>?_) (λA=>abL hp (λi4 e4 a4 g8 g9 O=>done _ _ _ g8 g9 O));have A:e'=0:=by simpa using A
 subst A;obtain⟨⟨be,ar⟩,ap,hZ⟩:=M rfl;have v:∀W,Tot (aN N (fk N L) (f,ws,c,0,l,m,0,W,n,b,d,ms,es,F,H)) (OQ l i 0 n ms es F H):=by
  intro W;refine bj (λ(x:gR)=>match x with|(_,P,_,k,Z,z,G,_,X,f',o',w,y,u,p)=>(P,Z,z,X,f',o',w,y,u,p)=(ws,l,m,n,b,d,ms,es,F,H)∧0<=k∧k<=7) (λx=>(7-x.2.2.2.1).toNat) ?_ _ _ ⟨rfl,As 0,by decide⟩ (by dsimp only;omega);rintro ae ⟨f',P,c',k,Z,z,G,a2,X,f2,o',w,y,u,p⟩ ⟨q,k1,k2⟩ J;cases q;dsimp only at J;unfold fk;dsimp only;refine aB (λhk=>?_) (λhk=>?_)
  ·have hk:=of_decide_eq_true hk;refine aD (ixt ⟨k1,hk⟩) ?_;rw[aQ (k+1) (by omega)];refine acY hp (λ_ _ _=>?_) ?_;·dsimp only[cond_true];refine dv hp (by decide) (λR a3 E=>?_);exact J _ ⟨rfl,by dsimp only;omega,by dsimp only;omega⟩ (by dsimp only;omega)
   ·dsimp only[cond_false];exact J _ ⟨rfl,by dsimp only;omega,by dsimp only;omega⟩ (by dsimp only;omega)
  ·refine aBP hp (λR a3 E=>?_);dsimp only;refine aB (λB=>?_) (λB=>?_)
   ·have B:R=0:=by simpa using B
    refine aEu hp ⟨⟨A0 _,by dsimp only;omega,by dsimp only;omega⟩,As 0,show (0:Int)<=2 by decide,λ_=>rfl⟩ (by omega) (λi4 e4 a4 x hx g1 g2 g3=>?_);have hl:(b++[x]).length=b.length+1:=by simp
    have:=E B;exact ih _ ⟨rfl,hw,g1,by dsimp only;omega,by rw[hl];omega,λh=>⟨⟨by rw[hl];omega,aBY ar (hx h)⟩,ap,by have:=g3 h;dsimp only at *;omega⟩⟩ (li rfl g2 g1.2.2 (λh=>(g3 h).2.1))
   ·have B:R≠0:=by simpa using B
    exact ih _ ⟨rfl,hw,hp,hi,S,λh=>absurd h B⟩ (li rfl (As _) hp.2.2 (λh=>absurd h B))
 refine aB (λ_=>v _) (λ_=>ast hp (λ_ _ _=>?_) ?_);·refine aB (λhb=>by simp at hb) (λ_=>abL hp (λi4 e4 a4 g8 g9 O=>?_));exact done _ _ _ g8 g9 O
 ·refine aB (λ_=>?_) (λhb=>by simp at hb);exact v _
theorem aoz(m:aS):∀l:List aS,eL (l++[m])=eL l+amW m
 | []=>by simp[eL]
 |x::l=>by simp only[AP,eL,aoz m l];omega
theorem asv(m:aS)(a:okM m):∀l:List aS,xt l->xt (l++[m])
 | [],_=>by simp only[Bg,xt];exact⟨a,trivial⟩
 |x::l,h=>by simp only[xt] at h;simp only[AP,xt];exact⟨h.1,asv m a l h.2⟩
theorem aIN(l:List aS)(a b:aS):List.set (l++[a]) l.length b=l++[b]:=by simp
theorem aEz{l:List PEn}{t:PEn}(h:∀x∈l,adc x)(b:adc t):∀x∈l++[t],adc x:=λx a=>by
 rcases Aw.1 a with a|a;·exact h x a
 ·rw[Av.1 a];exact b
def Cap{α:Type}(l:List α)(e:Int):Prop:=l.length<=31∧(e=0->l.length<=30)
theorem Cap.nil{α:Type}(e:Int):Cap ([]:List α) e:=⟨A0 _,λ_=>A0 _⟩
theorem Cap.add{α:Type}{l:List α}{x:α}{e:Int}(h:l.length<30):Cap (l++[x]) e:=⟨by simp;omega,λ_=>by simp;omega⟩
theorem Cap.bad{α:Type}{l:List α}{e a:Int}(h:Cap l e)(b:a≠0):Cap l a:=⟨h.1,λh=>absurd h b⟩
theorem Cap.of{α:Type}{l:List α}(a:Int)(h:Cap l 0):Cap l a:=⟨h.1,λ_=>h.2 rfl⟩
structure MIn(l:List Tok)(i e i' e':Int)(fs:List bI)(os:List (List UInt8))(ms:List aS)(es:List PEn)(ns:List (Int×Int))(ss:List (List UInt8)):Prop where
 at_:PIn l i'
 up:i+1<=i'
 stay:e'=0->(e=0∧Blk l i)∧Zed l i'=Zed l (i+3)
 fs_:Cap fs e'∧(e'=0->∀x∈fs,sN x)
 os_:os.length<=30∧jZ os
 ms_:Cap ms e'
 good:e'=0->xt ms∧(eL ms:Int)+(i+1)<=i'
 es_:Cap es e'∧∀x∈es,adc x
 ns_:Cap ns e'
 ss_:Cap ss e'∧jZ ss
theorem MIn.fail{l:List Tok}{i e c m b d:Int}{fs:List bI}{k:List (List UInt8)}{ms:List aS}{es:List PEn}{f:List (Int×Int)}{j:List (List UInt8)}(h:MIn l i e c m fs k ms es f j)(hp:PIn l b)(p:c<=b)(a:d≠0):MIn l i e b d fs k ms es f j:=
 ⟨hp,by have:=h.up;omega,λh=>absurd h a,⟨h.fs_.1.bad a,λh=>absurd h a⟩,h.os_,h.ms_.bad a,λh=>absurd h a,⟨h.es_.1.bad a,h.es_.2⟩,h.ns_.bad a,⟨h.ss_.1.bad a,h.ss_.2⟩⟩
theorem MIn.go{l:List Tok}{i e c b:Int}{fs:List bI}{f:List (List UInt8)}{ms:List aS}{es:List PEn}{d:List (Int×Int)}{j:List (List UInt8)}(h:MIn l i e c 0 fs f ms es d j)(a:Int)(hp:PIn l b)(p:c<=b)(k:a=0->Zed l b=Zed l c):MIn l i e b a fs f ms es d j:=
 ⟨hp,by have:=h.up;omega,λm=>⟨(h.stay rfl).1,by have:=(h.stay rfl).2;have:=k m;omega⟩,⟨h.fs_.1.of a,λ_=>h.fs_.2 rfl⟩,h.os_,h.ms_.of a,λ_=>⟨(h.good rfl).1,by have:=(h.good rfl).2;omega⟩,⟨h.es_.1.of a,h.es_.2⟩,h.ns_.of a,⟨h.ss_.1.of a,h.ss_.2⟩⟩
def MQ(l:List Tok)(i e:Int):V×List aJ->Prop:=λz=>∃(b:aS)(d:List Tok)(a c f:Int)(rest:List aJ),z.1.dimR=.agg (enc .fmsg b)∧z.2=some [.sl .tok (.may false) d,.int .i64 a,.int .i64 c,.int .i64 f]::rest∧Eat l i e d a c∧(c=0->(okM b∧(amW b:Int)<=a-i)∧b.name=(tk l (i+1)).text∧a=Zed l (i+3)+1)
def aIO(m:Nat):Prop:=∀(l:List Tok)(i e a d:Int),(22-d).toNat<=m->0<=d->d<=21->PIn l i->i+1<l.length->Zed l (i+1)=Zed l i->∃r,gK l i e a d r
set_option maxHeartbeats 8000000 in
theorem aBZ(m:Nat)(hM:aIO m):aIO (m+1):=by
 intro l i e a d hd d0 d1 h h1 hz;obtain⟨N,hN⟩:∃N:Nat,N=7000:=⟨_,rfl⟩
 apply afW N;show Tot _ (MQ l i e);unfold wg gf;dsimp only;have J:=h.up h1;have hL:=h.small;refine aB (λ_=>dv h (by decide) (λe' a' he=>aG ⟨.mk [] [] [] [] [] [] [],_,_,_,_,_,rfl,rfl,aLQ h he,λh=>absurd h he⟩)) (λai=>?_);have ai:=of_decide_eq_false ai;rw[vd h];refine agG J (λz Y S a2 az ao bh ah=>?_);dsimp only;refine aws ao (λi3 e3 Q aj bl f=>?_);dsimp only;have hB:e3=0->((e=0∧Blk l i)∧z=(tk l (i+1)).text)∧i3=i+3:=λh0=>by obtain⟨W,C,q3⟩:=f h0;obtain⟨⟨q4,rfl⟩,q5,q6⟩:=ah W;have z2:=ri J.2.1 J.2.2 (by rw[q5];decide);refine⟨⟨⟨q4,λj hj e1 S=>?_⟩,q6⟩,by omega⟩;rw[q3 j hj (by rw[e1,show i+1+1+1=i+3 by omega]) S];omega
 clear f ah;refine bj (λ(x:fW)=>match x with|(d',l',R,e',_,o0,o1,o2,o3,o4,o5,o6,n',fs,F,ms,es,E,L)=>(d',l',o0,o1,o2,o3,o4,o5,o6,n')=(d,l,[],[],[],[],[],[],[],z)∧MIn l i e R e' fs F ms es E L∧(e'=0->z=(tk l (i+1)).text)) (λx=>mu l.length x.2.2.1 x.2.2.2.1) ?_ _ _ ⟨rfl,⟨aj,by omega,λh0=>⟨(hB h0).1.1,by rw[(hB h0).2]⟩,⟨Cap.nil _,λ_ x M=>by simp at M⟩,⟨A0 _,λx M=>by simp at M⟩,Cap.nil _,λ_=>⟨trivial,by simp only[eL];omega⟩,⟨Cap.nil _,λx M=>by simp at M⟩,Cap.nil _,⟨Cap.nil _,λx M=>by simp at M⟩⟩,λh0=>(hB h0).1.2⟩ (by rw[hN];exact aur _ _ _ aj.2.1 J.1.2.1);rintro ap ⟨d',l',R,e',a',o0,o1,o2,o3,o4,o5,o6,n',fs,F,ms,es,E,L⟩ ⟨q,I,b⟩ H;cases q;dsimp only at H;have hp:=I.at_;unfold jk;dsimp only;have done:∀Y S a2,PIn l Y->R<=Y->(S=0->e'=0∧Y=R+1∧Zed l R=R)->Tot (some ((.agg [.str z,.sl .ffld (.may false) fs,.sl .str (.may false) F,.sl .fmsg (.may false) ms,.sl .pen (.may false) es,.sl .u2 (.may false) E,.sl .str (.may false) L],[some [.sl .tok (.may false) l,.int .i64 Y,.int .i64 S,.int .i64 a2],some [.str z,.sl .ffld (.may false) fs,.sl .str (.may false) F,.sl .fmsg (.may false) ms,.sl .pen (.may false) es,.sl .u2 (.may false) E,.sl .str (.may false) L],some [.str z,.sl .ffld .own fs,.sl .str .own F,.sl .fmsg .own ms,.sl .pen .own es,.sl .u2 .own E,.sl .str .own L]]):V×List aJ)) (MQ l i e):=by
  intro Y S a2 v g2 g3;have up:=I.up;have g4:i<=Y:=by omega
  refine aG ⟨.mk z fs F ms es E L,_,_,_,_,_,rfl,rfl,acX v g4 (λh=>?_),λh=>?_⟩;·obtain⟨W,rfl,q3⟩:=g3 h;obtain⟨⟨q4,q5⟩,q6⟩:=I.stay W;exact⟨q4,by (try dsimp only);omega,q5 R hp.2.2 q6 q3⟩
  obtain⟨W,C,q3⟩:=g3 h;have G:=I.good W;refine⟨⟨?_,?_⟩,b W,by have:=(I.stay W).2;(try dsimp only);omega⟩;·simp only[okM];exact⟨az,⟨I.fs_.1.1,I.fs_.2 W⟩,I.os_,⟨I.ms_.1,G.1⟩,⟨I.es_.1.1,I.es_.2⟩,I.ns_.1,⟨I.ss_.1.1,I.ss_.2⟩⟩
  ·simp only[amW];have:=G.2;omega
 refine aB (λD=>?_) (λD=>abL hp (λB w a4 g8 g9 aa=>done _ _ _ g8 g9 aa));have D:e'=0:=by simpa using D
 subst D;have b:∀S:Int,S=0->z=(tk l (i+1)).text:=λ_ _=>b rfl
 refine ast hp (λ_ _ _=>aB (λA=>by simp at A) (λ_=>abL hp (λB w a4 g8 g9 aa=>done _ _ _ g8 g9 aa))) (aB (λ_=>?_) (λA=>by simp at A));refine afv hp (λ_ v g2 P=>?_) ?_;·dsimp only[cond_true];rw[g2];exact H _ ⟨rfl,I.go 0 v (by dsimp only;omega) (λ_=>P),b _⟩ (li rfl (by dsimp only;omega) v.2.2 (λ_=>by dsimp only;omega))
 dsimp only[cond_false];refine acY hp (λ_ v P=>?_) ?_
 ·dsimp only[cond_true];refine yn hp (λe3 Q f=>?_) (λQ _ hc=>?_);·refine aB (λA=>by simp at A) (λ_=>?_);exact H _ ⟨rfl,I.fail hp (As _) f,b _⟩ (li rfl (As _) hp.2.2 (λh=>absurd h f))
  ·refine aB (λ_=>?_) (λA=>by simp at A);dsimp only;rw[aQ (d+1) (by omega)];refine aY (hM l R 0 Q (d+1) (by omega) (by omega) (by omega) hp v.2.2 P) ?_;rintro⟨x,O,B,w,a4⟩ ⟨-,⟨q,p,u,k⟩,X⟩;dsimp only at q p u k X ⊢;subst q;have ag:ms.length<30:=by omega
   rw[show ((ms.length:Int)).toNat=ms.length from AC _,aIN,amS];have l1:∀y:aS,(ms++[y]).length=ms.length+1:=λy=>by simp
   have c:PIn O B:=⟨hp.1,by have:=hp.2;omega,u⟩
   refine aD (by simp;omega) (aD (by simp;omega) (aD (by simp) (aD (by simp) ?_)));refine H _ ⟨rfl,?_,b _⟩ (li rfl p u (λh=>(k h).2.1));by_cases h4:w=0;·have I':=I.go 0 c p (λ_=>(k h4).2.2);have G:=I.good rfl;subst h4;have X:=(X rfl).1;exact{I' with ms_:=Cap.add ag,good:=λ_=>⟨asv _ X.1 _ G.1,by rw[aoz];have:=X.2;have:=G.2;dsimp only;omega⟩}
   ·have I':=I.fail c p h4;exact{I' with ms_:=Cap.add ag,good:=λh=>absurd h h4}
 dsimp only[cond_false];refine acY hp (λ_ v P=>?_) ?_
 ·dsimp only[cond_true];refine yn hp (λe3 Q f=>?_) (λQ _ hc=>?_);·refine aB (λA=>by simp at A) (λ_=>?_);exact H _ ⟨rfl,I.fail hp (As _) f,b _⟩ (li rfl (As _) hp.2.2 (λh=>absurd h f))
  ·refine aB (λ_=>?_) (λA=>by simp at A);dsimp only;refine aY (aBX (e:=0) (a:=Q) hp v.2.2 P) ?_;rintro⟨x,O,B,w,a4⟩ ⟨-,⟨⟨q,p,u,k⟩, -⟩,X⟩;dsimp only at q p u k X ⊢;subst q;have aw:es.length<30:=by omega
   have c:PIn O B:=⟨hp.1,by have:=hp.2;omega,u⟩
   refine aD (decide_eq_true (by simp only[Af,Ak];omega)) ?_;have I':=I.go w c p (λh=>(k h).2.2);exact H _ ⟨rfl,{I' with es_:=⟨Cap.add aw,aEz I.es_.2 X⟩},b _⟩ (li rfl p u (λh=>(k h).2.1))
 dsimp only[cond_false];refine acY hp (λ_ v P=>?_) ?_
 ·dsimp only[cond_true];refine aY (aHq (e:=0) (a:=a') hp v.2.2 P z fs F ms es E L (I.fs_.1.2 rfl) I.fs_.2 I.os_.1 I.os_.2) ?_;rintro⟨O,B,w,a4,r⟩ ⟨-,⟨q,p,u,k⟩,b4,bs,Z,k6,C⟩;dsimp only at q p u k Z C ⊢;subst q C;have c:PIn O B:=⟨hp.1,by have:=hp.2;omega,u⟩
  have I':=I.go w c p (λh=>(k h).2.2);exact H _ ⟨rfl,{I' with fs_:=⟨⟨Z.1,λh=>(Z.2 h).1⟩,λh=>(Z.2 h).2⟩,os_:=k6},b _⟩ (li rfl p u (λh=>(k h).2.1))
 dsimp only[cond_false];refine acY hp (λ_ v P=>?_) ?_
 ·dsimp only[cond_true];refine aY (aBV (e:=0) (a:=a') hp v.2.2 P z fs F ms es E L (I.ns_.2 rfl) (I.ss_.1.2 rfl) I.ss_.2) ?_;rintro⟨O,B,w,a4,r⟩ ⟨-,⟨q,p,u,k⟩,b1,bY,Z,k6,C⟩;dsimp only at q p u k Z k6 C ⊢;subst q C;have c:PIn O B:=⟨hp.1,by have:=hp.2;omega,u⟩
  have I':=I.go w c p (λh=>(k h).2.2);exact H _ ⟨rfl,{I' with ns_:=Z,ss_:=⟨⟨k6.1,k6.2.1⟩,k6.2.2⟩},b _⟩ (li rfl p u (λh=>(k h).2.1))
 dsimp only[cond_false];refine aBP hp (λe3 Q f=>?_);dsimp only;refine aY (aHd (e:=e3) (a:=Q) hp z fs F ms es E L (by have:=I.fs_.1.1;omega)) ?_;rintro⟨O,B,w,a4,r⟩ ⟨-,⟨q,p,u,k⟩,x,M,C⟩;dsimp only at q p u k C ⊢;subst q C;have c:PIn O B:=⟨hp.1,by have:=hp.2;omega,u⟩
 have I':=I.go w c p (λh=>(k h).2.2);have hf:=I.fs_.1.2 rfl;exact H _ ⟨rfl,{I' with fs_:=⟨⟨by simp;omega,λh=>by have:=(f (k h).1).2;simp;omega⟩,λh=>aBY (I.fs_.2 rfl) (M h)⟩},b _⟩ (li rfl p u (λh=>(k h).2.1))
theorem arc:∀m,aIO m
 |0=>λl i e a d h _ b=>by omega
 |m+1=>aBZ m (arc m)
theorem aIP{s:List UInt8}{i:Int}{t rest:List UInt8}(h:dg s i t rest):An i.toNat (Ao (i+(t.length:Int)).toNat s)=t:=by have a:=h.1;rw[show (i+(t.length:Int)).toNat=i.toNat+t.length by omega,Ct,Ec,h.2,CA];rfl
theorem aIQ:lw [112,114,111,116,111,51]=true:=by decide
theorem aIR{Q:V×List aJ->Prop}{s:List UInt8}{K:Bool->Ro}(h:Tot (K (lw s)) Q):Tot (aA (tU s) K) Q:=aY (aHp s) (by rintro b ⟨-,rfl⟩;exact h)
theorem aIS{c:UInt8}(h:c∈([112,114,111,116,111,51]:List UInt8)):c.toNat≠34∧c.toNat≠10∧c.toNat≠92:=by
 have:∀c∈([112,114,111,116,111,51]:List UInt8),c.toNat≠34∧c.toNat≠10∧c.toNat≠92:=by decide
 exact this c h
theorem aIT(s:List UInt8)(i a:Int)(t rest:List UInt8)(p:(Wd.tx t).ok)(h:dg s i (Wd.tx t).t rest)(H:i<=s.length)(Q:s.length<=3000):∃r,fY s i 0 a r:=by
 obtain⟨N,P⟩:∃N:Nat,N=4000:=⟨_,rfl⟩
 apply alB N;show Tot _ (WQ s i a);unfold acy kr;have b:=h.len H;have X:=h.1;have d:t=[112,114,111,116,111,51]:=p;obtain⟨O,M,A⟩:=dg.at (s:=s) (i:=i) (c:=34) (t:=t++[34]) (rest:=rest) h;have J:(Wd.tx t).t.length=t.length+2:=by simp[Wd.t]
 rw[J] at b;refine aD (ixt O) ?_;dsimp only;rw[M,aQ _ (by omega)];refine bj (λ(x:js)=>match x with|(B,q,v,s',k,z,C,I,G,F,L)=>(B,q,s',z,C)=(i,34,s,0,a)∧∃e,t=v++e∧k=i+1+(v.length:Int)) (λx=>((s.length:Int)-x.2.2.2.2.1).toNat) ?_ _ _ ⟨rfl,t,rfl,by simp⟩ (by dsimp only;omega);rintro m ⟨B,q,v,s',k,z,C,I,G,F,L⟩ ⟨D,e,rfl,rfl⟩ y;cases D;dsimp only at y;unfold nk;dsimp only;rw[Aj] at b;have j:dg s (i+1+(v.length:Int)) (e++[34]) rest:=dg.step (by rw[AB] at A;exact dg.app.1 A);cases e with
 |cons c e=>obtain⟨u,l,E⟩:=dg.at (t:=e++[34]) j;obtain⟨W,R,S⟩:=aIS (c:=c) (d▸by simp);have f:=aIP (t:=[c]) (rest:=e++[34]++rest) ⟨j.1,by rw[j.2];simp⟩;simp only[Af,Ak,Int.natCast_add,Int.natCast_one,Int.natCast_zero,Int.zero_add] at f b;rw[l,aQ _ (by omega)];refine aB (λ_=>aD (ixt u) (aB (λh=>absurd (show (c.toNat:Int)=34 by simpa using h) (by omega)) (λ_=>aB (λh=>absurd (show (c.toNat:Int)=10 by simpa using h) (by omega)) (λ_=>aB (λ_=>aD (by simp only[Ac,decide_eq_true_eq];omega) ?_) (λh=>absurd (show (c.toNat:Int)=92 by simpa using h) (by omega)))))) (λh=>absurd (of_decide_eq_false h) (by omega));rw[f];refine aD (decide_eq_true (by simp only[Af,Ak];omega)) (y _ ⟨rfl,e,by simp,by simp only[Aj,Af,Ak];omega⟩ (by simp only;omega))
 |nil=>rw[A5] at h p d;obtain⟨u,l,E⟩:=dg.at (c:=34) (t:=[]) j;simp only[Ak] at b;rw[l,aQ _ (by omega)];refine aB (λ_=>aD (ixt u) (aB (λ_=>aIR ?_) (λh=>absurd h (by decide)))) (λh=>absurd (of_decide_eq_false h) (by omega));rw[d,aIQ,<-d];refine aB (λh=>absurd h (by decide)) (λ_=>WQ.mk (w:=.tx v) h p trivial rfl ?_);simp only[Wd.t,Af,Aj,Ak];omega
theorem aIU(N:Nat)(W:N=4000)(s:List UInt8)(i a:Int)(t rest:List UInt8)(u:(Wd.nm t).ok)(h:dg s i t rest)(q:avc rest)(R:i<=s.length)(p:s.length<=3000):Tot (aN N (ju N) (i,s,i+1,0,a,0,([]:Bs),0,0)) (WQ s i a):=by
 have d:=h.len R;have X:=h.1;obtain⟨J,m,rfl⟩:∃c m,t=c::m:=by
  cases t with
  |nil=>exact absurd u.1 (by decide)
  |cons c m=>exact⟨c,m,rfl⟩
 refine bj (λ(x:jt)=>match x with|(F,s',k,C,G,H,E,D,I)=>(F,s',C,G)=(i,s,0,a)∧∃b l,J::m=b++l∧k=i+(b.length:Int)) (λx=>((s.length:Int)-x.2.2.1).toNat) ?_ _ _ ⟨rfl,[J],m,rfl,by simp⟩ (by dsimp only;omega);rintro j ⟨F,s',k,C,G,H,E,D,I⟩ ⟨M,b,l,e,rfl⟩ B;cases M;dsimp only at B;unfold ju;dsimp only;have y:dg s (i+(b.length:Int)) l rest:=dg.step (by rw[e] at h;exact dg.app.1 h);have f:=aIP h;rw[e] at d f;rw[Aj] at d;cases l with
 |cons c l=>
  simp only[Af] at d;have z:=u.2.1 c (by rw[e];simp);have next:Tot (j (i,s,Ab .i64 (i+(b.length:Int)+1),0,a,H,E,D,I)) (WQ s i a):=by rw[aQ _ (by omega)];exact B _ ⟨rfl,b++[c],l,by rw[e];simp,by simp only[Aj,Af,Ak];omega⟩ (by simp only;omega)
  refine abM (by omega) p (by decide) ?_;rw[aFJ y];dsimp only;refine yo ?_;by_cases v:jX c=true;·rw[v];exact next
  ·rw[CK] at v;rw[v];have O:jg c=true:=by unfold abl at z;rw[v,CE] at z;exact z
   refine aB (λh=>absurd h (by decide)) (λ_=>abM (by omega) p (by decide) ?_);rw[aFJ y];dsimp only;refine uq ?_;rw[O];exact next
 |nil=>
  rw[A5] at e f;simp only[Ak] at d;have fin:Tot (chk ((decide (0<=i+(b.length:Int))&&decide (i+(b.length:Int)<=(↑(Aa s):Int))&&(decide (0<=i)&&decide (i<=i+(b.length:Int))))) (some ((.agg [.int .i64 1,.str (An (Ad i) (Ao (Ad (i+(b.length:Int))) s)),.int .u64 0,.int .i64 i],[some [.str s,.int .i64 (i+(b.length:Int)),.int .i64 0,.int .i64 a],some [.int .i64 1,.str (An (Ad i) (Ao (Ad (i+(b.length:Int))) s)),.int .u64 0,.int .i64 i]]):V×List aJ))) (WQ s i a):=by refine aD (by simp only[Ac,decide_eq_true_eq];omega) ?_;rw[f];rw[e] at h u;exact WQ.mk (w:=.nm b) h u q rfl rfl
  have S:∃c,(s.drop (i+(b.length:Int)+0).toNat).headD 0=c∧jX c=false∧jg c=false∧c≠46:=by
   rw[Int.add_zero,y.2,Bg];cases rest with
   |nil=>exact⟨0,rfl,by decide,by decide,by decide⟩
   |cons c r=>exact⟨c,rfl,(azH (q c r rfl).1).1,(azH (q c r rfl).1).2,(q c r rfl).2⟩
  obtain⟨c,A,Q,P,L⟩:=S;refine abM (by omega) p (by decide) ?_;rw[A];dsimp only;refine yo ?_;rw[Q];refine aB (λh=>absurd h (by decide)) (λ_=>abM (by omega) p (by decide) ?_);rw[A];dsimp only;refine uq ?_;rw[P];refine aB (λh=>absurd h (by decide)) (λ_=>abM (by omega) p (by decide) ?_);rw[A];dsimp only;refine aB (λh=>absurd (Ci.1 (show c.toNat=(46:UInt8).toNat from ?_)) L) (λ_=>fin);have:(c.toNat:Int)=46:=by simpa using h
  show c.toNat=46;omega
theorem aKu:∀c∈jn,∃k:Nat,k<12∧jn.getD k 0=c:=by decide
theorem aIV(N:Nat)(F:N=4000)(s:List UInt8)(i a:Int)(c:UInt8)(rest:List UInt8)(y:c∈jn)(h:dg s i [c] rest)(I:i<s.length)(G:s.length<=3000):Tot (aN N (jv N) (i,(c.toNat:Int),0,s,i,0,a,0,([]:Bs),0,0)) (WQ s i a):=by
 obtain⟨k,L,e⟩:=aKu c y;have M:=h.1;have d:=aIP h;simp only[Af,Ak,Int.natCast_add,Int.natCast_one,Int.natCast_zero,Int.zero_add] at d;refine bj (λ(x:cX)=>match x with|(q,u,v,s',k',p,r,C,B,A,D)=>(q,u,s',k',p,r)=(i,(c.toNat:Int),s,i,0,a)∧0<=v∧v<=(k:Int)) (λx=>((k:Int)-x.2.2.1).toNat) ?_ _ _ ⟨rfl,As 0,by omega⟩ (by dsimp only;omega);rintro j ⟨q,u,v,s',k',p,r,C,B,A,D⟩ ⟨z,E,H⟩ m;cases z;dsimp only at m;unfold jv;dsimp only;rw[aQ (i+1) (by omega),aQ (v+1) (by omega)];refine aB (λJ=>aD (ixt ⟨E,by simp only[Af,Ak];omega⟩) (aB (λ_=>aD (by simp only[Ac,decide_eq_true_eq];omega) ?_) (λb=>m _ ⟨rfl,by dsimp only;omega,?_⟩ ?_))) (λh=>absurd (of_decide_eq_false h) (by omega));·rw[d];exact WQ.mk (w:=.sg c) h y trivial rfl rfl
 ·rcases Int.lt_or_le v k with f|l;·dsimp only;omega
  ·exfalso;have:v.toNat=k:=by omega
   rw[this] at b;have b:((jn.getD k 0).toNat:Int)≠(c.toNat:Int):=beq_eq_false_iff_ne.1 b;rw[e] at b;exact b rfl
 ·dsimp only;rcases Int.lt_or_le v k with f|l;·omega
  ·exfalso;have:v.toNat=k:=by omega
   rw[this] at b;have b:((jn.getD k 0).toNat:Int)≠(c.toNat:Int):=beq_eq_false_iff_ne.1 b;rw[e] at b;exact b rfl
theorem aLS{w:Wd}(h:w.ok){c:UInt8}{t:List UInt8}(e:w.t=c::t):wkB c=w.wk:=by obtain⟨d,t',a,b⟩:=Wd.head h;rw[e] at a;rw[(Bt a).1];exact b
theorem aMM{c:UInt8}:(wkB c=1↔jX c=true)∧(wkB c=2->jX c=false∧jg c=true)∧(wkB c=3->jX c=false∧jg c=false∧c=34)∧(wkB c=4->jX c=false∧jg c=false∧c≠34):=by
 unfold wkB;by_cases a:jX c=true;·simp[a]
 ·rw[CK] at a;by_cases b:jg c=true;·simp[a,b]
  ·rw[CK] at b;by_cases d:c=34;·subst d;decide
   ·simp[a,b,d]
theorem aIW(s:List UInt8)(i a:Int)(w:Wd)(rest:List UInt8)(f:w.ok)(h:dg s i w.t rest)(H:w.nb rest)(P:i<s.length)(x:s.length<=3000):∃r,lB s i 0 a r:=by
 obtain⟨N,G⟩:∃N:Nat,N=4000:=⟨_,rfl⟩
 apply aax N;have up:∀z,WQ s i a z->∃(p:Tok)(q:Bs)(y u A:Int)(rest:List aJ),z.1.dimR=.agg (enc .tok p)∧z.2=some [.str q,.int .i64 y,.int .i64 u,.int .i64 A]::rest∧qu s i 0 a (p,q,y,u,A):=by rintro z ⟨p,q,y,u,A,rest,Q,L,J⟩;exact⟨p,q,y,u,A,rest,Q,L,λ_=>J,λe=>absurd e (by omega)⟩
 refine aIm ?_ up;unfold tZ gQ;dsimp only;have h0:=h.1;obtain⟨c,t,e⟩:∃c t,w.t=c::t:=by obtain⟨c,t,e, -⟩:=Wd.head f;exact⟨c,t,e⟩
 have b:=aLS f e;obtain⟨Y,I,X,Z⟩:=aMM (c:=c);obtain⟨W,S,a3⟩:=dg.at (e▸h)
 refine aB (λM=>absurd (show i=(s.length:Int) by simpa using M) (by omega)) (λ_=>aD (ixt W) ?_);rw[S,aQ (i+1) (by omega)];refine yo ?_;have ac7:∀(r:Tok×LxS)(o:List aJ),WdP s i 0 a r->Tot (some ((.agg [.int .i64 r.1.kind,.str r.1.text,.int .u64 r.1.n,.int .i64 r.1.pos],some [.str r.2.1,.int .i64 r.2.2.1,.int .i64 r.2.2.2.1,.int .i64 r.2.2.2.2]::o):V×List aJ)) (WQ s i a):=λr o k=>aG ⟨r.1,_,_,_,_,o,rfl,rfl,k⟩
 have R:c.toNat≠46:=by
  intro C;have:c=46:=Ci.1 C;subst this;cases w with
  |nm s=>exact absurd b (by simp only[Wd.wk];decide)
  |nu n=>exact absurd b (by simp only[Wd.wk];decide)
  |tx s=>exact absurd b (by simp only[Wd.wk];decide)
  |sg d=>have v:d∈jn:=f;have:d=46:=(Bt e).1;subst this;exact absurd v (by decide)
 have F:((c.toNat:Int)==46)=false:=beq_eq_false_iff_ne.2 (by omega);have m:∀n:Nat,n<256->c≠Az n->((c.toNat:Int)==(n:Int))=false:=λn hn O=>by
  refine beq_eq_false_iff_ne.2 λe=>O (Ci.1 ?_)
  rw[CP];omega
 rw[F];cases w with
 |nm t'=>rw[Y.1 b];exact aIU N G s i a t' rest f h H (by omega) x
 |nu n=>obtain⟨j,l⟩:=I b;rw[j];refine aB (λh=>absurd h (by decide)) (λ_=>aB (λh=>absurd h (by decide)) (λ_=>uq ?_));rw[l];exact aY (aFK s i a n rest f h H (by omega) x) λr k=>ac7 r _ k.2
 |tx t'=>obtain⟨j,l,B⟩:=X b;rw[j];refine aB (λh=>absurd h (by decide)) (λ_=>aB (λh=>absurd h (by decide)) (λ_=>uq ?_));rw[l];refine aB (λh=>absurd h (by decide)) (λ_=>aB (λ_=>aY (aIT s i a t' rest f h (by omega) x) λr k=>ac7 r _ k.2) (λh=>absurd h (by rw[B];decide)))
 |sg d=>
  obtain⟨j,l,B⟩:=Z b;have v:d∈jn:=f;have E:d=c:=(Bt e).1;subst E;rw[j];refine aB (λh=>absurd h (by decide)) (λ_=>aB (λh=>absurd h (by decide)) (λ_=>uq ?_));rw[l,show (34:Int)=((34:Nat):Int) from rfl,m 34 (by decide) B];have D:d≠Az 39:=λe=>absurd v (by rw[e];decide)
  rw[show (39:Int)=((39:Nat):Int) from rfl,m 39 (by decide) D];exact aB (λh=>absurd h (by decide)) (λ_=>aB (λh=>absurd h (by decide)) (λ_=>aB (λh=>absurd h (by decide)) (λ_=>aIV N G s i a d rest v h P x)))
theorem aHr(s:List UInt8)(a:Int):∃r,lB s (s.length:Int) 0 a r:=by apply aax 1;unfold tZ gQ;dsimp only;exact aB (λ_=>aG ⟨⟨5,[],0,_⟩,_,_,_,_,_,rfl,rfl,λh=>absurd h (by omega),λ_=>rfl⟩) (λh=>absurd h (by simp))
theorem aoA:∀(a:Ws)(p:Int),(gm p a).length=a.length+1
 | [],p=>rfl
 |(w,b)::a,p=>by rw[gm,Af,aoA a,Af]
theorem aHs{w:Wd}(h:w.ok):1<=w.t.length:=by obtain⟨c,t,e, -⟩:=Wd.head h;rw[e,Af];omega
theorem aj8:∀{l:Ws},Ws.ok l->l.length<=(cM l).length
 | [],_=>Ap _
 |(w,a)::l,h=>by have:=aj8 h.2.2.2;have:=aHs h.1;simp only[cM,Aj,Af];omega
theorem Ws.first{l:Ws}(h:Ws.ok l):∀c t,cM l=c::t->pG c=false∧c≠47∧32<=c.toNat:=by
 intro c t e;refine⟨Ws.nosp h c t e,?_⟩;cases l with
 |nil=>cases e
 |cons x l=>
  obtain⟨w,p⟩:=x;obtain⟨d,t',i,j⟩:=Wd.head h.1;rw[cM,i] at e;rw[<-(Bt e).1];have k:wkB d=w.wk:=j;by_cases a:w.wk=4
  ·cases w with
   |sg x=>
    have m:x∈jn:=h.1;have f:x=d:=(Bt i).1;rw[<-f];have:∀c∈jn,c≠47∧32<=c.toNat:=by decide
    exact this x m
   |_=>exact absurd a (by simp[Wd.wk])
  ·have key:∀n:Nat,n<48->(n<32∨n=47)->wkB (Az n)=4:=by decide
   rw[<-k] at a;have f:d=Az d.toNat:=by simp
   refine⟨λe=>a (by rw[e];decide),?_⟩;rcases AH d.toNat 32 with b|b;·exact absurd (by have:=key d.toNat (by omega) (.inl b);rw[<-f] at this;exact this) a
   ·exact b
theorem axC{w:Wd}(h:w.ok)(p:Int):(w.tok p).kind≠5∧((w.tok p).text.length<=3000∧((w.tok p).kind=1->0<(w.tok p).text.length))∧0<=(w.tok p).n∧(w.tok p).n<=899:=by
 cases w with
 |nm s=>
  obtain⟨a, -,b⟩:=h;refine⟨show (1:Int)≠5 by decide,⟨show s.length<=3000 by omega,λ_=>?_⟩,As 0,show (0:Int)<=899 by decide⟩;cases s with
  |nil=>exact absurd a (by decide)
  |cons c s=>exact Nat.succ_pos _
 |nu n=>have h:n<=899:=h;exact⟨show (2:Int)≠5 by decide,⟨A0 _,λh=>absurd h (show (2:Int)≠1 by decide)⟩,show 0<=(n:Int) by omega,show (n:Int)<=899 by omega⟩
 |tx s=>have h:s=[112,114,111,116,111,51]:=h;subst h;exact⟨show (3:Int)≠5 by decide,⟨show 6<=3000 by decide,λh=>absurd h (show (3:Int)≠1 by decide)⟩,As 0,show (0:Int)<=899 by decide⟩
 |sg c=>exact⟨show (4:Int)≠5 by decide,⟨show 1<=3000 by decide,λh=>absurd h (show (4:Int)≠1 by decide)⟩,As 0,show (0:Int)<=899 by decide⟩
theorem axD:∀{l:Ws},Ws.ok l->∀(p:Int),∀t∈gm p l,(t.text.length<=3000∧(t.kind=1->0<t.text.length))∧0<=t.n∧t.n<=899
 | [],_,p,t,a=>by rw[Av.1 a];exact⟨⟨A0 _,λh=>absurd h (show (5:Int)≠1 by decide)⟩,As 0,show (0:Int)<=899 by decide⟩
 |(w,b)::l,h,p,t,a=>by
  rcases AN.1 a with rfl|a;·exact(axC h.1 p).2
  ·exact axD h.2.2.2 _ t a
theorem aus:∀(l:Ws)(p:Int),((gm p l).getD l.length (aK .tok)).kind=5
 | [],p=>rfl
 |(w,a)::l,p=>by rw[gm,Af,Cq];exact aus l _
theorem aIX{l:Ws}(h:Ws.ok l)(b:(cM l).length<=3000):amU (gm 0 l):=by have:=aj8 h;have e:=aoA l 0;refine⟨by omega,by omega,?_,λt a=>axD h 0 t a⟩;rw[e,CQ];exact aus l 0
theorem Ws.ok_right:∀{a b:Ws},Ws.ok (a++b)->Ws.ok b
 | [],_,h=>h
 |(_,_)::a,_,h=>Ws.ok_right (a:=a) h.2.2.2
set_option maxHeartbeats 1000000 in
theorem aKv(s:List UInt8)(l:Ws)(L:Ws.ok l)(C:s=cM l):∃r,aen s r:=by
 obtain⟨N,hN⟩:∃N:Nat,N=4000:=⟨_,rfl⟩
 apply aBf N;unfold aqX wh;dsimp only;refine aB (λ_=>aG ⟨[],3,0,_,rfl,rfl,λh=>absurd h (by decide)⟩) (λX=>?_);have X:=of_decide_eq_false X;have G:s.length<=3000:=by omega
 refine bj (λ(x:t8)=>match x with|(v,s',k,R,F)=>(s',R)=(s,0)∧∃z i u,l=z++i∧(∀c∈u,pG c=true)∧dg s k (u++cM i) []∧k<=s.length∧gm 0 l=v++gm (k+(u.length:Int)) i∧v.length=z.length) (λx=>((s.length:Int)-x.2.2.1).toNat) ?_ _ _ ⟨rfl,[],l,[],rfl,λc h=>absurd h (by simp),⟨As 0,by rw[C];simp⟩,by omega,by simp,rfl⟩ (by dsimp only;omega);rintro I ⟨v,s',k,R,F⟩ ⟨q,z,i,u,rfl,A,M,Y,D,hv⟩ P;cases q;dsimp only at P;unfold zC;dsimp only;have aj:=M.1;have b:Ws.ok i:=Ws.ok_right L;have j:=M.len Y;rw[Aj,Ak] at j;have f:dg s k u (cM i):=by have:=dg.app.1 M;rw[A5] at this;exact this
 have O:=aj8 L;have S:=aj8 b;rw[C] at G;have aa:v.length<=3000:=by rw[Aj] at O;omega
 refine aY (aHg s k F u (cM i) A (Ws.first b) f Y (by omega)) ?_;rintro r ⟨-,a,p,g1,g2,g3,rfl⟩;have gu:a=u∧p=cM i:=ahv pG g1 A g2 (Ws.nosp b) (g3.2.symm.trans f.2);obtain⟨rfl,rfl⟩:=gu;dsimp only;refine aB (λ_=>?_) (λh=>absurd h (by decide));have W:dg s (k+(a.length:Int)) (cM i) []:=dg.step (t:=a) (t':=cM i) (rest:=[]) (by rw[A5];exact f);cases i with
 |nil=>
  simp only[cM,Ak] at j W D;have e:k+(a.length:Int)=(s.length:Int):=by omega
  rw[e] at D ⊢;refine aY (aHr s F) ?_;rintro r ⟨-, -,B⟩;have B:=B rfl;subst B;dsimp only;refine aB (λh=>absurd h (by decide)) (λ_=>aD (decide_eq_true (by simp only[Af,Ak];omega)) (aB (λ_=>aG ⟨_,_,_,_,rfl,rfl,λ_=>⟨by rw[C];omega,z++[],L,C,?_⟩⟩) (λh=>absurd h (by decide))));exact D.symm
 |cons x y=>
  obtain⟨w,d⟩:=x;obtain⟨J,o2,Z,o4⟩:=b;have m:dg s (k+(a.length:Int)) w.t (d++cM y):=by have:dg s (k+(a.length:Int)) (w.t++(d++cM y)) []:=W;have:=dg.app.1 this;rw[A5] at this;exact this
  have wl:=aHs J;simp only[cM,Aj] at j;refine aY (aIW s (k+(a.length:Int)) F w (d++cM y) J m Z (by omega) (by omega)) ?_;rintro r ⟨-,B, -⟩;obtain⟨w',E,Q,u2,u3,rfl⟩:=B (by omega);obtain⟨rfl, -⟩:=Wd.uniq Q J u2 Z (u3.2.symm.trans m.2);have H:=(axC Q (k+(a.length:Int))).1;dsimp only;refine aB (λh=>absurd h (by decide)) (λ_=>aD (decide_eq_true (by simp only[Af,Ak];omega)) (aB (λh=>absurd (show (w'.tok (k+(a.length:Int))).kind=5 by simpa using h) H) (λ_=>?_)));have ew:(⟨(w'.tok (k+(a.length:Int))).kind,(w'.tok (k+(a.length:Int))).text,(w'.tok (k+(a.length:Int))).n,(w'.tok (k+(a.length:Int))).pos⟩:Tok)=w'.tok (k+(a.length:Int)):=rfl;refine P _ ⟨rfl,z++[(w',d)],y,d,by simp,o2,?_,?_,?_,by simp[hv]⟩ ?_;·have:=dg.step (t:=w'.t) (t':=d++cM y) (rest:=[]) (by rw[A5];exact m);exact this
  ·dsimp only;omega
  ·rw[D,gm];simp
  ·dsimp only;omega
theorem aoB:∀(a b:Ws)(p:Int),∃c,(gm p (a++b)).drop a.length=gm c b
 | [],b,p=>⟨p,rfl⟩
 |(w,d)::a,b,p=>by rw[AP,gm,Af,CL];exact aoB a b _
def ur:Nat->List Wd->Nat
 |_,[]=>1
 |d,.sg c::l=>if c=123 then ur (d+1) l+1 else if c=125 then (match d with|0=>0|d+1=>ur d l+1) else ur d l+1
 |d,_::l=>ur d l+1
theorem aiz(d:Nat)(c:UInt8)(l:List Wd):ur d (.sg c::l)=if c=123 then ur (d+1) l+1 else if c=125 then (match d with|0=>0|d+1=>ur d l+1) else ur d l+1:=by cases d<;>rfl
theorem aEA(d:Nat)(s:List UInt8)(l:List Wd):ur d (.nm s::l)=ur d l+1:=by cases d<;>rfl
theorem aEB(d n:Nat)(l:List Wd):ur d (.nu n::l)=ur d l+1:=by cases d<;>rfl
theorem aEC(d:Nat)(s:List UInt8)(l:List Wd):ur d (.tx s::l)=ur d l+1:=by cases d<;>rfl
theorem aHt(c x:UInt8)(p:Int):isS ((Wd.sg c).tok p) [x]=decide (c=x):=by
 show ((4:Int)==4&&decide ([c]=[x]))=_;by_cases h:c=x;·subst h;simp
 ·rw[decide_eq_false h,decide_eq_false (λe=>h (Bt e).1)];rfl
theorem xF:∀(l:Ws)(d:Nat)(p:Int),clo d (gm p l)=ur d (l.map (·.1))
 | [],d,p=>by cases d<;>rfl
 |(w,e)::l,d,p=>by
  rw[gm,AL];cases w with
  |sg c=>
   dsimp only;rw[abJ,aHt,aHt,aiz];by_cases b:c=123;·rw[if_pos (decide_eq_true b),if_pos b,xF l]
   ·rw[if_neg (by rw[decide_eq_false b];decide),if_neg b];by_cases a:c=125
    ·rw[if_pos (decide_eq_true a),if_pos a];cases d with
     |zero=>rfl
     |succ d=>dsimp only;rw[xF l]
    ·rw[if_neg (by rw[decide_eq_false a];decide),if_neg a,xF l]
  |nm s=>rw[aiy (acW (show (1:Int)≠4 by decide)) (acW (show (1:Int)≠4 by decide)),xF l];exact(aEA ..).symm
  |nu n=>rw[aiy (acW (show (2:Int)≠4 by decide)) (acW (show (2:Int)≠4 by decide)),xF l];exact(aEB ..).symm
  |tx s=>rw[aiy (acW (show (3:Int)≠4 by decide)) (acW (show (3:Int)≠4 by decide)),xF l];exact(aEC ..).symm
def Bal(l:List Wd):Prop:=∀(d:Nat)(r:List Wd),ur d (l++r)=l.length+ur d r
theorem Bal.nil:Bal []:=λd r=>by simp
theorem Bal.app{a b:List Wd}(e:Bal a)(c:Bal b):Bal (a++b):=λd r=>by rw[AB,e,c,Aj,CC]
theorem Bal.cons{w:Wd}{l:List Wd}(h:w≠.sg 123∧w≠.sg 125)(a:Bal l):Bal (w::l):=λd r=>by
 rw[AP,Af];cases w with
 |sg c=>
  have f:c≠123:=λe=>h.1 (by rw[e])
  have b:c≠125:=λe=>h.2 (by rw[e])
  rw[aiz,if_neg f,if_neg b,a];omega
 |nm s=>rw[aEA,a];omega
 |nu n=>rw[aEB,a];omega
 |tx s=>rw[aEC,a];omega
theorem Bal.blk{l:List Wd}(a:Bal l):Bal (.sg 123::(l++[.sg 125])):=λd r=>by rw[AP,aiz,if_pos rfl,AB,a,Cy,aiz,if_neg (by decide),if_pos rfl];dsimp only;rw[Af,Aj];simp only[Af,Ak];omega
theorem Bal.flat{α:Type}{f:α->Ws}:∀{l:List α},(∀x∈l,Bal ((f x).map (·.1)))->Bal ((l.flatMap f).map (·.1))
 | [],_=>Bal.nil
 |x::l,h=>by rw[BV,AK];exact(h x (by simp)).app (Bal.flat λy a=>h y (by simp[a]))
theorem nmN{s:List UInt8}:(Wd.nm s)≠.sg 123∧(Wd.nm s)≠.sg 125:=⟨λh=>(by cases h),λh=>(by cases h)⟩
theorem nuN{n:Nat}:(Wd.nu n)≠.sg 123∧(Wd.nu n)≠.sg 125:=⟨λh=>(by cases h),λh=>(by cases h)⟩
theorem sgN{c:UInt8}(h:c≠123∧c≠125):(Wd.sg c)≠.sg 123∧(Wd.sg c)≠.sg 125:=⟨λe=>h.1 (Wd.sg.inj e),λe=>h.2 (Wd.sg.inj e)⟩
theorem aj9(p:UInt8)(n:Nat)(a:List UInt8){l:List Wd}(b:Bal l):Bal ((uG p n a).map (·.1)++l):=.cons nmN (.cons (sgN (by decide)) (.cons nuN b))
theorem apw:Bal (xq.map (·.1)):=.cons (sgN (by decide)) .nil
theorem aKw(f:Sta):Bal (f.ws.map (·.1)):=by
 unfold Sta.ws;by_cases a:f.lab=3;·rw[if_pos a];exact .cons nmN (.cons (sgN (by decide)) (.cons nmN (.cons (sgN (by decide)) (.cons nmN (.cons (sgN (by decide)) (by rw[show ([]:Ws).append (uG 102 f.num []++xq)=uG 102 f.num []++xq from rfl,AK];exact aj9 _ _ _ apw))))))
 ·rw[if_neg a,AK];refine Bal.app ?_ (.cons nmN ?_)
  ·split;·exact .cons nmN .nil
   ·split;·exact .cons nmN .nil
    ·exact .nil
  ·split;·rw[AK];exact aj9 _ _ _ apw
   ·rw[AK];refine aj9 _ _ _ ?_;exact .cons (sgN (by decide)) (.cons nmN (.cons (sgN (by decide)) (.cons nmN (.cons (sgN (by decide)) apw))))
theorem aKx(x:List UInt8×Nat):Bal ((arD x).map (·.1)):=.cons nmN (by rw[AK];exact aj9 _ _ _ apw)
theorem aB0(fs:List Sta)(a:List (List UInt8×Nat)):Bal ((sM fs a).map (·.1)):=by
 unfold sM;rw[AK];refine Bal.app (Bal.flat λf _=>aKw f) ?_;split;·exact .nil
 ·refine .cons nmN (.cons nmN ?_);rw[AL,AK];exact Bal.blk (Bal.flat λx _=>aKx x)
theorem aFQ(a b:Ws)(w:Wd)(c:List UInt8):∃p,tk (gm 0 (a++(w,c)::b)) (a.length:Int)=w.tok p:=by obtain⟨d,h⟩:=aoB a ((w,c)::b) 0;refine⟨d,?_⟩;unfold tk;rw[Ar,AC,<-Ck a.length,<-Bq,h];rfl
theorem aB1(a m b:Ws)(d:Bal (m.map (·.1)))(c:List UInt8):Zed (gm 0 (a++(m++(.sg 125,c)::b))) (a.length:Int)=(a.length:Int)+(m.length:Int):=by unfold Zed;obtain⟨e,h⟩:=aoB a (m++(.sg 125,c)::b) 0;rw[AC,h,xF,AK,d,BY,AL];dsimp only;rw[aiz,if_neg (by decide),if_pos rfl];dsimp only;omega
structure agI(l:List Tok)(p2 p3:Int):Prop where
 ok:amU l
 w0:(tk l 4).kind=1∧(tk l 4).text=ate
 w5:(tk l 5).text=[97]
 w7:(tk l 7).kind=1∧(tk l 7).text=atd
 z10:Zed l 10=23
 w24:(tk l 24).kind=1∧(tk l 24).text=lk
 z27:Zed l 27=p2-1
 pp:28<=p2∧p2+4<=p3
 w2:(tk l p2).kind=1∧(tk l p2).text=lk
 w3:(tk l (p2+1)).text=[77]
 z2:Zed l (p2+3)=p3-1
 w4:(tk l p3).kind=5
theorem aIY(fs:List Sta)(G:List (List UInt8×Nat))(r:List Sta)(u:List (List UInt8×Nat))(y:amU (gm 0 (af9 fs G r u))):∃p2 p3,agI (gm 0 (af9 fs G r u)) p2 p3:=by
 obtain⟨c,F⟩:∃m,m=sM fs G:=⟨_,rfl⟩
 obtain⟨d,D⟩:∃m,m=sM r u:=⟨_,rfl⟩
 have b1:Bal (c.map (·.1)):=F▸aB0 fs G;have Z:Bal (d.map (·.1)):=D▸aB0 r u;have ef:af9 fs G r u=nS++(nh++(((.nm lk,[32])::(.nm [73],[32])::(.sg 123,[10])::(c++[(.sg 125,[10])]))++((.nm lk,[32])::(.nm [77],[32])::(.sg 123,[10])::(d++[(.sg 125,[10])])))):=by rw[F,D];rfl
 rw[ef] at y ⊢;obtain⟨f,j⟩:∃h,h=nS++(nh++([(.nm lk,[32]),(.nm [73],[32]),(.sg 123,[10])])):=⟨_,rfl⟩
 obtain⟨i,x⟩:∃t,t=([(.nm lk,[32]),(.nm [77],[32]),(.sg 123,[10])]:Ws):=⟨_,rfl⟩
 have e:nS++(nh++(((.nm lk,[32])::(.nm [73],[32])::(.sg 123,[10])::(c++[(.sg 125,[10])]))++((.nm lk,[32])::(.nm [77],[32])::(.sg 123,[10])::(d++[(.sg 125,[10])]))))=f++(c++(.sg 125,[10])::(i++(d++(.sg 125,[10])::[]))):=by rw[j,x];simp only[AB,AP,Bg]
 have E:f.length=27:=by rw[j];rfl
 have Y:i.length=3:=by rw[x];rfl
 refine⟨28+(c.length:Int),32+(c.length:Int)+(d.length:Int),?_⟩;have v:∀(k:Nat)(w:Wd)(X:List UInt8)(a b:Ws),f=a++(w,X)::b->a.length=k->∃p,tk (gm 0 (f++(c++(.sg 125,[10])::(i++(d++(.sg 125,[10])::[]))))) (k:Int)=w.tok p:=by intro k w X a b e1 e2;obtain⟨p,h⟩:=aFQ a (b++(c++(.sg 125,[10])::(i++(d++(.sg 125,[10])::[])))) w X;rw[e1,<-e2];exact⟨p,by rw[<-h];simp only[AB,AP]⟩
 have S:=v 4 (.nm ate) [32] (nS.take 4) (nS.drop 5++(nh++([(Wd.nm lk,[32]),(Wd.nm [73],[32]),(Wd.sg 123,[10])]))) (j.trans rfl) rfl;have R:=v 5 (.nm [97]) [] (nS.take 5) (nS.drop 6++(nh++([(Wd.nm lk,[32]),(Wd.nm [73],[32]),(Wd.sg 123,[10])]))) (j.trans rfl) rfl;have O:=v 7 (.nm atd) [32] nS (nh.drop 1++([(Wd.nm lk,[32]),(Wd.nm [73],[32]),(Wd.sg 123,[10])])) (j.trans rfl) rfl;have A:=v 24 (.nm lk) [32] (nS++nh) [(Wd.nm [73],[32]),(Wd.sg 123,[10])] (j.trans rfl) rfl;have z:=aB1 (nS++nh.take 3) ((nh.drop 3).take 13) ([(.nm lk,[32]),(.nm [73],[32]),(.sg 123,[10])]++(c++(.sg 125,[10])::(i++(d++(.sg 125,[10])::[])))) (.cons nmN (.cons (sgN (by decide)) (.cons nuN (.cons (sgN (by decide)) (.cons nmN (.cons (sgN (by decide)) (.cons nuN (.cons (sgN (by decide)) (.cons nmN (.cons (sgN (by decide)) (.cons (sgN (by decide)) (.cons nuN (.cons (sgN (by decide)) .nil))))))))))))) [10];have C:=aB1 f c (i++(d++(.sg 125,[10])::[])) b1 [10];have Q:=aB1 (f++(c++(.sg 125,[10])::i)) d [] Z [10];have B:=aFQ (f++(c++[(.sg 125,[10])])) ((.nm [77],[32])::(.sg 123,[10])::(d++[(.sg 125,[10])])) (.nm lk) [32];have H:=aFQ (f++(c++[(.sg 125,[10]),(.nm lk,[32])])) ((.sg 123,[10])::(d++[(.sg 125,[10])])) (.nm [77]) [32];have L:nS++nh.take 3++((nh.drop 3).take 13++(.sg 125,[10])::([(.nm lk,[32]),(.nm [73],[32]),(.sg 123,[10])]++(c++(.sg 125,[10])::(i++(d++(.sg 125,[10])::[])))))=f++(c++(.sg 125,[10])::(i++(d++(.sg 125,[10])::[]))):=by rw[j];rfl
 have P:f++(c++(.sg 125,[10])::i)++(d++(.sg 125,[10])::[])=f++(c++(.sg 125,[10])::(i++(d++(.sg 125,[10])::[]))):=by simp only[AB,AP]
 have N:f++(c++[(.sg 125,[10])])++(.nm lk,[32])::((.nm [77],[32])::(.sg 123,[10])::(d++[(.sg 125,[10])]))=f++(c++(.sg 125,[10])::(i++(d++(.sg 125,[10])::[]))):=by rw[x];simp only[AB,AP,Bg]
 have I:f++(c++[(.sg 125,[10]),(.nm lk,[32])])++(.nm [77],[32])::((.sg 123,[10])::(d++[(.sg 125,[10])]))=f++(c++(.sg 125,[10])::(i++(d++(.sg 125,[10])::[]))):=by rw[x];simp only[AB,AP,Bg]
 rw[L] at z;rw[P] at Q;rw[N] at B;rw[I] at H;rw[e] at y ⊢;have q:=y.2.2.1;rw[aoA,CQ] at q;have W:(f++(c++(Wd.sg 125,[10])::(i++(d++(Wd.sg 125,[10])::[])))).length=32+c.length+d.length:=by simp only[Aj,Af,Ak,E,Y];omega
 rw[W] at q;generalize gm 0 (f++(c++(Wd.sg 125,[10])::(i++(d++(Wd.sg 125,[10])::[]))))=l at*
 have J:(nS++nh.take 3).length=10:=rfl;have M:((nh.drop 3).take 13).length=13:=rfl;rw[J,M] at z;rw[E] at C;have q2:((f++(c++(Wd.sg 125,[10])::i)).length:Int)=31+(c.length:Int):=by simp only[Aj,Af,E,Y];omega
 have q3:((f++(c++[(Wd.sg 125,[10])])).length:Int)=28+(c.length:Int):=by simp only[Aj,Af,Ak,E];omega
 have q4:((f++(c++[(Wd.sg 125,[10]),(.nm lk,[32])])).length:Int)=29+(c.length:Int):=by simp only[Aj,Af,Ak,E];omega
 rw[q2] at Q;rw[q3] at B;rw[q4] at H;obtain⟨_,S⟩:=S;obtain⟨_,R⟩:=R;obtain⟨_,O⟩:=O;obtain⟨_,A⟩:=A;obtain⟨_,B⟩:=B;obtain⟨_,H⟩:=H;refine⟨y,?_,?_,?_,z,?_,by rw[show (27:Int)=((27:Nat):Int) from rfl,C];omega,⟨by omega,by omega⟩,?_,?_,?_,?_⟩;·rw[show (4:Int)=((4:Nat):Int) from rfl,S];exact⟨rfl,rfl⟩
 ·rw[show (5:Int)=((5:Nat):Int) from rfl,R];rfl
 ·rw[show (7:Int)=((7:Nat):Int) from rfl,O];exact⟨rfl,rfl⟩
 ·rw[show (24:Int)=((24:Nat):Int) from rfl,A];exact⟨rfl,rfl⟩
 ·rw[B];exact⟨rfl,rfl⟩
 ·rw[show 28+(c.length:Int)+1=29+(c.length:Int) by omega,H];rfl
 ·rw[show 28+(c.length:Int)+3=31+(c.length:Int) by omega,Q];omega
 ·unfold tk;rw[show (32+(c.length:Int)+(d.length:Int)).toNat=32+c.length+d.length by omega];exact q
def FRQ:V×List aJ->Prop:=λz=>∃(d:Bs)(a:Bss)(b:List aS)(c:List PEn)(e f:Int)(rest:List aJ),z.1.dimR=.tup [.agg [.str d,.sl .str (.may false) a,.sl .fmsg (.may false) b,.sl .pen (.may false) c],.int .i64 e,.int .i64 f]∧z.2=rest∧(e=0->aFl d a b c)
theorem PIn.named{l:List Tok}{i:Int}(h:PIn l i)(b:(l.getD i.toNat (aK .tok)).kind=1):0<(l.getD i.toNat (aK .tok)).text.length:=by
 have a:i.toNat<l.length:=by have:=h.2;omega
 rw[Ar,Ah a] at b ⊢;exact(h.1.2.2.2 _ (B1 a)).1.2 b
def Stg(c a i:Int)(b:Bs)(ms:List aS):Prop:=(i=4∨i=7∨i=24∨i=c∨i=a)∧(7<=i->b=[97])∧(i=a->∃m∈ms,m.name=[77])
structure SIn(l:List Tok)(p2 p3 i e pk:Int)(nm:Bs)(im:Bss)(ms:List aS)(es:List PEn):Prop where
 at_:PIn l i
 pk_:0<=pk∧pk<=1
 im_:Cap im e∧jZ im
 ms_:Cap ms e
 good:e=0->xt ms∧(eL ms:Int)<=i
 es_:Cap es e∧∀x∈es,adc x
 st:e=0->Stg p2 p3 i nm ms
theorem SIn.fail{l:List Tok}{c k i e pk j b:Int}{f:Bs}{d:Bss}{ms:List aS}{es:List PEn}(h:SIn l c k i e pk f d ms es)(hp:PIn l j)(a:b≠0):SIn l c k j b pk f d ms es:=
 ⟨hp,h.pk_,⟨h.im_.1.bad a,h.im_.2⟩,h.ms_.bad a,λh=>absurd h a,⟨h.es_.1.bad a,h.es_.2⟩,λh=>absurd h a⟩
theorem SIn.go{l:List Tok}{d e i pk c:Int}{k:Bs}{f:Bss}{ms:List aS}{es:List PEn}(h:SIn l d e i 0 pk k f ms es)(a:Int)(hp:PIn l c)(m:i<=c){b:Bs}(j:a=0->Stg d e c b ms):SIn l d e c a pk b f ms es:=
 ⟨hp,h.pk_,⟨h.im_.1.of a,h.im_.2⟩,h.ms_.of a,λ_=>⟨(h.good rfl).1,by have:=(h.good rfl).2;omega⟩,⟨h.es_.1.of a,h.es_.2⟩,j⟩
theorem agI.kind{l:List Tok}{a b i:Int}{c:Bs}{ms:List aS}(S:agI l a b)(h:Stg a b i c ms):(tk l i).kind=1∧(i=4∧(tk l i).text=ate∨i=7∧(tk l i).text=atd∨(i=24∨i=a)∧(tk l i).text=lk)∨(tk l i).kind=5∧i=b:=by
 rcases h.1 with rfl|rfl|rfl|rfl|rfl;·exact .inl ⟨S.w0.1,.inl ⟨rfl,S.w0.2⟩⟩
 ·exact .inl ⟨S.w7.1,.inr (.inl ⟨rfl,S.w7.2⟩)⟩
 ·exact .inl ⟨S.w24.1,.inr (.inr ⟨.inl rfl,S.w24.2⟩)⟩
 ·exact .inl ⟨S.w2.1,.inr (.inr ⟨.inr rfl,S.w2.2⟩)⟩
 ·exact .inr ⟨S.w4,rfl⟩
theorem agI.noS{l:List Tok}{a b i:Int}{c:Bs}{ms:List aS}(S:agI l a b)(h:Stg a b i c ms){p:Bs}(d:isS (tk l i) p=true):False:=by have:=(aBL d).1;rcases S.kind h with⟨h, -⟩|⟨h, -⟩<;>rw[h] at this<;>exact absurd this (by decide)
theorem agI.isW{l:List Tok}{a c i:Int}{e:Bs}{ms:List aS}(S:agI l a c)(h:Stg a c i e ms){p:Bs}(f:isW (tk l i) p=true):i=4∧p=ate∨i=7∧p=atd∨(i=24∨i=a)∧p=lk:=by
 obtain⟨b,d⟩:=asp f;rcases S.kind h with⟨-,h⟩|⟨h, -⟩
 ·rw[d] at h;exact h
 ·rw[h] at b;exact absurd b (by decide)
set_option maxHeartbeats 8000000 in
theorem aHu(s:Bs)(hs:Made s):∃r,zh s r:=by
 obtain⟨fs,os,ay,aq,⟨m1,m2,m3,m4⟩,av⟩:=hs;have a7:=aIs m1 m2 m3 m4;obtain⟨N,hN⟩:∃N:Nat,N=7000:=⟨_,rfl⟩
 apply av5 N;show Tot _ FRQ;unfold akX rE;dsimp only;refine aY (aKv s _ a7 av) ?_;rintro⟨l,le,la⟩ ⟨-,hL⟩;dsimp only at hL ⊢;refine aB (λh=>aG ⟨_,_,_,_,_,_,_,rfl,rfl,λf=>?_⟩) (λh=>?_);·rw[f] at h;simp at h
 obtain⟨bs,ws,al,he,rfl⟩:=hL (by simpa using h);have ar:ws=af9 fs os ay aq:=Ws.uniq al a7 (he.symm.trans av);have hl:amU (gm 0 ws):=aIX al (by rw[<-he];exact bs);obtain⟨p2,P,S⟩:∃p2 P,agI (gm 0 ws) p2 P:=by rw[ar] at hl ⊢;exact aIY fs os ay aq hl
 clear ar he al;generalize gm 0 ws=l at*
 have Sp:=S.pp;have f:PIn l 0:=⟨hl,As _,by have:=hl.1;omega⟩
 have a8:∀i e a,PIn l i->(e=0->i=4)->Tot (aN N (eY N) (0,[],[],[],[],l,i,e,a,[],[],[],[])) FRQ:=by
  intro i e a hi C;refine bj (λ(x:pQ)=>match x with|(pk,o0,o1,o2,o3,l',v,e',_,nm,im,ms,es)=>(o0,o1,o2,o3,l')=([],[],[],[],l)∧SIn l p2 P v e' pk nm im ms es) (λx=>mu l.length x.2.2.2.2.2.2.1 x.2.2.2.2.2.2.2.1) ?_ _ _ ⟨rfl,⟨hi,by decide,⟨Cap.nil _,λx hx=>by simp at hx⟩,Cap.nil _,λ_=>⟨trivial,by simp only[eL];exact hi.2.1⟩,⟨Cap.nil _,λx hx=>by simp at hx⟩,λf=>by have:=C f;subst this;exact⟨.inl rfl,λh=>absurd h (by decide),λh=>by omega⟩⟩⟩ (by rw[hN];exact aur _ _ _ hi.2.1 hi.1.2.1);rintro ak ⟨pk,o0,o1,o2,o3,l',v,e',a',nm,im,ms,es⟩ ⟨q,I⟩ ih;cases q;dsimp only at ih;have hp:=I.at_;unfold eY;dsimp only;have ax:∀(o:List aJ)(D a2:Int),(D=0->e'=0∧v=P)->Tot (cond (!(D==0)) (some (.tup [.agg [.str ([]:Bs),.sl .str (.may true) ([]:Bss),.sl .fmsg (.may true) ([]:List aS),.sl .pen (.may true) ([]:List PEn)],.int .i64 D,.int .i64 a2],some [.str ([]:Bs),.sl .str (.may true) ([]:Bss),.sl .fmsg (.may true) ([]:List aS),.sl .pen (.may true) ([]:List PEn)]::o)) (some (.tup [.agg [.str nm,.sl .str (.may false) im,.sl .fmsg (.may false) ms,.sl .pen (.may false) es],.int .i64 0,.int .i64 0],some [.str nm,.sl .str (.may false) im,.sl .fmsg (.may false) ms,.sl .pen (.may false) es]::o))) FRQ:=by
   intro o D a2 he;refine aB (λh=>aG ⟨_,_,_,_,_,_,_,rfl,rfl,λf=>?_⟩) (λh=>aG ⟨_,_,_,_,_,_,_,rfl,rfl,λ_=>?_⟩);·rw[f] at h;simp at h
   ·have c:D=0:=by simpa using h
    have G:=I.good (he c).1;have G2:=I.st (he c).1;have hs:=hp.small;have:=hp.2.2;exact⟨⟨G2.2.1 (by have:=(he c).2;omega),G2.2.2 (he c).2⟩,⟨I.im_.1.1,I.im_.2⟩,⟨I.ms_.1,G.1,by omega⟩,⟨I.es_.1.1,I.es_.2⟩⟩
  refine aB (λc=>?_) (λc=>ax _ _ _ (λh=>absurd h (by simpa using c)));have c:e'=0:=by simpa using c
  subst c;have St:=I.st rfl;refine hH hp ?_;dsimp only;have ap:(tk l v).kind=5->v=P:=λhk=>by
   rcases S.kind St with⟨h, -⟩|⟨-,h⟩
   ·rw[h] at hk;exact absurd hk (by decide)
   ·exact h
  refine aB (λhk=>?_) (λhk=>ax _ _ _ (λh=>⟨h,ap (by simpa using hk)⟩));refine apt hp (λ_ B=>(S.noS St B).elim) ?_;dsimp only[cond_false];refine afu hp (λ_ u=>?_) ?_
  ·dsimp only[cond_true];have i4:v=4:=by rcases S.isW St u with⟨h, -⟩|⟨-,h⟩|⟨-,h⟩<;>first|exact h|exact absurd h (by decide)
   have B:=hp.up (hp.nextW u);refine aB (λaj=>dv hp (by decide) (λe3 m b=>?_)) (λaj=>?_);·exact ih _ ⟨rfl,I.fail hp b⟩ (li rfl (As _) hp.2.2 (λh=>absurd h b))
   have aj:=of_decide_eq_false aj;have bx:pk=0:=by have:=I.pk_;omega
   subst bx;rw[vd hp];have fin:∀D a2,Tot (aA (cV l (v+1) D a2) (λy=>aA (aF y.2.1 y.2.2.1 y.2.2.2.1 y.2.2.2.2 ([59]:Bs)) (λO=>ak (Ab .i64 (0+1),[],[],[],[],O.1,O.2.1,O.2.2.1,O.2.2.2,y.1,im,ms,es)))) FRQ:=by
    intro D a2;refine ass B (λt c6 e4 a4 ht C M j=>abK C (λp e5 a5 h5 k3 z=>?_));dsimp only at k3 z ⊢;rw[show Ab .i64 (0+1)=1 from by decide];have st:e5=0->Stg p2 P p t ms:=λf=>by
     obtain⟨⟨q1,q2⟩, -⟩:=z f;obtain⟨⟨-,q3⟩, -,q4⟩:=j q1;have e7:p=7:=by omega
     subst i4;rw[e7];refine⟨.inr (.inl rfl),λ_=>?_,λh=>by omega⟩;rw[q4];exact S.w5
    exact ih _ ⟨rfl,{I.go e5 h5 (by omega) st with pk_:=⟨by dsimp only;decide,by dsimp only;decide⟩}⟩ (li rfl (by dsimp only;omega) h5.2.2 (λh=>by have:=z h;have:=j this.1.1;dsimp only;omega))
   refine hH B (aB (λhn=>hH B (aD ?_ (aB (λ_=>dv B (by decide) (λe3 m b=>fin e3 m)) (λ_=>fin _ _)))) (λ_=>fin _ _));have:=B.named (by simpa using hn);exact decide_eq_true (by dsimp only;omega)
  dsimp only[cond_false];refine afu hp (λ_ u=>?_) ?_;·rcases S.isW St u with⟨-,h⟩|⟨-,h⟩|⟨-,h⟩<;>exact absurd h (by decide)
  dsimp only[cond_false];refine afu hp (λ_ u=>?_) ?_
  ·dsimp only[cond_true];have i4:v=24∨v=p2:=by rcases S.isW St u with⟨-,h⟩|⟨-,h⟩|⟨h, -⟩<;>first|exact h|exact absurd h (by decide)
   have B:=hp.up (hp.nextW u);refine yn hp (λe3 m b=>?_) (λm _ hc=>?_);·refine aB (λw=>by simp at w) (λ_=>?_);exact ih _ ⟨rfl,I.fail hp b⟩ (li rfl (As _) hp.2.2 (λh=>absurd h b))
   ·refine aB (λ_=>?_) (λw=>by simp at w);dsimp only;refine aY (arc 21 l v 0 m 1 (by decide) (by decide) (by decide) hp B.2.2 (aj6 hp u)) ?_;rintro⟨x,l2,p,e4,a4⟩ ⟨-,⟨q,M,j,k3⟩,z⟩;dsimp only at q M j k3 z ⊢;subst q;have au:ms.length<30:=by omega
    rw[amS];have A:PIn l2 p:=⟨hp.1,by have:=hp.2;omega,j⟩
    refine aD (decide_eq_true (by simp only[Af,Ak];omega)) ?_;refine ih _ ⟨rfl,?_⟩ (li rfl M j (λh=>(k3 h).2.1));by_cases C:e4=0
    ·have G:=I.good rfl;subst C;obtain⟨k5,k6,k7⟩:=z rfl;have st:Stg p2 P p nm (ms++[x]):=by
      have hn:=St.2.1 (by omega);rcases i4 with rfl|rfl
      ·have:=S.z27;have e:p=p2:=by rw[show (24:Int)+3=27 from rfl] at k7;omega
       exact⟨.inr (.inr (.inr (.inl e))),λ_=>hn,λh=>by omega⟩
      ·have:=S.z2;have e:p=P:=by omega
       exact⟨.inr (.inr (.inr (.inr e))),λ_=>hn,λ_=>⟨x,by simp,by rw[k6];exact S.w3⟩⟩
     exact{at_:=A,pk_:=I.pk_,im_:=I.im_,es_:=I.es_,ms_:=Cap.add au,good:=λ_=>⟨asv _ k5.1 _ G.1,by dsimp only;rw[aoz];have:=k5.2;have:=G.2;omega⟩,st:=λ_=>st}
    ·have I':=I.fail A C;exact{at_:=A,pk_:=I.pk_,im_:=I'.im_,es_:=I'.es_,ms_:=Cap.add au,good:=λh=>absurd h C,st:=λh=>absurd h C}
  dsimp only[cond_false];refine afu hp (λ_ u=>?_) ?_
  ·dsimp only[cond_true];have i4:v=7:=by rcases S.isW St u with⟨-,h⟩|⟨h, -⟩|⟨-,h⟩<;>first|exact h|exact absurd h (by decide)
   have B:=hp.up (hp.nextW u);refine yn hp (λe3 m b=>?_) (λm _ hc=>?_);·refine aB (λw=>by simp at w) (λ_=>?_);exact ih _ ⟨rfl,I.fail hp b⟩ (li rfl (As _) hp.2.2 (λh=>absurd h b))
   ·refine aB (λ_=>?_) (λw=>by simp at w);dsimp only;refine aY (aBX (e:=0) (a:=m) hp B.2.2 (aj6 hp u)) ?_;rintro⟨x,l2,p,e4,a4⟩ ⟨-,⟨⟨q,M,j,k3⟩,k7⟩,z⟩;dsimp only at q M j k3 k7 z ⊢;subst q;have b0:es.length<30:=by omega
    have A:PIn l2 p:=⟨hp.1,by have:=hp.2;omega,j⟩
    refine aD (decide_eq_true (by simp only[Af,Ak];omega)) ?_;have st:e4=0->Stg p2 P p nm ms:=λf=>by
     have h7:=k7 f;subst i4;have:=S.z10;have e:p=24:=by rw[show (7:Int)+3=10 from rfl] at h7;omega
     exact⟨.inr (.inr (.inl e)),λ_=>St.2.1 (by decide),λh=>by omega⟩
    have I':=I.go e4 A M st;exact ih _ ⟨rfl,{I' with es_:=⟨Cap.add b0,aEz I.es_.2 z⟩}⟩ (li rfl M j (λh=>(k3 h).2.1))
  dsimp only[cond_false];refine dv hp (by decide) (λe3 m b=>?_);exact ih _ ⟨rfl,I.fail hp b⟩ (li rfl (As _) hp.2.2 (λh=>absurd h b))
 have k:∀i e a,PIn l i->(e=0->i=2)->Tot (aA (bz l i e a) (λZ=>aA (aF Z.2.1 Z.2.2.1 Z.2.2.2.1 Z.2.2.2.2 ([59]:Bs)) (λH=>aN N (eY N) (0,[],[],[],[],H.1,H.2.1,H.2.2.1,H.2.2.2,[],[],[],[])))) FRQ:=by intro i e a hi E;exact aBO hi (λt i4 e4 a4 ht C M j=>abK C (λp e5 a5 h5 k3 z=>a8 _ _ _ h5 (λf=>by have a1:=z f;have a2:=j a1.1.1;have:=E a2.1.1;dsimp only at *;omega)))
 have ad:∀i e a,PIn l i->(e=0->i=1)->Tot (aA (aF l i e a ([61]:Bs)) (λL=>
          cond (L.2.2.1==0) (
           aA (aV L.1 L.2.1 L.2.2.1 L.2.2.2) (λQ=>
            cond (!(Q.1.kind==3)) (
             aA (aM Q.2.1 Q.2.2.1 Q.2.2.2.1 Q.2.2.2.2 2) (λr6=>
              aA (bz r6.1 r6.2.1 r6.2.2.1 r6.2.2.2) (λZ=>
               aA (aF Z.2.1 Z.2.2.1 Z.2.2.2.1 Z.2.2.2.2 ([59]:Bs)) (λH=>
                aN N (eY N) (0,[],[],[],[],H.1,H.2.1,H.2.2.1,H.2.2.2,[],[],[],[]))))) (
             aA (aV Q.2.1 Q.2.2.1 Q.2.2.2.1 Q.2.2.2.2) (λd=>
              cond (!decide (d.1.text=([112,114,111,116,111,51]:Bs))) (
               aA (aM d.2.1 d.2.2.1 d.2.2.2.1 d.2.2.2.2 2) (λJ=>
                aA (bz J.1 J.2.1 J.2.2.1 J.2.2.2) (λX=>
                 aA (aF X.2.1 X.2.2.1 X.2.2.2.1 X.2.2.2.2 ([59]:Bs)) (λaa=>
                  aN N (eY N) (0,[],[],[],[],aa.1,aa.2.1,aa.2.2.1,aa.2.2.2,[],[],[],[]))))) (
               aA (bz d.2.1 d.2.2.1 d.2.2.2.1 d.2.2.2.2) (λY=>
                aA (aF Y.2.1 Y.2.2.1 Y.2.2.2.1 Y.2.2.2.2 ([59]:Bs)) (λW=>
                 aN N (eY N) (0,[],[],[],[],W.1,W.2.1,W.2.2.1,W.2.2.2,[],[],[],[])))))))) (
           aA (bz L.1 L.2.1 L.2.2.1 L.2.2.2) (λR=>
            aA (aF R.2.1 R.2.2.1 R.2.2.2.1 R.2.2.2.2 ([59]:Bs)) (λF=>
             aN N (eY N) (0,[],[],[],[],F.1,F.2.1,F.2.2.1,F.2.2.2,[],[],[],[])))))) FRQ:=by
  intro i e a hi h1;refine abK hi (λi2 D a2 E M j=>?_);have k5:D=0->i2=2:=λf=>by have a1:=j f;have:=h1 a1.1.1;omega
  exact aB (λ_=>hH E (aB (λ_=>dv E (by decide) (λe3 m h3=>k _ _ _ E (λh=>absurd h h3))) (λ_=>hH E (aB (λ_=>dv E (by decide) (λe3 m h3=>k _ _ _ E (λh=>absurd h h3))) (λ_=>k _ _ _ E k5))))) (λ_=>k _ _ _ E k5)
 refine aew f (λ_ h1 _=>?_) ?_;·exact aB (λw=>by simp at w) (λ_=>ad _ _ _ h1 (λ_=>rfl))
 ·exact aB (λ_=>dv f (by decide) (λe3 m h3=>ad _ _ _ f (λh=>absurd h h3))) (λw=>by simp at w)
section
variable{Q:V×List aJ->Prop}
theorem aHv(x:PEn)(h:x.values.length<=31):∃r,ab9 x r:=by
 obtain⟨N,H⟩:∃N:Nat,N=1000:=⟨_,rfl⟩
 apply ayK N;unfold anO uc;dsimp only;have a:∀n:Int,Tot (some ((.int .i64 n,[]):V×List aJ)) (λz=>∃(C:Int)(rest:List aJ),z.1.dimR=.int .i64 C∧z.2=rest):=λn=>aG ⟨_,_,rfl,rfl⟩
 refine aB (λ_=>a 6) (λE=>aD ?_ (aB (λ_=>a 6) (λ_=>?_)))
 ·have:(x.values.length:Int)≠0:=by simpa using E
  exact decide_eq_true (by omega)
 refine bj (λ(y:gn)=>y.1=x∧0<=y.2∧y.2<=x.values.length) (λy=>(x.values.length-y.2).toNat) ?_ _ _ ⟨rfl,As _,by dsimp only;omega⟩ (by dsimp only;omega);rintro f ⟨D,k⟩ ⟨q,d,F⟩ m;dsimp only at q d F m;subst q;unfold wZ uX;dsimp only;refine aB (λi=>?_) (λ_=>a 0);have i:=of_decide_eq_true i;refine bj (λ(y:rJ)=>y.1=D∧y.2.1=k∧0<=y.2.2∧y.2.2<=k) (λy=>(k-y.2.2).toNat) ?_ _ _ ⟨rfl,rfl,As _,d⟩ (by dsimp only;omega);rintro c ⟨p,G,j⟩ ⟨q,A,e,B⟩ b;dsimp only at q A e B b;subst q A;unfold rK;dsimp only;refine aB (λv=>?_) (λ_=>?_);·have v:=of_decide_eq_true v;have w:=ixt (l:=p.values) ⟨e,by omega⟩;have u:=ixt (l:=p.values) ⟨d,i⟩;refine aD w (aD u (aB (λ_=>a 5) (λ_=>aD w (aD u (aB (λ_=>a 5) (λ_=>?_))))));rw[dj e (by omega)];exact b _ ⟨rfl,rfl,by first|omega|(dsimp only;omega),by first|omega|(dsimp only;omega)⟩ (by first|omega|(dsimp only;omega))
 ·rw[dj d (by omega)];exact m _ ⟨rfl,by first|omega|(dsimp only;omega),by first|omega|(dsimp only;omega)⟩ (by first|omega|(dsimp only;omega))
theorem fp{α:Type}{l:List α}{k:Int}(d:α)(b:0<=k)(h:k<l.length):l.drop k.toNat=l.getD k.toNat d::l.drop (k+1).toNat:=by
 have a:k.toNat<l.length:=by omega
 rw[show (k+1).toNat=k.toNat+1 by omega,AX a,Ar,Ah a];rfl
theorem gB{α:Type}{l:List α}{k:Int}(h:¬k<l.length):l.drop k.toNat=[]:=B6 (by omega)
theorem aiA{α:Type}(l:List α)(x:α)(k:Nat)(h:k<=l.length):((([]:List α)++An 0 (Ao k l))++[x]++An k (Ao l.length l)).length=l.length+1:=by simp only[Bg,Bm,AQ,Aj,BE,Af,Ak,AT];omega
theorem aww{α:Type}{l:List α}{x y:α}{k:Nat}(h:y∈(([]:List α)++An 0 (Ao k l))++[x]++An k (Ao l.length l)):y∈l∨y=x:=by
 simp only[Bg,Bm,AQ,Aw,Av] at h;rcases h with(h|h)|h;·exact .inl (BJ h)
 ·exact .inr h
 ·exact .inl (BL h)
theorem aED{α:Type}{l:List α}{x y:α}{k:Nat}:y∈(([]:List α)++An 0 (Ao k l))++[x]++An k (Ao l.length l)↔y∈l∨y=x:=by
 refine⟨aww,λh=>?_⟩;simp only[Bg,Bm,AQ,Aw,Av];rcases h with h|h
 ·rw[<-Ba k l,Aw] at h;rcases h with h|h;·exact .inl (.inl h)
  ·exact .inr h
 ·exact .inl (.inr h)
theorem afw{α:Type}(l:List α)(k:Nat):(([]:List α)++An 0 (Ao k l)).length<=l.length:=by simp only[Bg,Bm,BE];omega
theorem rl{α:Type}(l:List α)(k:Nat):(An k (Ao l.length l)).length<=l.length:=by simp only[AQ,AT];omega
theorem aDU(l:List PEn)(x:PEn)(m:l.length<=100000):∃r,uO l x r:=by
 obtain⟨N,p⟩:∃N:Nat,N=100001:=⟨_,rfl⟩
 apply ar6 N;unfold agr n9;refine bj (λ(y:mJ)=>y.1=l∧y.2.1=x∧0<=y.2.2∧y.2.2<=l.length) (λy=>(l.length-y.2.2).toNat) ?_ _ _ ⟨rfl,rfl,As _,by dsimp only;omega⟩ (by dsimp only;omega);rintro d ⟨c,v,k⟩ ⟨q,i,e,j⟩ f;dsimp only at q i e j f;subst q i;unfold qK;dsimp only;have h:=afw c k.toNat;have u:=rl c k.toNat;have a:(decide (0<=k)&&decide (k<=(↑(Aa c):Int)))=true:=by simp only[Ac,decide_eq_true_eq];omega
 refine aB (λb=>?_) (λb=>?_)
 ·have b:=of_decide_eq_true b;refine aD (ixt ⟨e,b⟩) (aB (λ_=>?_) (λ_=>?_));·rw[dj e (by omega)];exact f _ ⟨rfl,rfl,by first|omega|(dsimp only;omega),by first|omega|(dsimp only;omega)⟩ (by first|omega|(dsimp only;omega))
  ·refine aD a (aD (decide_eq_true ?_) (aD (decide_eq_true ?_) (aD a (aD (decide_eq_true ?_) (aG ⟨_,_,rfl,rfl,aiA _ _ _ (by omega)⟩)))))<;>(simp only[Aj,Af,Ak] at h ⊢;omega)
 ·refine aD a (aD (decide_eq_true ?_) (aD (decide_eq_true ?_) (aD a (aD (decide_eq_true ?_) (aG ⟨_,_,rfl,rfl,aiA _ _ _ (by omega)⟩)))))<;>(simp only[Aj,Af,Ak] at h ⊢;omega)
theorem awx(l:List PMs)(x:PMs)(m:l.length<=100000):∃r,pl l x r:=by
 obtain⟨N,p⟩:∃N:Nat,N=100001:=⟨_,rfl⟩
 apply alV N;unfold acH ks;refine bj (λ(y:jx)=>y.1=l∧y.2.1=x∧0<=y.2.2∧y.2.2<=l.length) (λy=>(l.length-y.2.2).toNat) ?_ _ _ ⟨rfl,rfl,As _,by dsimp only;omega⟩ (by dsimp only;omega);rintro d ⟨c,v,k⟩ ⟨q,i,e,j⟩ f;dsimp only at q i e j f;subst q i;unfold np;dsimp only;have h:=afw c k.toNat;have u:=rl c k.toNat;have a:(decide (0<=k)&&decide (k<=(↑(Aa c):Int)))=true:=by simp only[Ac,decide_eq_true_eq];omega
 refine aB (λb=>?_) (λb=>?_)
 ·have b:=of_decide_eq_true b;refine aD (ixt ⟨e,b⟩) (aB (λ_=>?_) (λ_=>?_));·rw[dj e (by omega)];exact f _ ⟨rfl,rfl,by first|omega|(dsimp only;omega),by first|omega|(dsimp only;omega)⟩ (by first|omega|(dsimp only;omega))
  ·refine aD a (aD (decide_eq_true ?_) (aD (decide_eq_true ?_) (aD a (aD (decide_eq_true ?_) (aG ⟨_,_,rfl,rfl,aiA _ _ _ (by omega),λy=>aED⟩)))))<;>(simp only[Aj,Af,Ak] at h ⊢;omega)
 ·refine aD a (aD (decide_eq_true ?_) (aD (decide_eq_true ?_) (aD a (aD (decide_eq_true ?_) (aG ⟨_,_,rfl,rfl,aiA _ _ _ (by omega),λy=>aED⟩)))))<;>(simp only[Aj,Af,Ak] at h ⊢;omega)
def BQ(f:bI):V×List aJ->Prop:=λz=>∃(a:Bool)(rest:List aJ),z.1.dimR=.bool a∧z.2=rest∧(a=false->1<=f.num∧f.num<=536870911)
theorem aKy(m:aS)(f:bI)(h:m.nums.length<=31)(D:m.names.length<=31):∃r,aem m f r:=by
 obtain⟨N,C⟩:∃N:Nat,N=1000:=⟨_,rfl⟩
 apply aBq N;show Tot _ (BQ f);unfold aq3 wm;dsimp only;have a:Tot (some ((.bool true,[]):V×List aJ)) (BQ f):=aG ⟨true,_,rfl,rfl,λh=>by simp at h⟩;refine aB (λ_=>a) (λv=>aB (λ_=>a) (λw=>?_));have v:=of_decide_eq_false v;have w:=of_decide_eq_false w;have c:Tot (aN N (pU N) (m,f,0)) (BQ f):=by refine bj (λ(y:ud)=>y.1=m∧y.2.1=f∧0<=y.2.2∧y.2.2<=m.nums.length) (λy=>(m.nums.length-y.2.2).toNat) ?_ _ _ ⟨rfl,rfl,As _,by dsimp only;omega⟩ (by dsimp only;omega);rintro d ⟨u,z,k⟩ ⟨q,x,j,B⟩ p;dsimp only at q x j B p;subst q x;unfold pU;dsimp only;refine aB (λi=>?_) (λ_=>aG ⟨false,_,rfl,rfl,λ_=>by omega⟩);have i:=of_decide_eq_true i;have e:=ixt (l:=u.nums) ⟨j,i⟩;rw[dj j (by omega)];have go:=p (u,z,k+1) ⟨rfl,rfl,by first|omega|(dsimp only;omega),by first|omega|(dsimp only;omega)⟩ (by first|omega|(dsimp only;omega));exact aD e (aD (by decide) (aB (λ_=>aD e (aD (by decide) (aB (λ_=>a) (λ_=>go)))) (λ_=>go)))
 have b:Tot (aA (eM m.names f.name) (λ(A:Bool)=>cond A (some (.bool true,[])) (aN N (pU N) (m,f,0)))) (BQ f):=
  aox (by omega) (λ_=>a) (λ_=>c)
 exact aB (λ_=>aB (λ_=>a) (λ_=>b)) (λ_=>b)
theorem aFR{x:PFl}{l:List PFl}{k:Nat}(c:(l.map PFl.num).Pairwise (·<·))(m:∀f∈l.take k,f.num<x.num)(j:∀f∈l.drop k,x.num<f.num):(((([]:List PFl)++An 0 (Ao k l))++[x]++An k (Ao l.length l)).map PFl.num).Pairwise (·<·):=by
 have e:l.map PFl.num=(l.take k).map PFl.num++(l.drop k).map PFl.num:=by rw[<-AK,Ba]
 rw[e,By] at c;simp only[Bg,Bm,AQ,AK,AL,List.map_nil,AB];rw[By];refine⟨c.1,?_,?_⟩;·rw[Cy,BA];exact⟨λy p=>by obtain⟨f,h,rfl⟩:=AD.1 p;exact j f h,c.2.1⟩
 ·intro a i b d;rw[Cy,AN] at d;rcases d with rfl|d;·obtain⟨f,h,rfl⟩:=AD.1 i;exact m f h
  ·exact c.2.2 a i b d
theorem aKz{l:List PFl}{k:Nat}{n:Int}(c:(l.map PFl.num).Pairwise (·<·))(i:n ∉ l.map PFl.num)(a:k<l.length)(h:¬(l.getD k (aK .pfl)).num<n):∀f∈l.drop k,n<f.num:=by
 have j:l.getD k (aK .pfl)=l[k]:=by rw[Ar,Ah a];rfl
 rw[j] at h;have d:n<l[k].num:=by
  have:l[k].num≠n:=λe=>i (e▸BX (B1 a))
  omega
 have e:l.map PFl.num=(l.take k).map PFl.num++(l.drop k).map PFl.num:=by rw[<-AK,Ba]
 rw[e,By,AX a,AL,BA] at c;intro f b;rw[AX a] at b;rcases AN.1 b with rfl|b;·exact d
 ·exact Int.lt_trans d (c.2.1.1 _ (BX b))
def aLT(a:List ca)(f:PFl):Prop:=aps f∧(f.kind=16->∃y∈sk a,y.name=f.typ∧y.kind=16)
def MkQ(a:List ca)(x:PNm):V×List aJ->Prop:=λz=>∃(b:PMs)(c:Int)(rest:List aJ),z.1.dimR=.tup [.agg (enc .pms b),.int .i64 c]∧z.2=rest∧(c=0->sQ b∧b.name=x.name∧∀f∈b.fields,f.kind=16->∃y∈sk a,y.name=f.typ∧y.kind=16)
theorem aIZ{P:PFl->Prop}{x:PFl}{l:List PFl}{k:Nat}(c:∀f∈l,P f)(b:P x):∀y∈(([]:List PFl)++An 0 (Ao k l))++[x]++An k (Ao l.length l),P y:=λy a=>by
 rcases aww a with a|rfl;·exact c y a
 ·exact b
set_option maxHeartbeats 4000000 in
theorem aB2(d:List ca)(x:PNm)(hF:xS d)(hx:amX 10000000 x):∃r,uP d x r:=by
 obtain⟨N,hN⟩:∃N:Nat,N=1000:=⟨_,rfl⟩
 apply ar9 N;show Tot _ (MkQ d x);unfold agu og;have hm:=(aEw x.m).1 hx.2.1;have cc:=hm.2.1.1;have b4:=hm.2.2.1.1;refine bj (λ(y:dG)=>match y with|(I,B,k,a,b,c,A,fs,z)=>(I,B,a,b,c,A,z)=(d,x,[],[],[],x.name,x.m.oneofs)∧0<=k∧k<=x.m.fields.length∧(fs.length:Int)=k∧(∀f∈fs,aLT d f)∧(fs.map PFl.num).Pairwise (·<·)∧∀f∈fs,f.num∈(x.m.fields.take k.toNat).map bI.num) (λy=>(x.m.fields.length-y.2.2.1).toNat) ?_ _ _ ⟨rfl,As _,by omega,rfl,λf u=>by simp at u,by simp,λf u=>by simp at u⟩ (by dsimp only;omega);rintro O ⟨I,B,k,a,b,c,A,fs,z⟩ ⟨q,k0,k1,b6,L,R,ao⟩ ih;cases q;dsimp only at ih;unfold qP px;dsimp only;refine aB (λW=>?_) (λW=>?_)
 ·have W:=of_decide_eq_true W;have ai:=d8 (aK .ffld) k0 W;obtain⟨g,hg⟩:∃g,g=Ai x.m.fields k.toNat (aK .ffld):=⟨_,rfl⟩
  rw[<-hg] at ai ⊢;have an:=hm.2.1.2 g ai;rw[amS];refine aD (ixt ⟨k0,W⟩) (aY (aKy x.m g hm.2.2.2.2.2.1 hm.2.2.2.2.2.2.1) ?_);rintro r1 ⟨-,hb⟩;have G:∀(e:Int)(o:List aJ),e≠0->Tot (some ((.tup [.agg [.str x.name,.sl .pfl (.may false) fs,.sl .str (.may false) x.m.oneofs],.int .i64 e],o):V×List aJ)) (MkQ d x):=λe o he=>aG ⟨⟨x.name,fs,x.m.oneofs⟩,_,_,rfl,rfl,λh=>absurd h he⟩
  refine aB (λ_=>G _ _ (by decide)) (λhr=>?_);have hb:=hb hr;refine bj (λ(y:fF)=>match y with|(I,B,k',g',j,a,b,c,A,p,z)=>(I,B,k',g',a,b,c,A,p,z)=(d,x,k,g,[],[],[],x.name,fs,x.m.oneofs)∧0<=j∧j<=k∧g.num ∉ (x.m.fields.take j.toNat).map bI.num) (λy=>(k-y.2.2.2.2.1).toNat) ?_ _ _ ⟨rfl,As _,k0,by simp⟩ (by dsimp only;omega);rintro ar ⟨I,B,k',g',j,a,b,c,A,p,z⟩ ⟨q,M,j1,ad⟩ ae;cases q;dsimp only at ae;unfold mM pv;dsimp only;refine aB (λE=>?_) (λE=>?_);·have E:=of_decide_eq_true E;have e:=ixt (l:=x.m.fields) ⟨M,by omega⟩;refine aD e (aB (λ_=>G _ _ (by decide)) (λag=>aD e (aB (λ_=>G _ _ (by decide)) (λ_=>?_))));rw[dj M (by omega)];refine ae _ ⟨rfl,by first|omega|(dsimp only;omega),by first|omega|(dsimp only;omega),?_⟩ (by first|omega|(dsimp only;omega));dsimp only;rw[lj (aK .ffld) M (by omega),AK,Aw,not_or];refine⟨ad,λh=>?_⟩;rw[AL,List.map_nil,Av] at h;rw[h] at ag;simp at ag
  have E:j=k:=by have:=of_decide_eq_false E;omega
  subst E;have a1:g.num ∉ fs.map PFl.num:=λh=>by obtain⟨f,u,az⟩:=AD.1 h;exact ad (az▸ao f u)
  refine aox (by omega) (λ_=>aB (λ_=>G _ _ (by decide)) (λh=>by simp at h)) (λ_=>aB (λh=>by simp at h) (λ_=>?_));rw[show Ab .i64 g.num=g.num from aQ _ (by omega)];have put:∀(D:Int)(J:Bs)(pk:Bool),1<=D->D<=17->(pk=true->dO D≠2∧g.label=2)->(D=16->∃y∈sk d,y.name=J∧y.kind=16)->Tot (aN N (jM N O) (d,x,j,0,[],[],[],x.name,fs,x.m.oneofs,g.num,g.name,g.label,D,J,jh g.key,pk,g.oneof)) (MkQ d x):=by
   intro D J pk d1 d2 d5 d6;obtain⟨-, -, -,⟨o1,o2,o3,o4⟩,o5,o6,o7,o8⟩:=an;obtain⟨S,ax⟩:∃S,S=jh g.key:=⟨_,rfl⟩
   have ah:=asq g.key;rw[<-ax] at ah o8 ⊢;have ab:aLT d ⟨g.num,g.name,g.label,D,J,S,pk,g.oneof⟩:=⟨⟨⟨d1,d2⟩,⟨o1,o2⟩,⟨hb.1,o4⟩,ah,d5,⟨o5,o6⟩,o7,o8⟩,d6⟩
   refine bj (λ(y:mK)=>match y with|(I,B,k',i,a,b,c,A,p,z,w0,w1,w2,w3,w4,w5,w6,w7)=>(I,B,k',a,b,c,A,p,z,w0,w1,w2,w3,w4,w5,w6,w7)=(d,x,j,[],[],[],x.name,fs,x.m.oneofs,g.num,g.name,g.label,D,J,S,pk,g.oneof)∧0<=i∧i<=fs.length∧∀f∈fs.take i.toNat,f.num<g.num) (λy=>(fs.length-y.2.2.2.1).toNat) ?_ _ _ ⟨rfl,As _,by omega,λf u=>by simp at u⟩ (by dsimp only;omega);rintro aq ⟨I,B,k',i,a,b,c,A,p,z,w0,w1,w2,w3,w4,w5,w6,w7⟩ ⟨q,X,i1,Y⟩ aa;cases q;dsimp only at aa;unfold jM;dsimp only;have h1:=afw fs i.toNat;have h2:=rl fs i.toNat;have ek:(decide (0<=i)&&decide (i<=(↑(Aa fs):Int)))=true:=by simp only[Ac,decide_eq_true_eq];omega
   rw[dj k0 (by omega)];have ay:=aiA fs (⟨g.num,g.name,g.label,D,J,S,pk,g.oneof⟩:PFl) i.toNat (by omega);have go:(∀f∈fs.drop i.toNat,g.num<f.num)->_:=λa3=>ih (d,x,j+1,[],[],[],x.name,_,x.m.oneofs) ⟨rfl,by first|omega|(dsimp only;omega),by first|omega|(dsimp only;omega),by dsimp only;rw[ay];omega,aIZ (k:=i.toNat) L ab,aFR (x:=(⟨g.num,g.name,g.label,D,J,S,pk,g.oneof⟩:PFl)) (k:=i.toNat) R Y a3,λy hy=>by
    rw[lj (aK .ffld) k0 W,<-hg,AK,Aw];rcases aww hy with hy|rfl;·exact .inl (ao y hy)
    ·exact .inr (by simp)⟩ (by dsimp only;omega)
   refine aB (λH=>?_) (λH=>?_)
   ·have H:=of_decide_eq_true H;refine aD (ixt ⟨X,H⟩) (aB (λv=>?_) (λv=>?_))
    ·rw[dj X (by omega)];refine aa _ ⟨rfl,by first|omega|(dsimp only;omega),by first|omega|(dsimp only;omega),?_⟩ (by first|omega|(dsimp only;omega));dsimp only;rw[lj (aK .pfl) X H];intro f u;rcases Aw.1 u with u|u;·exact Y f u
     ·rw[Av.1 u];exact of_decide_eq_true v
    ·have go:=go (aKz R a1 (by omega) (of_decide_eq_false v));refine aD ek (aD (decide_eq_true ?_) (aD (decide_eq_true ?_) (aD ek (aD (decide_eq_true ?_) go))))<;>(simp only[Aj,Af,Ak] at h1 ⊢;omega)
   ·have go:=go (by rw[gB (of_decide_eq_false H)];intro f u;simp at u);refine aD ek (aD (decide_eq_true ?_) (aD (decide_eq_true ?_) (aD ek (aD (decide_eq_true ?_) go))))<;>(simp only[Aj,Af,Ak] at h1 ⊢;omega)
  refine awt (awt (aB (λ_=>?_) (λhz=>?_)))
  ·refine aY (aII d x.file x.name g.typ hF hx.2.2.2 an.1) ?_;rintro⟨w,k2,e2⟩ ⟨-,hr⟩;dsimp only[abo] at hr ⊢;refine aB (λhe=>G _ _ (by simpa using he)) (λhe=>?_);obtain⟨hr,y,hy,a4,a0⟩:=hr (by simpa using he);refine aT (aBU _) (λ_ h=>h.2) ?_;have ht:k2=16->∃y∈sk d,y.name=w∧y.kind=16:=λh=>⟨y,hy,a4,a0.trans h⟩
   have P:(!(dO k2==2))=true->(g.label==2)=true->_:=λC v=>put k2 w (!(g.packed==2)) (by omega) (by omega) (λ_=>⟨by simpa using C,by simpa using v⟩) ht
   have F:=put k2 w false (by omega) (by omega) (λh=>by simp at h) ht;exact aB (λ_=>aB (λ_=>G _ _ (by decide)) (λ_=>aB (λ_=>G _ _ (by decide)) (λ_=>aB (λv=>aB (λC=>P C v) (λ_=>F)) (λ_=>F)))) (λ_=>aB (λv=>aB (λC=>P C v) (λ_=>F)) (λ_=>F))
  ·have hz:jh g.typ≠0:=by simpa using hz
   have b1:=asq g.typ;refine aT (aBU _) (λ_ h=>h.2) ?_;have P:(!(dO (jh g.typ)==2))=true->(g.label==2)=true->_:=λC v=>put (jh g.typ) [] (!(g.packed==2)) (by omega) (by omega) (λ_=>⟨by simpa using C,by simpa using v⟩) (λh=>by omega)
   have F:=put (jh g.typ) [] false (by omega) (by omega) (λh=>by simp at h) (λh=>by omega);exact aB (λ_=>aB (λ_=>G _ _ (by decide)) (λ_=>aB (λ_=>G _ _ (by decide)) (λ_=>aB (λv=>aB (λC=>P C v) (λ_=>F)) (λ_=>F)))) (λ_=>aB (λv=>aB (λC=>P C v) (λ_=>F)) (λ_=>F))
 ·refine bj (λ(y:eO)=>match y with|(B,j,a,b,c,A,p,z)=>(B,a,b,c,A,p,z)=(x,[],[],[],x.name,fs,x.m.oneofs)∧0<=j∧j<=x.m.oneofs.length) (λy=>(x.m.oneofs.length-y.2.1).toNat) ?_ _ _ ⟨rfl,As _,by omega⟩ (by dsimp only;omega);rintro aw ⟨B,j,a,b,c,A,p,z⟩ ⟨q,M,j1⟩ al;cases q;dsimp only at al;unfold mR pw;dsimp only;refine aB (λE=>?_) (λ_=>aG ⟨⟨x.name,fs,x.m.oneofs⟩,_,_,rfl,rfl,λ_=>⟨⟨by dsimp only;omega,λf u=>(L f u).1,by dsimp only;omega,R⟩,rfl,λf u=>(L f u).2⟩⟩);have E:=of_decide_eq_true E;refine bj (λ(y:mO)=>match y with|(B,j',i,a,b,c,A,p,z)=>(B,j',a,b,c,A,p,z)=(x,j,[],[],[],x.name,fs,x.m.oneofs)∧0<=i∧i<=j) (λy=>(j-y.2.2.1).toNat) ?_ _ _ ⟨rfl,As _,M⟩ (by dsimp only;omega);rintro au ⟨B,j',i,a,b,c,A,p,z⟩ ⟨q,X,i1⟩ Z;cases q;dsimp only at Z;unfold mP;dsimp only;refine aB (λH=>?_) (λ_=>?_);·have H:=of_decide_eq_true H;refine aD (ixt ⟨X,by omega⟩) (aD (ixt ⟨M,E⟩) (aB (λ_=>aG ⟨⟨x.name,fs,x.m.oneofs⟩,_,_,rfl,rfl,λh=>by simp at h⟩) (λ_=>?_)));rw[dj X (by omega)];exact Z _ ⟨rfl,by first|omega|(dsimp only;omega),by first|omega|(dsimp only;omega)⟩ (by first|omega|(dsimp only;omega))
  ·rw[dj M (by omega)];exact al _ ⟨rfl,by first|omega|(dsimp only;omega),by first|omega|(dsimp only;omega)⟩ (by first|omega|(dsimp only;omega))
theorem aJK(b a:Bs):∀{ms:List aS}{m:aS},m∈ms->(⟨sP b m.name,16,m,⟨[],[]⟩,a⟩:PNm)∈yQ b a ms
 | [],m,h=>by simp at h
 |x::ms,m,h=>by
  simp only[yQ,Aw];rcases AN.1 h with rfl|h;·rw[aEx];exact .inl (AZ ..)
  ·exact .inr (aJK b a h)
def ScQ:V×List aJ->Prop:=λz=>∃(c:List PMs)(a:List PEn)(b:Int)(d:Bs)(rest:List aJ),z.1.dimR=.tup [.agg [.sl .pms (.may false) c,.sl .pen (.may false) a],.int .i64 b,.str d]∧z.2=rest∧(b=0->aeL c∧a.length<=60)
def ScI(c:List ca)(l:List PNm)(y:List ca×List PNm×Int×List PMs×List PEn×List PMs×List PEn):Prop:=match y with|(d,e,k,a,b,ms,es)=>(d,e,a,b)=(c,l,[],[])∧0<=k∧k<=l.length∧(ms.length+es.length:Int)=k∧(∀m∈ms,sQ m∧∀f∈m.fields,f.kind=16->∃y∈sk c,y.name=f.typ∧y.kind=16)∧∀x∈l.take k.toNat,x.kind=16->∃m∈ms,m.name=x.name
set_option maxHeartbeats 4000000 in
theorem aFS(c:List ca)(hF:xS c):∃r,wN c r:=by
 obtain⟨N,hN⟩:∃N:Nat,N=1000000:=⟨_,rfl⟩
 apply aua N;show Tot _ ScQ;unfold ah8 pW;refine aHi hF (λhl d=>?_);have hM:∃x∈sk c,x.kind=16∧x.name=[97,46,77]:=by
  obtain⟨h1,h2⟩:=hF;obtain⟨f,rfl⟩:=List.length_eq_one_iff.1 h1;obtain⟨⟨⟨O,m,u,I⟩, -⟩, -⟩:=h2 f (by simp);refine⟨⟨sP f.pack m.name,16,m,⟨[],[]⟩,f.name⟩,?_,rfl,?_⟩;·rw[sk,BV,List.flatMap_nil,A5,ahz,Aw];exact .inl (aJK _ _ u)
  ·dsimp only;rw[O,I];rfl
 obtain⟨l,M⟩:∃l,l=sk c:=⟨_,rfl⟩
 rw[<-M] at hl d hM ⊢;have R:∀(e:Int)(s:Bs)(o:List aJ),e≠0->Tot (some ((.tup [.agg [.sl .pms (.may false) ([]:List PMs),.sl .pen (.may false) ([]:List PEn)],.int .i64 e,.str s],o):V×List aJ)) ScQ:=λe s o D=>aG ⟨[],[],e,s,_,rfl,rfl,λh=>absurd h D⟩
 refine bj (λ(y:fh)=>match y with|(G,H,k,a,b)=>(G,H,a,b)=(c,l,[],[])∧0<=k∧k<=l.length) (λy=>(l.length-y.2.2.1).toNat) ?_ _ _ ⟨rfl,As _,by omega⟩ (by dsimp only;omega);rintro aa ⟨G,H,k,a,b⟩ ⟨q,B,k1⟩ ih;cases q;dsimp only at ih;unfold te qQ;dsimp only;refine aB (λi=>?_) (λi=>?_)
 ·have i:=of_decide_eq_true i;refine bj (λ(y:oh)=>match y with|(G,H,k',j,a,b)=>(G,H,k',a,b)=(c,l,k,[],[])∧0<=j∧j<=k) (λy=>(k-y.2.2.2.1).toNat) ?_ _ _ ⟨rfl,As _,B⟩ (by dsimp only;omega);rintro S ⟨G,H,k',j,a,b⟩ ⟨q,j0,j1⟩ J;cases q;dsimp only at J;unfold oi;dsimp only;refine aB (λhj=>?_) (λ_=>?_);·have hj:=of_decide_eq_true hj;have e:=ixt (l:=l) ⟨B,i⟩;refine aD (ixt ⟨j0,by omega⟩) (aD e (aB (λ_=>aD e (R _ _ _ (by decide))) (λ_=>?_)));rw[dj j0 (by omega)];exact J _ ⟨rfl,by first|omega|(dsimp only;omega),by first|omega|(dsimp only;omega)⟩ (by first|omega|(dsimp only;omega))
  ·rw[dj B (by omega)];exact ih _ ⟨rfl,by first|omega|(dsimp only;omega),by first|omega|(dsimp only;omega)⟩ (by first|omega|(dsimp only;omega))
 refine aB (λv=>aD ?_ (R _ _ _ (by decide))) (λv=>?_);·have v:=of_decide_eq_true v;exact decide_eq_true (by omega)
 have v:=of_decide_eq_false v;refine bj (ScI c l) (λy=>(l.length-y.2.2.1).toNat) ?_ _ _ ⟨rfl,As _,by omega,rfl,λm u=>by simp at u,λx d=>by simp at d⟩ (by dsimp only;omega);rintro W ⟨G,H,k,a,b,ms,es⟩ ⟨q,B,k1,hc,A,w⟩ L;cases q;unfold oj;dsimp only;have fin:¬k<l.length->(∀m∈ms,∀f∈m.fields,f.kind=16->∃y∈ms,y.name=f.typ)∧∃y∈ms,y.name=[97,46,77]:=λi=>by
  rw[pd i] at w;refine⟨λm u f hf i=>?_,?_⟩;·obtain⟨y,X,O,I⟩:=(A m u).2 f hf i;rw[<-M] at X;obtain⟨z,P,Y⟩:=w y X I;exact⟨z,P,Y.trans O⟩
  ·obtain⟨x,d,O,I⟩:=hM;obtain⟨z,P,Y⟩:=w x d O;exact⟨z,P,Y.trans I⟩
 refine aB (λi=>?_) (λi=>aG ⟨ms,es,0,_,_,rfl,rfl,λ_=>⟨⟨⟨by omega,λm u=>(A m u).1⟩,fin (of_decide_eq_false i)⟩,by omega⟩⟩);have i:=of_decide_eq_true i;have e:=ixt (l:=l) ⟨B,i⟩;have u:=d _ (d8 (aK .nms) B i);have E:=lj (aK .nms) B i;obtain⟨m,ac⟩:∃m,m=Ai l k.toNat (aK .nms):=⟨_,rfl⟩
 rw[<-ac] at u E ⊢;rw[dj B (by omega),aLJ];refine aD e (aB (λC=>aD e (aY (aHv m.x u.2.2.1.2.1) (λr2 _=>aD e (aD e (aY (aDU es _ (by omega)) ?_))))) (λ_=>aD e (aY (aB2 c m hF u) ?_)))
 ·rintro r3 ⟨-,h3⟩;refine aB (λD=>aD e (R _ _ _ (by simpa using D))) (λ_=>?_);have h3:r3.length=es.length+1:=h3;exact L (c,l,k+1,[],[],ms,r3) ⟨rfl,by first|omega|(dsimp only;omega),by first|omega|(dsimp only;omega),by first|omega|(dsimp only;omega),A,λx d p=>by
   rw[E] at d;rcases Aw.1 d with d|d;·exact w x d p
   ·rw[Av.1 d] at p;have C:m.kind=17:=by simpa using C
    rw[C] at p;exact absurd p (by decide)⟩ (by first|omega|(dsimp only;omega))
 ·rintro⟨r4,e4⟩ ⟨-,F⟩;dsimp only[vy] at F ⊢;refine aY (awx ms r4 (by omega)) ?_;rintro r5 ⟨-,h5,Z⟩;refine aB (λD=>aD e (R _ _ _ (by simpa using D))) (λD=>?_);have F:=F (by simpa using D);exact L (c,l,k+1,[],[],r5,es) ⟨rfl,by first|omega|(dsimp only;omega),by first|omega|(dsimp only;omega),by first|omega|(dsimp only;omega),λy X=>by
   rcases(Z y).1 X with h|rfl;·exact A y h
   ·exact⟨F.1,F.2.2⟩,λx d p=>by
   rw[E] at d;rcases Aw.1 d with d|d;·obtain⟨z,P,e⟩:=w x d p;exact⟨z,(Z z).2 (.inl P),e⟩
   ·rw[Av.1 d];exact⟨r4,(Z r4).2 (.inr rfl),F.2.1⟩⟩ (by first|omega|(dsimp only;omega))
theorem aoC(l:List et)(fs:List ca)(e:Int)(f:Bs)(a p:Int)(s:Bs)(q:Int):∃r,gI l fs e f a p s q r:=by apply ajS 1;unfold aa1 aa0;dsimp only;refine aB (λ_=>aG ⟨_,_,_,_,_,_,rfl,rfl,rfl,rfl,λh=>h⟩) (λb=>aG ⟨_,_,_,_,_,_,rfl,rfl,rfl,rfl,λ_=>by simpa using b⟩)
theorem aut(l:List et)(fs:List ca)(e:Int)(f:Bs)(a:Int)(s:Bs)(u:l.length<=100):∃r,iz l fs e f a s r:=by
 obtain⟨N,v⟩:∃N:Nat,N=1000:=⟨_,rfl⟩
 apply ahg N;unfold yf gU;refine bj (λ(y:gg)=>match y with|(s',k,r)=>s'=s∧r=(l,fs,e,f,a)∧0<=k∧k<=l.length∧aji (l.drop k.toNat) s=aji l s) (λy=>(l.length-y.2.1).toNat) ?_ _ _ ⟨rfl,rfl,As _,by omega,rfl⟩ (by dsimp only;omega);rintro d ⟨s',k,r⟩ ⟨q,p,i,w,b⟩ j;subst q p;dsimp only at j;unfold kb;dsimp only;refine aB (λc=>?_) (λc=>?_)
 ·have c:=of_decide_eq_true c;have e:=ixt (l:=l) ⟨i,c⟩;rw[fp (aK .src) i c] at b;obtain⟨x,m⟩:∃x,x=Ai l k.toNat (aK .src):=⟨_,rfl⟩
  rw[<-m] at b ⊢;refine aD e (aB (λh=>aD e (aG ⟨_,_,_,_,_,_,_,_,rfl,rfl,rfl,?_⟩)) (λh=>?_));·rw[<-b];simp only[aji,CB,h]
  ·rw[dj i (by omega)];refine j _ ⟨rfl,rfl,by first|omega|(dsimp only;omega),by first|omega|(dsimp only;omega),?_⟩ (by first|omega|(dsimp only;omega));rw[<-b];simp only[aji,CB,h]
 ·rw[gB (of_decide_eq_false c)] at b;exact aG ⟨_,_,_,_,_,_,_,_,rfl,rfl,rfl,b⟩
theorem aKA(x:et):aji [x] x.name=(x.text,true):=by simp[aji]
theorem aLU{x:et}{s:Bs}(h:(aji [x] s).2 =true):x.name=s:=by
 unfold aji at h;by_cases e:x.name=s;·exact e
 ·rw[List.find?_cons_of_neg (by simpa using e)] at h;simp at h
def DnQ:V×List aJ->Prop:=λz=>∃(d:List et)(a:List ca)(b:Int)(c:Bs)(e:Int)(rest:List aJ),z.1.dimR=.tup []∧z.2=some [.sl .src (.may false) d,.sl .fil .own a,.int .i64 b,.str c,.int .i64 e]::rest∧(b=0->xS a)
set_option maxHeartbeats 4000000 in
theorem aI0(x:et)(hT:Made x.text):∃r,kp [x] [] 0 [] 0 x.name [] r:=by
 obtain⟨N,hN⟩:∃N:Nat,N=1000:=⟨_,rfl⟩
 apply ajU N;show Tot _ DnQ;unfold aa3 jy;refine aY (aut _ _ _ _ _ _ (by simp)) ?_;rintro⟨t,is,r⟩ ⟨-,q,d⟩;dsimp only[ji] at q d ⊢;rw[aKA] at d;cases d;subst q;dsimp only;refine aY (aHu _ hT) ?_;rintro⟨pk,j,ms,es,e,a⟩ ⟨-,hp⟩;dsimp only[yP] at hp ⊢;refine aB (λL=>aY (aoC _ _ _ _ _ _ _ _) ?_) (λL=>?_);·rintro⟨l,fs,H,I,J⟩ ⟨-,d,p,W⟩;dsimp only at d p W ⊢;exact aG ⟨_,_,_,_,_,_,rfl,rfl,λh=>absurd h (W (by simpa using L))⟩
 have Z:=hp (by simpa using L);refine aD (by decide) (aD (by simp) ?_);have ab:=Z.2.1.1;refine bj (λ(y:dy)=>match y with|(X,op,v,C,z,B,b,k,l,fs,H,I,J)=>(X,op,v,C,z,B,l,fs)=(x.name,[]++[]++[x.name],pk,j,ms,es,[x],[])∧0<=k∧k<=j.length∧(b.length:Int)<=k) (λy=>(j.length-y.2.2.2.2.2.2.2.1).toNat) ?_ _ _ ⟨rfl,As _,by omega,by simp⟩ (by dsimp only;omega);rintro c ⟨X,op,v,C,z,B,b,k,l,fs,H,I,J⟩ ⟨q,Y,k1,ad⟩ G;cases q;dsimp only at G;unfold mg kZ;dsimp only;have E:Tot (chk (decide ((Aa b+Aa ([x.name]:Bss))*16<=140737488355328)) (chk (decide ((Aa ([]:List ca)+Aa ([⟨x.name,pk,j,ms,es,b++[x.name]⟩]:List ca))*128<=140737488355328)) (some ((.tup [],[some [.sl .src (.may false) [x],.sl .fil .own ([]++[⟨x.name,pk,j,ms,es,b++[x.name]⟩]),.int .i64 H,.str I,.int .i64 J]]):V×List aJ)))) DnQ:=by refine aD (decide_eq_true (by simp only[Af,Ak];omega)) (aD (by simp) (aG ⟨_,_,_,_,_,_,rfl,rfl,λ_=>⟨by simp,λf w=>?_⟩⟩));simp only[Bg,Av] at w;subst w;exact⟨Z,by simp only[Aj,Af,Ak];omega⟩
 refine aB (λO=>aB (λ_=>?_) (λ_=>E)) (λ_=>E);have O:=of_decide_eq_true O;refine aD (ixt ⟨Y,O⟩) (aY (aut _ _ _ _ _ _ (by simp)) ?_);rintro⟨t,is,r⟩ ⟨-,q,i⟩;dsimp only[ji] at q i ⊢;subst q;dsimp only;obtain⟨F,R⟩:∃F,F=Ai j k.toNat (aK .str):=⟨_,rfl⟩
 rw[<-R] at i ⊢;rw[show N=N from rfl];obtain⟨M,hM⟩:∃M,N=M+1:=⟨999,by omega⟩
 rw[hM];show Tot (fR (M+1) c _ _) DnQ;unfold fR;dsimp only;refine aB (λh=>by simp at h) (λ_=>?_);rw[dj Y (by omega)];have next:∀(u:Int)(A:Bs)(D:Int),Tot (aA (eM b F) (λ(r6:Bool)=>cond (!r6) (chk (decide ((Aa b+Aa ([F]:Bss))*16<=140737488355328)) (c (x.name,[]++[]++[x.name],pk,j,ms,es,b++[F],k+1,[x],[],u,A,D))) (c (x.name,[]++[]++[x.name],pk,j,ms,es,b,k+1,[x],[],u,A,D)))) DnQ:=by
  intro u A D;refine aox (by omega) (λ_=>aB (λh=>by simp at h) (λ_=>?_)) (λ_=>aB (λ_=>aD (decide_eq_true (by simp only[Af,Ak];omega)) ?_) (λh=>by simp at h));·exact G _ ⟨rfl,by first|omega|(dsimp only;omega),by first|omega|(dsimp only;omega),by first|omega|(dsimp only;omega)⟩ (by first|omega|(dsimp only;omega))
  ·exact G _ ⟨rfl,by first|omega|(dsimp only;omega),by first|omega|(dsimp only;omega),by simp only[Aj,Af,Ak];omega⟩ (by first|omega|(dsimp only;omega))
 refine aB (λ_=>aY (aoC _ _ _ _ _ _ _ _) ?_) (λm=>aox (by simp) (λ_=>aB (λ_=>aY (aoC _ _ _ _ _ _ _ _) ?_) (λh=>by simp at h)) (λS=>?_));·rintro⟨l,fs,u,A,D⟩ ⟨-,d,p, -⟩;dsimp only at d p ⊢;subst d p;exact next _ _ _
 ·rintro⟨l,fs,u,A,D⟩ ⟨-,d,p, -⟩;dsimp only at d p ⊢;subst d p;exact next _ _ _
 ·have m:is=true:=by simpa using m
  have P:=aLU (by rw[<-i];exact m);exact absurd (by rw[P];simp) S
theorem aI1(x:et)(p:Made x.text):∃r,ab8 [x] r:=by
 obtain⟨N,z⟩:∃N:Nat,N=3:=⟨_,rfl⟩
 apply ayN N;unfold anQ uh;dsimp only;refine aB (λh=>by simp at h) (λ_=>?_);refine bj (λ(y:gp)=>y.1=[x]∧0<=y.2∧y.2<=1) (λy=>(1-y.2).toNat) ?_ _ _ ⟨rfl,As _,by dsimp only;omega⟩ (by dsimp only;omega);rintro i ⟨l,k⟩ ⟨q,w,u⟩ j;dsimp only at q w u j;subst q;unfold xf uY;dsimp only;refine aB (λb=>?_) (λ_=>aD (by simp) (aY (aI0 x p) ?_))
 ·have b:=of_decide_eq_true b;have b:k=0:=by simp at b;omega
  subst b;refine bj (λ(y:rL)=>y=([x],0,0)) (λy=>0) ?_ _ _ rfl (by omega);rintro c _ rfl v;unfold rM;dsimp only;refine aB (λh=>by simp at h) (λ_=>j ([x],1) ⟨rfl,by first|omega|(dsimp only;omega),by first|omega|(dsimp only;omega)⟩ (by first|omega|(dsimp only;omega)))
 ·rintro⟨l,fs,e,f,a⟩ ⟨-,h⟩;dsimp only[pH] at h ⊢;refine aB (λd=>aG ⟨_,_,_,_,_,rfl,rfl,λm=>?_⟩) (λd=>aG ⟨_,_,_,_,_,rfl,rfl,λ_=>h (by simpa using d)⟩);dsimp only at m;rw[m] at d;simp at d
theorem aB3(ms:List PMs)(es:List PEn)(s:Bs)(h:ms.length<=1000):∃r,pK ms es s r:=by
 obtain⟨N,z⟩:∃N:Nat,N=2000:=⟨_,rfl⟩
 apply ase N;unfold agw om;refine bj (λ(y:mU)=>match y with|(s',j,i,k,a,b,c)=>(s',j,i,a,b,c)=(s,ms,es,[],[],[])∧0<=k∧k<=ms.length∧dh (ms.drop k.toNat) s=dh ms s) (λy=>(ms.length-y.2.2.2.1).toNat) ?_ _ _ ⟨rfl,As _,by omega,rfl⟩ (by dsimp only;omega);rintro p ⟨s',j,i,k,a,b,c⟩ ⟨q,v,A,f⟩ w;cases q;dsimp only at w;unfold qR;dsimp only;refine aB (λd=>?_) (λd=>?_)
 ·have d:=of_decide_eq_true d;have e:=ixt (l:=ms) ⟨v,d⟩;rw[fp (aK .pms) v d] at f;obtain⟨m,x⟩:∃m,m=Ai ms k.toNat (aK .pms):=⟨_,rfl⟩
  rw[<-x] at f ⊢;refine aD e (aB (λu=>aD e (aG ⟨m,true,_,rfl,rfl,?_⟩)) (λu=>?_));·show _=dh ms s;rw[<-f];simp only[dh,CB,u]
  ·rw[dj v (by omega)];refine w _ ⟨rfl,by first|omega|(dsimp only;omega),by first|omega|(dsimp only;omega),?_⟩ (by first|omega|(dsimp only;omega));rw[<-f];simp only[dh,CB,u]
 ·have d:=of_decide_eq_false d;rw[gB d] at f;exact aG ⟨⟨[],[],[]⟩,false,_,rfl,rfl,f⟩
theorem ard{ms:List PMs}{es:List PEn}{s:Bs}{K:PMs×Bool->Ro}(h:ms.length<=1000)(a:Tot (K (dh ms s)) Q):Tot (aA (pK ms es s) K) Q:=aT (aB3 ms es s h) (λ_ h=>h.2) a
theorem aiB{ms:List PMs}(s:Bs)(h:ajh ms):sQ (dh ms s).1 :=by
 unfold dh;split;·rename_i m a;exact h.2 m (Cf a)
 ·exact⟨by decide,λf b=>by simp at b,by decide,by simp⟩
theorem yp{m:PMs}(n:Int)(h:sQ m)(a:(cQ m n).2 =true):aps (cQ m n).1 ∧(cQ m n).1.num =n∧(cQ m n).1 ∈m.fields:=by
 unfold cQ at a ⊢;split at a;·rename_i f b;dsimp only;exact⟨h.2.1 f (Cf b),by have:=List.find?_some b;simpa using this,Cf b⟩
 ·simp at a
end
end Go.Proofs.YtndccphabnjkhaaGreat
end
