import Derived.KernelRfl
import Derived.Test.YtndccphabnjkhaaGreatChecked
import Derived.WalkKit
import Derived.WalkSpells
import Derived.Laws.Externs
import Derived.Lib.Builder
import Derived.Lib.UnsafeStr
import Derived.Test.YtndccphabnjkhaaGreatZ02
import Derived.Test.YtndccphabnjkhaaGreatZ03
import Derived.Test.YtndccphabnjkhaaGreatZ04
import Derived.Test.YtndccphabnjkhaaGreatZ05
import Derived.Test.YtndccphabnjkhaaGreatZ07
open Array renaming getElem?_eq_getElem→Am,getElem?_eq_some_iff→A1,getElem?_eq_none→B7,getElem?_modify→Cz
open Bool renaming and_eq_true→Ac,not_false→A9,or_eq_true→Bl,true_and→Bp,and_false→Br,eq_iff_iff→BD,not_eq_true'→BW,not_true→B2,or_eq_false_iff→Cj,and_true→Cl,false_and→Cs,false_eq_true→Cw,false_or→CE,or_false→CM,not_eq_false'→DT
open Eq renaming trans→AE
open Go.Builtin renaming unsafeString_→Dx,unsafeSliceData_→Ea
open Go.IntKind renaming wrap→Ab
open Go.Lib renaming run_unsafeString_none→Dc,run_unsafeSliceData_row→DX
open Go.Op renaming bytesLess→AO
open Go.Oper renaming upon_value→DB
open Go.World renaming cell?→BM,frozen?→CD,freeze→C0
open Int renaming toNat→Ad,le_refl→As,toNat_natCast→AC,tmod→Bd,tmod_eq_emod_of_nonneg→Bh,natCast_nonneg→CR,mul_le_mul_of_nonneg_right→DD,add_mul→DS
open List renaming length→Aa,length_cons→Af,getElem?_eq_some_iff→Ag,getElem?_eq_getElem→Ah,getD→Ai,length_append→Aj,length_nil→Ak,drop→An,take→Ao,getD_eq_getElem?_getD→Ar,mem_of_getElem?→At,mem_singleton→Av,mem_append→Aw,getElem?_set→Ay,all_eq_true→AA,append_assoc→AB,mem_map→AD,map_append→AK,map_cons→AL,mem_cons→AN,cons_append→AP,take_length→AQ,length_set→AR,drop_eq_getElem_cons→AX,mem_cons_self→AZ,append_nil→A5,take_append_drop→Ba,nil_append→Bg,pairwise_append→By,pairwise_cons→BA,drop_left→BB,length_take→BE,getD_cons_zero→BH,getElem?_set_ne→BK,mem_append_left→BS,mem_map_of_mem→BX,mem_append_right→Cd,mem_of_find?_eq_some→Cf,length_pos_iff→Cr,getElem?_set_self→Cv,find?_eq_none→Cx,singleton_append→Cy,take_left'→CA,find?_cons→CB,all_cons→CN,take_of_length_le→CT,contains_cons→Df,length_eq_zero_iff→Dn,ext_getElem?→Do,any_eq_false→Dr,all_append→DI,contains_nil→D5
open List.Sublist renaming refl→Dq
open Nat renaming le_refl→Ap,lt_or_ge→AH,lt_of_lt_of_le→AI,zero_le→A0,le_trans→A6,mul_comm→BZ,pow_succ→B5,div_lt_of_lt_mul→Ch,add_assoc→CC,mul_one→CI,strongRecOn→DG
open Ne renaming symm→C8
open Option renaming map_eq_some_iff→Aq,getD_some→Bo,map_some→BC
open Option.some renaming injEq→Ae
open Prod renaming fst→BP
open Prod.mk renaming injEq→Al
open UInt8 renaming ofNat→Az,toNat_lt→BT,toNat_inj→Ci
set_option linter.all false
set_option maxRecDepth 100000
noncomputable section
namespace Go.Proofs.YtndccphabnjkhaaGreat
open Go.AM
def asw:aI:=tb_ [] [] [] []
def aqn:IR:=Rs [Mb 2 false] (Sq (Rs [Mv 3 0] (.block 0 (Sq (Rs [Bc 5 .eql 3 3,Mv 4 5] (Cn 4 .skip (Rs [Bc 6 .eql 3 4,Mv 4 6] (Cn 4 .skip (Rs [Bc 7 .eql 3 7,Mv 4 7] (Cn 4 .skip (Rs [Bc 8 .eql 3 8,Mv 4 8] (Cn 4 .skip (Rs [Bc 9 .eql 3 11,Mv 4 9] (Cn 4 .skip (Rs [Bc 10 .eql 3 12,Mv 4 10] (Cn 4 .skip (Rg [Bc 11 .eql 3 17,Mv 4 11]))))))))))))) (Cn 4 (Rs [Mb 2 true] .ret) .skip)))) (Rs [Mb 2 false] .ret))
theorem aqo:FnC Tryz.prog asw [] 0 136 Tryz.f136 aqn aE:=fnC Tryz.func136
def ad3(N:Nat)(a:Int):Ro:=cond (a==3) (some (vB true,[])) (cond (a==4) (some (vB true,[])) (cond (a==7) (some (vB true,[])) (cond (a==8) (some (vB true,[])) (cond (a==11) (some (vB true,[])) (cond (a==12) (some (vB true,[])) (cond (a==17) (some (vB true,[])) (some (vB false,[]))))))))
def ad4(N:Nat)(a:Int):Ro:=ad3 N a
theorem aoD(N:Nat)(b:Int)(h:Tot (ad4 N b) (λz=>∃a rest,z.1.dimR=vB a∧z.2=rest∧sD b (a))):∃r,gv b r:=aqo.finP (N:=N) (by kernel_rfl) h λ_ ⟨a,_,e,_,q⟩=>⟨(a),e,q⟩
def aDV:aI:=tb_ [] [] [] [ask]
def aB4:IR:=Rs [Bx 4 1,Bx 5 2,Mi 6 0] (Sq (.block 0 (Rs [Mv 8 0,Bc 9 .eql 8 16,Mv 7 9] (Cn 7 (Rs [Mi 6 0] .ret) (Rs [Mv 11 0,Bc 12 .eql 11 14,Mv 13 12,Gf 13 (.mov 14 0),Gf 13 (.bin 15 .eql 14 (kI 15)),Po 16 13 15,Mv 10 16] (Cn 10 (Sq (Rs [Fa 17 1 4,Lq 18 17,Fa 19 1 5,Lq 20 19,Bi 21 .lss 18 20] (Cn 21 (Rs [Mi 6 (-1)] .ret) .skip)) (Sq (Rs [Fa 22 1 4,Lq 23 22,Fa 24 1 5,Lq 25 24,Bi 26 .gtr 23 25] (Cn 26 (Rs [Mi 6 1] .ret) .skip)) (Rs [Mi 6 0] .ret))) (Rs [Fa 28 0 4,Lq 29 28,Fa 30 0 5,Lq 31 30,Bi 32 .eql 29 31,Mv 27 32] (Cn 27 (Rs [Mi 6 0] .ret) (Sq (Rs [Mv 34 0,Ca 35 136 [34],Mv 36 35,Gt 36 (.fad 37 0 4),Gt 36 (.lde 38 1 false 37),Gt 36 (.cvi 39 .i64 38),Gt 36 (.fad 40 0 5),Gt 36 (.lde 41 1 false 40),Gt 36 (.cvi 42 .i64 41),Gt 36 (.bin 43 .lss 39 42),Pa 44 36 43,Mv 33 44] (Cn 33 .skip (Rg [Mv 45 0,Ca 46 136 [45],Un 47 46,Mv 48 47,Gt 48 (.fad 49 0 4),Gt 48 (.lde 50 1 false 49),Gt 48 (.fad 51 0 5),Gt 48 (.lde 52 1 false 51),Gt 48 (.bin 53 .lss 50 52),Pa 54 48 53,Mv 33 54]))) (Cn 33 (Rs [Mi 6 (-1)] .ret) .skip))))))))) (Rs [Mi 6 1] .ret))
theorem aB5:FnC Tryz.prog aDV [] 0 79 Tryz.f79 aB4 br:=fnC Tryz.func79
def aoE(N:Nat)(c:Int)(a b:aC):Ro:=
 let d:=(some (vI (-1),[]):Ro)
 cond (c==16) (
  some (vI 0,[])) (
  cond (c==14) (
   cond (AO a.s b.s) (
    d) (
    let e:=(!(AO a.s b.s||decide (a.s=b.s)))
    cond e (
     some (vI 1,[])) (
     some (vI 0,[])))) (
   cond (c==15) (
    cond (AO a.s b.s) (
     d) (
     let f:=(!(AO a.s b.s||decide (a.s=b.s)))
     cond f (
      some (.int .i64 1,[])) (
      some (.int .i64 0,[])))) (
    cond (a.n==b.n) (
     some (.int .i64 0,[])) (
     aA (gv c) (λ(g:Bool)=>
      cond g (
       let h:=decide ((Ab .i64 a.n)<(Ab .i64 b.n))
       cond h (
        d) (
        aA (gv c) (λ(i:Bool)=>
         cond (!i) (
          cond (decide (a.n<b.n)) (
           d) (
           some (vI 1,[]))) (
          some (vI 1,[]))))) (
       aA (gv c) (λ(j:Bool)=>
        cond (!j) (
         cond (decide (a.n<b.n)) (
          d) (
          some (vI 1,[]))) (
         some (vI 1,[])))))))))
def aoF(N:Nat)(a:Int)(b c:aC):Ro:=aoE N a b c
theorem ay6(N:Nat)(b:Int)(c d:aC)(h:Tot (aoF N b c d) (λz=>∃a rest,z.1.dimR=vI a∧z.2=rest∧aig b c d (a))):∃r,o9 b c d r:=aB5.finP (N:=N) (by kernel_rfl) h λ_ ⟨a,_,e,_,q⟩=>⟨(a),e,q⟩
def ahi:aI:=tb_ [] [] [] []
def aiC:IR:=Sq (Rs [Mv 7 6,Fa 8 0 2,Lq 9 8,Ll 10 9,Bi 11 .lss 7 10] (Cn 11 .skip (.exit 0))) (Sq (.block 1 (Rs [Fa 14 0 2,Lq 15 14,Mv 16 6,Ix 17 .pfd 15 16,Fa 18 0 17,Lo 19 18,Mv 20 1,Bi 21 .eql 19 20] (Cn 21 (Rs [Fa 22 0 2,Lq 23 22,Mv 24 6,Ix 25 .pfd 23 24,Fa 26 1 25,Lo 27 26,Mv 4 27,Mb 5 true] .ret) .skip))) (Rg [Mv 12 6,Bc 13 .add 12 1,Mv 6 13]))
def aiD:IR:=Rs [Pp (.mov 4 (.c (nl .pval))),Mb 5 false] .ret
def aB6:IR:=Rs [Bx 2 0,Pp (.mov 4 (.c (nl .pval))),Mb 5 false] (Sq (Rs [Mi 6 0] (.block 0 (.loop [1,2,6,1000000] 0 aiC))) aiD)
theorem aB7:FnC Tryz.prog ahi [] 0 21 Tryz.f21 aB6 gT:=fnC Tryz.func21
def ay7(R:TRr)(a:TS):TE:=(bu a [1,2,6,1000000] 0 (aP 0 (kseq (R aiD) (fin gT))))
abbrev rR:Type:=(Int×List (Int×List aC)×Bs×Int)
def ve:rR->St:=λ(a,b,c,d)=>{env:=(.undef::vI a::.ea [vF .pfd b,vT c]::(U 3 (vI d::(U 21 [])))),hp:=[]}
def adx(N:Nat):TS->TS:=λa s=>run ahi N aiC (ay7 (run ahi N) a) s
def xi(N:Nat)(b:rR->Ro):rR->Ro:=λ(e,a,d,c)=>let f:=(↑(Aa a):Int);cond (decide (c<f)) (chk (ixl c a) (let g:=(Ai a (Ad c) (aK .pfd));cond (g.1==e) (chk (ixl c a) (let h:=(Ai a (Ad c) (aK .pfd));some (.tup [vF .pval h.2,vB true],[]))) (let i:=(Ab .i64 (c+1));b (e,a,d,i)))) (some (.tup [vF .pval [],vB false],[]))
theorem awy(N:Nat):LB (adx N) ve (xi N):=λ_ _=>by kernel_rfl
def uu(N:Nat)(a:List (Int×List aC))(b:Bs)(c:Int)(d:rR->Ro):Ro:=d (c,a,b,0)
def aoG(N:Nat)(a:List (Int×List aC))(b:Bs)(c:Int):Ro:=uu N a b c (λz=>aN N (xi N) z)
theorem ay8(N:Nat)(a:List (Int×List aC))(c:Bs)(d:Int)(h:Tot (aoG N a c d) (λz=>∃f g rest,z.1.dimR=.tup [vF .pval f,vB g]∧z.2=rest∧aii a c d (f,g))):∃r,si a c d r:=aB7.finP (N:=N) ((bK _ (by kernel_rfl) rfl (λC=>uu N a c d (λz=>C 1000000 (ve z))) (λC=>by kernel_rfl)).trans (AE (b:=uu N a c d (λz=>aZ N (adx N) (ve z))) (by kernel_rfl) (congrArg (uu N a c d) (funext λz=>aW (ve) (adx N) (xi N) (awy N) N z)))) h λ_ ⟨f,g,_,e,_,q⟩=>⟨(f,g),e,q⟩
def ahj:aI:=tb_ [] [] [] []
def aiE:IR:=Sq (Rs [Mv 10 7,Fa 11 0 3,Lo 12 11,Ll 13 12,Bi 14 .lss 10 13,Mv 15 14,Gt 15 (.fad 16 0 3),Gt 15 (.ld 17 1 false false 16),Gt 15 (.mov 18 7),Gt 15 (.ixa 19 .pfd 17 18),Gt 15 (.fad 20 0 19),Gt 15 (.ld 21 1 false false 20),Gt 15 (.mov 22 1),Gt 15 (.bin 23 .lss 21 22),Pa 24 15 23] (Cn 24 .skip (.exit 0))) (.block 1 (Rg [Mv 25 7,Bc 26 .add 25 1,Mv 7 26]))
def agJ:IR:=Rs [Fa 27 0 3,Lo 28 27,Mv 29 7,Pp (.subl 30 .pfd 28 (some 29) none),Mv 8 30] (Sq (Rs [Mv 31 7,Fa 32 0 3,Lo 33 32,Ll 34 33,Bi 35 .lss 31 34,Mv 36 35,Gt 36 (.fad 37 0 3),Gt 36 (.ld 38 1 false false 37),Gt 36 (.mov 39 7),Gt 36 (.ixa 40 .pfd 38 39),Gt 36 (.fad 41 0 40),Gt 36 (.ld 42 1 false false 41),Gt 36 (.mov 43 1),Gt 36 (.bin 44 .eql 42 43),Pa 45 36 44] (Cn 45 (Rg [Fa 46 0 3,Lo 47 46,Mv 48 7,Bc 49 .add 48 1,Pp (.subl 50 .pfd 47 (some 49) none),Mv 8 50]) .skip)) (Rs [Pp (.bsl 51 .pfd [] false),Fa 52 0 3,Lo 53 52,Mv 54 7,Pp (.subl 55 .pfd 53 none (some 54)),Pp (.app 56 .pfd (.tk 51) 55),Pp (.mov 9 (.tk 56))] (Sq (Rs [Mv 57 2,Ll 58 57,Bc 59 .gtr 58 0] (Cn 59 (Rg [Pp (.mov 60 (.tk 9)),Mv 61 1,Mv 62 2,Pp (.bld 63 [vI 0,fu .pval true] [(0,1,61),(1,1,62)]),Pp (.bsl 64 .pfd [63] true),Pp (.app 65 .pfd (.tk 60) 64),Pp (.mov 9 (.tk 65))]) .skip)) (Rs [Pp (.mov 66 (.tk 9)),Mv 67 8,Pp (.app 68 .pfd (.tk 66) 67),Fa 69 0 3,Sk 1 69 68] (Rs [Pp (.ld 70 2 true false 3),Sv 2 6 70] .ret)))))
def aB8:IR:=Rs [Pp (.box 3 0),Pp (.new 6 [nl .pfd,vS])] (Rs [Mi 7 0] (Sq (.block 0 (.loop [1,2,3,6,7,1000000] 2 aiE)) agJ))
def aaj:List RV:=[.cell 6 2 true]
theorem aB9:FnC Tryz.prog ahj [] 0 83 Tryz.f83 aB8 aaj:=fnC Tryz.func83
def ay9(R:TRr)(a:TS):TE:=(bu a [1,2,3,6,7,1000000] 2 (aP 0 (kseq (R agJ) (fin aaj))))
abbrev rS:Type:=(Int×List aC×Int×List (Int×List aC)×Bs×List (Int×List aC)×Bs)
def vf:rS->St:=λ(a,b,c,d,e,f,g)=>{env:=(.undef::vI a::vF .pval b::.ptr 0 0::.undef::.undef::.ptr 1 0::vI c::(U 63 [])),hp:=[some [vF .pfd d,vT e],some [vO .pfd f,vT g]]}
def ady(N:Nat):TS->TS:=λa s=>run ahj N aiE (ay9 (run ahj N) a) s
def xj(N:Nat)(h:rS->Ro):rS->Ro:=λ(e,c,b,a,f,r,s)=>let S:=(↑(Aa a):Int);let g:=λC=>(some (.agg [vF .pfd C,vT f],[some [vO .pfd C,vT f],some [vF .pfd C,vT f]]):Ro);cond (decide (b<S)) (chk (ixl b a) (let J:=(Ai a (Ad b) (aK .pfd));cond (decide (J.1<e)) (let X:=(Ab .i64 (b+1));h (e,c,X,a,f,r,s)) (chk (decide (0<=b)&&decide (b<=(↑(Aa a):Int))) (let p:=(An (Ad b) (Ao (Aa a) a));let I:=(↑(Aa a):Int);cond (decide (b<I)) (chk (ixl b a) (let R:=(Ai a (Ad b) (aK .pfd));cond (R.1==e) (let B:=(Ab .i64 (b+1));chk (decide (0<=B)&&decide (B<=(↑(Aa a):Int))) (let A:=(An (Ad B) (Ao (Aa a) a));chk (decide (0<=b)&&decide (b<=(↑(Aa a):Int))) (let E:=(An 0 (Ao (Ad b) a));chk (decide ((Aa ([]:List (Int×List aC))+Aa E)*32<=140737488355328)) (let i:=(([]:List (Int×List aC))++E);let P:=(↑(Aa c):Int);cond (decide (0<P)) (chk (decide ((Aa i+Aa ([⟨e,c⟩]:List (Int×List aC)))*32<=140737488355328)) (let t:=(i++([⟨e,c⟩]:List (Int×List aC)));chk (decide ((Aa t+Aa A)*32<=140737488355328)) (g (t++A)))) (chk (decide ((Aa i+Aa A)*32<=140737488355328)) (g (i++A))))))) (chk (decide (0<=b)&&decide (b<=(↑(Aa a):Int))) (let u:=(An 0 (Ao (Ad b) a));chk (decide ((Aa ([]:List (Int×List aC))+Aa u)*32<=140737488355328)) (let j:=(([]:List (Int×List aC))++u);let Y:=(↑(Aa c):Int);cond (decide (0<Y)) (chk (decide ((Aa j+Aa ([⟨e,c⟩]:List (Int×List aC)))*32<=140737488355328)) (let v:=(j++([⟨e,c⟩]:List (Int×List aC)));chk (decide ((Aa v+Aa p)*32<=140737488355328)) (g (v++p)))) (chk (decide ((Aa j+Aa p)*32<=140737488355328)) (g (j++p)))))))) (chk (decide (0<=b)&&decide (b<=(↑(Aa a):Int))) (let w:=(An 0 (Ao (Ad b) a));chk (decide ((Aa ([]:List (Int×List aC))+Aa w)*32<=140737488355328)) (let k:=(([]:List (Int×List aC))++w);let W:=(↑(Aa c):Int);cond (decide (0<W)) (chk (decide ((Aa k+Aa ([⟨e,c⟩]:List (Int×List aC)))*32<=140737488355328)) (let x:=(k++([⟨e,c⟩]:List (Int×List aC)));chk (decide ((Aa x+Aa p)*32<=140737488355328)) (g (x++p)))) (chk (decide ((Aa k+Aa p)*32<=140737488355328)) (g (k++p)))))))))) (chk (decide (0<=b)&&decide (b<=(↑(Aa a):Int))) (let d:=(An (Ad b) (Ao (Aa a) a));let Q:=(↑(Aa a):Int);cond (decide (b<Q)) (chk (ixl b a) (let Z:=(Ai a (Ad b) (aK .pfd));cond (Z.1==e) (let q:=(Ab .i64 (b+1));chk (decide (0<=q)&&decide (q<=(↑(Aa a):Int))) (let l:=(An (Ad q) (Ao (Aa a) a));chk (decide (0<=b)&&decide (b<=(↑(Aa a):Int))) (let y:=(An 0 (Ao (Ad b) a));chk (decide ((Aa ([]:List (Int×List aC))+Aa y)*32<=140737488355328)) (let m:=(([]:List (Int×List aC))++y);let M:=(↑(Aa c):Int);cond (decide (0<M)) (chk (decide ((Aa m+Aa ([⟨e,c⟩]:List (Int×List aC)))*32<=140737488355328)) (let z:=(m++([⟨e,c⟩]:List (Int×List aC)));chk (decide ((Aa z+Aa l)*32<=140737488355328)) (g (z++l)))) (chk (decide ((Aa m+Aa l)*32<=140737488355328)) (g (m++l))))))) (chk (decide (0<=b)&&decide (b<=(↑(Aa a):Int))) (let F:=(An 0 (Ao (Ad b) a));chk (decide ((Aa ([]:List (Int×List aC))+Aa F)*32<=140737488355328)) (let n:=(([]:List (Int×List aC))++F);let L:=(↑(Aa c):Int);cond (decide (0<L)) (chk (decide ((Aa n+Aa ([⟨e,c⟩]:List (Int×List aC)))*32<=140737488355328)) (let G:=(n++([⟨e,c⟩]:List (Int×List aC)));chk (decide ((Aa G+Aa d)*32<=140737488355328)) (g (G++d)))) (chk (decide ((Aa n+Aa d)*32<=140737488355328)) (g (n++d)))))))) (chk (decide (0<=b)&&decide (b<=(↑(Aa a):Int))) (let H:=(An 0 (Ao (Ad b) a));chk (decide ((Aa ([]:List (Int×List aC))+Aa H)*32<=140737488355328)) (let o:=(([]:List (Int×List aC))++H);let O:=(↑(Aa c):Int);cond (decide (0<O)) (chk (decide ((Aa o+Aa ([⟨e,c⟩]:List (Int×List aC)))*32<=140737488355328)) (let D:=(o++([⟨e,c⟩]:List (Int×List aC)));chk (decide ((Aa D+Aa d)*32<=140737488355328)) (g (D++d)))) (chk (decide ((Aa o+Aa d)*32<=140737488355328)) (g (o++d))))))))
theorem awz(N:Nat):LB (ady N) vf (xj N):=λ_ _=>by kernel_rfl
def uv(N:Nat)(a:List (Int×List aC))(b:Bs)(c:Int)(d:List aC)(e:rS->Ro):Ro:=e (c,d,0,a,b,([]:List (Int×List aC)),[])
def aoH(N:Nat)(a:List (Int×List aC))(b:Bs)(c:Int)(d:List aC):Ro:=uv N a b c d (λz=>aN N (xj N) z)
theorem aza(N:Nat)(a:List (Int×List aC))(c:Bs)(d:Int)(f:List aC)(h:Tot (aoH N a c d f) (λz=>∃g i rest,z.1.dimR=.agg [vF .pfd g,vT i]∧z.2=rest∧aih a c d f (g,i))):∃r,fO a c d f r:=aB9.finP (N:=N) ((bK _ (by kernel_rfl) rfl (λC=>uv N a c d f (λz=>C 1000000 (vf z))) (λC=>by kernel_rfl)).trans (AE (b:=uv N a c d f (λz=>aZ N (ady N) (vf z))) (by kernel_rfl) (congrArg (uv N a c d f) (funext λz=>aW (vf) (ady N) (xj N) (awz N) N z)))) h λ_ ⟨g,i,_,e,_,q⟩=>⟨(g,i),e,q⟩
def adz:aI:=tb_ [] [] [] [aq9]
def afx:IR:=Sq (Rs [Fa 8 7 5,Lq 9 8,Bc 10 .gtr 9 0,Mv 11 10,Gt 11 (.mov 12 7),Gt 11 (.fad 13 1 3),Gt 11 (.lde 14 1 false 13),Gt 11 (.lenl 15 14),Gt 11 (.bin 16 .lss 12 15),Pa 17 11 16] (Cn 17 .skip (.exit 0))) (Sq (.block 1 (Sq (.reg [Fa 20 1 3,Lq 21 20,Mv 22 7,Ix 23 .pfl 21 22,Fa 24 7 23,Fo [] [] (.ld 25 1 false false 24),Fa 26 7 5,Lq 27 26,Bi 28 .eql 25 27,Mv 29 28,Gt 29 (.fad 30 1 3),Gt 29 (.lde 31 1 false 30),Gt 29 (.mov 32 7),Gt 29 (.ixa 33 .pfl 31 32),Gt 29 (.fad 34 0 33),⟨some (29,true),.ld 35 1 false false 34,some ([],[])⟩,Gt 29 (.fad 36 0 5),Gt 29 (.lde 37 1 false 36),Gt 29 (.bin 38 .neq 35 37),Pa 39 29 38] [[],[0],[],[0,1,2],rg 0 3,rg 0 4,[],[6],rg 0 7,rg 0 8,rg 0 9,rg 0 10,rg 0 9,rg 0 12,rg 0 13,rg 0 14,rg 0 9,rg 0 9++[16],rg 0 17,rg 0 18]) (Cn 39 (.reg [Fo [0] [] (.ld 40 2 true false 4),Fa 41 1 3,Lq 42 41,Mv 43 7,Ix 44 .pfl 42 43,Fa 45 0 44,Fo [] [] (.ld 46 1 false false 45),Ca 47 83 [40,46,.c (nl .pval)],Fo [] [0] (.st none 2 4 47)] [[],[],[1],[],[1,2,3],rg 1 4,rg 1 5,rg 0 6,rg 0 7]) .skip))) (Rg [Mv 18 7,Bc 19 .add 18 1,Mv 7 19]))
def afy:IR:=Rs [Pp (.ld 48 2 true false 4),Sv 2 6 48] .ret
def awA:IR:=Rs [Bx 3 0,Pp (.box 4 1),Bx 5 2,Pp (.new 6 [nl .pfd,vS])] (Sq (Rs [Mi 7 0] (.block 0 (.loop [3,4,5,6,7,1000000] 2 afx))) afy)
theorem awB:FnC Tryz.prog adz [] 0 81 Tryz.f81 awA aaj:=fnC Tryz.func81
def auu(R:TRr)(a:TS):TE:=(bu a [3,4,5,6,7,1000000] 2 (aP 0 (kseq (R afy) (fin aaj))))
abbrev oF:Type:=(PMs×PFl×Int×List (Int×List aC)×Bs×List (Int×List aC)×Bs)
def rm:oF->St:=λ(a,b,c,d,e,f,g)=>{env:=(U 3 (.ea (enc .pms a)::.ptr 0 0::.ea (enc .pfl b)::.ptr 1 0::vI c::(U 41 []))),hp:=[some [vF .pfd d,vT e],some [vO .pfd f,vT g]]}
def aak(N:Nat):TS->TS:=λa s=>run adz N afx (auu (run adz N) a) s
def tt(N:Nat)(c:oF->Ro):oF->Ro:=λ(f,h,g,a,b,d,e)=>let i:=(some (.agg [vF .pfd a,vT b],[some [vF .pfd a,vT b],some [vF .pfd a,vT b]]):Ro);cond (decide (0<h.oneof)) (let k:=(↑(Aa f.fields):Int);cond (decide (g<k)) (chk (ixl g f.fields) (let l:=(Ai f.fields (Ad g) (aK .pfl));cond (l.oneof==h.oneof) (chk (ixl g f.fields) (let m:=(Ai f.fields (Ad g) (aK .pfl));cond (!(m.num==h.num)) (chk (ixl g f.fields) (let n:=(Ai f.fields (Ad g) (aK .pfl));aA (fO a b n.num []) (λj=>let o:=(Ab .i64 (g+1));c (f,h,o,j.1,j.2,d,e)))) (let p:=(Ab .i64 (g+1));c (f,h,p,a,b,d,e)))) (let q:=(Ab .i64 (g+1));c (f,h,q,a,b,d,e)))) (i)) (i)
theorem asx(N:Nat):LB (aak N) rm (tt N):=λ_ _=>by kernel_rfl
def qa(N:Nat)(c:PMs)(a:List (Int×List aC))(b:Bs)(d:PFl)(e:oF->Ro):Ro:=e (c,d,0,a,b,([]:List (Int×List aC)),[])
def aiF(N:Nat)(c:PMs)(a:List (Int×List aC))(b:Bs)(d:PFl):Ro:=qa N c a b d (λz=>aN N (tt N) z)
theorem auv(N:Nat)(d:PMs)(a:List (Int×List aC))(c:Bs)(f:PFl)(h:Tot (aiF N d a c f) (λz=>∃g i rest,z.1.dimR=.agg [vF .pfd g,vT i]∧z.2=rest∧afm d a c f (g,i))):∃r,rQ d a c f r:=awB.finP (N:=N) ((bK _ (by kernel_rfl) rfl (λC=>qa N d a c f (λz=>C 1000000 (rm z))) (λC=>by kernel_rfl)).trans (AE (b:=qa N d a c f (λz=>aZ N (aak N) (rm z))) (by kernel_rfl) (congrArg (qa N d a c f) (funext λz=>aW (rm) (aak N) (tt N) (asx N) N z)))) h λ_ ⟨g,i,_,e,_,q⟩=>⟨(g,i),e,q⟩
def ahk:aI:=tb_ [] [] [] [aDH]
def aiG:IR:=Sq (Sq (.reg [Mv 11 9,Mv 12 1,Ll 13 12,Bi 14 .lss 11 13,Mv 15 14,Gt 15 (.mov 16 0),Gt 15 (.mov 17 1),Gt 15 (.mov 18 9),Gt 15 (.ixa 19 .pval 17 18),Gt 15 (.lde 20 4 true 19),Gt 15 (.lde 21 4 true 6),Gt 15 (.call 22 79 [16,20,21]),Gt 15 (.bin 23 .lss 22 (kI 0)),Pa 24 15 23] [[],[],[1],[0,1,2],rg 0 3,rg 0 4,rg 0 4,rg 0 4,rg 0 4++[6,7],rg 0 4++[6,7,8],rg 0 4,rg 0 10,rg 0 11,rg 0 12]) (Cn 24 .skip (.exit 0))) (.block 1 (Rg [Mv 25 9,Bc 26 .add 25 2,Mv 9 26]))
def aiH:IR:=Rs [Mv 27 1,Mv 28 9,Pp (.subl 29 .pval 27 (some 28) none),Mv 10 29] (Sq (Sq (.reg [Mv 30 9,Mv 31 1,Ll 32 31,Bi 33 .lss 30 32,Mv 34 33,Gt 34 (.mov 35 0),Gt 34 (.mov 36 1),Gt 34 (.mov 37 9),Gt 34 (.ixa 38 .pval 36 37),Gt 34 (.lde 39 4 true 38),Gt 34 (.lde 40 4 true 6),Gt 34 (.call 41 79 [35,39,40]),Gt 34 (.bin 42 .eql 41 (kI 0)),Pa 43 34 42] [[],[],[1],[0,1,2],rg 0 3,rg 0 4,rg 0 4,rg 0 4,rg 0 4++[6,7],rg 0 4++[6,7,8],rg 0 4,rg 0 10,rg 0 11,rg 0 12]) (Cn 43 (Rg [Mv 44 1,Mv 45 9,Bc 46 .add 45 2,Pp (.subl 47 .pval 44 (some 46) none),Mv 10 47]) .skip)) (Sq (.reg [Pp (.bsl 48 .pval [] false),Mv 49 1,Mv 50 9,Pp (.subl 51 .pval 49 none (some 50)),Pp (.app 52 .pval (.tk 48) 51),Ld 53 4 true 6,Ld 54 4 true 7,Pp (.bsl 55 .pval [53,54] true),Pp (.app 56 .pval (.tk 52) 55),Mv 57 10,Pp (.app 58 .pval (.tk 56) 57),Pp (.mov 8 (.tk 58))] [[],[],[],[1,2],rg 0 3,[],[],[5,6],rg 0 7,[],rg 0 9,rg 0 10]) .ret))
def aCa:IR:=Rs [Bx 6 2,Bx 7 3,Pp (.mov 8 (.c (nl .pval)))] (Rs [Mi 9 0] (Sq (.block 0 (.loop [0,1,6,7,9,1000000] 0 aiG)) aiH))
theorem aCb:FnC Tryz.prog ahk [] 0 44 Tryz.f44 aCa gS:=fnC Tryz.func44
def azb(R:TRr)(a:TS):TE:=(bu a [0,1,6,7,9,1000000] 0 (aP 0 (kseq (R aiH) (fin gS))))
abbrev rT:Type:=(Int×List aC×aC×aC×Int)
def vg:rT->St:=λ(a,b,c,d,e)=>{env:=(vI a::vF .pval b::(U 4 (.ea (enc .pval c)::.ea (enc .pval d)::.undef::vI e::(U 49 [])))),hp:=[]}
def adA(N:Nat):TS->TS:=λa s=>run ahk N aiG (azb (run ahk N) a) s
def xk(N:Nat)(e:rT->Ro):rT->Ro:=λ(y,b,c,d,a)=>let L:=(↑(Aa b):Int);cond (decide (a<L)) (chk (ixl a b) (let G:=(Ai b (Ad a) (aK .pval));aA (o9 y (reP G) (reP c)) (λ(H:Int)=>cond (decide (H<0)) (let I:=(Ab .i64 (a+2));e (y,b,c,d,I)) (chk (decide (0<=a)&&decide (a<=(↑(Aa b):Int))) (let z:=(An (Ad a) (Ao (Aa b) b));let E:=(↑(Aa b):Int);cond (decide (a<E)) (chk (ixl a b) (let F:=(Ai b (Ad a) (aK .pval));aA (o9 y (reP F) (reP c)) (λ(D:Int)=>cond (D==0) (let A:=(Ab .i64 (a+2));chk (decide (0<=A)&&decide (A<=(↑(Aa b):Int))) (let C:=(An (Ad A) (Ao (Aa b) b));chk (decide (0<=a)&&decide (a<=(↑(Aa b):Int))) (let B:=(An 0 (Ao (Ad a) b));chk (decide ((Aa ([]:List aC)+Aa B)*64<=140737488355328)) (chk (decide ((Aa ([]++B)+Aa ([(reP c),(reP d)]:List aC))*64<=140737488355328)) (let h:=(([]++B)++([(reP c),(reP d)]:List aC));chk (decide ((Aa h+Aa C)*64<=140737488355328)) (some (vO .pval (h++C),[]))))))) (chk (decide (0<=a)&&decide (a<=(↑(Aa b):Int))) (let i:=(An 0 (Ao (Ad a) b));chk (decide ((Aa ([]:List aC)+Aa i)*64<=140737488355328)) (let j:=([]++i);chk (decide ((Aa j+Aa ([(reP c),(reP d)]:List aC))*64<=140737488355328)) (let k:=(j++([(reP c),(reP d)]:List aC));chk (decide ((Aa k+Aa z)*64<=140737488355328)) (some (vO .pval (k++z),[]))))))))) (chk (decide (0<=a)&&decide (a<=(↑(Aa b):Int))) (let l:=(An 0 (Ao (Ad a) b));chk (decide ((Aa ([]:List aC)+Aa l)*64<=140737488355328)) (let m:=([]++l);chk (decide ((Aa m+Aa ([(reP c),(reP d)]:List aC))*64<=140737488355328)) (let n:=(m++([(reP c),(reP d)]:List aC));chk (decide ((Aa n+Aa z)*64<=140737488355328)) (some (vO .pval (n++z),[]))))))))))) (chk (decide (0<=a)&&decide (a<=(↑(Aa b):Int))) (let f:=(An (Ad a) (Ao (Aa b) b));let J:=(↑(Aa b):Int);cond (decide (a<J)) (chk (ixl a b) (let O:=(Ai b (Ad a) (aK .pval));aA (o9 y (reP O) (reP c)) (λ(M:Int)=>cond (M==0) (let g:=(Ab .i64 (a+2));chk (decide (0<=g)&&decide (g<=(↑(Aa b):Int))) (let o:=(An (Ad g) (Ao (Aa b) b));chk (decide (0<=a)&&decide (a<=(↑(Aa b):Int))) (let p:=(An 0 (Ao (Ad a) b));chk (decide ((Aa ([]:List aC)+Aa p)*64<=140737488355328)) (let q:=([]++p);chk (decide ((Aa q+Aa ([(reP c),(reP d)]:List aC))*64<=140737488355328)) (let r:=(q++([(reP c),(reP d)]:List aC));chk (decide ((Aa r+Aa o)*64<=140737488355328)) (some (vO .pval (r++o),[]))))))) (chk (decide (0<=a)&&decide (a<=(↑(Aa b):Int))) (let s:=(An 0 (Ao (Ad a) b));chk (decide ((Aa ([]:List aC)+Aa s)*64<=140737488355328)) (let t:=([]++s);chk (decide ((Aa t+Aa ([(reP c),(reP d)]:List aC))*64<=140737488355328)) (let u:=(t++([(reP c),(reP d)]:List aC));chk (decide ((Aa u+Aa f)*64<=140737488355328)) (some (vO .pval (u++f),[]))))))))) (chk (decide (0<=a)&&decide (a<=(↑(Aa b):Int))) (let v:=(An 0 (Ao (Ad a) b));chk (decide ((Aa ([]:List aC)+Aa v)*64<=140737488355328)) (let w:=([]++v);chk (decide ((Aa w+Aa ([(reP c),(reP d)]:List aC))*64<=140737488355328)) (let x:=(w++([(reP c),(reP d)]:List aC));chk (decide ((Aa x+Aa f)*64<=140737488355328)) (some (vO .pval (x++f),[]))))))))
theorem awC(N:Nat):LB (adA N) vg (xk N):=λ_ _=>by kernel_rfl
def uw(N:Nat)(a:Int)(b:List aC)(c d:aC)(e:rT->Ro):Ro:=e (a,b,c,d,0)
def aoI(N:Nat)(a:Int)(b:List aC)(c d:aC):Ro:=uw N a b c d (λz=>aN N (xk N) z)
theorem azc(N:Nat)(a:Int)(c:List aC)(d f:aC)(h:Tot (aoI N a c d f) (λz=>∃g rest,z.1.dimR=vF .pval g∧z.2=rest∧aij a c d f (g))):∃r,oZ a c d f r:=aCb.finP (N:=N) ((bK _ (by kernel_rfl) rfl (λC=>uw N a c d f (λz=>C 1000000 (vg z))) (λC=>by kernel_rfl)).trans (AE (b:=uw N a c d f (λz=>aZ N (adA N) (vg z))) (by kernel_rfl) (congrArg (uw N a c d f) (funext λz=>aW (vg) (adA N) (xk N) (awC N) N z)))) h λ_ ⟨g,_,e,_,q⟩=>⟨(g),e,q⟩
def afz:aI:=tb_ [] [] [] [aq7,aq8,ayX,ayY,aq9]
def agK:IR:=Sq (Rs [Mv 40 14,Bc 41 .add 40 1,Mv 42 4,Ll 43 42,Bi 44 .lss 41 43] (Cn 44 .skip (.exit 1))) (Sq (.block 2 (.reg [Fa 47 5 7,Lq 48 47,Mv 49 13,Mv 50 4,Mv 51 14,Ix 52 .pval 50 51,Ld 53 4 true 52,Mv 54 4,Mv 55 14,Bc 56 .add 55 1,Ix 57 .pval 54 56,Ld 58 4 true 57,Ca 59 44 [48,49,53,58],Mv 13 59] [[],[0],[],[],[],[3,4],[3,4,5],[],[],[8],[7,8,9],rg 7 10,rg 0 11,rg 0 12])) (Rg [Mv 45 14,Bc 46 .add 45 2,Mv 14 46]))
def agL:IR:=Rg [Mv 60 13,Mv 4 60]
def afA:IR:=Rs [Pp (.ld 89 2 true false 8),Fa 90 0 7,Lq 91 90,Mv 92 4,Ca 93 83 [89,91,92],Sv 2 10 93] .ret
def azd:IR:=Rs [Bx 5 0,Bx 6 1,Bx 7 2,Pp (.box 8 3),Pp (.new 10 [nl .pfd,vS])] (Rs [Ld 15 3 true 6,Pp (.ld 16 2 true false 8),Ld 17 8 true 7,Ca 18 81 [15,16,17],Sv 2 8 18] (Rs [Pp (.ld 20 2 true false 8),Fa 21 0 7,Lq 22 21,Ca 23 21 [20,22],Mv 19 23,Ex_ 24 0 19,Ex_ 25 1 19,Mv 11 24,Mv 12 25] (Sq (.block 0 (Rs [Fa 27 2 7,Lq 28 27,Bc 29 .eql 28 2,Mv 26 29] (Cn 26 (Rg [Pp (.bsl 30 .pval [] false),Mv 31 11,Pp (.app 32 .pval (.tk 30) 31),Mv 33 4,Pp (.app 34 .pval (.tk 32) 33),Mv 4 34]) (Rs [Fa 36 2 7,Lq 37 36,Bc 38 .eql 37 3,Mv 35 38] (Cn 35 (Rs [Mv 39 11,Mv 13 39] (Sq (Rs [Mi 14 0] (.block 1 (.loop [4,7,8,10,13,14,1000000] 2 agK))) agL)) (Rs [Fa 62 3 7,Lq 63 62,Bc 64 .eql 63 16,Mv 65 64,Gt 65 (.mov 66 11),Gt 65 (.lenl 67 66),Gt 65 (.bin 68 .gtr 67 (kI 0)),Pa 69 65 68,Mv 70 69,Gt 70 (.mov 71 4),Gt 70 (.lenl 72 71),Gt 70 (.bin 73 .gtr 72 (kI 0)),Pa 74 70 73,Mv 61 74] (Cn 61 (.reg [Ld 75 2 true 5,Fa 76 4 7,Lq 77 76,Mv 78 11,Pp (.ixa 79 .pval 78 (kI 0)),Fa 80 2 79,Fo [] [] (.ld 81 2 true false 80),Mv 82 4,Pp (.ixa 83 .pval 82 (kI 0)),Fa 84 2 83,Fo [] [] (.ld 85 2 true false 84),Ca 86 82 [75,77,81,85],Pp (.bld 87 [vU 0,vS,fu .pfd true,vS] [(2,2,86)]),Pp (.bsl 88 .pval [87] true),Mv 4 88] [[],[],[1],[],[3],[3,4],[3,4,5],[],[7],[7,8],[7,8,9],rg 0 10,rg 0 11,rg 0 12,rg 0 13]) .skip))))))) afA)))
def ale:List RV:=[.cell 10 2 true]
theorem aze:FnC Tryz.prog afz [] 0 46 Tryz.f46 azd ale:=fnC Tryz.func46
def awD(R:TRr)(a:TS):TE:=(bu a [4,7,8,10,13,14,1000000] 2 (aP 1 (kseq (R agL) (aP 0 (kseq (R afA) (fin ale))))))
abbrev qb:Type:=(List aC×PFl×List aC×Int×List (Int×List aC)×Bs×List (Int×List aC)×Bs)
def tu:qb->St:=λ(a,b,c,d,e,f,g,h)=>{env:=(U 4 (vF .pval a::.undef::.undef::.ea (enc .pfl b)::.ptr 0 0::.undef::.ptr 1 0::.undef::.undef::vF .pval c::vI d::(U 79 []))),hp:=[some [vF .pfd e,vT f],some [vO .pfd g,vT h]]}
def abN(N:Nat):TS->TS:=λa s=>run afz N agK (awD (run afz N) a) s
def vh(N:Nat)(d:qb->Ro):qb->Ro:=λ(e,j,f,a,b,c,g,h)=>let l:=(Ab .i64 (a+1));let m:=(↑(Aa e):Int);cond (decide (l<m)) (chk (ixl a e) (let n:=(Ai e (Ad a) (aK .pval));let k:=(Ab .i64 (a+1));chk (ixl k e) (let o:=(Ai e (Ad k) (aK .pval));aA (oZ j.key f (reP n) (reP o)) (λ(p:List aC)=>let q:=(Ab .i64 (a+2));d (e,j,p,q,b,c,g,h))))) (aA (fO b c j.num f) (λi=>some (.agg [vF .pfd i.1,vT i.2],[some [vF .pfd b,vT c],some [vF .pfd i.1,vT i.2]])))
theorem auw(N:Nat):LB (abN N) tu (vh N):=λ_ _=>by kernel_rfl
def rU(N:Nat)(e:List PMs)(f:List PEn)(u:PMs)(b:PFl)(g:List (Int×List aC))(h:Bs)(c:List aC)(v:qb->Ro):Ro:=let i:=λm n w x=>(some (.agg [vF .pfd m,vT n],[some [vF .pfd w,vT x],some [vF .pfd m,vT n]]):Ro);aA (rQ u g h b) (λa=>aA (si a.1 a.2 b.num) (λd=>cond (b.label==2) (chk (decide ((Aa ([]:List aC)+Aa d.1)*64<=140737488355328)) (let o:=([]++d.1);chk (decide ((Aa o+Aa c)*64<=140737488355328)) (aA (fO a.1 a.2 b.num (o++c)) (λp=>i p.1 p.2 a.1 a.2)))) (cond (b.label==3) (v (c,b,d.1,0,a.1,a.2,([]:List (Int×List aC)),[])) (cond (b.kind==16) (let y:=(↑(Aa d.1):Int);cond (decide (0<y)) (let z:=(↑(Aa c):Int);cond (decide (0<z)) (chk (decide ((0:Int)<↑(Aa d.1))) (let j:=(Ai d.1 (Ad 0) (aK .pval));chk (decide ((0:Int)<↑(Aa c))) (let k:=(Ai c (Ad 0) (aK .pval));aA (ak8 e f b.typ j.fs j.rest k.fs k.rest) (λq=>aA (fO a.1 a.2 b.num ([(.mk 0 [] q.1 q.2)]:List aC)) (λr=>i r.1 r.2 a.1 a.2))))) (aA (fO a.1 a.2 b.num c) (λs=>i s.1 s.2 a.1 a.2))) (aA (fO a.1 a.2 b.num c) (λt=>i t.1 t.2 a.1 a.2))) (aA (fO a.1 a.2 b.num c) (λl=>i l.1 l.2 a.1 a.2))))))
def alf(N:Nat)(a:List PMs)(b:List PEn)(e:PMs)(f:PFl)(c:List (Int×List aC))(d:Bs)(g:List aC):Ro:=rU N a b e f c d g (λz=>aN N (vh N) z)
theorem awE(N:Nat)(a:List PMs)(c:List PEn)(g:PMs)(i:PFl)(d:List (Int×List aC))(f:Bs)(j:List aC)(h:Tot (alf N a c g i d f j) (λz=>∃k l rest,z.1.dimR=.agg [vF .pfd k,vT l]∧z.2=rest∧agA a c g i d f j (k,l))):∃r,cI a c g i d f j r:=aze.finP (N:=N) ((bK _ (by kernel_rfl) rfl (λC=>rU N a c g i d f j (λz=>C 1000000 (tu z))) (λC=>by kernel_rfl)).trans (AE (b:=rU N a c g i d f j (λz=>aZ N (abN N) (tu z))) (by kernel_rfl) (congrArg (rU N a c g i d f j) (funext λz=>aW (tu) (abN N) (vh N) (auw N) N z)))) h λ_ ⟨k,l,_,e,_,q⟩=>⟨(k,l),e,q⟩
def aux:List RV:=[.t 6,.t 7]
def auy:List RV:=[.t 10]
section
variable{Q:V×List aJ->Prop}
theorem aCc(k:Int):∃r,gv k r:=by
 apply aoD 1;unfold ad4 ad3
 repeat' (first|(with_reducible refine aB ?_ ?_<;>(intro a;(try simp only[bnl] at a);(try revert a;intro _)))|with_reducible refine aD ?_ ?_|with_reducible refine aG ?_|fail)
 all_goals exact⟨_,_,rfl,rfl,by unfold sD afl;simp_all⟩
theorem aCd{k:Int}{K:Bool->Ro}(a:Tot (K (afl k)) Q):Tot (aA (gv k) K) Q:=aT (aCc k) (λ_ h=>h.2) a
def CmQ(k:Int)(a b:aC):V×List aJ->Prop:=λz=>∃(c:Int)(rest:List aJ),z.1.dimR=.int .i64 c∧z.2=rest∧c=gr k a b
theorem aKB(k:Int)(a b:aC):∃r,o9 k a b r:=by
 apply ay6 1;show Tot _ (CmQ k a b);unfold aoF aoE;dsimp only;have c:∀n:Int,n=gr k a b->Tot (some ((.int .i64 n,[]):V×List aJ)) (CmQ k a b):=λn h=>aG ⟨_,_,rfl,rfl,h⟩
 have tx:k=14∨k=15->k≠16->Tot (cond (AO a.s b.s) (some (.int .i64 (-1),[])) (cond (!(AO a.s b.s||decide (a.s=b.s))) (some (.int .i64 1,[])) (some (.int .i64 0,[])))) (CmQ k a b):=by
  intro h d;have e:gr k a b=if AO a.s b.s then -1 else if a.s=b.s then 0 else 1:=by unfold gr aIu;rw[if_neg d,if_pos h]
  refine aB (λi=>c _ (by rw[e,if_pos i])) (λi=>aB (λj=>c _ ?_) (λj=>c _ ?_));·simp only[i,CE,BW,decide_eq_false_iff_not] at j;rw[e,if_neg (by simp[i]),if_neg j]
  ·simp only[i,CE,DT,decide_eq_true_eq] at j;rw[e,if_neg (by simp[i]),if_pos j]
 refine aB (λh=>c _ ?_) (λd=>?_)
 ·have h:k=16:=by simpa using h
  simp[gr,h]
 have d:k≠16:=by simpa using d
 refine aB (λh=>tx (.inl (by simpa using h)) d) (λu=>aB (λh=>tx (.inr (by simpa using h)) d) (λv=>?_));have q:¬(k=14∨k=15):=by rintro(rfl|rfl)<;>simp at u v
 have l:gr k a b=if a.n=b.n then 0 else if afl k then (if Ab .i64 a.n<Ab .i64 b.n then -1 else 1) else if a.n<b.n then -1 else 1:=by unfold gr;rw[if_neg d,if_neg q]
 refine aB (λh=>c _ ?_) (λp=>aCd (aB (λf=>aB (λh=>c _ ?_) (λh=>aCd (aB (λm=>?_) (λ_=>c _ ?_)))) (λf=>aCd (aB (λ_=>aB (λh=>c _ ?_) (λh=>c _ ?_)) (λm=>?_)))));·rw[l,if_pos (by simpa using h)]
 ·rw[l,if_neg (by simpa using p),if_pos f,if_pos (of_decide_eq_true h)]
 ·rw[f] at m;simp at m
 ·rw[l,if_neg (by simpa using p),if_pos f,if_neg (of_decide_eq_false h)]
 ·rw[l,if_neg (by simpa using p),if_neg (by simp[f]),if_pos (of_decide_eq_true h)]
 ·rw[l,if_neg (by simpa using p),if_neg (by simp[f]),if_neg (of_decide_eq_false h)]
 ·rw[f] at m;simp at m
theorem aHw{k:Int}{a b:aC}{K:Int->Ro}(c:Tot (K (gr k a b)) Q):Tot (aA (o9 k a b) K) Q:=aT (aKB k a b) (λ_ h=>h.2) c
theorem aKC(fs:List (Int×List aC))(rest:Bs)(n:Int)(h:fs.length<=100000000000):∃r,si fs rest n r:=by
 obtain⟨N,w⟩:∃N:Nat,N=200000000000:=⟨_,rfl⟩
 apply ay8 N;unfold aoG uu;refine bj (λ(y:rR)=>match y with|(u,c,p,k)=>(u,c,p)=(n,fs,rest)∧0<=k∧k<=fs.length∧mV (fs.drop k.toNat) n=mV fs n) (λy=>(fs.length-y.2.2.2).toNat) ?_ _ _ ⟨rfl,As _,by omega,rfl⟩ (by dsimp only;omega);rintro d ⟨u,c,p,k⟩ ⟨q,j,x,b⟩ m;cases q;dsimp only at m;unfold xi;dsimp only;refine aB (λa=>?_) (λa=>?_)
 ·have a:=of_decide_eq_true a;have e:=ixt (l:=fs) ⟨j,a⟩;rw[fp (aK .pfd) j a] at b;obtain⟨f,v⟩:∃f,f=Ai fs k.toNat (aK .pfd):=⟨_,rfl⟩
  rw[<-v] at b ⊢;refine aD e (aB (λi=>aD e (aG ⟨f.2,true,_,rfl,rfl,?_⟩)) (λi=>?_));·show _=mV fs n;rw[<-b];simp only[mV,CB,i]
  ·rw[dj j (by omega)];refine m _ ⟨rfl,by first|omega|(dsimp only;omega),by first|omega|(dsimp only;omega),?_⟩ (by first|omega|(dsimp only;omega));rw[<-b];simp only[mV,CB,i]
 ·have a:=of_decide_eq_false a;rw[gB a] at b;exact aG ⟨[],false,_,rfl,rfl,b⟩
theorem aHx{fs:List (Int×List aC)}{rest:Bs}{n:Int}{K:List aC×Bool->Ro}(h:fs.length<=100000000000)(a:Tot (K (mV fs n)) Q):Tot (aA (si fs rest n) K) Q:=aT (aKC fs rest n h) (λ_ h=>h.2) a
def StQ(fs:List (Int×List aC))(rest:Bs)(n:Int)(l:List aC):V×List aJ->Prop:=λz=>∃(b:List (Int×List aC))(a:Bs)(r:List aJ),z.1.dimR=.agg [.sl .pfd (.may false) b,.str a]∧z.2=r∧(b,a)=(fg fs n l,rest)
theorem aKD(n:Int)(l:List aC)(r:List (Int×List aC))(h:0<(l.length:Int)):nA n l r=(n,l)::r:=by unfold nA;rw[if_neg (by intro e;subst e;simp at h)]
theorem aI2(n:Int)(l:List aC)(r:List (Int×List aC))(h:¬0<(l.length:Int)):nA n l r=r:=by unfold nA;rw[if_pos (Dn.1 (by omega))]
theorem aKE(fs:List (Int×List aC))(rest:Bs)(n:Int)(l:List aC)(h:fs.length<=100000000000):∃r,fO fs rest n l r:=by
 obtain⟨N,L⟩:∃N:Nat,N=200000000000:=⟨_,rfl⟩
 apply aza N;show Tot _ (StQ fs rest n l);unfold aoH uv;refine bj (λ(y:rS)=>match y with|(F,G,k,m,E,a,b)=>(F,G,m,E,a,b)=(n,l,fs,rest,[],[])∧0<=k∧k<=fs.length∧fg fs n l=fs.take k.toNat++fg (fs.drop k.toNat) n l) (λy=>(fs.length-y.2.2.1).toNat) ?_ _ _ ⟨rfl,As _,by omega,rfl⟩ (by dsimp only;omega);rintro z ⟨F,G,k,m,E,a,b⟩ ⟨q,j,M,d⟩ D;cases q;dsimp only at D;unfold xj;dsimp only;have x:=afw fs k.toNat;have C:(decide (0<=k)&&decide (k<=(↑(Aa fs):Int)))=true:=by simp only[Ac,decide_eq_true_eq];omega
 have v:∀(g:List (Int×List aC))(o:List aJ),g=fg fs n l->Tot (some ((.agg [.sl .pfd (.may false) g,.str rest],o):V×List aJ)) (StQ fs rest n l):=λg o e=>aG ⟨_,_,_,rfl,rfl,by rw[e]⟩
 have fin:∀r:List (Int×List aC),r.length<=fs.length->fg fs n l=fs.take k.toNat++nA n l r->Tot (chk ((decide (0<=k)&&decide (k<=(↑(Aa fs):Int)))) (chk (decide ((Aa ([]:List (Int×List aC))+Aa (An 0 (Ao (Ad k) fs)))*32<=140737488355328)) (cond (decide (0<(↑(Aa l):Int))) (chk (decide ((Aa (([]:List (Int×List aC))++(An 0 (Ao (Ad k) fs)))+Aa ([⟨n,l⟩]:List (Int×List aC)))*32<=140737488355328)) (chk (decide ((Aa ((([]:List (Int×List aC))++(An 0 (Ao (Ad k) fs)))++([⟨n,l⟩]:List (Int×List aC)))+Aa r)*32<=140737488355328)) (some (.agg [.sl .pfd (.may false) (((([]:List (Int×List aC))++(An 0 (Ao (Ad k) fs)))++([⟨n,l⟩]:List (Int×List aC)))++r),.str rest],[some [.sl .pfd .own (((([]:List (Int×List aC))++(An 0 (Ao (Ad k) fs)))++([⟨n,l⟩]:List (Int×List aC)))++r),.str rest],some [.sl .pfd (.may false) (((([]:List (Int×List aC))++(An 0 (Ao (Ad k) fs)))++([⟨n,l⟩]:List (Int×List aC)))++r),.str rest]])))) (chk (decide ((Aa (([]:List (Int×List aC))++(An 0 (Ao (Ad k) fs)))+Aa r)*32<=140737488355328)) (some (.agg [.sl .pfd (.may false) ((([]:List (Int×List aC))++(An 0 (Ao (Ad k) fs)))++r),.str rest],[some [.sl .pfd .own ((([]:List (Int×List aC))++(An 0 (Ao (Ad k) fs)))++r),.str rest],some [.sl .pfd (.may false) ((([]:List (Int×List aC))++(An 0 (Ao (Ad k) fs)))++r),.str rest]])))))) (StQ fs rest n l):=by
  intro r J e;refine aD C (aD (decide_eq_true (by simp only[Aj,Ak] at x ⊢;omega)) (aB (λA=>aD (decide_eq_true (by simp only[Aj,Af,Ak] at x ⊢;omega)) (aD (decide_eq_true (by simp only[Aj,Af,Ak] at x ⊢;omega)) (v _ _ ?_))) (λA=>aD (decide_eq_true (by simp only[Aj,Af,Ak] at x ⊢;omega)) (v _ _ ?_))));·rw[e,aKD _ _ _ (of_decide_eq_true A)];simp
  ·rw[e,aI2 _ _ _ (of_decide_eq_false A)];simp
 refine aB (λc=>?_) (λc=>?_)
 ·have i:=c;have c:=of_decide_eq_true c;have e:=ixt (l:=fs) ⟨j,c⟩;rw[fp (aK .pfd) j c] at d;have w:=lj (aK .pfd) j c;obtain⟨f,H⟩:∃f,f=Ai fs k.toNat (aK .pfd):=⟨_,rfl⟩
  rw[<-H] at d w ⊢;simp only[fg] at d;refine aD e (aB (λu=>?_) (λu=>?_));·rw[dj j (by omega)];refine D _ ⟨rfl,by first|omega|(dsimp only;omega),by first|omega|(dsimp only;omega),?_⟩ (by first|omega|(dsimp only;omega));dsimp only;rw[d,if_pos (of_decide_eq_true u),w,AB];rfl
  ·have u:=of_decide_eq_false u;rw[if_neg u] at d;have I:=rl fs k.toNat;refine aD C (aB (λ_=>aD e (aB (λB=>?_) (λB=>?_))) (λp=>by rw[i] at p;simp at p));·rw[dj j (by omega)];refine aD (by simp only[Ac,decide_eq_true_eq];omega) (fin _ (rl fs _) ?_);rw[d,if_pos (by simpa using B),AQ]
   ·refine fin _ I ?_;rw[d,if_neg (by simpa using B),AQ,fp (aK .pfd) j c,<-H]
 ·have i:=c;have c:=of_decide_eq_false c;rw[gB c] at d;simp only[fg] at d;refine aD C (aB (λp=>by rw[i] at p;simp at p) (λ_=>fin _ (rl fs _) ?_));rw[d,AQ,gB c]
theorem aCe{fs:List (Int×List aC)}{rest:Bs}{n:Int}{l:List aC}{K:List (Int×List aC)×Bs->Ro}(h:fs.length<=100000000000)(a:Tot (K (fg fs n l,rest)) Q):Tot (aA (fO fs rest n l) K) Q:=aT (aKE fs rest n l h) (λ_ h=>h.2) a
theorem asy(n:Int):∀fs:List (Int×List aC),(fg fs n []).length<=fs.length
 | []=>by simp[fg,nA]
 |x::r=>by
  have:=asy n r;simp only[fg,nA,if_true];split;·simp only[Af];omega
  ·split<;>simp
theorem aEE(f:PFl):∀(p:List PFl)(fs:List (Int×List aC)),(alR p fs f).length<=fs.length
 | [],fs=>by simp[alR]
 |x::r,fs=>by
  simp only[alR];refine A6 (aEE f r _) ?_;split;·exact asy _ _
  ·exact Ap _
theorem aFT(p:PMs)(fs:List (Int×List aC))(f:PFl):(gi p fs f).length<=fs.length:=by
 unfold gi;split;·exact aEE _ _ _
 ·exact Ap _
theorem aHy(p:PMs)(fs:List (Int×List aC))(rest:Bs)(f:PFl)(h:fs.length<=100000000000)(hp:p.fields.length<=1000):∃r,rQ p fs rest f r:=by
 obtain⟨N,F⟩:∃N:Nat,N=2000:=⟨_,rfl⟩
 apply auv N;unfold aiF qa;refine bj (λ(y:oF)=>match y with|(D,B,k,g,C,a,b)=>(D,B,C,a,b)=(p,f,rest,[],[])∧0<=k∧k<=p.fields.length∧g.length<=fs.length∧(if 0<f.oneof then alR (p.fields.drop k.toNat) g f else g)=gi p fs f) (λy=>(p.fields.length-y.2.2.1).toNat) ?_ _ _ ⟨rfl,As _,by omega,Ap _,rfl⟩ (by dsimp only;omega);rintro i ⟨D,B,k,g,C,a,b⟩ ⟨q,z,G,w,c⟩ A;cases q;dsimp only at A;unfold tt;dsimp only;refine aB (λv=>?_) (λv=>?_)
 ·rw[if_pos (of_decide_eq_true v)] at c;refine aB (λd=>?_) (λd=>?_)
  ·have d:=of_decide_eq_true d;have e:=ixt (l:=p.fields) ⟨z,d⟩;rw[fp (aK .pfl) z d] at c;obtain⟨x,E⟩:∃x,x=Ai p.fields k.toNat (aK .pfl):=⟨_,rfl⟩
   rw[<-E] at c ⊢;simp only[alR] at c;rw[dj z (by omega)];have go:∀u:List (Int×List aC),u.length<=fs.length->alR (p.fields.drop (k+1).toNat) u f=gi p fs f->Tot (i (p,f,k+1,u,rest,[],[])) _:=λu m j=>A _ ⟨rfl,by first|omega|(dsimp only;omega),by first|omega|(dsimp only;omega),m,by rw[if_pos (of_decide_eq_true v)];exact j⟩ (by first|omega|(dsimp only;omega))
   refine aD e (aB (λm=>aD e (aB (λj=>aD e (aCe (by omega) ?_)) (λj=>?_))) (λm=>?_));·refine go _ (A6 (asy _ _) w) ?_;rw[if_pos ⟨by simpa using m,by simpa using j⟩] at c;exact c
   ·refine go _ w ?_;rw[if_neg (λh=>h.2 (by simpa using j))] at c;exact c
   ·refine go _ w ?_;rw[if_neg (λh=>by simp[h.1] at m)] at c;exact c
  ·have d:=of_decide_eq_false d;rw[gB d] at c;simp only[alR] at c;exact aG ⟨g,rest,_,rfl,rfl,by show (g,rest)=_;rw[<-c]⟩
 ·rw[if_neg (of_decide_eq_false v)] at c;exact aG ⟨g,rest,_,rfl,rfl,by show (g,rest)=_;rw[<-c]⟩
theorem aI3{p:PMs}{fs:List (Int×List aC)}{rest:Bs}{f:PFl}{K:List (Int×List aC)×Bs->Ro}(h:fs.length<=100000000000)(hp:p.fields.length<=1000)(a:Tot (K (gi p fs f,rest)) Q):Tot (aA (rQ p fs rest f) K) Q:=aT (aHy p fs rest f h hp) (λ_ h=>h.2) a
end
def aqp:aI:=tb_ [] [] [] [xE]
def aoJ:IR:=Rs [Mi 4 0] (Rs [Mv 5 0,Mv 6 1,Ca 7 236 [5,6],Mv 4 7] .ret)
theorem aoK:FnC Tryz.prog aqp [] 0 217 Tryz.f217 aoJ aR:=fnC Tryz.func217
def acZ(N:Nat)(a b:Bs):Ro:=aA (gA a b) (λ(c:Int)=>some (vI c,[]))
def ac0(N:Nat)(a b:Bs):Ro:=acZ N a b
theorem amk(N:Nat)(b c:Bs)(h:Tot (ac0 N b c) (λz=>∃a rest,z.1.dimR=vI a∧z.2=rest∧qr b c (a))):∃r,lA b c r:=aoK.finP (N:=N) (by kernel_rfl) h λ_ ⟨a,_,e,_,q⟩=>⟨(a),e,q⟩
def uz:aI:=tb_ [] [] [] []
def tD:IR:=Rs [Pp (.mov 2 (.c (nl .pfl)))] (Sq (Rs [Mv 3 0,Pp (.snil 4 (.t 3))] (Cn 4 (Rs [Pp (.mov 2 (.c (nl .pfl)))] .ret) .skip)) (Rs [Pp (.bsl 5 .pfl [] false),Mv 6 0,Pp (.app 7 .pfl (.tk 5) 6),Pp (.mov 2 (.tk 7))] .ret))
theorem tE:FnC Tryz.prog uz [] 0 86 Tryz.f86 tD aE:=fnC Tryz.func86
def jS(N:Nat)(a:List PFl):Ro:=chk (decide (0<Aa a)) (chk (decide ((Aa ([]:List PFl)+Aa a)*80<=140737488355328)) (some (vO .pfl ([]++a),[])))
def jT(N:Nat)(a:List PFl):Ro:=jS N a
theorem sH(N:Nat)(b:List PFl)(h:Tot (jT N b) (λz=>∃a rest,z.1.dimR=vF .pfl a∧z.2=rest∧jd b (a))):∃r,dY b r:=tE.finP (N:=N) (by kernel_rfl) h λ_ ⟨a,_,e,_,q⟩=>⟨(a),e,q⟩
def abO:aI:=tb_ [] [] [] []
def aaq:IR:=Rs [Pp (.mov 2 (.c (nl .str)))] (Sq (Rs [Mv 3 0,Pp (.snil 4 (.t 3))] (Cn 4 (Rs [Pp (.mov 2 (.c (nl .str)))] .ret) .skip)) (Rs [Pp (.bsl 5 .str [] false),Mv 6 0,Pp (.app 7 .str (.tk 5) 6),Pp (.mov 2 (.tk 7))] .ret))
theorem aar:FnC Tryz.prog abO [] 0 87 Tryz.f87 aaq aE:=fnC Tryz.func87
def pf(N:Nat)(a:Bss):Ro:=chk (decide (0<Aa a)) (chk (decide ((Aa ([]:Bss)+Aa a)*16<=140737488355328)) (let b:=([]++a);some (vO .str b,[])))
def pg(N:Nat)(a:Bss):Ro:=pf N a
theorem aal(N:Nat)(b:Bss)(h:Tot (pg N b) (λz=>∃a rest,z.1.dimR=vF .str a∧z.2=rest∧nx b (a))):∃r,fS b r:=aar.finP (N:=N) (by kernel_rfl) h λ_ ⟨a,_,e,_,q⟩=>⟨(a),e,q⟩
def aqq:aI:=tb_ [] [] [] []
def aoL:IR:=Rs [Mb 2 false] (Rs [Mv 3 0,Mv 4 0,Bi 5 .neq 3 4,Mv 2 5] .ret)
theorem aoM:FnC Tryz.prog aqq [] 0 237 Tryz.f237 aoL aE:=fnC Tryz.func237
def ac1(N:Nat)(a:Int):Ro:=some (vB (!(a==a)),[])
def ac2(N:Nat)(a:Int):Ro:=ac1 N a
theorem aml(N:Nat)(b:Int)(h:Tot (ac2 N b) (λz=>∃a rest,z.1.dimR=vB a∧z.2=rest∧rc b (a))):∃r,lJ b r:=aoM.finP (N:=N) (by kernel_rfl) h λ_ ⟨a,_,e,_,q⟩=>⟨(a),e,q⟩
def aoN:aI:=tb_ [] [] [] []
def amm:IR:=Rs [Mb 2 false] (Rs [Mv 3 0,Mv 4 0,Bi 5 .neq 3 4,Mv 2 5] .ret)
theorem amn:FnC Tryz.prog aoN [] 0 238 Tryz.f238 amm aE:=fnC Tryz.func238
def abd(N:Nat)(a:Int):Ro:=some (vB (!(a==a)),[])
def abe(N:Nat)(a:Int):Ro:=abd N a
theorem aka(N:Nat)(b:Int)(h:Tot (abe N b) (λz=>∃a rest,z.1.dimR=vB a∧z.2=rest∧pZ b (a))):∃r,kD b r:=amn.finP (N:=N) (by kernel_rfl) h λ_ ⟨a,_,e,_,q⟩=>⟨(a),e,q⟩
def amo:aI:=tb_ [] [] [] [aql]
def akb:IR:=Rs [Mi 4 0] (Rs [Mv 7 0,Ca 8 237 [7],Mv 5 8] (Rs [Mv 9 1,Ca 10 237 [9],Mv 6 10] (Sq (Rs [Mv 11 5] (Cn 11 (Sq (Rs [Mv 12 6] (Cn 12 (Rs [Mi 4 0] .ret) .skip)) (Rs [Mi 4 (-1)] .ret)) .skip)) (Sq (Rs [Mv 13 6] (Cn 13 (Rs [Mi 4 1] .ret) .skip)) (Sq (Rs [Mv 14 0,Mv 15 1,Bi 16 .lss 14 15] (Cn 16 (Rs [Mi 4 (-1)] .ret) .skip)) (Sq (Rs [Mv 17 0,Mv 18 1,Bi 19 .gtr 17 18] (Cn 19 (Rs [Mi 4 1] .ret) .skip)) (Rs [Mi 4 0] .ret)))))))
theorem akc:FnC Tryz.prog amo [] 0 219 Tryz.f219 akb aR:=fnC Tryz.func219
def aam(N:Nat)(a b:Int):Ro:=aA (lJ a) (λ(d:Bool)=>aA (lJ b) (λ(c:Bool)=>cond d (cond c (some (vI 0,[])) (some (vI (-1),[]))) (cond c (some (vI 1,[])) (cond (decide (a<b)) (some (vI (-1),[])) (cond (decide (b<a)) (some (vI 1,[])) (some (vI 0,[])))))))
def aan(N:Nat)(a b:Int):Ro:=aam N a b
theorem aiI(N:Nat)(b c:Int)(h:Tot (aan N b c) (λz=>∃a rest,z.1.dimR=vI a∧z.2=rest∧pc b c (a))):∃r,nv b c r:=akc.finP (N:=N) (by kernel_rfl) h λ_ ⟨a,_,e,_,q⟩=>⟨(a),e,q⟩
def akd:aI:=tb_ [] [] [] [aov]
def aiJ:IR:=Rs [Mi 4 0] (Rs [Mv 7 0,Ca 8 238 [7],Mv 5 8] (Rs [Mv 9 1,Ca 10 238 [9],Mv 6 10] (Sq (Rs [Mv 11 5] (Cn 11 (Sq (Rs [Mv 12 6] (Cn 12 (Rs [Mi 4 0] .ret) .skip)) (Rs [Mi 4 (-1)] .ret)) .skip)) (Sq (Rs [Mv 13 6] (Cn 13 (Rs [Mi 4 1] .ret) .skip)) (Sq (Rs [Mv 14 0,Mv 15 1,Bi 16 .lss 14 15] (Cn 16 (Rs [Mi 4 (-1)] .ret) .skip)) (Sq (Rs [Mv 17 0,Mv 18 1,Bi 19 .gtr 17 18] (Cn 19 (Rs [Mi 4 1] .ret) .skip)) (Rs [Mi 4 0] .ret)))))))
theorem aiK:FnC Tryz.prog akd [] 0 220 Tryz.f220 aiJ aR:=fnC Tryz.func220
def yq(N:Nat)(a b:Int):Ro:=aA (kD a) (λ(d:Bool)=>aA (kD b) (λ(c:Bool)=>cond d (cond c (some (vI 0,[])) (some (vI (-1),[]))) (cond c (some (vI 1,[])) (cond (decide (a<b)) (some (vI (-1),[])) (cond (decide (b<a)) (some (vI 1,[])) (some (vI 0,[])))))))
def yr(N:Nat)(a b:Int):Ro:=yq N a b
theorem ahl(N:Nat)(b c:Int)(h:Tot (yr N b c) (λz=>∃a rest,z.1.dimR=vI a∧z.2=rest∧nC b c (a))):∃r,mo b c r:=aiK.finP (N:=N) (by kernel_rfl) h λ_ ⟨a,_,e,_,q⟩=>⟨(a),e,q⟩
def pe:aI:=tb_ [] [] [] []
def tv:IR:=Rs [Bi 9 .lss 8 7] (Sq (Cn 9 .skip (.exit 0)) (Sq (.block 1 (Rs [Mv 10 8,Mv 5 10] (Rs [Mv 11 1,Mv 12 0,Mv 13 5,Ix 14 (.num .i64) 12 13,Lq 15 14,Bi 16 .eql 11 15] (Cn 16 (Rs [Mv 17 5,Mv 4 17] .ret) .skip)))) (Rg [Bc 18 .add 8 1,Mv 8 18])))
def tw:IR:=Rs [Mi 4 (-1)] .ret
def afY:IR:=Rs [Mi 4 0] (Sq (Rs [Mv 6 0,Ll 7 6,Mi 8 0] (.block 0 (.loop [0,1,7,8,1000000] 0 tv))) tw)
theorem afZ:FnC Tryz.prog pe [] 0 240 Tryz.f240 afY aR:=fnC Tryz.func240
def afB(R:TRr)(a:TS):TE:=(bu a [0,1,7,8,1000000] 0 (aP 0 (kseq (R tw) (fin aR))))
abbrev fI:Type:=(List Int×Int×Int×Int)
def ii:fI->St:=λ(a,b,c,d)=>{env:=(.sl (.num .i64) (.may false) a::vI b::(U 5 (vI c::vI d::(U 10 [])))),hp:=[]}
def mX(N:Nat):TS->TS:=λa s=>run pe N tv (afB (run pe N) a) s
def iU(N:Nat)(a:fI->Ro):fI->Ro:=λ(c,d,e,b)=>cond (decide (b<e)) (chk (ixl b c) (let f:=Ai c (Ad b) (aK (.num .i64));cond (d==f) (some (vI b,[])) (let g:=(Ab .i64 (b+1));a (c,d,e,g)))) (some (vI (-1),[]))
theorem aeq(N:Nat):LB (mX N) ii (iU N):=λ_ _=>by kernel_rfl
def fX(N:Nat)(a:List Int)(b:Int)(c:fI->Ro):Ro:=let d:=(↑(Aa a):Int);c (a,b,d,0)
def vx(N:Nat)(a:List Int)(b:Int):Ro:=fX N a b (λz=>aN N (iU N) z)
theorem afC(N:Nat)(a:List Int)(c:Int)(h:Tot (vx N a c) (λz=>∃d rest,z.1.dimR=vI d∧z.2=rest∧tq a c (d))):∃r,kh a c r:=afZ.finP (N:=N) ((bK _ (by kernel_rfl) rfl (λC=>fX N a c (λz=>C 1000000 (ii z))) (λC=>by kernel_rfl)).trans (AE (b:=fX N a c (λz=>aZ N (mX N) (ii z))) (by kernel_rfl) (congrArg (fX N a c) (funext λz=>aW (ii) (mX N) (iU N) (aeq N) N z)))) h λ_ ⟨d,_,e,_,q⟩=>⟨(d),e,q⟩
def aer:aI:=tb_ [] [] [] [ahh]
def adB:IR:=Rs [Mb 4 false] (Rs [Mv 5 0,Mv 6 1,Ca 7 240 [5,6],Bc 8 .geq 7 0,Mv 4 8] .ret)
theorem adC:FnC Tryz.prog aer [] 0 224 Tryz.f224 adB aR:=fnC Tryz.func224
def rV(N:Nat)(a:List Int)(b:Int):Ro:=aA (kh a b) (λ(c:Int)=>some (vB (decide (0<=c)),[]))
def rW(N:Nat)(a:List Int)(b:Int):Ro:=rV N a b
theorem ac3(N:Nat)(b:List Int)(c:Int)(h:Tot (rW N b c) (λz=>∃a rest,z.1.dimR=vB a∧z.2=rest∧p7 b c (a))):∃r,ig b c r:=adC.finP (N:=N) (by kernel_rfl) h λ_ ⟨a,_,e,_,q⟩=>⟨(a),e,q⟩
def aoO:aI:=tb_ [] [] [] []
def amp:IR:=Rs [Bx 2 0,Mb 3 false] (Rs [Fa 4 0 2,Lq 5 4,Lq 6 1,Bi 7 .eql 5 6,Mv 3 7] .ret)
def sI:List RV:=[.t 3]
theorem amq:FnC Tryz.prog aoO [] 0 85 Tryz.f85 amp sI:=fnC Tryz.func85
def abf(N:Nat)(a:PMs)(b:Bs):Ro:=some (vB (decide (a.name=b)),[])
def abg(N:Nat)(a:PMs)(b:Bs):Ro:=abf N a b
theorem ake(N:Nat)(b:PMs)(c:Bs)(h:Tot (abg N b c) (λz=>∃a rest,z.1.dimR=vB a∧z.2=rest∧yl b c (a))):∃r,oD b c r:=amq.finP (N:=N) (by kernel_rfl) h λ_ ⟨a,_,e,_,q⟩=>⟨(a),e,q⟩
def cO:aI:=tb_ [] [] [] [aou]
def dI:IR:=Rs [Bi 9 .lss 8 7] (Sq (Cn 9 .skip (.exit 0)) (Sq (.block 1 (Rs [Mv 10 8,Mv 5 10] (Rs [Mv 11 1,Mv 12 0,Mv 13 5,Ix 14 .pms 12 13,Ld 15 3 true 14,Pp (.dcall (some 16) 85 (.t 11) [.t 15])] (Cn 16 (Rs [Mv 17 5,Mv 4 17] .ret) .skip)))) (Rg [Bc 18 .add 8 1,Mv 8 18])))
def dJ:IR:=Rs [Mi 4 (-1)] .ret
def ij:IR:=Rs [Mi 4 0] (Sq (Rs [Mv 6 0,Ll 7 6,Mi 8 0] (.block 0 (.loop [0,1,7,8,1000000] 0 dI))) dJ)
theorem ik:FnC Tryz.prog cO [] 0 84 Tryz.f84 ij aR:=fnC Tryz.func84
def hJ(R:TRr)(a:TS):TE:=(bu a [0,1,7,8,1000000] 0 (aP 0 (kseq (R dJ) (fin aR))))
abbrev bG:Type:=(List PMs×Bs×Int×Int)
def bW:bG->St:=λ(a,b,c,d)=>{env:=(vF .pms a::.fn 85 [.ea [vT b]]::(U 5 (vI c::vI d::(U 10 [])))),hp:=[]}
def cJ(N:Nat):TS->TS:=λa s=>run cO N dI (hJ (run cO N) a) s
def bX(N:Nat)(b:bG->Ro):bG->Ro:=λ(d,a,e,c)=>cond (decide (c<e)) (chk (ixl c d) (let f:=(Ai d (Ad c) (aK .pms));aA (oD f a) (λ(g:Bool)=>cond g (some (vI c,[])) (let h:=(Ab .i64 (c+1));b (d,a,e,h))))) (some (vI (-1),[]))
theorem gD(N:Nat):LB (cJ N) bW (bX N):=λ_ _=>by kernel_rfl
def bJ(N:Nat)(b:List PMs)(a:Bs)(c:bG->Ro):Ro:=let d:=(↑(Aa b):Int);c (b,a,d,0)
def dN(N:Nat)(b:List PMs)(a:Bs):Ro:=bJ N b a (λz=>aN N (bX N) z)
theorem hR(N:Nat)(c:List PMs)(a:Bs)(h:Tot (dN N c a) (λz=>∃d rest,z.1.dimR=vI d∧z.2=rest∧dH c a (d))):∃r,b9 c a r:=ik.finP (N:=N) ((bK _ (by kernel_rfl) rfl (λC=>bJ N c a (λz=>C 1000000 (bW z))) (λC=>by kernel_rfl)).trans (AE (b:=bJ N c a (λz=>aZ N (cJ N) (bW z))) (by kernel_rfl) (congrArg (bJ N c a) (funext λz=>aW (bW) (cJ N) (bX N) (gD N) N z)))) h λ_ ⟨d,_,e,_,q⟩=>⟨(d),e,q⟩
def auz:aI:=tb_ [] [] [] [io,uo,abI]
def asz:IR:=Rs [Bx 2 0,Bx 3 1,Pp (.new 4 [vS,nl .pfl,nl .str]),Mb 5 false] (Rs [Fa 8 0 2,Lq 9 8,Pp (.mkf 10 85 [.t 3]),Ca 11 84 [9,10],Mv 6 11] (Sq (Rs [Mv 12 6,Bc 13 .lss 12 0] (Cn 13 (Rs [Pp (.bld 14 [vS,fu .pfl true,fu .str true] []),Sv 3 4 14,Mb 5 false] .ret) .skip)) (Rs [Fa 15 0 2,Lq 16 15,Mv 17 6,Ix 18 .pms 16 17,Ld 19 3 true 18,Pp (.new 7 [vS,nl .pfl,nl .str]),Sv 3 7 19] (Sq (.reg [Fa 20 1 7,Fo [1] [] (.ld 21 1 false false 20),Ca 22 86 [21],Fa 23 2 7,Fo [1] [] (.ld 24 1 false false 23),Ca 25 87 [24],Fa 26 1 7,Fo [] [1] (.st none 1 26 (.tk 22)),Fa 27 2 7,Fo [] [1] (.st none 1 27 (.tk 25))] [[],[0],[0,1],[],[3],rg 0 4,rg 0 4,rg 0 6,rg 0 7,rg 0 8]) (Rs [Pp (.ld 28 3 true false 7),Sv 3 4 28,Mb 5 true] .ret)))))
theorem asA:FnC Tryz.prog auz [] 0 47 Tryz.f47 asz eG:=fnC Tryz.func47
def afD(N:Nat)(a:List PMs)(f:List PEn)(g:Bs):Ro:=aA (b9 a g) (λ(c:Int)=>cond (decide (c<0)) (some (.tup [.agg [vT [],.sl .pfl (.may true) [],.sl .str (.may true) []],vB false],[some [vT [],.sl .pfl (.may true) [],.sl .str (.may true) []]])) (chk (ixl c a) (let b:=(Ai a (Ad c) (aK .pms));aA (dY b.fields) (λ(d:List PFl)=>aA (fS b.oneofs) (λ(e:Bss)=>some (.tup [.agg [vT b.name,vF .pfl d,vF .str e],vB true],[some [vT b.name,vF .pfl d,vF .str e],some [vT b.name,vF .pfl d,vF .str e]]))))))
def afE(N:Nat)(a:List PMs)(b:List PEn)(c:Bs):Ro:=afD N a b c
theorem aqr(N:Nat)(a:List PMs)(b:List PEn)(f:Bs)(h:Tot (afE N a b f) (λz=>∃c d rest,z.1.dimR=.tup [.agg (enc .pms c),vB d]∧z.2=rest∧acU a b f (c,d))):∃r,iT a b f r:=asA.finP (N:=N) (by kernel_rfl) h λ_ ⟨c,d,_,e,_,q⟩=>⟨(c,d),e,q⟩
def asB:aI:=tb_ [] [] [] []
def aqs:IR:=Rs [Bx 2 0,Mb 3 false] (Rs [Fa 4 0 2,Lq 5 4,Lq 6 1,Bi 7 .eql 5 6,Mv 3 7] .ret)
theorem aqt:FnC Tryz.prog asB [] 0 141 Tryz.f141 aqs sI:=fnC Tryz.func141
def ad5(N:Nat)(a:PFl)(b:Int):Ro:=some (vB (a.num==b),[])
def ad6(N:Nat)(a:PFl)(b:Int):Ro:=ad5 N a b
theorem aoP(N:Nat)(b:PFl)(c:Int)(h:Tot (ad6 N b c) (λz=>∃a rest,z.1.dimR=vB a∧z.2=rest∧abc b c (a))):∃r,rh b c r:=aqt.finP (N:=N) (by kernel_rfl) h λ_ ⟨a,_,e,_,q⟩=>⟨(a),e,q⟩
def dc:aI:=tb_ [] [] [] [asn]
def eb:IR:=Rs [Bi 9 .lss 8 7] (Sq (Cn 9 .skip (.exit 0)) (Sq (.block 1 (Rs [Mv 10 8,Mv 5 10] (Rs [Mv 11 1,Mv 12 0,Mv 13 5,Ix 14 .pfl 12 13,Ld 15 8 true 14,Pp (.dcall (some 16) 141 (.t 11) [.t 15])] (Cn 16 (Rs [Mv 17 5,Mv 4 17] .ret) .skip)))) (Rg [Bc 18 .add 8 1,Mv 8 18])))
def ee:IR:=Rs [Mi 4 (-1)] .ret
def jO:IR:=Rs [Mi 4 0] (Sq (Rs [Mv 6 0,Ll 7 6,Mi 8 0] (.block 0 (.loop [0,1,7,8,1000000] 0 eb))) ee)
theorem jP:FnC Tryz.prog dc [] 0 140 Tryz.f140 jO aR:=fnC Tryz.func140
def jD(R:TRr)(a:TS):TE:=(bu a [0,1,7,8,1000000] 0 (aP 0 (kseq (R ee) (fin aR))))
abbrev bN:Type:=(List PFl×Int×Int×Int)
def ch:bN->St:=λ(a,b,c,d)=>{env:=(vF .pfl a::.fn 141 [.ea [vI b]]::(U 5 (vI c::vI d::(U 10 [])))),hp:=[]}
def c5(N:Nat):TS->TS:=λa s=>run dc N eb (jD (run dc N) a) s
def cl(N:Nat)(b:bN->Ro):bN->Ro:=λ(d,a,e,c)=>cond (decide (c<e)) (chk (ixl c d) (let f:=(Ai d (Ad c) (aK .pfl));aA (rh f a) (λ(g:Bool)=>cond g (some (vI c,[])) (let h:=(Ab .i64 (c+1));b (d,a,e,h))))) (some (vI (-1),[]))
theorem je(N:Nat):LB (c5 N) ch (cl N):=λ_ _=>by kernel_rfl
def bR(N:Nat)(b:List PFl)(a:Int)(c:bN->Ro):Ro:=let d:=(↑(Aa b):Int);c (b,a,d,0)
def eB(N:Nat)(b:List PFl)(a:Int):Ro:=bR N b a (λz=>aN N (cl N) z)
theorem jE(N:Nat)(c:List PFl)(a:Int)(h:Tot (eB N c a) (λz=>∃d rest,z.1.dimR=vI d∧z.2=rest∧d9 c a (d))):∃r,cr c a r:=jP.finP (N:=N) ((bK _ (by kernel_rfl) rfl (λC=>bR N c a (λz=>C 1000000 (ch z))) (λC=>by kernel_rfl)).trans (AE (b:=bR N c a (λz=>aZ N (c5 N) (ch z))) (by kernel_rfl) (congrArg (bR N c a) (funext λz=>aW (ch) (c5 N) (cl N) (je N) N z)))) h λ_ ⟨d,_,e,_,q⟩=>⟨(d),e,q⟩
def azf:aI:=tb_ [] [] [] [kg]
def awF:IR:=Rs [Bx 2 0,Bx 3 1,Pp (.new 4 [vI 0,vS,vI 0,vI 0,vS,vI 0,.bool false,vI 0]),Mb 5 false] (Rs [Fa 7 1 2,Lq 8 7,Pp (.mkf 9 141 [.t 3]),Ca 10 140 [8,9],Mv 6 10] (Sq (Rs [Mv 11 6,Bc 12 .lss 11 0] (Cn 12 (Rs [Pp (.bld 13 [vI 0,vS,vI 0,vI 0,vS,vI 0,.bool false,vI 0] []),Sv 8 4 13,Mb 5 false] .ret) .skip)) (Rs [Fa 14 1 2,Lq 15 14,Mv 16 6,Ix 17 .pfl 15 16,Ld 18 8 true 17,Sv 8 4 18,Mb 5 true] .ret)))
theorem awG:FnC Tryz.prog azf [] 0 89 Tryz.f89 awF ayO:=fnC Tryz.func89
def aiL(N:Nat)(b:PMs)(m:Int):Ro:=let d:=λe f g h i j k l n=>(some (.tup [.agg [vI e,vT f,vI g,vI h,vT i,vI j,vB k,vI l],vB n],[some [vI e,vT f,vI g,vI h,vT i,vI j,vB k,vI l]]):Ro);aA (cr b.fields m) (λ(c:Int)=>cond (decide (c<0)) (d 0 [] 0 0 [] 0 false 0 false) (chk (ixl c b.fields) (let a:=(Ai b.fields (Ad c) (aK .pfl));d a.num a.name a.label a.kind a.typ a.key a.packed a.oneof true)))
def aiM(N:Nat)(a:PMs)(b:Int):Ro:=aiL N a b
theorem auA(N:Nat)(c:PMs)(d:Int)(h:Tot (aiM N c d) (λz=>∃a b rest,z.1.dimR=.tup [.agg (enc .pfl a),vB b]∧z.2=rest∧afq c d (a,b))):∃r,lr c d r:=awG.finP (N:=N) (by kernel_rfl) h λ_ ⟨a,b,_,e,_,q⟩=>⟨(a,b),e,q⟩
section
variable{Q:V×List aJ->Prop}
theorem are(a b:Bs):∃r,lA a b r:=by apply amk 1;unfold ac0 acZ;exact aT (aqm a b) (λ_ h=>h.2) (aG ⟨_,_,rfl,rfl,rfl⟩)
theorem aFU(l:List PFl)(h:l.length<=1000000):∃r,dY l r:=by
 by_cases a:l=[]
 ·subst a;exact⟨[],ald aDS aBK,rfl⟩
 ·have:=Cr.2 a;apply sH 1;unfold jT jS;exact aD (decide_eq_true this) (aD (decide_eq_true (by simp only[Ak];omega)) (aG ⟨l,_,rfl,rfl,rfl⟩))
theorem aFV(l:Bss)(h:l.length<=1000000):∃r,fS l r:=by
 by_cases a:l=[]
 ·subst a;exact⟨[],ald aDR aBJ,rfl⟩
 ·have:=Cr.2 a;apply aal 1;unfold pg pf;exact aD (decide_eq_true this) (aD (decide_eq_true (by simp only[Ak];omega)) (aG ⟨l,_,rfl,rfl,rfl⟩))
theorem axE(a:Int):∃r,lJ a r:=by apply aml 1;unfold ac2 ac1;exact aG ⟨_,_,rfl,rfl,by simp[rc]⟩
theorem auB(a:Int):∃r,kD a r:=by apply aka 1;unfold abe abd;exact aG ⟨_,_,rfl,rfl,by simp[pZ]⟩
theorem aHz(a b:Int):∃r,nv a b r:=by
 apply aiI 1;unfold aan aam;refine aT (axE _) (λ_ h=>h.2) (aT (axE _) (λ_ h=>h.2) ?_)
 repeat' (first|(with_reducible refine aB ?_ ?_<;>(intro c;(try simp only[bnl] at c);(try revert c;intro _)))|with_reducible refine aD ?_ ?_|with_reducible refine aG ?_|fail)
 all_goals exact⟨_,_,rfl,rfl,by unfold pc awo;grind⟩
theorem aFW(a b:Int):∃r,mo a b r:=by
 apply ahl 1;unfold yr yq;refine aT (auB _) (λ_ h=>h.2) (aT (auB _) (λ_ h=>h.2) ?_)
 repeat' (first|(with_reducible refine aB ?_ ?_<;>(intro c;(try simp only[bnl] at c);(try revert c;intro _)))|with_reducible refine aD ?_ ?_|with_reducible refine aG ?_|fail)
 all_goals exact⟨_,_,rfl,rfl,by unfold nC awo;grind⟩
theorem afF{α:Type}{p:α->Bool}{l:List α}{k:Int}(d:α)(f:0<=k)(c:k<l.length)(hp:p (l.getD k.toNat d)=true)(b:(l.take k.toNat).all (λx=> !p x)=true):aj3 p l k:=by
 refine⟨by omega,c,λh=>by omega,λe _=>⟨?_,b⟩⟩;have a:k.toNat<l.length:=by omega
 rw[Ar,Ah a] at hp ⊢;exact hp
theorem afG{α:Type}{p:α->Bool}{l:List α}(a:l.all (λx=> !p x)=true):aj3 p l (-1):=⟨by omega,by omega,λ_=>a,λ_ h=>by omega⟩
theorem awH{α:Type}{p:α->Bool}{l:List α}{r:Int}(d:α)(h:aj3 p l r):decide (0<=r)=l.any p:=by
 by_cases a:0<=r;·rw[decide_eq_true a,(List.any_eq_true.2 ⟨_,d8 d a h.2.1,(h.2.2.2 d a).1⟩:l.any p=true)]
 ·rw[decide_eq_false a];symm;rw[Dr];intro x b;have:=AA.1 (h.2.2.1 (by omega)) x b;simpa using this
theorem aCf{α:Type}{p:α->Bool}{l:List α}{r:Int}(d:α)(h:aj3 p l r):l.find? p=if r<0 then none else some (l.getD r.toNat d):=by
 split;·rename_i b;rw[Cx];intro x a;have:=AA.1 (h.2.2.1 b) x a;simpa using this
 ·rename_i b;have c:=h.2.2.2 d (by omega);have e:l=l.take r.toNat++(l.getD r.toNat d::l.drop (r+1).toNat):=by
   rw[<-fp d (by omega) h.2.1,Ba]
  have:(l.take r.toNat).find? p=none:=by rw[Cx];intro x a;have:=AA.1 c.2 x a;simpa using this
  conv=>lhs;rw[e]
  rw[List.find?_append,this,CB,c.1];rfl
theorem aoQ{α:Type}{p:α->Bool}{l:List α}{k:Int}(d:α)(b:0<=k)(c:k<l.length)(a:(l.take k.toNat).all (λx=> !p x)=true)(hp:p (l.getD k.toNat d)=false):(l.take (k+1).toNat).all (λx=> !p x)=true:=by rw[lj d b c,DI,a,CN,hp];rfl
theorem aHA(l:List Int)(x:Int)(h:l.length<=1000000):∃r,kh l x r:=by
 obtain⟨N,m⟩:∃N:Nat,N=1000001:=⟨_,rfl⟩
 apply afC N;unfold vx fX;refine bj (λ(y:fI)=>match y with|(i,j,n,k)=>(i,j,n)=(l,x,(l.length:Int))∧0<=k∧k<=l.length∧(l.take k.toNat).all (λy=> !(x==y))=true) (λy=>(l.length-y.2.2.2).toNat) ?_ _ _ ⟨rfl,As _,by omega,rfl⟩ (by dsimp only;omega);rintro d ⟨i,j,n,k⟩ ⟨q,c,u,b⟩ f;cases q;dsimp only at f;unfold iU;dsimp only;refine aB (λa=>?_) (λa=>?_);·have a:=of_decide_eq_true a;refine aD (ixt ⟨c,a⟩) (aB (λe=>aG ⟨k,_,rfl,rfl,afF (p:=λy=>x==y) (aK (.num .i64)) c a e b⟩) (λe=>?_));rw[dj c (by omega)];exact f _ ⟨rfl,by first|omega|(dsimp only;omega),by first|omega|(dsimp only;omega),aoQ (p:=λy=>x==y) (aK (.num .i64)) c a b e⟩ (by first|omega|(dsimp only;omega))
 ·rw[pd (of_decide_eq_false a)] at b;exact aG ⟨-1,_,rfl,rfl,afG b⟩
theorem aCg(l:List Int)(x:Int)(h:l.length<=1000000):∃r,ig l x r:=by apply ac3 1;unfold rW rV;refine aY (aHA l x h) ?_;rintro r ⟨-,a⟩;exact aG ⟨_,_,rfl,rfl,awH (aK (.num .i64)) a⟩
theorem aKF(m:PMs)(s:Bs):∃r,oD m s r:=by apply ake 1;unfold abg abf;exact aG ⟨_,_,rfl,rfl,rfl⟩
theorem aI4(l:List PMs)(s:Bs)(h:l.length<=1000000):∃r,b9 l s r:=by
 obtain⟨N,u⟩:∃N:Nat,N=1000001:=⟨_,rfl⟩
 apply hR N;unfold dN bJ;refine bj (λ(y:bG)=>match y with|(i,j,n,k)=>(i,j,n)=(l,s,(l.length:Int))∧0<=k∧k<=l.length∧(l.take k.toNat).all (λm:PMs=> !decide (m.name=s))=true) (λy=>(l.length-y.2.2.2).toNat) ?_ _ _ ⟨rfl,As _,by omega,rfl⟩ (by dsimp only;omega);rintro d ⟨i,j,n,k⟩ ⟨q,b,v,c⟩ f;cases q;dsimp only at f;unfold bX;dsimp only;refine aB (λa=>?_) (λa=>?_);·have a:=of_decide_eq_true a;refine aD (ixt ⟨b,a⟩) (aT (aKF _ _) (λ_ h=>h.2) (aB (λe=>aG ⟨k,_,rfl,rfl,afF (p:=λm:PMs=>decide (m.name=s)) (aK .pms) b a e c⟩) (λe=>?_)));rw[dj b (by omega)];exact f _ ⟨rfl,by first|omega|(dsimp only;omega),by first|omega|(dsimp only;omega),aoQ (p:=λm:PMs=>decide (m.name=s)) (aK .pms) b a c e⟩ (by first|omega|(dsimp only;omega))
 ·rw[pd (of_decide_eq_false a)] at c;exact aG ⟨-1,_,rfl,rfl,afG c⟩
theorem aCh(ms:List PMs)(es:List PEn)(s:Bs)(d:ajh ms):∃r,iT ms es s r:=by
 apply aqr 1;unfold afE afD;refine aY (aI4 ms s (by have:=d.1;omega)) ?_;rintro k ⟨-,b⟩;have a:=aCf (aK .pms) b;refine aB (λh=>?_) (λh=>?_);·rw[if_pos (of_decide_eq_true h)] at a;exact aG ⟨⟨[],[],[]⟩,false,_,rfl,rfl,by show _=dh ms s;unfold dh;rw[a]⟩
 ·have h:=of_decide_eq_false h;rw[if_neg h] at a;have c:=d.2 _ (d8 (aK .pms) (by omega) b.2.1);refine aD (ixt ⟨by omega,b.2.1⟩) (aT (aFU _ (by have:=c.1;omega)) (λ_ h=>h.2) (aT (aFV _ (by have:=c.2.2.1;omega)) (λ_ h=>h.2) ?_));exact aG ⟨Ai ms k.toNat (aK .pms),true,_,rfl,rfl,by show _=dh ms s;unfold dh;rw[a]⟩
theorem ahm{ms:List PMs}{es:List PEn}{s:Bs}{K:PMs×Bool->Ro}(a:ajh ms)(b:Tot (K (dh ms s)) Q):Tot (aA (iT ms es s) K) Q:=aT (aCh ms es s a) (λ_ h=>h.2) b
theorem aKG(f:PFl)(n:Int):∃r,rh f n r:=by apply aoP 1;unfold ad6 ad5;exact aG ⟨_,_,rfl,rfl,rfl⟩
theorem aI5(l:List PFl)(s:Int)(h:l.length<=1000000):∃r,cr l s r:=by
 obtain⟨N,u⟩:∃N:Nat,N=1000001:=⟨_,rfl⟩
 apply jE N;unfold eB bR;refine bj (λ(y:bN)=>match y with|(j,m,n,k)=>(j,m,n)=(l,s,(l.length:Int))∧0<=k∧k<=l.length∧(l.take k.toNat).all (λf:PFl=> !(f.num==s))=true) (λy=>(l.length-y.2.2.2).toNat) ?_ _ _ ⟨rfl,As _,by omega,rfl⟩ (by dsimp only;omega);rintro d ⟨j,m,n,k⟩ ⟨q,b,v,c⟩ i;cases q;dsimp only at i;unfold cl;dsimp only;refine aB (λa=>?_) (λa=>?_);·have a:=of_decide_eq_true a;refine aD (ixt ⟨b,a⟩) (aT (aKG _ _) (λ_ h=>h.2) (aB (λe=>aG ⟨k,_,rfl,rfl,afF (p:=λf:PFl=>f.num==s) (aK .pfl) b a e c⟩) (λe=>?_)));rw[dj b (by omega)];exact i _ ⟨rfl,by first|omega|(dsimp only;omega),by first|omega|(dsimp only;omega),aoQ (p:=λf:PFl=>f.num==s) (aK .pfl) b a c e⟩ (by first|omega|(dsimp only;omega))
 ·rw[pd (of_decide_eq_false a)] at c;exact aG ⟨-1,_,rfl,rfl,afG c⟩
theorem aFX(m:PMs)(n:Int)(h:m.fields.length<=1000):∃r,lr m n r:=by
 apply auA 1;unfold aiM aiL;refine aY (aI5 m.fields n (by omega)) ?_;rintro k ⟨-,b⟩;have a:=aCf (aK .pfl) b;refine aB (λh=>?_) (λh=>?_);·rw[if_pos (of_decide_eq_true h)] at a;exact aG ⟨⟨0,[],0,0,[],0,false,0⟩,false,_,rfl,rfl,by show _=cQ m n;unfold cQ;rw[a]⟩
 ·have h:=of_decide_eq_false h;rw[if_neg h] at a;exact aD (ixt ⟨by omega,b.2.1⟩) (aG ⟨Ai m.fields k.toNat (aK .pfl),true,_,rfl,rfl,by show _=cQ m n;unfold cQ;rw[a]⟩)
theorem aoR{m:PMs}{n:Int}{K:PFl×Bool->Ro}(h:m.fields.length<=1000)(a:Tot (K (cQ m n)) Q):Tot (aA (lr m n) K) Q:=aT (aFX m n h) (λ_ h=>h.2) a
end
theorem uA(k:Int)(x y:aC):∀l:List aC,(ic k l x y).length<=l.length+2∧(l.length%2=0->(ic k l x y).length%2=0)
 | []=>by simp[ic]
 | [a]=>by simp[ic]
 |a::b::r=>by
  have:=uA k x y r;simp only[ic]
  (repeat' split)<;>simp only[Af]<;>omega
theorem aey(v:aC):wtV v=100+v.s.length+v.rest.length+eH v.fs:=by cases v;simp only[wtV,aC.s,aC.rest,aC.fs]
theorem aEF:∀a b:List aC,wtL (a++b)=wtL a+wtL b
 | [],b=>by simp[wtL]
 |x::a,b=>by simp only[AP,wtL,aEF a b];omega
theorem aKH(v:aC):wtL [v]=wtV v:=by simp[wtL]
theorem awI(k:Int)(x y:aC)(l:List aC):wtL (ic k l x y)<=wtL l+wtV x+wtV y:=by
 fun_induction ic k l x y<;>simp_all only[wtL]<;>omega
theorem aI6(k:Int)(l a:List aC):wtL (dB k a l)<=wtL a+wtL l:=by
 fun_induction dB k a l with
 |case1 a x y r b=>have:=awI k x y a;simp only[wtL];omega
 |case2=>omega
theorem aiN:∀l:List aC,100*l.length<=wtL l
 | []=>by simp[wtL]
 |v::l=>by have:=aiN l;have:=aey v;simp only[wtL,Af];omega
theorem akf:∀l:List (Int×List aC),100*l.length<=eH l
 | []=>by simp[eH]
 |(n,v)::l=>by have:=akf l;simp only[eH,Af];omega
theorem aHB(n:Int)(l:List aC):∀fs:List (Int×List aC),eH (fg fs n l)<=eH fs+100+wtL l
 | []=>by simp only[fg,nA];split<;>simp only[eH,wtP]<;>omega
 |x::r=>by
  have:=aHB n l r;simp only[fg,nA]
  (repeat' split)<;>simp only[eH,wtP]<;>omega
theorem aEG(n:Int):∀fs:List (Int×List aC),eH (fg fs n [])<=eH fs
 | []=>by simp[fg,nA]
 |x::r=>by
  have:=aEG n r;simp only[fg,nA,if_true];split;·simp only[eH];omega
  ·split<;>simp only[eH]<;>omega
theorem aHC(f:PFl):∀(p:List PFl)(fs:List (Int×List aC)),eH (alR p fs f)<=eH fs
 | [],fs=>by simp[alR]
 |x::r,fs=>by
  simp only[alR];refine A6 (aHC f r _) ?_;split;·exact aEG _ _
  ·exact Ap _
theorem aI7(p:PMs)(fs:List (Int×List aC))(f:PFl):eH (gi p fs f)<=eH fs:=by
 unfold gi;split;·exact aHC _ _ _
 ·exact Ap _
theorem aKI(p:PMs)(f:PFl)(fs:List (Int×List aC))(l:List aC):eH (u7 p f fs l)<=eH fs+100+wtL l:=by
 unfold u7;refine A6 (aHB _ _ _) ?_;have:=aI7 p fs f;split;·have:=aI6 f.key l [];simp only[wtL] at this;omega
 ·omega
theorem aCi(n:Int)(l:List aC):∀fs:List (Int×List aC),∀m∈(fg fs n l).map BP,m=n∨m∈fs.map BP
 | [],m,h=>by simp only[fg,nA] at h;split at h<;>simp_all
 |x::r,m,h=>by
  have a:=aCi n l r m;simp only[fg,nA] at h
  (repeat' split at h)<;>simp only[AL,AN] at h ⊢ <;>grind
theorem axF(n:Int):∀fs:List (Int×List aC),∀m∈(fg fs n []).map BP,m∈fs.map BP
 | [],m,h=>by simp[fg,nA] at h
 |x::r,m,h=>by
  have a:=axF n r m;simp only[fg,nA,if_true] at h
  (repeat' split at h)<;>simp only[AL,AN] at h ⊢ <;>grind
theorem aCj(f:PFl):∀(p:List PFl)(fs:List (Int×List aC)),∀m∈(alR p fs f).map BP,m∈fs.map BP
 | [],fs,m,h=>by simpa [alR] using h
 |x::r,fs,m,h=>by
  simp only[alR] at h;have:=aCj f r _ m h;split at this;·exact axF _ _ _ this
  ·exact this
theorem auC(p:PMs)(fs:List (Int×List aC))(f:PFl):∀m∈(gi p fs f).map BP,m∈fs.map BP:=by
 intro m h;unfold gi at h;split at h;·exact aCj _ _ _ m h
 ·exact h
theorem aI8{fs:List (Int×List aC)}{n:Int}(h:n ∉ fs.map BP):mV fs n=([],false):=by unfold mV;rw[Cx.2 (λx a b=>h (AD.2 ⟨x,a,by simpa using b⟩))]
section
variable{Q:V×List aJ->Prop}
def PtQ(k:Int)(l:List aC)(x y:aC):V×List aJ->Prop:=λz=>∃(a:List aC)(rest:List aJ),z.1.dimR=.sl .pval (.may false) a∧z.2=rest∧a=ic k l x y
theorem aHD(K:Int)(l:List aC)(x y:aC)(h:l.length<=100000000000)(P:l.length%2=0):∃r,oZ K l x y r:=by
 obtain⟨N,O⟩:∃N:Nat,N=200000000000:=⟨_,rfl⟩
 apply azc N;show Tot _ (PtQ K l x y);unfold aoI uw;refine bj (λ(z:rT)=>match z with|(k',G,F,H,k)=>(k',G,F,H)=(K,l,x,y)∧0<=k∧k<=l.length∧k%2=0∧ic K l x y=l.take k.toNat++ic K (l.drop k.toNat) x y) (λz=>(l.length-z.2.2.2.2).toNat) ?_ _ _ ⟨rfl,As _,by omega,rfl,rfl⟩ (by dsimp only;omega);rintro w ⟨k',G,F,H,k⟩ ⟨q,C,R,M,f⟩ E;cases q;dsimp only at E;unfold xk;dsimp only;simp only[nQ];have A:=afw l k.toNat;have B:(decide (0<=k)&&decide (k<=(↑(Aa l):Int)))=true:=by simp only[Ac,decide_eq_true_eq];omega
 have fin:∀r:List aC,r.length<=l.length->ic K l x y=l.take k.toNat++x::y::r->Tot (chk ((decide (0<=k)&&decide (k<=(↑(Aa l):Int)))) (chk (decide ((Aa ([]:List aC)+Aa (An 0 (Ao (Ad k) l)))*64<=140737488355328)) (chk (decide ((Aa (([]:List aC)++(An 0 (Ao (Ad k) l)))+Aa ([x,y]:List aC))*64<=140737488355328)) (chk (decide ((Aa ((([]:List aC)++(An 0 (Ao (Ad k) l)))++([x,y]:List aC))+Aa r)*64<=140737488355328)) (some ((.sl .pval .own (((([]:List aC)++(An 0 (Ao (Ad k) l)))++([x,y]:List aC))++r),[]):V×List aJ)))))) (PtQ K l x y):=by intro r J e;refine aD B (aD (decide_eq_true (by simp only[Aj,Ak] at A ⊢;omega)) (aD (decide_eq_true (by simp only[Aj,Af,Ak] at A ⊢;omega)) (aD (decide_eq_true (by simp only[Aj,Af,Ak] at A ⊢;omega)) (aG ⟨_,_,rfl,rfl,?_⟩))));rw[e];simp
 refine aB (λc=>?_) (λc=>?_)
 ·have i:=c;have c:=of_decide_eq_true c;have e:=ixt (l:=l) ⟨C,c⟩;have d:=fp (aK .pval) C c;have u:=fp (l:=l) (k:=k+1) (aK .pval) (by omega) (by omega);have j:=lj (aK .pval) C c;have m:=lj (l:=l) (k:=k+1) (aK .pval) (by omega) (by omega);obtain⟨a,L⟩:∃a,a=Ai l k.toNat (aK .pval):=⟨_,rfl⟩
  obtain⟨b,I⟩:∃b,b=Ai l (k+1).toNat (aK .pval):=⟨_,rfl⟩
  rw[<-L] at d j ⊢;rw[<-I,show k+1+1=k+2 by omega] at u m;rw[u] at d;rw[d] at f;simp only[ic] at f;rw[aQ (k+2) (by omega)];refine aD e (aHw (aB (λv=>?_) (λv=>aD B (aB (λ_=>aD e (aHw (aB (λD=>aD (by simp only[Ac,decide_eq_true_eq];omega) ?_) (λD=>?_)))) (λp=>by rw[i] at p;simp at p)))));·refine E _ ⟨rfl,by first|omega|(dsimp only;omega),by first|omega|(dsimp only;omega),by first|omega|(dsimp only;omega),?_⟩ (by first|omega|(dsimp only;omega));dsimp only;rw[f,if_pos (of_decide_eq_true v),m,j];simp
  ·refine fin _ (rl l _) ?_;rw[f,if_neg (of_decide_eq_false v),if_pos (by simpa using D),AQ]
  ·refine fin _ (rl l _) ?_;rw[f,if_neg (of_decide_eq_false v),if_neg (by simpa using D),AQ,d]
 ·have i:=c;have c:=of_decide_eq_false c;rw[gB c] at f;simp only[ic] at f;refine aD B (aB (λp=>by rw[i] at p;simp at p) (λ_=>fin _ (rl l _) ?_));rw[f,AQ,gB c]
theorem asC{k:Int}{l:List aC}{x y:aC}{K:List aC->Ro}(h:l.length<=100000000000)(a:l.length%2=0)(b:Tot (K (ic k l x y)) Q):Tot (aA (oZ k l x y) K) Q:=aT (aHD k l x y h a) (λ_ h=>h.2) b
def OvQ(p:PMs)(f:PFl)(fs:List (Int×List aC))(rest:Bs)(l:List aC):V×List aJ->Prop:=λz=>∃(b:List (Int×List aC))(a:Bs)(r:List aJ),z.1.dimR=.agg [.sl .pfd (.may false) b,.str a]∧z.2=r∧(mV (gi p fs f) f.num=([],false)->(b,a)=(u7 p f fs l,rest))
theorem aI9(ms:List PMs)(es:List PEn)(p:PMs)(f:PFl)(fs:List (Int×List aC))(rest:Bs)(l:List aC)(h:fs.length<=100000000000)(hp:p.fields.length<=1000)(S:l.length<=100000000000)(H:f.label=3->l.length%2=0)(I:mV (gi p fs f) f.num=([],false)):∃r,cI ms es p f fs rest l r:=by
 obtain⟨N,P⟩:∃N:Nat,N=200000000000:=⟨_,rfl⟩
 apply awE N;show Tot _ (OvQ p f fs rest l);unfold alf rU;dsimp only;have R:=aFT p fs f;have j:∀(g:List (Int×List aC))(r:Bs)(o:List aJ),(g,r)=(u7 p f fs l,rest)->Tot (some ((.agg [.sl .pfd (.may false) g,.str r],o):V×List aJ)) (OvQ p f fs rest l):=λg r o e=>aG ⟨_,_,_,rfl,rfl,λ_=>e⟩
 have flat:∀{K:List (Int×List aC)×Bs->Ro},(f.label≠3)->(∀o,o=(u7 p f fs l,rest)->Tot (K o) (OvQ p f fs rest l))->Tot (aA (fO (gi p fs f) rest f.num l) K) (OvQ p f fs rest l):=λd L=>aCe (by omega) (L _ (by unfold u7;rw[if_neg d]))
 refine aI3 h hp ?_;dsimp only;refine aHx (by omega) ?_;rw[I];dsimp only;refine aB (λx=>aD (by decide) (aD (decide_eq_true (by simp only[Aj,Ak];omega)) ?_)) (λx=>aB (λd=>?_) (λd=>?_))
 ·have x:f.label=2:=by simpa using x
  exact flat (by omega) (λo e=>by subst e;exact j _ _ _ rfl)
 ·have d:f.label=3:=by simpa using d
  have J:=H d;refine bj (λ(z:qb)=>match z with|(F,C,c,k,g,D,a,b)=>(F,C,g,D,a,b)=(l,f,gi p fs f,rest,[],[])∧0<=k∧k<=l.length∧k%2=0∧(c.length:Int)<=k∧c.length%2=0∧dB f.key c (l.drop k.toNat)=dB f.key [] l) (λz=>(l.length-z.2.2.2.1).toNat) ?_ _ _ ⟨rfl,As _,by omega,rfl,by simp,rfl,rfl⟩ (by dsimp only;omega);rintro A ⟨F,C,c,k,g,D,a,b⟩ ⟨q,E,W,O,G,u,m⟩ B;cases q;dsimp only at B;unfold vh;dsimp only;rw[aQ (k+1) (by omega),aQ (k+2) (by omega),nQ,nQ];refine aB (λi=>?_) (λi=>?_);·have i:=of_decide_eq_true i;have w:=fp (l:=l) (aK .pval) E (by omega);have v:=fp (l:=l) (k:=k+1) (aK .pval) (by omega) i;rw[show k+1+1=k+2 by omega] at v;rw[v] at w;rw[w] at m;simp only[dB] at m;have y:=uA f.key (Ai l k.toNat (aK .pval)) (Ai l (k+1).toNat (aK .pval)) c;refine aD (ixt ⟨E,by omega⟩) (aD (ixt ⟨by omega,i⟩) (asC (by omega) u ?_));exact B _ ⟨rfl,by first|omega|(dsimp only;omega),by first|omega|(dsimp only;omega),by first|omega|(dsimp only;omega),by first|omega|(dsimp only;omega),y.2 u,m⟩ (by first|omega|(dsimp only;omega))
  ·have i:=of_decide_eq_false i;rw[gB (by omega)] at m;simp only[dB] at m;refine aCe (by omega) (j _ _ _ ?_);dsimp only;unfold u7;rw[if_pos d,m]
 ·have d:f.label≠3:=by simpa using d
  refine aB (λ_=>aB (λM=>by simp at M) (λ_=>?_)) (λ_=>?_)<;>exact flat d (λo e=>by subst e;exact j _ _ _ rfl)
theorem aKJ{ms:List PMs}{es:List PEn}{p:PMs}{f:PFl}{fs:List (Int×List aC)}{rest:Bs}{l:List aC}{K:List (Int×List aC)×Bs->Ro}(h:fs.length<=100000000000)(hp:p.fields.length<=1000)(b:l.length<=100000000000)(c:f.label=3->l.length%2=0)(a:mV (gi p fs f) f.num=([],false))(e:Tot (K (u7 p f fs l,rest)) Q):Tot (aA (cI ms es p f fs rest l) K) Q:=
 aY (aI9 ms es p f fs rest l h hp b c a) λr d=>by rw[d.2 a];exact e
end
theorem xG(ms:List PMs)(k:Int)(t:Bs)(v:aC):gj ms k t v=if k=16 then v.n==0&&(decide (v.s=[])&&ui ms t v.fs v.rest) else if k=14∨k=15 then v.n==0&&(decide (v.fs.length=0)&&(decide (v.rest=[])&&(k==15||lw v.s))) else decide (v.s=[])&&(decide (v.fs.length=0)&&(decide (v.rest=[])&&yH k v.n)):=by cases v;simp only[gj,ui,aC.n,aC.s,aC.fs,aC.rest];rfl
theorem aJL{k:Int}(h:0<=k):Bd k 2=k%2:=Bh h
def asD(l:List aC)(k:Int):Option aC:=if k=0 then none else some (l.getD (2*((k-1) / 2)).toNat (aK .pval))
def abP(f:PFl)(a:Bool)(pk:Option aC)(v:aC):Bool:=match pk with|none=>true|some q=> !(f.label==3&&a)||decide (gr f.key q v<0)
theorem agM(ms:List PMs)(f:PFl)(a:Bool)(pk:Option aC)(v:aC)(r:List aC):iK ms f a pk (v::r)=(gj ms (if (f.label==3&&a)=true then f.key else f.kind) f.typ v&&(!(lq f&&qU f.kind v)&&(abP f a pk v&&iK ms f (!a) (if a then some v else pk) r))):=by simp only[iK,abP];rfl
section
variable{Q:V×List aJ->Prop}
def BoQ(b:Bool):V×List aJ->Prop:=λz=>∃(a:Bool)(rest:List aJ),z.1.dimR=.bool a∧z.2=rest∧a=b
theorem mY{b c:Bool}(o:List aJ)(h:c=b):Tot (some ((.bool c,o):V×List aJ)) (BoQ b):=aG ⟨_,_,rfl,rfl,h⟩
def akg(fs:List (Int×List aC))(k:Int):Option Int:=if k=0 then none else some (fs.getD (k-1).toNat (aK .pfd)).1
theorem awJ{x:Int×List aC}:∀{fs:List (Int×List aC)},x∈fs->100+wtL x.2<=eH fs
 | [],h=>by simp at h
 |y::r,h=>by
  simp only[eH];rcases AN.1 h with rfl|h;·obtain⟨n,l⟩:=x;simp only[wtP];omega
  ·have:=awJ h;omega
theorem yt{v:aC}:∀{l:List aC},v∈l->wtV v<=wtL l
 | [],h=>by simp at h
 |y::r,h=>by
  simp only[wtL];rcases AN.1 h with rfl|h;·omega
  ·have:=yt h;omega
theorem auD:∀(n:Nat)(s:Bs)(l:List bi),eQ n s=some l->l.length<=n
 |n,[],l,h=>by
  have:l=[]:=by cases n<;>(simp only[eQ,Ae] at h;exact h.symm)
  subst this;exact A0 _
 |0,_::_,l,h=>by simp[eQ] at h
 |k+1,c::s,l,h=>by
  simp only[eQ] at h;split at h;·cases h
  ·split at h;·cases h
   ·rename_i r _ b a;cases h;have:=auD k _ _ a;simp only[Af];omega
theorem axG(s:Bs):(fT s).1.length <=5000:=by
 unfold fT;split;·simp
 ·cases h:eQ s.length s with
  |none=>simp
  |some l=>have:=auD _ _ _ h;simp only;omega
def apx(a:Option Int)(n:Int):Bool:=match a with|none=>true|some m=>decide (m<n)
theorem akh(ms:List PMs)(p:PMs)(b:Option Int)(a:List Int)(x:Int×List aC)(r:List (Int×List aC)):nq ms p b a (x::r)=((cQ p x.1).2 &&(apx b x.1&&(sE ms (cQ p x.1).1 x.2&&(!(decide (0<(cQ p x.1).1.oneof)&&a.contains (cQ p x.1).1.oneof)&&nq ms p (some x.1) (if 0<(cQ p x.1).1.oneof then (cQ p x.1).1.oneof ::a else a) r)))):=by obtain⟨n,l⟩:=x;simp only[nq,apx,sE,asf];rfl
end
def azg:aI:=tb_ [] [] [] [ag5]
def awK:IR:=Rs [Mb 2 false] (Rs [Mv 4 0,Ca 5 158 [4],Mv 3 5] (Rs [Mv 6 3,Bc 7 .geq 6 0,Mv 8 7,Gt 8 (.mov 9 3),Gt 8 (.bin 10 .neq 9 (kI 2)),Pa 11 8 10,Mv 2 11] .ret))
theorem awL:FnC Tryz.prog azg [] 0 186 Tryz.f186 awK aE:=fnC Tryz.func186
def aiO(N:Nat)(b:Int):Ro:=aA (v8 b) (λ(a:Int)=>cond (decide (0<=a)) (some (vB (!(a==2)),[])) (some (vB false,[])))
def aiP(N:Nat)(a:Int):Ro:=aiO N a
theorem auE(N:Nat)(b:Int)(h:Tot (aiP N b) (λz=>∃a rest,z.1.dimR=vB a∧z.2=rest∧xD b (a))):∃r,xg b r:=awL.finP (N:=N) (by kernel_rfl) h λ_ ⟨a,_,e,_,q⟩=>⟨(a),e,q⟩
def aCk:aI:=tb_ [] [] [] [ag5,ay4]
def azh:IR:=Rs [Bx 2 0,Mb 4 false] (Sq (Rs [Fa 6 2 2,Lq 7 6,Bc 8 .eql 7 3] (Cn 8 (Rs [Mv 9 1,Bc 10 .eql 9 2,Mv 4 10] .ret) .skip)) (Rs [Fa 11 3 2,Lq 12 11,Ca 13 158 [12],Mv 5 13] (Rs [Mv 14 5,Bc 15 .geq 14 0,Mv 16 15,Gt 16 (.mov 17 1),Gt 16 (.mov 18 5),Gt 16 (.bin 19 .eql 17 18),Gt 16 (.mov 20 19),Gf 20 (.fad 21 2 2),Gf 20 (.lde 22 1 false 21),Gf 20 (.bin 23 .eql 22 (kI 2)),Gf 20 (.mov 24 23),Gt 24 (.fad 25 3 2),Gt 24 (.lde 26 1 false 25),Gt 24 (.call 27 186 [26]),Gf 20 (.pick 28 24 27 (kB false)),Gf 20 (.mov 29 28),Gt 29 (.mov 30 1),Gt 29 (.bin 31 .eql 30 (kI 2)),Gf 20 (.pick 32 29 31 (kB false)),Gt 16 (.pick 33 20 (kB true) 32),Pa 34 16 33,Mv 4 34] .ret)))
theorem azi:FnC Tryz.prog aCk [] 0 139 Tryz.f139 azh aR:=fnC Tryz.func139
def alg(N:Nat)(a:PFl)(b:Int):Ro:=cond (a.label==3) (some (vB (b==2),[])) (aA (v8 a.kind) (λ(c:Int)=>cond (decide (0<=c)) (cond (b==c) (some (vB true,[])) (cond (a.label==2) (aA (xg a.kind) (λ(d:Bool)=>cond d (some (vB (b==2),[])) (some (vB false,[])))) (some (vB false,[])))) (some (vB false,[]))))
def alh(N:Nat)(a:PFl)(b:Int):Ro:=alg N a b
theorem awM(N:Nat)(b:PFl)(c:Int)(h:Tot (alh N b c) (λz=>∃a rest,z.1.dimR=vB a∧z.2=rest∧aac b c (a))):∃r,aaf b c r:=azi.finP (N:=N) (by kernel_rfl) h λ_ ⟨a,_,e,_,q⟩=>⟨(a),e,q⟩
def azj:aI:=tb_ [] [] [] [aep]
def awN:IR:=Rs [Mb 2 false] (Rs [Pp (.bsl 3 (.num .i64) [kI 3,kI 4,kI 7,kI 8,kI 11,kI 12,kI 17] true),Mv 4 0,Ca 5 224 [3,4],Mv 2 5] .ret)
theorem awO:FnC Tryz.prog azj [] 0 218 Tryz.f218 awN aE:=fnC Tryz.func218
def aiQ(N:Nat)(a:Int):Ro:=aA (ig [3,4,7,8,11,12,17] a) (λ(b:Bool)=>some (vB b,[]))
def aiR(N:Nat)(a:Int):Ro:=aiQ N a
theorem auF(N:Nat)(b:Int)(h:Tot (aiR N b) (λz=>∃a rest,z.1.dimR=vB a∧z.2=rest∧afr b (a))):∃r,xh b r:=awO.finP (N:=N) (by kernel_rfl) h λ_ ⟨a,_,e,_,q⟩=>⟨(a),e,q⟩
def aFY:aI:=tb_ [] [] [] [apM,ay5,amj,aj4]
def aDW:IR:=Rs [Bx 4 1,Bx 5 2,Mi 6 0] (Sq (.block 0 (Rs [Mv 8 0,Bc 9 .eql 8 16,Mv 7 9] (Cn 7 (Rs [Mi 6 0] .ret) (Rs [Mv 11 0,Bc 12 .eql 11 14,Mv 13 12,Gf 13 (.mov 14 0),Gf 13 (.bin 15 .eql 14 (kI 15)),Po 16 13 15,Mv 10 16] (Cn 10 (Rs [Fa 17 1 4,Lq 18 17,Fa 19 1 5,Lq 20 19,Ca 21 217 [18,20],Mv 6 21] .ret) (Rs [Mv 23 0,Ca 24 218 [23],Mv 22 24] (Cn 22 (Rs [Fa 25 0 4,Lq 26 25,Pp (.cvi 27 .i64 26),Fa 28 0 5,Lq 29 28,Pp (.cvi 30 .i64 29),Ca 31 219 [27,30],Mv 6 31] .ret) .skip))))))) (Rs [Fa 32 0 4,Lq 33 32,Fa 34 0 5,Lq 35 34,Ca 36 220 [33,35],Mv 6 36] .ret))
theorem aDX:FnC Tryz.prog aFY [] 0 187 Tryz.f187 aDW br:=fnC Tryz.func187
def arf(N:Nat)(a:Int)(b c:aC):Ro:=cond (a==16) (some (vI 0,[])) (cond (a==14) (aA (lA b.s c.s) (λ(d:Int)=>some (vI d,[]))) (cond (a==15) (aA (lA b.s c.s) (λ(e:Int)=>some (vI e,[]))) (aA (xh a) (λ(f:Bool)=>cond f (aA (nv (Ab .i64 b.n) (Ab .i64 c.n)) (λ(g:Int)=>some (vI g,[]))) (aA (mo b.n c.n) (λ(h:Int)=>some (vI h,[])))))))
def arg(N:Nat)(a:Int)(b c:aC):Ro:=arf N a b c
theorem aCl(N:Nat)(b:Int)(c d:aC)(h:Tot (arg N b c d) (λz=>∃a rest,z.1.dimR=vI a∧z.2=rest∧ak9 b c d (a))):∃r,aah b c d r:=aDX.finP (N:=N) (by kernel_rfl) h λ_ ⟨a,_,e,_,q⟩=>⟨(a),e,q⟩
def aDY:aI:=tb_ [] [] [] []
def aCm:IR:=Rs [Bx 1 0,Mb 2 false] (Rs [Fa 3 0 1,Lq 4 3,Ll 5 4,Bc 6 .eql 5 0,Mv 7 6,Gt 7 (.fad 8 1 1),Gt 7 (.lde 9 1 false 8),Gt 7 (.bin 10 .eql 9 (kS [])),Pa 11 7 10,Mv 2 11] .ret)
theorem aCn:FnC Tryz.prog aDY [] 0 189 Tryz.f189 aCm aE:=fnC Tryz.func189
def aoS(N:Nat)(a:List (Int×List aC))(b:Bs):Ro:=let c:=(↑(Aa a):Int);cond (c==0) (let d:=decide (b=[]);some (vB d,[])) (some (vB false,[]))
def aoT(N:Nat)(a:List (Int×List aC))(b:Bs):Ro:=aoS N a b
theorem azk(N:Nat)(a:List (Int×List aC))(b:Bs)(h:Tot (aoT N a b) (λz=>∃c rest,z.1.dimR=vB c∧z.2=rest∧abG a b (c))):∃r,acf a b r:=aCn.finP (N:=N) (by kernel_rfl) h λ_ ⟨c,_,e,_,q⟩=>⟨(c),e,q⟩
def aDZ:aI:=tb_ [] [] [] []
def aCo:IR:=Rs [Bx 1 0,Mb 2 false] (Rs [Fa 3 0 1,Lq 4 3,Pp (.bin 5 .eql 4 (kU 0)),Mv 6 5,Gt 6 (.fad 7 1 1),Gt 6 (.lde 8 1 false 7),Gt 6 (.bin 9 .eql 8 (kS [])),Pa 10 6 9,Mv 2 10] .ret)
theorem aCp:FnC Tryz.prog aDZ [] 0 106 Tryz.f106 aCo aE:=fnC Tryz.func106
def aoU(N:Nat)(a:aC):Ro:=cond (a.n==0) (let b:=decide (a.s=[]);some (vB b,[])) (some (vB false,[]))
def aoV(N:Nat)(a:aC):Ro:=aoU N a
theorem azl(N:Nat)(b:aC)(h:Tot (aoV N b) (λz=>∃a rest,z.1.dimR=vB a∧z.2=rest∧abH b (a))):∃r,sj b r:=aCp.finP (N:=N) (by kernel_rfl) h λ_ ⟨a,_,e,_,q⟩=>⟨(a),e,q⟩
def aFZ:aI:=tb_ [] [] [] [arb,ayt,aDQ,aDs]
def aD0:IR:=Rs [Bx 4 0,Bx 7 3,Mb 8 false] (Sq (.block 0 (Rs [Mv 10 1,Bc 11 .eql 10 16,Mv 9 11] (Cn 9 (Rs [Fa 12 0 7,Lq 13 12,Pp (.bin 14 .eql 13 (kU 0)),Mv 15 14,Gt 15 (.fad 16 1 7),Gt 15 (.lde 17 1 false 16),Gt 15 (.bin 18 .eql 17 (kS [])),Pa 19 15 18,Mv 20 19,Gt 20 (.lde 21 2 true 4),Gt 20 (.mov 22 2),Gt 20 (.fad 23 2 7),Gt 20 (.lde 24 2 true 23),Gt 20 (.call 25 48 [21,22,24]),Pa 26 20 25,Mv 8 26] .ret) (Rs [Fa 28 2 7,Ld 29 2 true 28,Ca 30 189 [29],Un 31 30,Mv 27 31] (Cn 27 (Rs [Mb 8 false] .ret) (Rs [Mv 33 1,Bc 34 .eql 33 14,Mv 32 34] (Cn 32 (Rs [Fa 35 0 7,Lq 36 35,Pp (.bin 37 .eql 36 (kU 0)),Mv 38 37,Gt 38 (.fad 39 1 7),Gt 38 (.lde 40 1 false 39),Gt 38 (.call 41 172 [40]),Pa 42 38 41,Mv 8 42] .ret) (Rs [Mv 44 1,Bc 45 .eql 44 15,Mv 43 45] (Cn 43 (Rs [Fa 46 0 7,Lq 47 46,Pp (.bin 48 .eql 47 (kU 0)),Mv 8 48] .ret) .skip))))))))) (Rs [Fa 49 1 7,Lq 50 49,Pp (.bin 51 .eql 50 (kS [])),Mv 52 51,Gt 52 (.mov 53 1),Gt 52 (.fad 54 0 7),Gt 52 (.lde 55 1 false 54),Gt 52 (.call 56 190 [53,55]),Pa 57 52 56,Mv 8 57] .ret))
theorem aD1:FnC Tryz.prog aFZ [] 0 145 Tryz.f145 aD0 gS:=fnC Tryz.func145
def arh(N:Nat)(b:List PMs)(c:List PEn)(d:Int)(e:Bs)(a:aC):Ro:=cond (d==16) (cond (a.n==0) (let f:=decide (a.s=[]);cond f (aA (fP b c e a.fs a.rest) (λ(g:Bool)=>some (vB g,[]))) (some (vB false,[]))) (some (vB false,[]))) (aA (acf a.fs a.rest) (λ(h:Bool)=>cond (!h) (some (vB false,[])) (cond (d==14) (cond (a.n==0) (aA (adj a.s) (λ(i:Bool)=>some (vB i,[]))) (some (vB false,[]))) (cond (d==15) (some (vB (a.n==0),[])) (let j:=decide (a.s=[]);cond j (aA (ag6 d a.n) (λ(k:Bool)=>some (vB k,[]))) (some (vB false,[])))))))
def ari(N:Nat)(a:List PMs)(b:List PEn)(c:Int)(d:Bs)(e:aC):Ro:=arh N a b c d e
theorem aCq(N:Nat)(a:List PMs)(b:List PEn)(d:Int)(f:Bs)(g:aC)(h:Tot (ari N a b d f g) (λz=>∃c rest,z.1.dimR=vB c∧z.2=rest∧ala a b d f g (c))):∃r,vc a b d f g r:=aD1.finP (N:=N) (by kernel_rfl) h λ_ ⟨c,_,e,_,q⟩=>⟨(c),e,q⟩
def afH:aI:=tb_ [] [] [] [aun,aFD]
def agN:IR:=Rs [Bi 12 .lss 11 10] (Sq (Cn 12 .skip (.exit 0)) (Sq (.block 1 (Rs [Mv 13 11,Ix 14 .pval 9 11,Ld 15 4 true 14,Pp (.alr 8 4),Mv 7 13,Fz 8 4 15] (.block 2 (Rs [Mv 17 7,Bc 18 .rem 17 2,Bc 19 .eql 18 1,Mv 16 19] (Cn 16 (Rs [Ld 20 2 true 3,Fa 21 3 4,Lq 22 21,Fa 23 4 4,Lq 24 23,Ld 25 4 true 8,Ca 26 145 [20,22,24,25],Un 27 26] (Cn 27 (Rs [Mb 6 false] .ret) .skip)) (Sq (.reg [Ld 29 2 true 3,Fa 30 5 4,Lq 31 30,Ld 32 4 true 8,Ca 33 145 [29,31,kS [],32],Un 34 33,Mv 35 34,Gf 35 (.mov 36 7),Gf 35 (.bin 37 .gtr 36 (kI 0)),Gf 35 (.mov 38 37),Gt 38 (.fad 39 5 4),Gt 38 (.lde 40 1 false 39),Gt 38 (.mov 41 2),Gt 38 (.mov 42 7),Gt 38 (.bin 43 .sub 42 (kI 2)),Gt 38 (.ixa 44 .pval 41 43),Gt 38 (.lde 45 4 true 44),Gt 38 (.lde 46 4 true 8),Gt 38 (.call 47 187 [40,45,46]),Gt 38 (.bin 48 .geq 47 (kI 0)),Gf 35 (.pick 49 38 48 (kB false)),Po 50 35 49,Mv 28 50] [[],[],[1],[],rg 0 3,rg 0 4,rg 0 5,rg 0 6,rg 0 7,rg 0 8,rg 0 9,rg 0 10,rg 0 9,rg 0 9,rg 0 9++[13],rg 0 9++[12,13,14],rg 0 9++rg 12 15,rg 0 9,rg 0 17,rg 0 18,rg 0 19,rg 0 20,rg 0 21]) (Cn 28 (Rs [Mb 6 false] .ret) .skip))))))) (Rg [Bc 51 .add 11 1,Mv 11 51])))
def afI:IR:=Rs [Mv 52 2,Ll 53 52,Bc 54 .rem 53 2,Bc 55 .eql 54 0,Mv 6 55] .ret
def azm:IR:=Rs [Bx 3 0,Bx 4 1,Mb 6 false] (Sq (Rs [Mv 9 2,Ll 10 9,Mi 11 0] (.block 0 (.loop [2,3,4,9,10,11,1000000] 0 agN))) afI)
theorem azn:FnC Tryz.prog afH [] 0 142 Tryz.f142 azm br:=fnC Tryz.func142
def awP(R:TRr)(a:TS):TE:=(bu a [2,3,4,9,10,11,1000000] 0 (aP 0 (kseq (R afI) (fin br))))
abbrev qc:Type:=(List aC×List PMs×List PEn×PFl×List aC×Int×Int)
def tz:qc->St:=λ(a,b,c,d,e,f,g)=>{env:=(.undef::.undef::vF .pval a::.ea [vF .pms b,vF .pen c]::.ea (enc .pfl d)::(U 4 (vF .pval e::vI f::vI g::(U 44 [])))),hp:=[]}
def abQ(N:Nat):TS->TS:=λa s=>run afH N agN (awP (run afH N) a) s
def vi(N:Nat)(d:qc->Ro):qc->Ro:=λ(g,b,c,e,h,f,a)=>let i:=λl=>d (g,b,c,e,h,f,l);cond (decide (a<f)) (chk (ixl a h) (let j:=(Ai h (Ad a) (aK .pval));cond ((Bd a 2)==1) (aA (vc b c e.kind e.typ (reP j)) (λ(m:Bool)=>cond (!m) (some (vB false,[])) (let n:=(Ab .i64 (a+1));i n))) (aA (vc b c e.key [] (reP j)) (λ(o:Bool)=>cond (!o) (some (vB false,[])) (cond (decide (0<a)) (let k:=(Ab .i64 (a-2));chk (ixl k g) (let p:=(Ai g (Ad k) (aK .pval));aA (aah e.key (reP p) (reP j)) (λ(q:Int)=>cond (decide (0<=q)) (some (vB false,[])) (let r:=(Ab .i64 (a+1));i r)))) (let s:=(Ab .i64 (a+1));i s)))))) (let t:=(↑(Aa g):Int);some (vB ((Bd t 2)==0),[]))
theorem auG(N:Nat):LB (abQ N) tz (vi N):=λ_ _=>by kernel_rfl
def rX(N:Nat)(a:List PMs)(b:List PEn)(d:PFl)(c:List aC)(e:qc->Ro):Ro:=let f:=(↑(Aa c):Int);e (c,a,b,d,c,f,0)
def ali(N:Nat)(a:List PMs)(b:List PEn)(c:PFl)(d:List aC):Ro:=rX N a b c d (λz=>aN N (vi N) z)
theorem awQ(N:Nat)(a:List PMs)(c:List PEn)(d:PFl)(f:List aC)(h:Tot (ali N a c d f) (λz=>∃g rest,z.1.dimR=vB g∧z.2=rest∧agD a c d f (g))):∃r,aag a c d f r:=azn.finP (N:=N) ((bK _ (by kernel_rfl) rfl (λC=>rX N a c d f (λz=>C 1000000 (tz z))) (λC=>by kernel_rfl)).trans (AE (b:=rX N a c d f (λz=>aZ N (abQ N) (tz z))) (by kernel_rfl) (congrArg (rX N a c d f) (funext λz=>aW (tz) (abQ N) (vi N) (auG N) N z)))) h λ_ ⟨g,_,e,_,q⟩=>⟨(g),e,q⟩
def auH:aI:=tb_ [] [] [] [aun]
def asE:IR:=Rs [Bx 3 0,Mb 4 false] (Rs [Ld 5 2 true 1,Fa 6 3 2,Lq 7 6,Fa 8 4 2,Lq 9 8,Ld 10 4 true 3,Ca 11 145 [5,7,9,10],Un 12 11,Mv 4 12] .ret)
theorem asF:FnC Tryz.prog auH [] 0 144 Tryz.f144 asE aR:=fnC Tryz.func144
def afJ(N:Nat)(a:aC)(f:List PMs)(c:List PEn)(k:Int)(m:Bs)(i e:Int)(d:Bs)(j:Int)(l:Bool)(h:Int):Ro:=aA (vc f c e d (reP a)) (λ(b:Bool)=>some (vB (!b),[]))
def afK(N:Nat)(a:aC)(i:List PMs)(c:List PEn)(j:Int)(l:Bs)(d f:Int)(e:Bs)(h:Int)(k:Bool)(b:Int):Ro:=afJ N a i c j l d f e h k b
theorem aqu(N:Nat)(b:aC)(l:List PMs)(d:List PEn)(m:Int)(u:Bs)(f j:Int)(i:Bs)(k:Int)(p:Bool)(c:Int)(h:Tot (afK N b l d m u f j i k p c) (λz=>∃a rest,z.1.dimR=vB a∧z.2=rest∧acV b l d m u f j i k p c (a))):∃r,tr b l d m u f j i k p c r:=asF.finP (N:=N) (by kernel_rfl) h λ_ ⟨a,_,e,_,q⟩=>⟨(a),e,q⟩
def dK:aI:=tb_ [] [] [] [aum]
def fc:IR:=Rs [Bi 9 .lss 8 7] (Sq (Cn 9 .skip (.exit 0)) (Sq (.block 1 (Rs [Mv 10 8,Mv 5 10] (Rs [Mv 11 1,Mv 12 0,Mv 13 5,Ix 14 .pval 12 13,Ld 15 4 true 14,Pp (.dcall (some 16) 144 (.t 11) [.t 15])] (Cn 16 (Rs [Mv 17 5,Mv 4 17] .ret) .skip)))) (Rg [Bc 18 .add 8 1,Mv 8 18])))
def fe:IR:=Rs [Mi 4 (-1)] .ret
def mA:IR:=Rs [Mi 4 0] (Sq (Rs [Mv 6 0,Ll 7 6,Mi 8 0] (.block 0 (.loop [0,1,7,8,1000000] 0 fc))) fe)
theorem mB:FnC Tryz.prog dK [] 0 188 Tryz.f188 mA aR:=fnC Tryz.func188
def mq(R:TRr)(a:TS):TE:=(bu a [0,1,7,8,1000000] 0 (aP 0 (kseq (R fe) (fin aR))))
abbrev cf:Type:=(List aC×List PMs×List PEn×Int×Bs×Int×Int×Bs×Int×Bool×Int×Int×Int)
def cH:cf->St:=λ(d,e,f,g,h,i,j,k,l,m,a,b,c)=>{env:=(vF .pval d::.fn 144 [.ea [vF .pms e,vF .pen f],.ea [vI g,vT h,vI i,vI j,vT k,vI l,vB m,vI a]]::(U 5 (vI b::vI c::(U 10 [])))),hp:=[]}
def dz(N:Nat):TS->TS:=λa s=>run dK N fc (mq (run dK N) a) s
def cL(N:Nat)(k:cf->Ro):cf->Ro:=λ(m,a,b,c,d,e,f,g,h,i,j,n,l)=>cond (decide (l<n)) (chk (ixl l m) (let o:=(Ai m (Ad l) (aK .pval));aA (tr (reP o) a b c d e f g h i j) (λ(p:Bool)=>cond p (some (vI l,[])) (let q:=(Ab .i64 (l+1));k (m,a,b,c,d,e,f,g,h,i,j,n,q))))) (some (vI (-1),[]))
theorem lK(N:Nat):LB (dz N) cH (cL N):=λ_ _=>by kernel_rfl
def cg(N:Nat)(k:List aC)(a:List PMs)(b:List PEn)(c:Int)(d:Bs)(e f:Int)(g:Bs)(h:Int)(i:Bool)(j:Int)(l:cf->Ro):Ro:=let m:=(↑(Aa k):Int);l (k,a,b,c,d,e,f,g,h,i,j,m,0)
def fq(N:Nat)(k:List aC)(a:List PMs)(b:List PEn)(c:Int)(d:Bs)(e f:Int)(g:Bs)(h:Int)(i:Bool)(j:Int):Ro:=cg N k a b c d e f g h i j (λz=>aN N (cL N) z)
theorem mt(N:Nat)(n:List aC)(a:List PMs)(c:List PEn)(d:Int)(f:Bs)(g i:Int)(j:Bs)(k:Int)(l:Bool)(m:Int)(h:Tot (fq N n a c d f g i j k l m) (λz=>∃o rest,z.1.dimR=vI o∧z.2=rest∧fb n a c d f g i j k l m (o))):∃r,cR n a c d f g i j k l m r:=mB.finP (N:=N) ((bK _ (by kernel_rfl) rfl (λC=>cg N n a c d f g i j k l m (λz=>C 1000000 (cH z))) (λC=>by kernel_rfl)).trans (AE (b:=cg N n a c d f g i j k l m (λz=>aZ N (dz N) (cH z))) (by kernel_rfl) (congrArg (cg N n a c d f g i j k l m) (funext λz=>aW (cH) (dz N) (cL N) (lK N) N z)))) h λ_ ⟨o,_,e,_,q⟩=>⟨(o),e,q⟩
def lL:aI:=tb_ [] [] [] [mW]
def lu:IR:=Rs [Mb 4 false] (Rs [Mv 5 0,Mv 6 1,Ca 7 188 [5,6],Bc 8 .geq 7 0,Mv 4 8] .ret)
theorem lv:FnC Tryz.prog lL [] 0 143 Tryz.f143 lu aR:=fnC Tryz.func143
def eU(N:Nat)(k:List aC)(a:List PMs)(b:List PEn)(c:Int)(d:Bs)(e f:Int)(g:Bs)(h:Int)(i:Bool)(j:Int):Ro:=aA (cR k a b c d e f g h i j) (λ(l:Int)=>some (vB (decide (0<=l)),[]))
def eV(N:Nat)(k:List aC)(a:List PMs)(b:List PEn)(c:Int)(d:Bs)(e f:Int)(g:Bs)(h:Int)(i:Bool)(j:Int):Ro:=eU N k a b c d e f g h i j
theorem kJ(N:Nat)(n:List aC)(a:List PMs)(b:List PEn)(c:Int)(d:Bs)(f g:Int)(i:Bs)(j:Int)(k:Bool)(l:Int)(h:Tot (eV N n a b c d f g i j k l) (λz=>∃m rest,z.1.dimR=vB m∧z.2=rest∧eI n a b c d f g i j k l (m))):∃r,aL n a b c d f g i j k l r:=lv.finP (N:=N) (by kernel_rfl) h λ_ ⟨m,_,e,_,q⟩=>⟨(m),e,q⟩
def aCr:aI:=tb_ [] [] [] [aDO,aBI,lI]
def azo:IR:=Rs [Bx 3 0,Bx 4 1,Mb 6 false] (Sq (Rs [Mv 7 2,Ll 8 7,Bc 9 .eql 8 0] (Cn 9 (Rs [Mb 6 false] .ret) .skip)) (Sq (Rs [Fa 10 2 4,Lq 11 10,Bc 12 .eql 11 3] (Cn 12 (Rs [Ld 13 2 true 3,Ld 14 8 true 4,Mv 15 2,Ca 16 142 [13,14,15],Mv 6 16] .ret) .skip)) (Sq (Rs [Fa 17 2 4,Lq 18 17,Bc 19 .neq 18 2,Mv 20 19,Gt 20 (.mov 21 2),Gt 20 (.lenl 22 21),Gt 20 (.bin 23 .neq 22 (kI 1)),Pa 24 20 23,Mv 25 24,Gf 25 (.fad 26 2 4),Gf 25 (.lde 27 1 false 26),Gf 25 (.bin 28 .eql 27 (kI 0)),Gf 25 (.mov 29 28),Gt 29 (.fad 30 7 4),Gt 29 (.lde 31 1 false 30),Gt 29 (.bin 32 .eql 31 (kI 0)),Gf 25 (.pick 33 29 32 (kB false)),Gf 25 (.mov 34 33),Gt 34 (.fad 35 3 4),Gt 34 (.lde 36 1 false 35),Gt 34 (.bin 37 .neq 36 (kI 16)),Gf 25 (.pick 38 34 37 (kB false)),Gf 25 (.mov 39 38),Gt 39 (.mov 40 2),Gt 39 (.ixa 41 .pval 40 (kI 0)),Gt 39 (.lde 42 4 true 41),Gt 39 (.call 43 106 [42]),Gf 25 (.pick 44 39 43 (kB false)),Po 45 25 44] (Cn 45 (Rs [Mb 6 false] .ret) .skip)) (Rs [Mv 46 2,Pp (.mkf 47 144 [.t 3,.t 4]),Ca 48 143 [46,47],Un 49 48,Mv 6 49] .ret))))
theorem azp:FnC Tryz.prog aCr [] 0 90 Tryz.f90 azo br:=fnC Tryz.func90
def alj(N:Nat)(b:List PMs)(c:List PEn)(a:PFl)(d:List aC):Ro:=let g:=(↑(Aa d):Int);cond (g==0) (some (vB false,[])) (cond (a.label==3) (aA (aag b c a d) (λ(h:Bool)=>some (vB h,[]))) (cond (!(a.label==2)) (let i:=(↑(Aa d):Int);cond (!(i==1)) (some (vB false,[])) (cond (a.label==0) (cond (a.oneof==0) (cond (!(a.kind==16)) (chk (decide ((0:Int)<↑(Aa d))) (let j:=(Ai d (Ad 0) (aK .pval));aA (sj (reP j)) (λ(k:Bool)=>cond k (some (vB false,[])) (aA (aL d b c a.num a.name a.label a.kind a.typ a.key a.packed a.oneof) (λ(l:Bool)=>some (vB (!l),[])))))) (aA (aL d b c a.num a.name a.label a.kind a.typ a.key a.packed a.oneof) (λ(m:Bool)=>some (vB (!m),[])))) (aA (aL d b c a.num a.name a.label a.kind a.typ a.key a.packed a.oneof) (λ(n:Bool)=>some (vB (!n),[])))) (aA (aL d b c a.num a.name a.label a.kind a.typ a.key a.packed a.oneof) (λ(o:Bool)=>some (vB (!o),[]))))) (cond (a.label==0) (cond (a.oneof==0) (cond (!(a.kind==16)) (chk (decide ((0:Int)<↑(Aa d))) (let p:=(Ai d (Ad 0) (aK .pval));aA (sj (reP p)) (λ(q:Bool)=>cond q (some (vB false,[])) (aA (aL d b c a.num a.name a.label a.kind a.typ a.key a.packed a.oneof) (λ(r:Bool)=>some (vB (!r),[])))))) (aA (aL d b c a.num a.name a.label a.kind a.typ a.key a.packed a.oneof) (λ(s:Bool)=>some (vB (!s),[])))) (aA (aL d b c a.num a.name a.label a.kind a.typ a.key a.packed a.oneof) (λ(e:Bool)=>some (vB (!e),[])))) (aA (aL d b c a.num a.name a.label a.kind a.typ a.key a.packed a.oneof) (λ(f:Bool)=>some (vB (!f),[]))))))
def alk(N:Nat)(a:List PMs)(b:List PEn)(c:PFl)(d:List aC):Ro:=alj N a b c d
theorem awR(N:Nat)(a:List PMs)(b:List PEn)(d:PFl)(f:List aC)(h:Tot (alk N a b d f) (λz=>∃c rest,z.1.dimR=vB c∧z.2=rest∧agE a b d f (c))):∃r,p8 a b d f r:=azp.finP (N:=N) (by kernel_rfl) h λ_ ⟨c,_,e,_,q⟩=>⟨(c),e,q⟩
def awS:aI:=tb_ [] [] [] [adw,aBH]
def auI:IR:=Rs [Bx 2 0,Mb 3 false] (Rs [Ld 7 3 true 1,Fa 8 0 2,Lq 9 8,Ca 10 89 [7,9],Mv 6 10,Ex_ 11 0 6,Ex_ 12 1 6,Pp (.alr 4 8),Fz 4 8 11,Mv 5 12] (Rs [Mv 13 5,Mv 14 13,Gt 14 (.lde 15 8 true 4),Gt 14 (.fad 16 1 2),Gt 14 (.lde 17 1 false 16),Gt 14 (.call 18 139 [15,17]),Pa 19 14 18,Mv 3 19] .ret))
theorem auJ:FnC Tryz.prog awS [] 0 138 Tryz.f138 auI sI:=fnC Tryz.func138
def agO(N:Nat)(a:bi)(f:Bs)(e:List PFl)(d:Bss):Ro:=aA (lr ⟨f,e,d⟩ a.num) (λb=>cond b.2 (aA (aaf b.1 a.wire) (λ(c:Bool)=>some (vB c,[]))) (some (vB false,[])))
def agP(N:Nat)(a:bi)(d:Bs)(c:List PFl)(b:Bss):Ro:=agO N a d c b
theorem asG(N:Nat)(b:bi)(d:Bs)(c:List PFl)(f:Bss)(h:Tot (agP N b d c f) (λz=>∃a rest,z.1.dimR=vB a∧z.2=rest∧ad1 b d c f (a))):∃r,vb b d c f r:=auJ.finP (N:=N) (by kernel_rfl) h λ_ ⟨a,_,e,_,q⟩=>⟨(a),e,q⟩
def dk:aI:=tb_ [] [] [] [awq]
def eC:IR:=Rs [Bi 9 .lss 8 7] (Sq (Cn 9 .skip (.exit 0)) (Sq (.block 1 (Rs [Mv 10 8,Mv 5 10] (Rs [Mv 11 1,Mv 12 0,Mv 13 5,Ix 14 .record 12 13,Ld 15 5 true 14,Pp (.dcall (some 16) 138 (.t 11) [.t 15])] (Cn 16 (Rs [Mv 17 5,Mv 4 17] .ret) .skip)))) (Rg [Bc 18 .add 8 1,Mv 8 18])))
def eD:IR:=Rs [Mi 4 (-1)] .ret
def kE:IR:=Rs [Mi 4 0] (Sq (Rs [Mv 6 0,Ll 7 6,Mi 8 0] (.block 0 (.loop [0,1,7,8,1000000] 0 eC))) eD)
theorem kF:FnC Tryz.prog dk [] 0 157 Tryz.f157 kE aR:=fnC Tryz.func157
def kj(R:TRr)(a:TS):TE:=(bu a [0,1,7,8,1000000] 0 (aP 0 (kseq (R eD) (fin aR))))
abbrev bS:Type:=(List bi×Bs×List PFl×Bss×Int×Int)
def cn:bS->St:=λ(a,b,c,d,e,f)=>{env:=(vF .record a::.fn 138 [.ea [vT b,vF .pfl c,vF .str d]]::(U 5 (vI e::vI f::(U 10 [])))),hp:=[]}
def dd(N:Nat):TS->TS:=λa s=>run dk N eC (kj (run dk N) a) s
def ct(N:Nat)(d:bS->Ro):bS->Ro:=λ(f,a,b,c,g,e)=>cond (decide (e<g)) (chk (ixl e f) (let h:=(Ai f (Ad e) (aK .record));aA (vb h a b c) (λ(i:Bool)=>cond i (some (vI e,[])) (let j:=(Ab .i64 (e+1));d (f,a,b,c,g,j))))) (some (vI (-1),[]))
theorem jQ(N:Nat):LB (dd N) cn (ct N):=λ_ _=>by kernel_rfl
def bU(N:Nat)(d:List bi)(a:Bs)(b:List PFl)(c:Bss)(e:bS->Ro):Ro:=let f:=(↑(Aa d):Int);e (d,a,b,c,f,0)
def eJ(N:Nat)(d:List bi)(a:Bs)(b:List PFl)(c:Bss):Ro:=bU N d a b c (λz=>aN N (ct N) z)
theorem km(N:Nat)(f:List bi)(a:Bs)(c:List PFl)(d:Bss)(h:Tot (eJ N f a c d) (λz=>∃g rest,z.1.dimR=vI g∧z.2=rest∧eA f a c d (g))):∃r,cD f a c d r:=kF.finP (N:=N) ((bK _ (by kernel_rfl) rfl (λC=>bU N f a c d (λz=>C 1000000 (cn z))) (λC=>by kernel_rfl)).trans (AE (b:=bU N f a c d (λz=>aZ N (dd N) (cn z))) (by kernel_rfl) (congrArg (bU N f a c d) (funext λz=>aW (cn) (dd N) (ct N) (jQ N) N z)))) h λ_ ⟨g,_,e,_,q⟩=>⟨(g),e,q⟩
def jR:aI:=tb_ [] [] [] [kH]
def jF:IR:=Rs [Mb 4 false] (Rs [Mv 5 0,Mv 6 1,Ca 7 157 [5,6],Bc 8 .geq 7 0,Mv 4 8] .ret)
theorem jG:FnC Tryz.prog jR [] 0 103 Tryz.f103 jF aR:=fnC Tryz.func103
def eh(N:Nat)(d:List bi)(a:Bs)(b:List PFl)(c:Bss):Ro:=aA (cD d a b c) (λ(e:Int)=>some (vB (decide (0<=e)),[]))
def ei(N:Nat)(d:List bi)(a:Bs)(b:List PFl)(c:Bss):Ro:=eh N d a b c
theorem jf(N:Nat)(f:List bi)(a:Bs)(b:List PFl)(c:Bss)(h:Tot (ei N f a b c) (λz=>∃d rest,z.1.dimR=vB d∧z.2=rest∧dZ f a b c (d))):∃r,cm f a b c r:=jG.finP (N:=N) (by kernel_rfl) h λ_ ⟨d,_,e,_,q⟩=>⟨(d),e,q⟩
def aD2:aI:=tb_ [] [] [] [aDn,jN]
def aCs:IR:=Rs [Bx 2 0,Mb 4 false] (Rs [Mv 8 1,Ca 9 102 [8],Mv 7 9,Ex_ 10 0 7,Ex_ 11 1 7,Mv 5 10,Mv 6 11] (Rs [Mv 12 6,Bc 13 .eql 12 0,Mv 14 13,Gt 14 (.mov 15 5),Gt 14 (.mkf 16 138 [.t 2]),Gt 14 (.call 17 103 [15,16]),Gt 14 (.un 18 .not 17),Pa 19 14 18,Mv 4 19] .ret))
theorem aCt:FnC Tryz.prog aD2 [] 0 88 Tryz.f88 aCs aR:=fnC Tryz.func88
def aoW(N:Nat)(a:PMs)(c:Bs):Ro:=aA (ag4 c) (λb=>cond (b.2==0) (aA (cm b.1 a.name a.fields a.oneofs) (λ(d:Bool)=>some (vB (!d),[]))) (some (vB false,[])))
def aoX(N:Nat)(a:PMs)(b:Bs):Ro:=aoW N a b
theorem azq(N:Nat)(b:PMs)(c:Bs)(h:Tot (aoX N b c) (λz=>∃a rest,z.1.dimR=vB a∧z.2=rest∧aiu b c (a))):∃r,acd b c r:=aCt.finP (N:=N) (by kernel_rfl) h λ_ ⟨a,_,e,_,q⟩=>⟨(a),e,q⟩
def ahn:aI:=tb_ [] [] [] [aad,aDN,adw,aBF]
def agQ:IR:=Rs [Bi 34 .lss 33 32] (Sq (Cn 34 .skip (.exit 0)) (Sq (.block 1 (Rs [Mv 35 33,Ix 36 .pfd 31 33,Ld 37 2 true 36,Pp (.alr 11 2),Mv 10 35,Fz 11 2 37] (Rs [Ld 39 3 true 7,Fa 40 0 11,Lq 41 40,Ca 42 89 [39,41],Mv 38 42,Ex_ 43 0 38,Ex_ 44 1 38,Pp (.alr 12 8),Fz 12 8 43,Mv 13 44] (Sq (Sq (.reg [Mv 45 13,Un 46 45,Mv 47 46,Gf 47 (.mov 48 10),Gf 47 (.bin 49 .gtr 48 (kI 0)),Gf 47 (.mov 50 49),Gt 50 (.fad 51 0 5),Gt 50 (.lde 52 1 false 51),Gt 50 (.mov 53 10),Gt 50 (.bin 54 .sub 53 (kI 1)),Gt 50 (.ixa 55 .pfd 52 54),Gt 50 (.fad 56 0 55),⟨some (50,true),.ld 57 1 false false 56,some ([],[])⟩,Gt 50 (.fad 58 0 11),Gt 50 (.lde 59 1 false 58),Gt 50 (.bin 60 .geq 57 59),Gf 47 (.pick 61 50 60 (kB false)),Po 62 47 61,Mv 63 62,Gf 63 (.mov 64 9),Gf 63 (.fad 65 7 12),Gf 63 (.lde 66 1 false 65),Gf 63 (.mget 67 .ib false (.t 64) (.t 66)),Po 68 63 67,Mv 69 68,Gf 69 (.lde 70 2 true 3),Gf 69 (.lde 71 8 true 12),Gf 69 (.fad 72 1 11),Gf 69 (.lde 73 1 false 72),Gf 69 (.call 74 90 [70,71,73]),Gf 69 (.un 75 .not 74),Po 76 69 75] [[],[0],[0,1],[0,1,2],rg 0 3,rg 0 4,rg 0 5,rg 0 6,rg 0 5,rg 0 5++[8],rg 0 9,rg 0 10,rg 0 11,rg 0 5,rg 0 5++[13],rg 0 14,rg 0 15,rg 0 16,rg 0 17,rg 0 18,rg 0 18,rg 0 18++[20],rg 0 21,rg 0 22,rg 0 23,rg 0 24,rg 0 24,rg 0 24,rg 0 24++[27],rg 0 28,rg 0 29,rg 0 30]) (Cn 76 (Rs [Mb 6 false] .ret) .skip)) (Rs [Fa 77 7 12,Lq 78 77,Bc 79 .gtr 78 0] (Cn 79 (Rg [Mv 80 9,Fa 81 7 12,Lq 82 81,Pp (.mput none .ib (.t 80) (.t 82) (.c (.bool true)))]) .skip)))))) (Rg [Bc 83 .add 33 1,Mv 33 83])))
def agR:IR:=Rs [Mb 6 true] .ret
def aCu:IR:=Rs [Bx 3 0,Bx 5 2,Mb 6 false] (Rs [Ld 15 2 true 3,Mv 16 1,Ca 17 47 [15,16],Mv 14 17,Ex_ 18 0 14,Ex_ 19 1 14,Pp (.alr 7 3),Fz 7 3 18,Mv 8 19] (Sq (Rs [Mv 20 8,Un 21 20,Mv 22 21,Gf 22 (.lde 23 3 true 7),Gf 22 (.fad 24 1 5),Gf 22 (.lde 25 1 false 24),Gf 22 (.call 26 88 [23,25]),Gf 22 (.un 27 .not 26),Po 28 22 27] (Cn 28 (Rs [Mb 6 false] .ret) .skip)) (Rs [Pp (.mkm 29 .ib),Mv 9 29] (Sq (Rs [Fa 30 0 5,Lq 31 30,Ll 32 31,Mi 33 0] (.block 0 (.loop [3,5,7,9,31,32,33,1000000] 1 agQ))) agR))))
theorem aCv:FnC Tryz.prog ahn [] 0 48 Tryz.f48 aCu br:=fnC Tryz.func48
def azr(R:TRr)(a:TS):TE:=(bu a [3,5,7,9,31,32,33,1000000] 1 (aP 0 (kseq (R agR) (fin br))))
abbrev rY:Type:=(List PMs×List PEn×List (Int×List aC)×Bs×PMs×List (Int×List aC)×Int×Int×List (Int×Bool))
def vj:rY->St:=λ(a,b,c,d,e,f,g,h,i)=>{env:=(U 3 (.ea [vF .pms a,vF .pen b]::.undef::.ea [vF .pfd c,vT d]::.undef::.ea (enc .pms e)::.undef::.mr 0::(U 21 (vF .pfd f::vI g::vI h::(U 50 []))))),hp:=[some [.mp .ib i]]}
def adD(N:Nat):TS->TS:=λa s=>run ahn N agQ (azr (run ahn N) a) s
def xl(N:Nat)(f:rY->Ro):rY->Ro:=λ(c,d,e,j,r,h,l,b,a)=>let i:=(some (vB false,[some [.mp .ib a]]):Ro);let m:=λt u=>f (c,d,e,j,r,h,l,t,u);cond (decide (b<l)) (chk (ixl b h) (let n:=(Ai h (Ad b) (aK .pfd));aA (lr r n.1) (λg=>cond (!g.2) (i) (cond (decide (0<b)) (let s:=(Ab .i64 (b-1));chk (ixl s e) (let v:=(Ai e (Ad s) (aK .pfd));cond (decide (n.1<=v.1)) (i) (let w:=(aiV (k:=.ib) a g.1.oneof);cond w (i) (aA (p8 c d g.1 n.2) (λ(x:Bool)=>cond (!x) (i) (cond (decide (0<g.1.oneof)) (let y:=(ng (k:=.ib) a g.1.oneof true);let z:=(Ab .i64 (b+1));m z y) (let C:=(Ab .i64 (b+1));m C a))))))) (let B:=(aiV (k:=.ib) a g.1.oneof);cond B (i) (aA (p8 c d g.1 n.2) (λ(A:Bool)=>cond (!A) (i) (cond (decide (0<g.1.oneof)) (let o:=(ng (k:=.ib) a g.1.oneof true);let p:=(Ab .i64 (b+1));m p o) (let q:=(Ab .i64 (b+1));m q a))))))))) (some (vB true,[some [.mp .ib a]]))
theorem awT(N:Nat):LB (adD N) vj (xl N):=λ_ _=>by kernel_rfl
def uB(N:Nat)(b:List PMs)(c:List PEn)(f:Bs)(a:List (Int×List aC))(d:Bs)(g:rY->Ro):Ro:=aA (iT b c f) (λe=>cond (!e.2) (some (vB false,[])) (aA (acd e.1 d) (λ(h:Bool)=>cond (!h) (some (vB false,[])) (let i:=(↑(Aa a):Int);g (b,c,a,d,e.1,a,i,0,([]:List (Int×Bool)))))))
def aoY(N:Nat)(a:List PMs)(b:List PEn)(e:Bs)(c:List (Int×List aC))(d:Bs):Ro:=uB N a b e c d (λz=>aN N (xl N) z)
theorem azs(N:Nat)(a:List PMs)(c:List PEn)(g:Bs)(d:List (Int×List aC))(f:Bs)(h:Tot (aoY N a c g d f) (λz=>∃i rest,z.1.dimR=vB i∧z.2=rest∧aiv a c g d f (i))):∃r,fP a c g d f r:=aCv.finP (N:=N) ((bK _ (by kernel_rfl) rfl (λC=>uB N a c g d f (λz=>C 1000000 (vj z))) (λC=>by kernel_rfl)).trans (AE (b:=uB N a c g d f (λz=>aZ N (adD N) (vj z))) (by kernel_rfl) (congrArg (uB N a c g d f) (funext λz=>aW (vj) (adD N) (xl N) (awT N) N z)))) h λ_ ⟨i,_,e,_,q⟩=>⟨(i),e,q⟩
theorem aKK{k:Int}(h:1<=k∧k<=17):0<=dO k:=by rw[tN];unfold af7;(repeat' split)<;>omega
section
variable{Q:V×List aJ->Prop}
theorem aD3(k:Int):∃r,xg k r:=by
 apply auE 1;unfold aiP aiO;refine aT (aoy _) (λ_ h=>h.2) ?_
 repeat' (first|(with_reducible refine aB ?_ ?_<;>(intro a;(try simp only[bnl] at a);(try revert a;intro _)))|with_reducible refine aD ?_ ?_|with_reducible refine aG ?_|fail)
 all_goals exact⟨_,_,rfl,rfl,by unfold xD;grind⟩
theorem aF0(f:PFl)(w:Int)(b:1<=f.kind∧f.kind<=17):∃r,aaf f w r:=by
 apply awM 1;unfold alh alg;have c:=aKK b
 repeat' (first|(with_reducible refine aB ?_ ?_<;>(intro a;(try simp only[bnl] at a);(try revert a;intro _)))|with_reducible refine aD ?_ ?_|with_reducible refine aG ?_|(refine aT (aoy _) (λ_ h=>h.2) ?_)|(refine aT (aD3 _) (λ_ h=>h.2) ?_)|fail)
 all_goals exact⟨_,_,rfl,rfl,by unfold aac auh;grind⟩
theorem aD4(k:Int):∃r,xh k r:=by apply auF 1;unfold aiR aiQ;refine aT (aCg _ _ (by decide)) (λ_ h=>h.2) (aG ⟨_,_,rfl,rfl,?_⟩);show _=afl k;simp only[List.any_cons,List.any_nil,CM,afl,Bool.or_assoc]
theorem aEH{a b:Int}(d:0<=a∧a<=18446744073709551615)(c:0<=b∧b<=18446744073709551615)(h:a≠b):Ab .i64 a≠Ab .i64 b:=by rw[mD,mD];omega
theorem aHE:∀l:Bs,AO l l=false
 | []=>rfl
 |a::l=>by simp[AO,aHE l]
theorem aki{k:Int}{a b:aC}(c:k≠16)(h:k=14∨k=15):gr k a b=if a.s=b.s then 0 else if AO a.s b.s then -1 else 1:=by
 unfold gr aIu;rw[if_neg c,if_pos h];by_cases e:a.s=b.s;·rw[e,aHE];simp
 ·rw[if_neg e,if_neg e]
theorem akj{k:Int}{a b:aC}(c:k≠16)(h:¬(k=14∨k=15)):gr k a b=if a.n=b.n then 0 else if afl k then (if Ab .i64 a.n<Ab .i64 b.n then -1 else 1) else if a.n<b.n then -1 else 1:=by unfold gr;rw[if_neg c,if_neg h]
theorem aJa(k:Int)(a b:aC):∃r,aah k a b r:=by
 refine rk (λd=>?_);have q:=d (.agg (enc .pval a)) (by simp) (.int .u64 a.n) (by simp[enc]);have p:=d (.agg (enc .pval b)) (by simp) (.int .u64 b.n) (by simp[enc]);have m:0<=a.n∧a.n<=18446744073709551615:=q;have u:0<=b.n∧b.n<=18446744073709551615:=p;apply aCl 1;show Tot _ (CmQ k a b);unfold arg arf;have c:∀n:Int,n=gr k a b->Tot (some ((.int .i64 n,[]):V×List aJ)) (CmQ k a b):=λn h=>aG ⟨_,_,rfl,rfl,h⟩
 refine aB (λh=>c _ (by unfold gr;rw[if_pos (by simpa using h)])) (λf=>?_);have f:k≠16:=by simpa using f
 refine aB (λh=>aT (are _ _) (λ_ h=>h.2) (c _ (aki f (.inl (by simpa using h))).symm)) (λl=>aB (λh=>aT (are _ _) (λ_ h=>h.2) (c _ (aki f (.inr (by simpa using h))).symm)) (λv=>?_));have i:¬(k=14∨k=15):=by rintro(rfl|rfl)<;>simp at l v
 refine aT (aD4 k) (λ_ h=>h.2) (aB (λj=>aT (aHz _ _) (λ_ h=>h.2) (c _ ?_)) (λj=>aT (aFW _ _) (λ_ h=>h.2) (c _ ?_)))
 ·rw[akj f i];unfold awo;by_cases e:a.n=b.n;·rw[if_pos e,e];simp
  ·have:=aEH m u e;rw[if_neg e,if_pos j,if_neg this]
 ·rw[akj f i];unfold awo;rw[if_neg (show ¬afl k=true by simp[j])];by_cases e:a.n=b.n;·rw[if_pos e,e];simp
  ·rw[if_neg e,if_neg e]
theorem aKL{k:Int}{a b:aC}{K:Int->Ro}(c:Tot (K (gr k a b)) Q):Tot (aA (aah k a b) K) Q:=aT (aJa k a b) (λ_ h=>h.2) c
theorem aHF(fs:List (Int×List aC))(rest:Bs):∃r,acf fs rest r:=by
 apply azk 1;unfold aoT aoS;have b:((fs.length:Int)=0)↔fs.length=0:=by omega
 repeat' (first|(with_reducible refine aB ?_ ?_<;>(intro a;(try simp only[bnl] at a);(try revert a;intro _)))|with_reducible refine aD ?_ ?_|with_reducible refine aG ?_|fail)
 all_goals exact⟨_,_,rfl,rfl,by unfold abG;grind⟩
theorem aHG(v:aC):∃r,sj v r:=by
 apply azl 1;unfold aoV aoU
 repeat' (first|(with_reducible refine aB ?_ ?_<;>(intro a;(try simp only[bnl] at a);(try revert a;intro _)))|with_reducible refine aD ?_ ?_|with_reducible refine aG ?_|fail)
 all_goals exact⟨_,_,rfl,rfl,by unfold abH;grind⟩
def aF1(n:Nat):Prop:=∀(ms:List PMs)(es:List PEn)(t:Bs)(fs:List (Int×List aC))(rest:Bs),ajh ms->eH fs<=n->∃r,fP ms es t fs rest r
theorem awU(ms:List PMs)(es:List PEn)(k:Int)(t:Bs)(v:aC)(b:∃r,fP ms es t v.fs v.rest r):∃r,vc ms es k t v r:=by
 apply aCq 1;show Tot _ (BoQ (gj ms k t v));unfold ari arh
 repeat' (first|(with_reducible refine aB ?_ ?_<;>(intro a;(try simp only[bnl] at a);(try revert a;intro _)))|with_reducible refine aD ?_ ?_|with_reducible refine aG ?_|(refine aT b (λ_ h=>h.2) ?_)|(refine aT (aHF _ _) (λ_ h=>h.2) ?_)|(refine aT (aFO _) (λ_ h=>h.2) ?_)|(refine aT (aHk _ _) (λ_ h=>h.2) ?_)|fail)
 all_goals refine⟨_,_,rfl,rfl,?_⟩
 all_goals rw[xG]
 all_goals first|grind|(simp_all;done)
theorem aoZ(ms:List PMs){k:Int}(h:k≠16)(t u:Bs)(v:aC):gj ms k t v=gj ms k u v:=by rw[xG,xG,if_neg h,if_neg h]
theorem aJb(ms:List PMs)(es:List PEn)(f:PFl)(l:List aC)(Z:l.length<=200000000000)(G:f.label=3)(S:f.key≠16)(W:∀v∈l,∀t,∃r,fP ms es t v.fs v.rest r):∃r,aag ms es f l r:=by
 obtain⟨N,X⟩:∃N:Nat,N=300000000000:=⟨_,rfl⟩
 apply awQ N;show Tot _ (BoQ (iK ms f true none l&&decide (l.length%2=0)));unfold ali rX;have P:lq f=false:=by simp[lq,G]
 refine bj (λ(x:qc)=>match x with|(M,z,p,J,L,n,k)=>(M,z,p,J,L,n)=(l,ms,es,f,l,(l.length:Int))∧0<=k∧k<=l.length∧iK ms f true none l=iK ms f (decide (k%2=0)) (asD l k) (l.drop k.toNat)) (λx=>(l.length-x.2.2.2.2.2.2).toNat) ?_ _ _ ⟨rfl,As _,by omega,rfl⟩ (by dsimp only;omega);rintro m ⟨M,z,p,J,L,n,k⟩ ⟨q,u,k1,i⟩ I;cases q;dsimp only at I;unfold vi;dsimp only;simp only[nQ,aJL u,aJL (CR l.length)];refine aB (λa=>?_) (λa=>?_)
 ·have a:=of_decide_eq_true a;have e:=ixt (l:=l) ⟨u,a⟩;rw[fp (aK .pval) u a] at i;have F:=W _ (d8 (aK .pval) u a);have B:0<k->k%2=0->asD l k=some (Ai l (Ad (k-2)) (aK .pval)):=by
   intro j Y;unfold asD;rw[if_neg (by omega),show 2*((k-1) / 2)=k-2 by omega]
  obtain⟨v,w⟩:∃v,v=Ai l k.toNat (aK .pval):=⟨_,rfl⟩
  rw[<-w] at i F ⊢;rw[agM,P] at i;simp only[Cs,A9,Bp] at i;rw[dj u (by omega)];obtain⟨A,c⟩:∃A,A=gj ms (if (f.label==3&&decide (k%2=0))=true then f.key else f.kind) f.typ v:=⟨_,rfl⟩
  obtain⟨C,y⟩:∃C,C=abP f (decide (k%2=0)) (asD l k) v:=⟨_,rfl⟩
  rw[<-c,<-y] at i;have E:(A&&C)=false->Tot (some ((.bool false,[]):V×List aJ)) (BoQ (iK ms f true none l&&decide (l.length%2=0))):=by intro h;refine mY _ ?_;rw[i,<-Bool.and_assoc,h];rfl
  have go:(A&&C)=true->Tot (m (l,ms,es,f,l,(l.length:Int),k+1)) (BoQ (iK ms f true none l&&decide (l.length%2=0))):=by
   intro h;refine I _ ⟨rfl,by first|omega|(dsimp only;omega),by first|omega|(dsimp only;omega),?_⟩ (by first|omega|(dsimp only;omega));dsimp only;rw[i,<-Bool.and_assoc,h,Bp];have R:(!decide (k%2=0))=decide ((k+1)%2=0):=by
    rcases(show k%2=0∨k%2=1 by omega) with h|h;·rw[show (k+1)%2=1 by omega,h];rfl
    ·rw[show (k+1)%2=0 by omega,h];rfl
   have O:(if decide (k%2=0) then some v else asD l k)=asD l (k+1):=by
    unfold asD;rcases(show k%2=0∨k%2=1 by omega) with h|h;·rw[h,if_neg (show ¬k+1=0 by omega),show 2*((k+1-1) / 2)=k by omega,<-w];rfl
    ·rw[h,if_neg (show ¬k+1=0 by omega),if_neg (show ¬k=0 by omega),show 2*((k+1-1) / 2)=2*((k-1) / 2) by omega];rfl
   rw[R,O]
  refine aD e (aB (λj=>?_) (λj=>?_))
  ·have j:k%2=1:=by simpa using j
   rw[decide_eq_false (show ¬k%2=0 by omega),Br] at c;simp only[Cw,if_false] at c;have d:C=true:=by rw[y,decide_eq_false (show ¬k%2=0 by omega)];unfold abP;split<;>simp
   exact aT (awU ms es f.kind f.typ v (F _)) (λ_ h=>h.2) (aB (λb=>E (by rw[show A=false by rw[c];simpa using b];rfl)) (λb=>go (by rw[d,show A=true by rw[c];simpa using b];rfl)))
  ·have j:k%2=0:=by
                have:k%2≠1:=by simpa using j
                omega
   rw[G,j] at c;simp only[decide_true,beq_self_eq_true,Bool.and_self,if_true] at c;rw[aoZ ms S f.typ []] at c;rw[j] at y;refine aT (awU ms es f.key [] v (F _)) (λ_ h=>h.2) (aB (λb=>E (by rw[show A=false by rw[c];simpa using b];rfl)) (λb=>aB (λhp=>?_) (λhp=>go ?_)))
   ·have hp:=of_decide_eq_true hp;rw[aQ (k-2) (by omega)];have d:C=decide (gr f.key (Ai l (Ad (k-2)) (aK .pval)) v<0):=by
     rw[y,B hp j];simp[abP,G]
    have b:A=true:=by rw[c];simpa using b
    refine aD (ixt ⟨by omega,by omega⟩) (aKL (aB (λH=>E ?_) (λH=>go ?_)));·rw[d,decide_eq_false (by have:=of_decide_eq_true H;omega)];simp
    ·rw[d,b,decide_eq_true (by have:=of_decide_eq_false H;omega)];rfl
   ·have D:k=0:=by have:=of_decide_eq_false hp;omega
    have b:A=true:=by rw[c];simpa using b
    rw[b,y,D];rfl
 ·have a:=of_decide_eq_false a;rw[gB a] at i;refine mY _ ?_;rw[i];simp only[iK,Bp];rw[BD];simp only[beq_iff_eq,decide_eq_true_eq];omega
theorem ao0(ms:List PMs)(f:PFl)(b:f.label≠3):∀(l:List aC)(ev:Bool)(pk:Option aC),iK ms f ev pk l= !(l.any (λv=> !gj ms f.kind f.typ v)||lq f&&l.any (qU f.kind))
 | [],ev,pk=>by simp[iK]
 |v::r,ev,pk=>by
  have a:(f.label==3)=false:=by simpa using b
  have c:abP f ev pk v=true:=by
   unfold abP;split;·rfl
   ·rw[a];rfl
  rw[agM,c,ao0 ms f b r,a];simp only[Cs,Cw,if_false,List.any_cons,Bp];cases gj ms f.kind f.typ v<;>cases lq f<;>cases qU f.kind v<;>simp
theorem aKM(v:aC)(ms:List PMs)(es:List PEn)(a:Int)(b:Bs)(c k:Int)(t:Bs)(d:Int)(e:Bool)(g:Int)(f:∀t,∃r,fP ms es t v.fs v.rest r):∃r,tr v ms es a b c k t d e g r:=by apply aqu 1;unfold afK afJ;rw[nQ];exact aT (awU ms es k t v (f _)) (λ_ h=>h.2) (aG ⟨_,_,rfl,rfl,rfl⟩)
theorem aJc(l:List aC)(ms:List PMs)(es:List PEn)(a:Int)(b:Bs)(c k:Int)(t:Bs)(d:Int)(e:Bool)(g:Int)(h:l.length<=200000000000)(L:∀v∈l,∀t,∃r,fP ms es t v.fs v.rest r):∃r,cR l ms es a b c k t d e g r:=by
 obtain⟨N,M⟩:∃N:Nat,N=300000000000:=⟨_,rfl⟩
 apply mt N;unfold fq cg;refine bj (λ(y:cf)=>match y with|(G,D,H,E,I,F,J,A,C,B,j,n,i)=>(G,D,H,E,I,F,J,A,C,B,j,n)=(l,ms,es,a,b,c,k,t,d,e,g,(l.length:Int))∧0<=i∧i<=l.length∧(l.take i.toNat).all (λv=> !!gj ms k t v)=true) (λy=>(l.length-y.2.2.2.2.2.2.2.2.2.2.2.2).toNat) ?_ _ _ ⟨rfl,As _,by omega,rfl⟩ (by dsimp only;omega);rintro w ⟨G,D,H,E,I,F,J,A,C,B,j,n,i⟩ ⟨q,m,O,u⟩ z;cases q;dsimp only at z;unfold cL;dsimp only;rw[nQ];refine aB (λf=>?_) (λf=>?_);·have f:=of_decide_eq_true f;refine aD (ixt ⟨m,f⟩) (aT (aKM _ ms es a b c k t d e g (L _ (d8 _ m f))) (λ_ h=>h.2) (aB (λx=>aG ⟨i,_,rfl,rfl,afF (p:=λv=> !gj ms k t v) (aK .pval) m f x u⟩) (λx=>?_)));rw[dj m (by omega)];exact z _ ⟨rfl,by first|omega|(dsimp only;omega),by first|omega|(dsimp only;omega),aoQ (p:=λv=> !gj ms k t v) (aK .pval) m f u x⟩ (by first|omega|(dsimp only;omega))
 ·rw[pd (of_decide_eq_false f)] at u;exact aG ⟨-1,_,rfl,rfl,afG u⟩
theorem aJd(l:List aC)(ms:List PMs)(es:List PEn)(a:Int)(b:Bs)(c k:Int)(t:Bs)(d:Int)(e:Bool)(g:Int)(h:l.length<=200000000000)(i:∀v∈l,∀t,∃r,fP ms es t v.fs v.rest r):∃r,aL l ms es a b c k t d e g r:=by apply kJ 1;unfold eV eU;refine aY (aJc l ms es a b c k t d e g h i) ?_;rintro r ⟨-,f⟩;exact aG ⟨_,_,rfl,rfl,awH (aK .pval) f⟩
theorem aHH(ms:List PMs)(es:List PEn)(f:PFl)(l:List aC)(z:l.length<=200000000000)(G:f.key≠16)(B:∀v∈l,∀t,∃r,fP ms es t v.fs v.rest r):∃r,p8 ms es f l r:=by
 apply awR 1;show Tot _ (BoQ (sE ms f l));unfold alk alj;dsimp only;simp only[nQ];have p:sE ms f l=(decide (l.length≠0)&&((f.label==2||(f.label==3||decide (l.length=1)))&&((!(f.label==3)||decide (l.length%2=0))&&iK ms f true none l))):=by simp only[sE,asf]
 refine aB (λe=>mY _ ?_) (λe=>aB (λd=>?_) (λd=>?_))
 ·have:l.length=0:=by
               have:(l.length:Int)=0:=by simpa using e
               omega
  rw[p,this];rfl
 ·have d:f.label=3:=by simpa using d
  have e:l.length≠0:=by
                 have:(l.length:Int)≠0:=by simpa using e
                 omega
  refine aT (aJb ms es f l z d G B) (λ_ h=>h.2) (mY _ ?_);rw[p,d,decide_eq_true e];simp[Bool.and_comm]
 ·have d:f.label≠3:=by simpa using d
  have y:(f.label==3)=false:=by simpa using d
  have e:l.length≠0:=by
                 have:(l.length:Int)≠0:=by simpa using e
                 omega
  rw[ao0 ms f d,decide_eq_true e,y] at p;simp only[Bp,CE,A9,Bool.true_or] at p;have b:(f.label=2∨l.length=1)->(lq f&&l.any (qU f.kind))=false->Tot (aA (aL l ms es f.num f.name f.label f.kind f.typ f.key f.packed f.oneof) (λ(c:Bool)=>some (.bool (!c),[]))) (BoQ (sE ms f l)):=by
   intro j w;refine aT (aJd l ms es _ _ _ _ _ _ _ _ z B) (λ_ h=>h.2) (mY _ ?_);rw[p,w,CM];rcases j with h|h;·simp[h]
   ·simp[h]
  have H:f.label=2->lq f=false:=λh=>by simp[lq,h]
  have one:∀v,l=[v]->(l.any (qU f.kind))=qU f.kind v:=λv h=>by rw[h];simp
  have D:l.length=1->∃v,l=[v]∧Ai l (Ad 0) (aK .pval)=v:=λh=>by
   match l,h with
   | [v],_=>exact⟨v,rfl,rfl⟩
  have i:(f.label=2∨l.length=1)->Tot (cond (f.label==0) (cond (f.oneof==0) (cond (!(f.kind==16)) (chk (decide ((0:Int)<↑(Aa l))) (aA (sj (Ai l (Ad 0) (aK .pval))) (λ(C:Bool)=>cond C (some (.bool false,[])) (aA (aL l ms es f.num f.name f.label f.kind f.typ f.key f.packed f.oneof) (λ(c:Bool)=>some (.bool (!c),[])))))) (aA (aL l ms es f.num f.name f.label f.kind f.typ f.key f.packed f.oneof) (λ(c:Bool)=>some (.bool (!c),[])))) (aA (aL l ms es f.num f.name f.label f.kind f.typ f.key f.packed f.oneof) (λ(c:Bool)=>some (.bool (!c),[])))) (aA (aL l ms es f.num f.name f.label f.kind f.typ f.key f.packed f.oneof) (λ(c:Bool)=>some (.bool (!c),[])))) (BoQ (sE ms f l)):=by
   intro j;refine aB (λq=>aB (λx=>aB (λu=>?_) (λu=>b j (by simp[lq,u]))) (λx=>b j (by simp[lq,x]))) (λq=>b j (by simp[lq,q]));have m:l.length=1:=by
    rcases j with h|h;·rw[h] at q;simp at q
    ·exact h
   obtain⟨v,A,E⟩:=D m;rw[E];have w:qU f.kind v=(v.n==0&&decide (v.s=[])):=by unfold qU;rw[u];rfl
   have F:lq f=true:=by unfold lq;rw[q,x,u];rfl
   refine aD (decide_eq_true (by omega)) (aT (aHG v) (λ_ h=>h.2) (aB (λk=>mY _ ?_) (λk=>b j (by rw[one v A,w,k,Br]))));rw[p,one v A,w,k,F];simp
  refine aB (λa=>aB (λm=>mY _ ?_) (λm=>i (.inr ?_))) (λa=>i (.inl (by simpa using a)))
  ·have a:f.label≠2:=by simpa using a
   have m:l.length≠1:=by
                  have:(l.length:Int)≠1:=by simpa using m
                  omega
   rw[p,show (f.label==2)=false by simpa using a,decide_eq_false m];rfl
  ·have:(l.length:Int)=1:=by simpa using m
   omega
theorem aKN(x:bi)(p:PMs)(hp:sQ p):∃r,vb x p.name p.fields p.oneofs r:=by apply asG 1;show Tot _ (BoQ (aab p x));unfold agP agO;refine aoR (by have:=hp.1;dsimp only;omega) ?_;have e:(⟨p.name,p.fields,p.oneofs⟩:PMs)=p:=rfl;rw[e];refine aB (λh=>?_) (λh=>mY _ (by unfold aab;rw[h];rfl));have a:=(yp x.num hp h).1;exact aT (aF0 _ _ a.k) (λ_ h=>h.2) (mY _ (by unfold aab;rw[h];rfl))
theorem aJe(l:List bi)(p:PMs)(h:l.length<=1000000)(hp:sQ p):∃r,cD l p.name p.fields p.oneofs r:=by
 obtain⟨N,v⟩:∃N:Nat,N=1000001:=⟨_,rfl⟩
 apply km N;unfold eJ bU;refine bj (λ(y:bS)=>match y with|(u,j,m,i,n,k)=>(u,j,m,i,n)=(l,p.name,p.fields,p.oneofs,(l.length:Int))∧0<=k∧k<=l.length∧(l.take k.toNat).all (λx=> !aab p x)=true) (λy=>(l.length-y.2.2.2.2.2).toNat) ?_ _ _ ⟨rfl,As _,by omega,rfl⟩ (by dsimp only;omega);rintro d ⟨u,j,m,i,n,k⟩ ⟨q,b,w,c⟩ f;cases q;dsimp only at f;unfold ct;dsimp only;refine aB (λa=>?_) (λa=>?_);·have a:=of_decide_eq_true a;refine aD (ixt ⟨b,a⟩) (aT (aKN _ p hp) (λ_ h=>h.2) (aB (λe=>aG ⟨k,_,rfl,rfl,afF (p:=aab p) (aK .record) b a e c⟩) (λe=>?_)));rw[dj b (by omega)];exact f _ ⟨rfl,by first|omega|(dsimp only;omega),by first|omega|(dsimp only;omega),aoQ (p:=aab p) (aK .record) b a c e⟩ (by first|omega|(dsimp only;omega))
 ·rw[pd (of_decide_eq_false a)] at c;exact aG ⟨-1,_,rfl,rfl,afG c⟩
theorem aJf(l:List bi)(p:PMs)(h:l.length<=1000000)(hp:sQ p):∃r,cm l p.name p.fields p.oneofs r:=by apply jf 1;unfold ei eh;refine aY (aJe l p h hp) ?_;rintro r ⟨-,a⟩;exact aG ⟨_,_,rfl,rfl,awH (aK .record) a⟩
theorem aEI{α:Type}(p:α->Bool):∀l:List α,(!l.any p)=l.all (λx=> !p x)
 | []=>rfl
 |x::l=>by simp only[List.any_cons,CN,Bool.not_or,aEI p l]
theorem aHI(p:PMs)(s:Bs)(hp:sQ p):∃r,acd p s r:=by
 apply azq 1;show Tot _ (BoQ (u9 p s));unfold aoX aoW;have a:=axG s;refine aT (aHj s) (λ_ h=>h.2) (aB (λh=>aT (aJf _ p (by omega) hp) (λ_ h=>h.2) (mY _ ?_)) (λh=>mY _ ?_));·unfold u9;rw[h,aEI];rfl
 ·unfold u9;rw[h];rfl
def MpI(a:List Int)(es:List (Int×Bool)):Prop:=∀o:Int,(aiV (k:=.ib) es o:Bool)=a.contains o
theorem aKO(es:List (Int×Bool))(o x:Int):(aiV (k:=.ib) (ng (k:=.ib) es o true) x:Bool)=(if x=o then true else aiV (k:=.ib) es x):=by
 induction es with
 |nil=>
  by_cases h:x=o;·subst h;simp[aiV,ng,ft]
  ·simp[aiV,ng,ft,h,C8 h]
 |cons e r b=>
  simp only[aiV] at b ⊢;simp only[ng];split
  ·rename_i a;simp only[ft];by_cases h:o=x;·subst h;simp
   ·rw[if_neg h,if_neg (C8 h),if_neg (by rw[a];exact h)]
  ·rename_i a;simp only[ft];by_cases h:e.1=x;·rw[if_pos h,if_pos h,if_neg (by rw[<-h];exact a)]
   ·rw[if_neg h,if_neg h];exact b
theorem aKP{a:List Int}{es:List (Int×Bool)}{o:Int}(h:MpI a es):MpI (o::a) (ng (k:=.ib) es o true):=by
 intro x;rw[aKO,h x,Df];by_cases e:x=o;·rw[if_pos e,e];simp
 ·rw[if_neg e,show (x==o)=false by simpa using e];rfl
set_option maxHeartbeats 4000000 in
theorem aF2(n:Nat)(hF:∀k,k<n->aF1 k)(hn:n<=20000000000000):aF1 n:=by
 intro ms es t fs rest S hw;obtain⟨N,hN⟩:∃N:Nat,N=300000000000:=⟨_,rfl⟩
 apply azs N;show Tot _ (BoQ (ui ms t fs rest));unfold aoY uB;refine ahm S (aB (λh=>mY _ ?_) (λh=>?_));·unfold ui;rw[show (dh ms t).2 =false by simpa using h];rfl
 have h:(dh ms t).2 =true:=by simpa using h
 have hp:=aiB t S;have ed:ui ms t fs rest=(nq ms (dh ms t).1 none [] fs&&u9 (dh ms t).1 rest):=by unfold ui;rw[h];rfl
 obtain⟨p,X⟩:∃p,p=(dh ms t).1 :=⟨_,rfl⟩
 rw[<-X] at hp ed ⊢;have ah:=hp.1;have af:=akf fs;rw[ed];refine aT (aHI p rest hp) (λ_ h=>h.2) (aB (λa=>mY _ ?_) (λa=>?_));·rw[show u9 p rest=false by simpa using a,Br]
 have a:u9 p rest=true:=by simpa using a
 rw[a,Cl];dsimp only;refine bj (λ(x:rY)=>match x with|(J,G,E,re,p',I,m,k,B)=>(J,G,E,re,p',I,m)=(ms,es,fs,rest,p,fs,(fs.length:Int))∧0<=k∧k<=fs.length∧∃b,MpI b B∧(∀o∈b,0<o)∧nq ms p none [] fs=nq ms p (akg fs k) b (fs.drop k.toNat)) (λx=>(fs.length-x.2.2.2.2.2.2.2.1).toNat) ?_ _ _ ⟨rfl,As _,by omega,[],λo=>rfl,by simp,rfl⟩ (by dsimp only;omega);rintro j ⟨J,G,E,re,p',I,m,k,B⟩ ⟨q,M,k1,b,R,i,a⟩ P;cases q;dsimp only at P;unfold xl;dsimp only;refine aB (λr=>?_) (λr=>?_)
 ·have r:=of_decide_eq_true r;have e:=ixt (l:=fs) ⟨M,r⟩;rw[fp (aK .pfd) M r,akh] at a;have F:=d8 (aK .pfd) M r;have z:0<k->akg fs k=some (Ai fs (Ad (k-1)) (aK .pfd)).1 :=λh=>by unfold akg;rw[if_neg (by omega)]
  have c:akg fs (k+1)=some (Ai fs k.toNat (aK .pfd)).1 :=by unfold akg;rw[if_neg (by omega),show k+1-1=k by omega]
  obtain⟨x,hx⟩:∃x,x=Ai fs k.toNat (aK .pfd):=⟨_,rfl⟩
  rw[<-hx] at a F c ⊢;have ag:=awJ F;have ad:=aiN x.2;have L:∀o:List aJ,nq ms p none [] fs=false->Tot (some ((.bool false,o):V×List aJ)) (BoQ (nq ms p none [] fs)):=λo h=>mY _ h.symm
  rw[dj M (by omega),aQ (k-1) (by omega)];refine aD e (aoR (by omega) (aB (λh=>L _ (by rw[a,show (cQ p x.1).2 =false by simpa using h];rfl)) (λh=>?_)));have h:(cQ p x.1).2 =true:=by simpa using h
  have H:=(yp x.1 hp h).1;obtain⟨f,Y⟩:∃f,f=(cQ p x.1).1 :=⟨_,rfl⟩
  rw[<-Y] at a H ⊢;rw[h,Bp] at a;have D:=R f.oneof;have w:apx (akg fs k) x.1=true->Tot (cond (aiV (k:=.ib) B f.oneof) (some (.bool false,[some [.mp .ib B]])) (aA (p8 ms es f x.2) (λ(r4:Bool)=>cond (!r4) (some (.bool false,[some [.mp .ib B]])) (cond (decide (0<f.oneof)) (j (ms,es,fs,rest,p,fs,(fs.length:Int),k+1,ng (k:=.ib) B f.oneof true)) (j (ms,es,fs,rest,p,fs,(fs.length:Int),k+1,B)))))) (BoQ (nq ms p none [] fs)):=by
   intro C;rw[C,Bp] at a;rw[D];refine aB (λO=>L _ ?_) (λO=>?_);·have:0<f.oneof:=i _ (by simpa using O);rw[a,O,decide_eq_true this];simp
   rw[O,Br,A9,Bp] at a;refine aT (aHH ms es f x.2 (by omega) (by have:=H.y;omega) (λv hv t=>hF (eH v.fs) (by have:=yt hv;have:=aey v;omega) ms es t v.fs v.rest S (Ap _))) (λ_ h=>h.2) (aB (λW=>L _ (by rw[a,show sE ms f x.2=false by simpa using W];rfl)) (λW=>?_));rw[show sE ms f x.2=true by simpa using W,Bp] at a;refine aB (λu=>?_) (λu=>?_);·have u:=of_decide_eq_true u;rw[if_pos u] at a;exact P _ ⟨rfl,by first|omega|(dsimp only;omega),by first|omega|(dsimp only;omega),f.oneof::b,aKP R,by simpa using ⟨u,i⟩,by dsimp only;rw[a,c]⟩ (by first|omega|(dsimp only;omega))
   ·have u:=of_decide_eq_false u;rw[if_neg u] at a;exact P _ ⟨rfl,by first|omega|(dsimp only;omega),by first|omega|(dsimp only;omega),b,R,i,by dsimp only;rw[a,c]⟩ (by first|omega|(dsimp only;omega))
  refine aB (λd=>?_) (λd=>w ?_)
  ·have d:=of_decide_eq_true d;have Z:apx (akg fs k) x.1=decide ((Ai fs (Ad (k-1)) (aK .pfd)).1 <x.1):=by rw[z d];rfl
   refine aD (ixt ⟨by omega,by omega⟩) (aB (λA=>L _ ?_) (λA=>w ?_));·rw[a,Z,decide_eq_false (by have:=of_decide_eq_true A;omega)];rfl
   ·rw[Z,decide_eq_true (by have:=of_decide_eq_false A;omega)]
  ·have:k=0:=by have:=of_decide_eq_false d;omega
   subst this;rfl
 ·have r:=of_decide_eq_false r;rw[gB r] at a;exact mY _ (by rw[a];simp only[nq])
theorem aHJ(n:Nat)(b:n<=20000000000000):aF1 n:=by
 induction n using DG with
 |_ n a=>exact aF2 n (λk c=>a k c (by omega)) b
theorem aJg{ms:List PMs}{es:List PEn}{t:Bs}{fs:List (Int×List aC)}{rest:Bs}{K:Bool->Ro}(b:ajh ms)(a:eH fs<=20000000000000)(c:Tot (K (ui ms t fs rest)) Q):Tot (aA (fP ms es t fs rest) K) Q:=aT (aHJ _ (Ap _) ms es t fs rest b a) (λ_ h=>h.2) c
end
section
variable{Q:V×List aJ->Prop}
theorem aKQ(l:List UInt8)(n m:Int)(h:cW l n)(a:0<m):∃r,bo l n m r:=by
 obtain⟨e,d,c⟩:=h;apply an3 1;unfold adY adX;dsimp only
 repeat' (first|(with_reducible refine aB ?_ ?_<;>(intro b;(try simp only[bnl] at b);(try revert b;intro _)))|with_reducible refine aD ?_ ?_|with_reducible refine aG ?_|fail)
 ·exact⟨_,_,_,_,rfl,rfl,by simp,by simpa using a,rfl,e,d,c⟩
 ·simp(disch:=omega) only[aX,bnl]
 ·simp only[bnl];omega
 ·refine⟨_,_,_,_,rfl,rfl,?_,?_,rfl,?_,?_,c⟩;·simp only;have:=BT (l.getD (IntKind.i64.wrap (IntKind.i64.wrap (n+1)-1)).toNat (aK .u8));rw[aQ _ (by omega)];exact Int.tmod_nonneg _ (by omega)
  ·simp only;exact Int.tmod_lt_of_pos _ a
  ·simp only;rw[aQ _ (by omega)];omega
  ·simp only;rw[aQ _ (by omega)];omega
theorem hU{l:Bs}{n m:Int}{K:Int×Bs×Int->Ro}(h:cW l n)(f:0<m)(i:∀v a,0<=v->v<m->cW l a->Tot (K (v,l,a)) Q):Tot (aA (bo l n m) K) Q:=
 aY (aKQ l n m h f) (by rintro⟨v,j,a⟩ ⟨-,d,c,e,b⟩;dsimp only at d c e b;subst e;exact i v a d c b)
theorem aHK(l:List UInt8)(n:Int):∃r,lH l n r:=by
 apply al0 1;unfold acN acM;dsimp only
 repeat' (first|(with_reducible refine aB ?_ ?_<;>(intro a;(try simp only[bnl] at a);(try revert a;intro _)))|with_reducible refine aD ?_ ?_|with_reducible refine aG ?_|fail)
 exact⟨_,_,_,_,rfl,rfl,rfl,rfl⟩
theorem aJh{l:Bs}{n:Int}{K:Bool×Bs×Int->Ro}(d:∀b,Tot (K (b,l,n)) Q):Tot (aA (lH l n) K) Q:=
 aY (aHK l n) (by rintro⟨b,f,e⟩ ⟨-,c,a⟩;dsimp only at c a;subst c a;exact d b)
theorem aCw(l:List UInt8):∃r,wu l r:=by
 apply ay0 1;unfold afp aoh
 repeat' (first|(with_reducible refine aB ?_ ?_<;>(intro a;(try simp only[bnl] at a);(try revert a;intro _)))|with_reducible refine aD ?_ ?_|with_reducible refine aG ?_|fail)
 exact⟨_,_,[],rfl,rfl⟩
theorem aCx{l:Bss}{b:Nat}(h:l.all (λx=>decide (x.length<=b))=true)(i:Nat):(l.getD i (aK .str)).length<=b:=by
 rw[Ar];cases a:l[i]? with
 |none=>exact A0 _
 |some x=>exact of_decide_eq_true (AA.1 h x (At a))
theorem asH{l m:Bss}(h:∀x∈l,x∈m){v:Int}(a:0<=v)(b:v<l.length):l.getD v.toNat (aK .str)∈m:=h _ (d8 _ a b)
theorem ao1:∀s∈nT,s.length<=8:=by decide
theorem aHL(l:Bs)(n:Int)(h:cW l n):∃r,iZ l n r:=by apply al1 1;unfold acP acO;dsimp only;refine hU h (by decide) (λv c b a hp=>aD (ixt ⟨b,by simpa using a⟩) (aG ⟨_,_,_,_,rfl,rfl,asH (by decide) b (by simpa using a),rfl,hp⟩))
theorem aEJ{l:Bs}{n:Int}{K:Bs×Bs×Int->Ro}(h:cW l n)(e:∀t a,t∈nT->cW l a->Tot (K (t,l,a)) Q):Tot (aA (iZ l n) K) Q:=
 aY (aHL l n h) (by rintro⟨v,f,a⟩ ⟨-,c,b,d⟩;dsimp only at c b d;subst b;exact e v a c d)
theorem aF3(l:Bs)(n:Int)(h:cW l n):∃r,f9 l n r:=by apply aik 1;unfold zX zW;dsimp only;refine hU h (by decide) (λv c b a hp=>aD (ixt ⟨b,by simpa using a⟩) (aG ⟨_,_,_,_,rfl,rfl,asH (by decide) b (by simpa using a),rfl,hp⟩))
theorem axH{l:Bs}{n:Int}{K:Bs×Bs×Int->Ro}(h:cW l n)(e:∀t a,t∈nT->cW l a->Tot (K (t,l,a)) Q):Tot (aA (f9 l n) K) Q:=
 aY (aF3 l n h) (by rintro⟨v,f,a⟩ ⟨-,c,b,d⟩;dsimp only at c b d;subst b;exact e v a c d)
theorem apy{v:Int}{K:Bs->Ro}(a:0<=v)(b:Tot (K (Go.Lib.decDigits v.toNat)) Q):Tot (aA (fL v) K) Q:=
 aY (aIM v) (λt h=>by rw[h.2 a];exact b)
def FlQ(l:Bs):V×List aJ->Prop:=λz=>∃(a b:Bs)(c:Int)(rest:List aJ),z.1.dimR=.str a∧z.2=some [.sl .u8 (.may false) b,.int .i64 c]::rest∧TxR 200 l (a,b,c)∧∃f:Sta,f.ok∧a=cM f.ws
theorem afL{k:Nat}(h:k<=899):(Go.Lib.decDigits k).length<=20:=axB (by omega)
theorem aKR:∀s∈azG,s.length<=7:=by decide
theorem aCy(N:Nat)(l t d:Bs)(k:Nat)(n:Int)(h:cW l n)(c:t∈nT)(e:1<=k∧k<=899)(f:∃pk,pk<=2∧d=(if pk=0 then [] else if pk=1 then [32,91,112,97,99,107,101,100,32,61,32,102,97,108,115,101,93] else [32,91,112,97,99,107,101,100,32,61,32,116,114,117,101,93])):Tot (iP N (t,[102]++Go.Lib.decDigits k,[32,61,32]++Go.Lib.decDigits k,d,l,n)) (FlQ l):=by
 unfold iP;dsimp only;have j:=ao1 t c;have i:=afL e.2;obtain⟨pk,b,a⟩:=f;have m:d.length<=17:=by
                rw[a];split;· simp
                split<;>simp
 refine aD ?_ (aD ?_ (aD ?_ (aD ?_ (aD ?_ (aD ?_ (aG ⟨_,_,_,_,rfl,rfl,⟨?_,rfl,h⟩,⟨2,t,[],k,pk⟩,⟨by dsimp only;omega,c,λh=>absurd h (by dsimp only;omega),λ_=>rfl,e,b,λh=>absurd rfl h⟩,?_⟩))))))
 case refine_8=>
  rw[a];have p:pk=0∨pk=1∨pk=2:=by omega
  rcases p with rfl|rfl|rfl<;>simp[Sta.ws,uG,xq,aFi,aee,cM,Wd.t]
 all_goals (try apply decide_eq_true);simp only[Aj,Af,Ak];omega
theorem aCz(N:Nat)(l t d:Bs)(k:Nat)(n:Int)(h:cW l n)(b:t∈nT)(c:1<=k∧k<=899)(a:d∈azG):Tot (iQ N (t,[102]++Go.Lib.decDigits k,[32,61,32]++Go.Lib.decDigits k,d,l,n)) (FlQ l):=by
 unfold iQ;dsimp only;have f:=ao1 t b;have e:=afL c.2;have i:=aKR d a;refine aD ?_ (aD ?_ (aD ?_ (aD ?_ (aD ?_ (aD ?_ (aD ?_ (aG ⟨_,_,_,_,rfl,rfl,⟨?_,rfl,h⟩,⟨3,t,d,k,0⟩,⟨by dsimp only;omega,b,λ_=>a,λh=>absurd rfl h,c,by dsimp only;omega,λ_=>rfl⟩,?_⟩)))))));case refine_9=>simp[Sta.ws,uG,xq,aee,cM,Wd.t]
 all_goals (try apply decide_eq_true);simp only[Aj,Af,Ak];omega
theorem aJi(N:Nat)(l t:Bs)(k:Nat)(n:Int)(h:cW l n)(a:t∈nT)(b:1<=k∧k<=899):Tot (iR N (t,[102]++Go.Lib.decDigits k,[32,61,32]++Go.Lib.decDigits k,l,n)) (FlQ l):=by
 unfold iR;dsimp only;have d:=ao1 t a;have c:=afL b.2;refine aD ?_ (aD ?_ (aD ?_ (aD ?_ (aG ⟨_,_,_,_,rfl,rfl,⟨?_,rfl,h⟩,⟨0,t,[],k,0⟩,⟨by dsimp only;omega,a,λh=>absurd h (by dsimp only;omega),λ_=>rfl,b,by dsimp only;omega,λ_=>rfl⟩,?_⟩))));case refine_6=>simp[Sta.ws,uG,xq,aee,cM,Wd.t]
 all_goals (try apply decide_eq_true);simp only[Aj,Af,Ak];omega
theorem aKS{v:Int}(a:0<=v)(b:v<4):∃pk,pk<=2∧Ai ([[],[],[32,91,112,97,99,107,101,100,32,61,32,102,97,108,115,101,93],[32,91,112,97,99,107,101,100,32,61,32,116,114,117,101,93]]:Bss) v.toNat (aK .str)=(if pk=0 then [] else if pk=1 then [32,91,112,97,99,107,101,100,32,61,32,102,97,108,115,101,93] else [32,91,112,97,99,107,101,100,32,61,32,116,114,117,101,93]):=by
 have:v=0∨v=1∨v=2∨v=3:=by omega
 rcases this with rfl|rfl|rfl|rfl;·exact⟨0,by decide,rfl⟩
 ·exact⟨0,by decide,rfl⟩
 ·exact⟨1,by decide,rfl⟩
 ·exact⟨2,by decide,rfl⟩
theorem aCA(N:Nat)(l:Bs)(m f:Bool)(i:Int)(t:Bs)(k:Nat)(n:Int)(h:cW l n)(c:t∈nT)(d:1<=k∧k<=899):Tot (iS N (m,t,[102]++Go.Lib.decDigits k,[32,61,32]++Go.Lib.decDigits k,i,f,l,n)) (FlQ l):=by unfold iS lg;dsimp only;refine aB (λ_=>hU h (by decide) (λv j b a hp=>aD (ixt ⟨b,by simpa using a⟩) ?_)) (λ_=>aB (λ_=>hU h (by decide) (λv j b a hp=>aD (ixt ⟨b,by simpa using a⟩) (aB (λ_=>aCz N l _ _ _ _ hp c d (by decide)) (λ_=>aCz N l _ _ _ _ hp c d (asH (by decide) b (by simpa using a)))))) (λ_=>aJi N l _ _ _ h c d));have e:=aCy N l t [] k j hp c d ⟨0,by decide,rfl⟩;exact aB (λ_=>e) (λ_=>aB (λ_=>e) (λ_=>aB (λ_=>e) (λ_=>aB (λ_=>e) (λ_=>aCy N l _ _ _ _ hp c d (aKS b (by simpa using a))))))
theorem aCB(N:Nat)(l:Bs)(k:Nat)(c:Bool)(t:Bs)(n:Int)(h:cW l n)(a:t∈nT)(b:1<=k∧k<=899):Tot (mi N ((k:Int),c,t,l,n)) (FlQ l):=by
 unfold mi lh;dsimp only;have f:=ao1 t a;have e:=afL b.2;refine apy (by omega) (aD ?_ (apy (by omega) (aD ?_ (hU h (by decide) (λv j i d hp=>aB (λ_=>aD ?_ (aD ?_ (aD ?_ (aD ?_ (aD ?_ (aG ⟨_,_,_,_,rfl,rfl,⟨?_,rfl,hp⟩,⟨1,t,[],k,0⟩,⟨by dsimp only;omega,a,λh=>absurd h (by dsimp only;omega),λ_=>rfl,b,by dsimp only;omega,λ_=>rfl⟩,?_⟩)))))) (λ_=>?_))))));case refine_9=>rw[AC];simp[Sta.ws,uG,xq,aee,cM,Wd.t]
 case refine_10=>rw[AC];exact aB (λ_=>aCA N l _ _ _ _ _ _ hp a b) (λ_=>aCA N l _ _ _ _ _ _ hp a b)
 all_goals (try apply decide_eq_true);(try rw[AC]);simp only[Aj,Af,Ak];omega
theorem aF4(l:Bs)(n:Int)(k:Nat)(c:Bool)(h:cW l n)(b:1<=k∧k<=899):∃r,kw l n (k:Int) c r:=by apply ajX 1;show Tot _ (FlQ l);unfold aa8 jA;dsimp only;exact aEJ h (λt i e hp=>aB (λ_=>axH hp (λu f d a=>aCB _ _ _ _ _ _ a d b)) (λ_=>aCB _ _ _ _ _ _ hp e b))
theorem aHM{l:Bs}{n num:Int}{c:Bool}{K:Bs×Bs×Int->Ro}(h:cW l n)(p:1<=num∧num<=899)(j:∀(f:Sta) a,f.ok->(cM f.ws).length<=200->cW l a->Tot (K (cM f.ws,l,a)) Q):Tot (aA (kw l n num c) K) Q:=by
 obtain⟨k,rfl⟩:∃k:Nat,num=(k:Int):=⟨num.toNat,by omega⟩
 exact aY (aF4 l n k c h (by omega)) (by rintro⟨v,q,a⟩ ⟨-,⟨e,d,i⟩,f,m,b⟩;dsimp only at e d i b;subst d b;exact j f a m e i)
def BdQ(l:Bs):V×List aJ->Prop:=λz=>∃(a b:Bs)(c:Int)(rest:List aJ),z.1.dimR=.str a∧z.2=some [.sl .u8 (.may false) b,.int .i64 c]::rest∧TxR 100000 l (a,b,c)∧∃(fs:List Sta)(d:List (List UInt8×Nat)),((∀f∈fs,f.ok)∧∀x∈d,yI x)∧a=cM (sM fs d)
theorem aLV(a:List (List UInt8×Nat)):cM (a.flatMap arD)=[]↔a=[]:=by
 cases a with
 |nil=>simp[cM]
 |cons x a=>simp[arD,cM]
theorem aJj(l:Bs)(n m:Int)(c:Bool)(h:cW l n)(hm:0<=m∧m<=20):∃r,iY l n m c r:=by
 obtain⟨N,hN⟩:∃N:Nat,N=100:=⟨_,rfl⟩
 apply al6 N;show Tot _ (BdQ l);unfold acQ kz;dsimp only;rw[dj hm.1 (by omega)];refine hU h (by omega) (λq n1 hq X J=>?_);dsimp only;refine bj (λ(x:jB)=>match x with|(W,s,o,k,P,S,R)=>(W,P,S)=(c,q,l)∧0<=k∧k<=q∧(s.length:Int)<=200*k∧(o.length:Int)<=200*k∧cW l R∧∃(fs:List Sta)(w:List (List UInt8×Nat)),((∀f∈fs,f.ok)∧∀x∈w,yI x)∧s=cM (fs.flatMap Sta.ws)∧o=cM (w.flatMap arD)) (λx=>(q-x.2.2.2.1).toNat) ?_ _ _ ⟨rfl,As _,hq,by simp,by simp,J,[],[],⟨λf h=>absurd h (by simp),λx h=>absurd h (by simp)⟩,rfl,rfl⟩ (by dsimp only;omega);rintro B ⟨W,s,o,k,P,S,R⟩ ⟨e,k0,k1,hs,ho,hp,fs,w,⟨z,y⟩,A,j⟩ H;cases e;dsimp only at H;unfold nr;dsimp only;rw[dj k0 (by omega)];refine aB (λM=>?_) (λM=>?_)
 ·have M:=of_decide_eq_true M;refine hU hp (by decide) (λa n2 a0 a2 L=>?_);have en:∃num:Int,num=Ab .i64 (k+1+Ab .i64 (Ab .i64 (14*a)*k))∧1<=num∧num<=400:=by
   refine⟨_,rfl,?_⟩;have:a=0∨a=1:=by omega
   rcases this with rfl|rfl;·rw[aQ (14*0) (by omega),aQ (14*0*k) (by omega),aQ _ (by omega)];omega
   ·rw[aQ (14*1) (by omega),aQ (14*1*k) (by omega),aQ _ (by omega)];omega
  obtain⟨num,E,u1,u2⟩:=en;dsimp only;rw[<-E,aQ (num+100) (by omega)];have hd:=afL (k:=(num+100).toNat) (by omega);have one:∀(t:Bs)(C:Int),t∈nT->cW l C->Tot (chk (decide (Aa o+Aa t<=9223372036854775807)) (chk (decide (Aa (o++t)+Aa ([32,111]:Bs)<=9223372036854775807)) (aA (fL (num+100)) (λ(D:Bs)=>chk (decide (Aa ((o++t)++([32,111]:Bs))+Aa D<=9223372036854775807)) (chk (decide (Aa (((o++t)++([32,111]:Bs))++D)+Aa ([32,61,32]:Bs)<=9223372036854775807)) (aA (fL (num+100)) (λ(O:Bs)=>chk (decide (Aa ((((o++t)++([32,111]:Bs))++D)++([32,61,32]:Bs))+Aa O<=9223372036854775807)) (chk (decide (Aa (((((o++t)++([32,111]:Bs))++D)++([32,61,32]:Bs))++O)+Aa ([59,10]:Bs)<=9223372036854775807)) (B (c,s,((((((o++t)++([32,111]:Bs))++D)++([32,61,32]:Bs))++O)++([59,10]:Bs)),k+1,q,l,C)))))))))) (BdQ l):=by
   intro t C G i;have a1:=ao1 t G;refine aD ?_ (aD ?_ (apy (by omega) (aD ?_ (aD ?_ (apy (by omega) (aD ?_ (aD ?_ (H _ ⟨rfl,by first|omega|(dsimp only;omega),by first|omega|(dsimp only;omega),by first|omega|(dsimp only;omega),?_,i,fs,w++[(t,(num+100).toNat)],⟨z,λx p=>?_⟩,A,?_⟩ (by first|omega|(dsimp only;omega))))))))))
   case refine_8=>
    rcases Aw.1 p with p|p;·exact y x p
    ·rw[Av.1 p];exact⟨G,by dsimp only;omega,by dsimp only;omega⟩
   case refine_9=>dsimp only;rw[j];simp[List.flatMap_append,tO,arD,uG,xq,aee,cM,Wd.t]
   all_goals (try apply decide_eq_true);(try dsimp only);(try simp only[Aj,Af,Ak]);omega
  refine hU L (by decide) (λb n3 _ _ F=>aB (λ_=>aEJ F (λt C G i=>aB (λ_=>axH i (λu Z Y I=>one u Z Y I)) (λ_=>one t C G i))) (λ_=>aHM F (by omega) (λf C hf ac i=>?_)));refine aD ?_ (H _ ⟨rfl,by first|omega|(dsimp only;omega),by first|omega|(dsimp only;omega),?_,by first|omega|(dsimp only;omega),i,fs++[f],w,⟨λx p=>?_,y⟩,?_,j⟩ (by first|omega|(dsimp only;omega)))
  case refine_3=>
   rcases Aw.1 p with p|p;·exact z x p
   ·rw[Av.1 p];exact hf
  case refine_4=>dsimp only;rw[A];simp[List.flatMap_append,tO]
  all_goals (try apply decide_eq_true);(try dsimp only);(try simp only[Aj,Af,Ak]);omega
 ·refine aB (λd=>aD ?_ (aD ?_ (aD ?_ (aG ⟨_,_,_,_,rfl,rfl,⟨?_,rfl,hp⟩,fs,w,⟨z,y⟩,?_⟩)))) (λd=>aG ⟨_,_,_,_,rfl,rfl,⟨?_,rfl,hp⟩,fs,w,⟨z,y⟩,?_⟩)
  case refine_5=>
   have d:o≠[]:=by simpa using d
   have v:w≠[]:=λe=>d (by rw[j,e];rfl)
   rw[sM,if_neg v,A,j];simp[tO,cM,Wd.t]
  case refine_7=>
   have d:o=[]:=by simpa using d
   have v:w=[]:=(aLV w).1 (j▸d);rw[sM,if_pos v,A,A5]
  all_goals (try apply decide_eq_true);(try dsimp only);(try simp only[Aj,Af,Ak]);omega
theorem aEK{l:Bs}{n m:Int}{c:Bool}{K:Bs×Bs×Int->Ro}(h:cW l n)(p:0<=m∧m<=20)(q:∀(fs:List Sta)(a:List (List UInt8×Nat)) b,(∀f∈fs,f.ok)->(∀x∈a,yI x)->(cM (sM fs a)).length<=100000->cW l b->Tot (K (cM (sM fs a),l,b)) Q):Tot (aA (iY l n m c) K) Q:=
 aY (aJj l n m c h p) (by rintro⟨v,u,b⟩ ⟨-,⟨i,e,j⟩,fs,a,⟨k,r⟩,d⟩;dsimp only at i e j d;subst e d;exact q fs a b k r i j)
theorem aJk:cM (nS++(nh++[(.nm lk,[32]),(.nm [73],[32]),(.sg 123,[10])]))=[115,121,110,116,97,120,32,61,32,34,112,114,111,116,111,51,34,59,10,112,97,99,107,97,103,101,32,97,59,10,101,110,117,109,32,69,32,123,32,65,32,61,32,48,59,32,66,32,61,32,49,59,32,67,32,61,32,45,49,59,32,125,10,109,101,115,115,97,103,101,32,73,32,123,10]:=by simp[nS,nh,cM,Wd.t,Go.Lib.decDigits_one]
theorem aJl(l:Bs)(n:Int)(c:Bool)(h:cW l n):∃r,lG l n c r:=by
 apply al7 1;unfold acS acR;dsimp only;refine aEK h (by decide) (λfs k w p m v i=>aD ?_ (aD ?_ (aEK i (by decide) (λb a q j f u d=>aD ?_ (aD ?_ (aG ⟨_,_,_,_,rfl,rfl,⟨?_,rfl,d⟩,fs,k,b,a,⟨p,m,j,f⟩,?_⟩))))))
 case refine_6=>
  have e:af9 fs k b a=(nS++(nh++[(.nm lk,[32]),(.nm [73],[32]),(.sg 123,[10])]))++(sM fs k++([(.sg 125,[10]),(.nm lk,[32]),(.nm [77],[32]),(.sg 123,[10])]++(sM b a++[(.sg 125,[10])]))):=by simp[af9,aFj]
  dsimp only;rw[e,tO,aJk,tO,tO,tO];simp[cM,Wd.t]
 all_goals (try apply decide_eq_true);(try dsimp only);(try simp only[Aj,Af,Ak]);omega
theorem aKT{l:Bs}{n:Int}{c:Bool}{K:Bs×Bs×Int->Ro}(h:cW l n)(i:∀t a,Made t->cW l a->Tot (K (t,l,a)) Q):Tot (aA (lG l n c) K) Q:=
 aY (aJl l n c h) (by rintro⟨v,j,a⟩ ⟨-,⟨f,d,e⟩,b⟩;dsimp only at f d e b;subst d;exact i v a b e)
theorem aLW(s:Bs)(b:Made s):∃r,agC s r:=by apply aDI 1;unfold auk auj;refine aY (aI1 _ b) ?_;rintro⟨fs,e,f,a⟩ ⟨-,c⟩;dsimp only[abp] at c ⊢;refine aB (λ_=>aG ⟨_,_,_,_,rfl,rfl,λh=>by simp at h⟩) (λd=>aY (aFS fs (c (by simpa using d))) ?_);rintro⟨ms,es,i,t⟩ ⟨-,b⟩;dsimp only[xv] at b ⊢;exact aG ⟨_,_,_,_,rfl,rfl,λh=>(b (by simpa using h)).1⟩
theorem aHN(l:Bs)(n:Int)(h:cW l n):∃r,ot l n r:=by apply ajZ 1;unfold aba aa9;refine aKT h (λt c a hp=>aY (aLW t a) ?_);rintro⟨ms,es,is⟩ ⟨-,b⟩;exact aG ⟨_,_,_,_,_,_,rfl,rfl,b⟩
theorem aHO{v:Int}(a:0<=v)(b:v<(([0,1,2,5,127,128,300,2147483647,2147483648,4294967295,1099511627776,9223372036854775807,9223372036854775808,18446744073709551615,18446744073709551614,9221120237041090561]:List Int).length)):0<=Ai ([0,1,2,5,127,128,300,2147483647,2147483648,4294967295,1099511627776,9223372036854775807,9223372036854775808,18446744073709551615,18446744073709551614,9221120237041090561]:List Int) v.toNat (aK (.num .u64))∧Ai ([0,1,2,5,127,128,300,2147483647,2147483648,4294967295,1099511627776,9223372036854775807,9223372036854775808,18446744073709551615,18446744073709551614,9221120237041090561]:List Int) v.toNat (aK (.num .u64))<=18446744073709551615:=by
 have:∀x∈([0,1,2,5,127,128,300,2147483647,2147483648,4294967295,1099511627776,9223372036854775807,9223372036854775808,18446744073709551615,18446744073709551614,9221120237041090561]:List Int),0<=x∧x<=18446744073709551615:=by decide
 exact this _ (d8 (aK (.num .u64)) a b)
theorem aD5(l:Bs)(n k:Int)(h:cW l n):∃r,jz l n k r:=by apply aiq 1;unfold z6 z5;dsimp only;refine hU h (by decide) (λv c b a hp=>aD (ixt ⟨b,by simpa using a⟩) (aT (aHl _ _) (λ_ h=>h.2) (aG ⟨_,_,_,_,rfl,rfl,rfl,hp,_,aHO b (by simpa using a),rfl⟩)))
theorem aHP{l:Bs}{n k:Int}{K:Int×Bs×Int->Ro}(h:cW l n)(i:∀b a,(0<=b∧b<=18446744073709551615)->cW l a->Tot (K (ajf k b,l,a)) Q):Tot (aA (jz l n k) K) Q:=
 aY (aD5 l n k h) (by rintro⟨v,j,a⟩ ⟨-,e,d,b,f,c⟩;dsimp only at e d c;subst e c;exact i b a f d)
end
theorem aHQ:∀a b:Bs,AO a b=false->a≠b->AO b a=true
 | [],[],_,h=>absurd rfl h
 | [],y::b,h,_=>by simp[AO] at h
 |x::a,[],_,_=>by simp[AO]
 |x::a,y::b,h,c=>by
  rw[AO,Cj] at h;rw[AO,Bl];obtain⟨d,f⟩:=h;have d:¬x<y:=of_decide_eq_false d;by_cases e:x=y;·subst e;rw[beq_self_eq_true,Bp] at f;refine .inr ?_;rw[beq_self_eq_true,Bp];exact aHQ a b f λe=>c (by rw[e])
  ·refine .inl (decide_eq_true ?_);rw[UInt8.lt_iff_toNat_lt] at d ⊢;have:x.toNat≠y.toNat:=λh=>e (Ci.1 h)
   omega
def RgV(v:aC):Prop:=0<=v.n∧v.n<=18446744073709551615
theorem aF5{v:aC}(h:rgV v):RgV v:=by cases v;simp only[rgV] at h;exact h.1
theorem aLX{k:Int}{a b:aC}(l:k≠16)(m:RgV a)(f:RgV b)(c:¬gr k a b<0)(d:gr k a b≠0):gr k b a<0:=by
 by_cases h:k=14∨k=15
 ·rw[aki l h] at c d ⊢;by_cases e:a.s=b.s;·rw[if_pos e] at d;exact absurd rfl d
  ·rw[if_neg e] at c;rw[if_neg (λx=>e x.symm)];cases f:AO a.s b.s with
   |true=>rw[f] at c;exact absurd (by decide) c
   |false=>rw[aHQ _ _ f e];decide
 ·rw[akj l h] at c d ⊢;by_cases e:a.n=b.n;·rw[if_pos e] at d;exact absurd rfl d
  ·rw[if_neg e] at c;rw[if_neg (λx=>e x.symm)];have p:=aEH m f e;cases j:afl k with
   |true=>
    rw[j] at c;simp only[if_true] at c ⊢;rw[if_pos];·decide
    ·by_cases i:Ab .i64 a.n<Ab .i64 b.n;·rw[if_pos i] at c;exact absurd (by decide) c
     ·omega
   |false=>
    rw[j] at c;simp only[Cw,if_false] at c ⊢;rw[if_pos];·decide
    ·by_cases i:a.n<b.n;·rw[if_pos i] at c;exact absurd (by decide) c
     ·omega
theorem aLY{k:Int}{a b c:aC}(i:k≠16)(d:gr k a b=0)(f:gr k a c<0):gr k b c<0:=by
 by_cases h:k=14∨k=15
 ·rw[aki i h] at d f ⊢;by_cases e:a.s=b.s;·rw[<-e];exact f
  ·rw[if_neg e] at d;split at d<;>exact absurd d (by decide)
 ·rw[akj i h] at d f ⊢;by_cases e:a.n=b.n;·rw[<-e];exact f
  ·rw[if_neg e] at d
   (repeat' split at d)<;>exact absurd d (by decide)
theorem uC{ms:List PMs}{f:PFl}(d:f.label=3)(pk:Option aC)(a b:aC)(r:List aC):iK ms f true pk (a::b::r)=(gj ms f.key f.typ a&&(abP f true pk a&&(gj ms f.kind f.typ b&&iK ms f true (some a) r))):=by
 have c:(f.label==3)=true:=by simpa using d
 have e:lq f=false:=by unfold lq;rw[d];rfl
 rw[agM,agM,e,c];have h:abP f (!true) (if true=true then some a else pk) b=true:=by simp only[if_true,abP,c,B2,Br,A9,Bool.true_or]
 rw[h];simp
theorem ao2{f:PFl}(b:f.label=3)(q v:aC):abP f true (some q) v=decide (gr f.key q v<0):=by
 have a:(f.label==3)=true:=by simpa using b
 simp[abP,a]
theorem gE{v:aC}{r:List aC}:rgL (v::r)↔rgV v∧rgL r:=by simp only[rgL]
theorem akk{ms:List PMs}{f:PFl}(e:f.label=3)(A:f.key≠16){x y:aC}(p:gj ms f.key f.typ x=true)(v:gj ms f.kind f.typ y=true)(j:rgV x)(u:rgV y):∀(l:List aC)(pk:Option aC),l.length%2=0->rgL l->iK ms f true pk l=true->abP f true pk x=true->iK ms f true pk (ic f.key l x y)=true∧rgL (ic f.key l x y)
 | [],pk,_,_,_,m=>by simp only[ic];rw[uC e,p,v,m];exact⟨by simp[iK],by simp only[rgL];exact⟨j,u,trivial⟩⟩
 | [a],pk,h,_,_,_=>by simp at h
 |a::b::r,pk,D,E,G,m=>by
  rw[gE,gE] at E;obtain⟨z,B,w⟩:=E;rw[uC e,Ac,Ac,Ac] at G;obtain⟨F,I,C,i⟩:=G;simp only[ic];by_cases q:gr f.key a x<0;·rw[if_pos q];obtain⟨J,H⟩:=akk e A p v j u r (some a) (by simp only[Af] at D;omega) w i (by rw[ao2 e];exact decide_eq_true q);rw[uC e,F,I,C,J,gE,gE];exact⟨rfl,z,B,H⟩
  ·rw[if_neg q];by_cases k:gr f.key a x=0
   ·rw[if_pos k,uC e,p,v,m,gE,gE];refine⟨?_,j,u,w⟩;simp only[Bp];match r with
    | []=>simp[iK]
    | [c]=>simp at D
    |c::d::r=>rw[uC e,Ac,Ac,Ac] at i ⊢;refine⟨i.1,?_,i.2.2⟩;rw[ao2 e] at i ⊢;exact decide_eq_true (aLY A k (of_decide_eq_true i.2.1))
   ·rw[if_neg k,uC e,uC e,p,v,m,F,C,i,ao2 e,gE,gE,gE,gE];refine⟨?_,j,u,z,B,w⟩;simp only[Bp,Cl];exact decide_eq_true (aLX A (aF5 z) (aF5 j) q k)
theorem axI{ms:List PMs}{f:PFl}(i:f.label=3)(k:f.key≠16):∀(l a:List aC)(pk:Option aC),l.length%2=0->a.length%2=0->rgL l->rgL a->iK ms f true pk l=true->iK ms f true none a=true->iK ms f true none (dB f.key a l)=true∧rgL (dB f.key a l)
 | [],a,pk,_,_,_,e,_,d=>by simp only[dB];exact⟨d,e⟩
 | [x],a,pk,h,_,_,_,_,_=>by simp at h
 |x::y::r,a,pk,m,j,b,e,c,d=>by rw[gE,gE] at b;rw[uC i,Ac,Ac,Ac] at c;obtain⟨p,q⟩:=akk i k c.1 c.2.2.1 b.1 b.2.1 a none j e d rfl;simp only[dB];exact axI i k r _ (some x) (by simp only[Af] at m;omega) ((uA _ _ _ _).2 j) b.2.2 q c.2.2.2 p
theorem auK(k:Int):∀l a:List aC,a.length%2=0->(dB k a l).length%2=0
 | [],a,h=>by simpa only[dB] using h
 | [x],a,h=>by simpa only[dB] using h
 |x::y::r,a,h=>by simp only[dB];exact auK k r _ ((uA _ _ _ _).2 h)
theorem axJ(k:Int)(x y:aC):∀l:List aC,l.length%2=0->2<=(ic k l x y).length
 | [],_=>by simp[ic]
 | [a],h=>by simp at h
 |a::b::r,_=>by simp only[ic];(repeat' split)<;>simp
theorem auL(k:Int):∀l a:List aC,a.length%2=0->2<=a.length->2<=(dB k a l).length
 | [],a,h,b=>by simpa only[dB] using b
 | [x],a,h,b=>by simpa only[dB] using b
 |x::y::r,a,h,b=>by simp only[dB];exact auL k r _ ((uA _ _ _ _).2 h) (axJ _ _ _ _ h)
theorem aHR(k:Int)(l:List aC)(h:l.length%2=0)(a:l≠[]):0<(dB k [] l).length:=by
 match l with
 | []=>exact absurd rfl a
 | [x]=>simp at h
 |x::y::r=>simp only[dB];have:=auL k r _ ((uA k x y []).2 rfl) (axJ k x y [] rfl);omega
theorem asI(n:Int):∀fs:List (Int×List aC),(fg fs n []).Sublist fs
 | []=>by simp[fg,nA]
 |x::r=>by
  simp only[fg,nA,if_true];split;·exact(asI n r).cons_cons x
  ·split;·exact List.sublist_cons_self ..
   ·exact Dq _
theorem aEL(n:Int):∀{fs:List (Int×List aC)},(fs.map BP).Pairwise (·<·)->∀y∈fg fs n [],y.1≠n
 | [],_,y,h=>by simp[fg,nA] at h
 |x::r,a,y,h=>by
  rw[AL,BA] at a;simp only[fg,nA,if_true] at h;split at h
  ·rcases AN.1 h with rfl|h;·omega
   ·exact aEL n a.2 y h
  ·split at h;·have:=a.1 _ (BX h);omega
   ·rcases AN.1 h with rfl|h;·assumption
    ·have:=a.1 _ (BX h);omega
theorem aCC{n:Int}{l:List aC}(a:l≠[]):∀{fs:List (Int×List aC)},(∀y∈fs,y.1<n)->fg fs n l=fs++[(n,l)]
 | [],_=>by simp[fg,nA,a]
 |x::r,h=>by simp only[fg];rw[if_pos (h x (by simp)),aCC a λy b=>h y (by simp[b])];rfl
theorem awV(f:PFl):∀(L:List PFl)(fs:List (Int×List aC)),(alR L fs f).Sublist fs
 | [],fs=>Dq _
 |x::r,fs=>by
  simp only[alR];refine(awV f r _).trans ?_;split;·exact asI _ _
  ·exact Dq _
theorem aCD(f:PFl):∀(L:List PFl){fs:List (Int×List aC)},(fs.map BP).Pairwise (·<·)->∀y∈alR L fs f,∀x∈L,x.oneof=f.oneof->x.num≠f.num->y.1≠x.num
 | [],fs,_,y,_,x,a,_,_=>by simp at a
 |z::r,fs,e,y,b,x,a,h,d=>by
  simp only[alR] at b;by_cases c:z.oneof=f.oneof∧z.num≠f.num
  ·rw[if_pos c] at b;have i:((fg fs z.num []).map BP).Pairwise (·<·):=e.sublist ((asI _ _).map _);rcases AN.1 a with rfl|a;·exact aEL _ e y ((awV f r _).mem b)
   ·exact aCD f r i y b x a h d
  ·rw[if_neg c] at b;rcases AN.1 a with rfl|a;·exact absurd ⟨h,d⟩ c
   ·exact aCD f r e y b x a h d
theorem aF6(p:PMs)(fs:List (Int×List aC))(f:PFl):(gi p fs f).Sublist fs:=by
 unfold gi;split;·exact awV f _ _
 ·exact Dq _
theorem aCE{f:PFl}:∀{l:List PFl},(l.map PFl.num).Pairwise (·<·)->f∈l->l.find? (λg=>g.num==f.num)=some f
 | [],_,h=>by simp at h
 |x::l,a,h=>by
  rw[AL,BA] at a;rcases AN.1 h with rfl|h;·rw[List.find?_cons_of_pos (by simp)]
  ·have:=a.1 _ (BX h);rw[List.find?_cons_of_neg (by simp;omega)];exact aCE a.2 h
theorem aEM{p:PMs}{f:PFl}(hp:sQ p)(h:f∈p.fields):cQ p f.num=(f,true):=by unfold cQ;rw[aCE hp.2.2.2 h]
structure aes(ms:List PMs)(p:PMs)(fs:List (Int×List aC)):Prop where
 rise:(fs.map BP).Pairwise (·<·)
 fit:∀x∈fs,(cQ p x.1).2 =true∧sE ms (cQ p x.1).1 x.2=true
 one:fs.Pairwise (λx y=>0<(cQ p x.1).1.oneof ->(cQ p x.1).1.oneof ≠(cQ p y.1).1.oneof)
theorem aes.of_sub{ms:List PMs}{p:PMs}{fs a:List (Int×List aC)}(h:aes ms p fs)(b:a.Sublist fs):aes ms p a:=
 ⟨h.rise.sublist (b.map _),λx c=>h.fit x (b.mem c),h.one.sublist b⟩
theorem aCF{ms:List PMs}{p:PMs}:∀{fs:List (Int×List aC)}(b:Option Int)(a:List Int),aes ms p fs->(∀x∈fs,apx b x.1=true)->(∀x∈fs,0<(cQ p x.1).1.oneof ->(cQ p x.1).1.oneof ∉ a)->nq ms p b a fs=true
 | [],b,a,_,_,_=>by simp[nq]
 |x::r,b,a,h,v,j=>by
  obtain⟨f,l,i⟩:=h;rw[AL,BA] at f;rw[BA] at i;obtain⟨q,m⟩:=l x (by simp);rw[akh,q,m,v x (by simp)];have u:(decide (0<(cQ p x.1).1.oneof)&&a.contains (cQ p x.1).1.oneof)=false:=by
   by_cases d:0<(cQ p x.1).1.oneof;·have:=j x (by simp) d;rw[List.contains_eq_mem,decide_eq_false this,Br]
   ·rw[decide_eq_false d,Cs]
  rw[u];simp only[Bp,A9];refine aCF _ _ ⟨f.2,λy c=>l y (by simp[c]),i.2⟩ (λy c=>decide_eq_true (f.1 _ (BX c))) (λy c d=>?_);have k:=j y (by simp[c]) d;split;·rw[AN,not_or];exact⟨λe=>i.1 y c (by assumption) e.symm,k⟩
  ·exact k
theorem aCG{ms:List PMs}{p:PMs}:∀{fs:List (Int×List aC)}(a:Option Int)(c:List Int),nq ms p a c fs=true->(∀x∈fs,apx a x.1=true)∧(fs.map BP).Pairwise (·<·)∧∀x∈fs,(cQ p x.1).2 =true∧sE ms (cQ p x.1).1 x.2=true
 | [],a,c,_=>⟨λx h=>by simp at h,by simp,λx h=>by simp at h⟩
 |x::r,a,c,h=>by
  rw[akh,Ac,Ac,Ac,Ac] at h;obtain⟨i,e,l,v,u⟩:=h;obtain⟨f,k,q⟩:=aCG _ _ u;refine⟨λy d=>?_,?_,λy d=>?_⟩
  ·rcases AN.1 d with rfl|d;·exact e
   ·have:=of_decide_eq_true (f y d);cases a with
    |none=>rfl
    |some m=>have:=of_decide_eq_true e;exact decide_eq_true (by omega)
  ·rw[AL,BA];exact⟨λb j=>by obtain⟨y,d,rfl⟩:=AD.1 j;exact of_decide_eq_true (f y d),k⟩
  ·rcases AN.1 d with rfl|d;·exact⟨i,l⟩
   ·exact q y d
theorem akl:∀{fs:List (Int×List aC)},uj fs↔∀x∈fs,rgL x.2
 | []=>by simp[uj]
 |(n,l)::r=>by simp only[uj,rgP,AN,forall_eq_or_imp];rw[akl (fs:=r)]
theorem aJm{ms:List PMs}{p:PMs}{f:PFl}{fs:List (Int×List aC)}{l:List aC}(hp:sQ p)(z:f∈p.fields)(h:aes ms p fs)(w:uj fs)(k:∀x∈fs,x.1<f.num)(C:(if f.label=3 then dB f.key [] l else l)≠[])(i:sE ms f (if f.label=3 then dB f.key [] l else l)=true)(u:rgL (if f.label=3 then dB f.key [] l else l)):aes ms p (u7 p f fs l)∧uj (u7 p f fs l):=by
 have m:=aF6 p fs f;have j:=h.of_sub m;have d:∀x∈gi p fs f,x.1<f.num:=λx c=>k x (m.mem c)
 unfold u7;rw[aCC C d];refine⟨⟨?_,?_,?_⟩,?_⟩;·rw[AK,By];refine⟨j.rise,by simp,λa B b v=>?_⟩;obtain⟨x,c,rfl⟩:=AD.1 B;simp only[AL,List.map_nil,Av] at v;subst v;exact d x c
 ·intro x c;rcases Aw.1 c with c|c;·exact j.fit x c
  ·rw[Av.1 c];dsimp only;rw[aEM hp z];exact⟨rfl,i⟩
 ·rw[By];refine⟨j.one,by simp,λx c y E=>?_⟩;rw[Av.1 E];dsimp only;rw[aEM hp z];intro G e;dsimp only at e;have q:=j.fit x c;obtain⟨-,A,D⟩:=yp x.1 hp q.1;have F:=d x c;have:0<f.oneof:=by omega
  have r:x∈alR p.fields fs f:=by unfold gi at c;rw[if_pos this] at c;exact c
  exact aCD f p.fields h.rise x r _ D e (by omega) A.symm
 ·rw[akl] at w ⊢;intro x c;rcases Aw.1 c with c|c;·exact w x (m.mem c)
  ·rw[Av.1 c];exact u
theorem acg(n:Nat)(h:n<256):(Az n).toNat=n:=by simp;omega
theorem ao3:∀(k v:Nat)(m:List UInt8),v<128^k*2->dL (k+1) (da k v++m)=some (v,(da k v).length)
 |0,v,m,h=>by simp only[da,AP,Bg,dL,acg v (by omega)];rw[if_neg (by omega),if_pos (by omega)];rfl
 |k+1,v,m,h=>by
  rw[da];split;·rename_i a;simp only[AP,Bg,dL,acg v (by omega)];rw[if_neg (by omega),if_pos a];rfl
  ·rename_i a;have e:v / 128<128^k*2:=Ch (by rw[B5] at h;omega);simp only[AP];rw[dL];rw[acg _ (by omega),if_neg (by omega),if_neg (by omega),ao3 k (v / 128) m e];simp only[Af,Ae,Al,and_true];omega
theorem aJn:∀(k v:Nat),1<=(da k v).length
 |0,v=>by simp[da]
 |k+1,v=>by rw[da];split<;>simp
theorem akm:∀(k:Nat)(s:List UInt8)(v n:Nat),dL k s=some (v,n)->∃a b,s=a++b∧a.length=n∧∀t,dL k (a++t)=some (v,n)
 |0,s,v,n,h=>by simp[dL] at h
 |k+1,[],v,n,h=>by simp[dL] at h
 |k+1,c::r,v,n,h=>by
  rw[dL] at h;split at h;·simp at h
  ·rename_i i;split at h;·rename_i e;simp only[Ae,Al] at h;obtain⟨rfl,rfl⟩:=h;exact⟨[c],r,rfl,rfl,λt=>by rw[Cy,dL,if_neg i,if_pos e]⟩
   ·rename_i e;cases f:dL k r with
    |none=>rw[f] at h;simp at h
    |some p=>obtain⟨j,m⟩:=p;rw[f] at h;simp only[Ae,Al] at h;obtain⟨rfl,rfl⟩:=h;obtain⟨a,b,rfl,l,d⟩:=akm k r j m f;exact⟨c::a,b,rfl,by simp[l],λt=>by rw[AP,dL,if_neg i,if_neg e,d t]⟩
theorem asJ(a b c:List UInt8)(n:Nat)(h:a.length+b.length=n):(a++(b++c)).take n=a++b:=by rw[<-AB,CA (by rw[Aj];exact h)]
theorem aLZ(a b c d:List UInt8)(n:Nat)(h:a.length+b.length+c.length=n):(a++(b++(c++d))).take n=a++(b++c):=by rw[<-AB b c d,asJ _ _ _ _ (by rw[Aj];omega)]
theorem aJo{s:List UInt8}{r:bi}(h:fx s=some r):∃b,s=r.raw++b∧∀t,fx (r.raw++t)=some r:=by
 unfold fx at h;cases w:dL 10 s with
 |none=>rw[w] at h;simp at h
 |some p=>
  obtain⟨A,n⟩:=p;obtain⟨a,R,rfl,rfl,f⟩:=akm _ _ _ _ w;rw[w] at h;simp only[BB] at h;split at h;·simp at h
  ·rename_i q;split at h
   ·rename_i l;cases j:dL 10 R with
    |none=>rw[j] at h;simp at h
    |some p=>obtain⟨v,k⟩:=p;obtain⟨x,b,rfl,rfl,e⟩:=akm _ _ _ _ j;rw[j] at h;simp only[Ae] at h;rw[asJ _ _ _ _ rfl] at h;subst h;refine⟨b,by simp,λt=>?_⟩;simp only[fx,AB,f,BB,e,asJ _ _ _ _ rfl];rw[if_neg q,if_pos l]
   ·rename_i l;split at h
    ·rename_i u;cases j:dL 10 R with
     |none=>rw[j] at h;simp at h
     |some p=>
      obtain⟨v,k⟩:=p;obtain⟨x,b,rfl,rfl,e⟩:=akm _ _ _ _ j;rw[j] at h;simp only[BB] at h;split at h;·simp at h
      ·rename_i m;obtain⟨d,c,rfl,rfl⟩:∃d c,b=d++c∧d.length=v:=⟨b.take v,b.drop v,(Ba _ _).symm,by rw[BE];omega⟩
       simp only[Ae] at h;rw[aLZ _ _ _ _ _ rfl,List.take_left] at h;subst h;refine⟨c,by simp,λt=>?_⟩;simp only[fx,AB,f,BB,e,aLZ _ _ _ _ _ rfl,List.take_left];rw[if_neg q,if_neg l,if_pos u,if_neg (by rw[Aj];omega)]
    ·rename_i u;split at h
     ·rename_i m;split at h;·simp at h
      ·rename_i z;obtain⟨d,c,rfl,i⟩:∃d c,R=d++c∧d.length=8:=⟨R.take 8,R.drop 8,(Ba _ _).symm,by rw[BE];omega⟩
       simp only[Ae] at h;rw[asJ _ _ _ _ (by rw[i]),CA i] at h;subst h;refine⟨c,by simp,λt=>?_⟩;simp only[fx,AB,f,BB];rw[if_neg q,if_neg l,if_neg u,if_pos m,if_neg (by rw[Aj];omega),asJ _ _ _ _ (by rw[i]),CA i]
     ·rename_i m;split at h
      ·rename_i y;split at h;·simp at h
       ·rename_i z;obtain⟨d,c,rfl,i⟩:∃d c,R=d++c∧d.length=4:=⟨R.take 4,R.drop 4,(Ba _ _).symm,by rw[BE];omega⟩
        simp only[Ae] at h;rw[asJ _ _ _ _ (by rw[i]),CA i] at h;subst h;refine⟨c,by simp,λt=>?_⟩;simp only[fx,AB,f,BB];rw[if_neg q,if_neg l,if_neg u,if_neg m,if_pos y,if_neg (by rw[Aj];omega),asJ _ _ _ _ (by rw[i]),CA i]
      ·simp at h
theorem auM:∀(m:Nat)(s t:List UInt8)(a b:List bi),s.length<=m->eQ s.length s=some a->eQ t.length t=some b->
  eQ (s++t).length (s++t)=some (a++b)∧a.length<=s.length∧∀r∈a,fx r.raw=some r∧1<=r.raw.length∧r.raw.length<=s.length
 |m,[],t,a,b,i,d,f=>by
  have:a=[]:=by simpa [eQ] using d.symm
  subst this;exact⟨f,Ap _,by simp⟩
 |0,c::s,t,a,b,i,d,f=>by simp at i
 |m+1,c::s,t,a,b,i,d,f=>by
  rw[vZ _ (by simp)] at d;cases h:fx (c::s) with
  |none=>rw[h] at d;simp at d
  |some r=>
   rw[h] at d;simp only at d;have x:=(ajl h).1;obtain⟨u,j,e⟩:=aJo h;rw[j,BB] at d;cases k:eQ u.length u with
   |none=>rw[k] at d;simp at d
   |some y=>
    rw[k] at d;simp only[BC,Ae] at d;subst d;have p:(c::s).length=r.raw.length+u.length:=by rw[j,Aj]
    obtain⟨z,B,A⟩:=auM m u t y b (by omega) k f;refine⟨?_,by rw[Af];omega,?_⟩;·rw[vZ _ (by simp),j,AB,e (u++t)];simp only[BB,z,BC,AP]
    ·intro q l;rcases AN.1 l with rfl|l;·have:=e [];rw[A5] at this;exact⟨this,x,by omega⟩
     ·obtain⟨w,v,C⟩:=A q l;exact⟨w,v,by omega⟩
theorem akn:∀k v:Nat,adb (hY k v)=v%256^k
 |0,v=>by simp[adb,hY,Nat.mod_one]
 |k+1,v=>by rw[hY,adb,akn k,acg _ (by omega),B5,BZ (256^k) 256,Nat.mod_mul]
theorem ako(a w:Nat)(c:a<=536870911)(b:w<8)(m:List UInt8):dL 10 (da 9 (a*8+w)++m)=some (a*8+w,(da 9 (a*8+w)).length):=by
 have e:(128:Nat)^9*2=18446744073709551616:=by decide
 exact ao3 9 _ m (by omega)
theorem aCH(n:Nat)(a:n<18446744073709551616)(m:List UInt8):dL 10 (da 9 n++m)=some (n,(da 9 n).length):=by
 have e:(128:Nat)^9*2=18446744073709551616:=by decide
 exact ao3 9 n m (by omega)
theorem aNk(a n:Nat)(c:1<=a∧a<=536870911)(b:n<18446744073709551616):fx (da 9 (a*8+0)++da 9 n)=some ⟨(a:Int),0,(n:Int),[],da 9 (a*8+0)++da 9 n⟩:=by have e:=aCH n b [];rw[A5] at e;unfold fx;rw[ako a 0 c.2 (by omega)];simp only;rw[if_neg (by omega),if_pos (by omega),BB,e];simp only;rw[show (a*8+0) / 8=a by omega,<-Aj,AQ]
theorem aNl(a:Nat)(s:List UInt8)(b:1<=a∧a<=536870911)(c:s.length<18446744073709551616):fx (da 9 (a*8+2)++(da 9 s.length++s))=some ⟨(a:Int),2,0,s,da 9 (a*8+2)++(da 9 s.length++s)⟩:=by
 have e:=aCH s.length (by omega) s;unfold fx;rw[ako a 2 b.2 (by omega)];simp only;rw[if_neg (by omega),if_neg (by omega),if_pos (by omega),BB,e];simp only
 rw[BB,if_neg (by omega),AQ,show (a*8+2) / 8=a by omega,
  show (da 9 (a*8+2)).length+(da 9 s.length).length+s.length=(da 9 (a*8+2)++(da 9 s.length++s)).length by simp[CC],AQ]
theorem aNm(a n:Nat)(b:1<=a∧a<=536870911)(h:n<18446744073709551616):fx (da 9 (a*8+1)++hY 8 n)=some ⟨(a:Int),1,(n:Int),[],da 9 (a*8+1)++hY 8 n⟩:=by
 have c:=agi 8 n;unfold fx;rw[ako a 1 b.2 (by omega)];simp only
 rw[if_neg (by omega),if_neg (by omega),if_neg (by omega),if_pos (by omega),BB,if_neg (by omega),show (a*8+1) / 8=a by omega,
  show (da 9 (a*8+1)).length+8=(da 9 (a*8+1)++hY 8 n).length by simp[c],AQ]
 have e:ix ((hY 8 n).take 8)=(n:Int):=by
  rw[CT (by omega),ix,akn];have d:(256:Nat)^8=18446744073709551616:=by decide
  have f:(2:Nat)^64=18446744073709551616:=by decide
  rw[d];omega
 rw[e]
theorem aNn(a n:Nat)(b:1<=a∧a<=536870911)(h:n<4294967296):fx (da 9 (a*8+5)++hY 4 n)=some ⟨(a:Int),5,(n:Int),[],da 9 (a*8+5)++hY 4 n⟩:=by
 have c:=agi 4 n;unfold fx;rw[ako a 5 b.2 (by omega)];simp only
 rw[if_neg (by omega),if_neg (by omega),if_neg (by omega),if_neg (by omega),if_pos (by omega),BB,if_neg (by omega),show (a*8+5) / 8=a by omega,
  show (da 9 (a*8+5)).length+4=(da 9 (a*8+5)++hY 4 n).length by simp[c],AQ]
 have e:ix ((hY 4 n).take 4)=(n:Int):=by
  rw[CT (by omega),ix,akn];have d:(256:Nat)^4=4294967296:=by decide
  have f:(2:Nat)^64=18446744073709551616:=by decide
  rw[d];omega
 rw[e]
def il(P:bi->Prop)(s:List UInt8)(L:List bi):Prop:=eQ s.length s=some L∧∀r∈L,P r
theorem il.nil(P:bi->Prop):il P [] []:=⟨rfl,λr h=>by simp at h⟩
theorem il.app{P:bi->Prop}{s t:List UInt8}{a b:List bi}(d:il P s a)(c:il P t b):il P (s++t) (a++b):=
 ⟨(
  auM s.length s t a b (Ap _) d.1 c.1).1,λr e=>by
  rcases Aw.1 e with h|h;·exact d.2 r h
  ·exact c.2 r h⟩
theorem il.mono{P Q:bi->Prop}{s:List UInt8}{L:List bi}(h:il P s L)(a:∀r,P r->Q r):il Q s L:=⟨h.1,λr b=>a r (h.2 r b)⟩
theorem il.split{P:bi->Prop}{s:List UInt8}{L:List bi}(h:il P s L)(a:s.length<=5000):fT s=(L,0):=by unfold fT;rw[if_neg (by omega),h.1]
theorem aHS{x:List UInt8}{r:bi}(h:fx x=some r)(b:r.raw=x)(c:1<=x.length):eQ x.length x=some [r]:=by
 have a:x≠[]:=by rintro rfl;simp at c
 rw[vZ _ a,h];simp only;rw[b,List.drop_length];rfl
def azI(w n:Int)(s:List UInt8):Prop:=(w=0∧0<=n∧n<=18446744073709551615)∨(w=1∧0<=n∧n<=18446744073709551615)∨(w=2∧s.length<18446744073709551616)∨(w=5∧0<=n∧n<=4294967295)
theorem aiS(num w n:Int)(s:List UInt8)(j:1<=num∧num<=536870911)(A:azI w n s):il (λr=>((r.num=num∧r.wire=w)∧r.s=(if w=2 then s else []))∧dE r=r.raw) (dE ⟨num,w,n,s,[]⟩) [⟨num,w,if w=2 then 0 else n,if w=2 then s else [],dE ⟨num,w,n,s,[]⟩⟩]:=by
 obtain⟨a,rfl⟩:∃a:Nat,num=(a:Int):=⟨num.toNat,by omega⟩
 have c:1<=a∧a<=536870911:=by omega
 have p:∀v,1<=(da 9 v).length:=aJn 9;have b:¬((a:Int)<1∨536870911<(a:Int)):=by omega
 have f:∀k:Nat,k<8->dP ((a:Int)*8+((k:Nat):Int)%8)=da 9 (a*8+k):=by
  intro k C;unfold dP
  congr 1
  omega
 have key:∀(m:Int)(u x:List UInt8),dE ⟨(a:Int),w,n,s,[]⟩=x->m=(if w=2 then 0 else n)->u=(if w=2 then s else [])->fx x=some ⟨(a:Int),w,m,u,x⟩->1<=x.length->dE ⟨(a:Int),w,m,u,x⟩=x->il (λr=>((r.num=(a:Int)∧r.wire=w)∧r.s=(if w=2 then s else []))∧dE r=r.raw) (dE ⟨(a:Int),w,n,s,[]⟩) [⟨(a:Int),w,if w=2 then 0 else n,if w=2 then s else [],dE ⟨(a:Int),w,n,s,[]⟩⟩]:=by intro m u x e B l h d q;rw[<-B,<-l,e];exact⟨aHS h rfl d,λr y=>by rw[Av.1 y];exact⟨⟨⟨rfl,rfl⟩,rfl⟩,q⟩⟩
 rcases A with⟨rfl,i,d⟩|⟨rfl,i,d⟩|⟨rfl,z⟩|⟨rfl,i,d⟩
 ·obtain⟨n,rfl⟩:∃m:Nat,n=(m:Int):=⟨n.toNat,by omega⟩
  have e:∀u v:List UInt8,dE ⟨(a:Int),0,(n:Int),u,v⟩=da 9 (a*8+0)++da 9 n:=λu v=>by simp only[dE];rw[if_neg b,if_pos trivial,<-f 0 (by omega)];rfl
  exact key _ _ _ (e _ _) rfl rfl (aNk a n c (by omega)) (by rw[Aj];have:=p (a*8+0);omega) (e _ _)
 ·obtain⟨n,rfl⟩:∃m:Nat,n=(m:Int):=⟨n.toNat,by omega⟩
  have e:∀u v:List UInt8,dE ⟨(a:Int),1,(n:Int),u,v⟩=da 9 (a*8+1)++hY 8 n:=λu v=>by simp only[dE];rw[if_neg b,if_neg (by decide),if_neg (by decide),if_pos trivial,<-f 1 (by omega)];rfl
  exact key _ _ _ (e _ _) rfl rfl (aNm a n c (by omega)) (by rw[Aj];have:=p (a*8+1);omega) (e _ _)
 ·have e:∀(m:Int)(v:List UInt8),dE ⟨(a:Int),2,m,s,v⟩=da 9 (a*8+2)++(da 9 s.length++s):=λm v=>by
   simp only[dE];rw[if_neg b,if_neg (by decide),if_pos trivial,<-f 2 (by omega),AB];rfl
  exact key _ _ _ (e _ _) rfl rfl (aNl a s c z) (by rw[Aj];have:=p (a*8+2);omega) (e _ _)
 ·obtain⟨n,rfl⟩:∃m:Nat,n=(m:Int):=⟨n.toNat,by omega⟩
  have e:∀u v:List UInt8,dE ⟨(a:Int),5,(n:Int),u,v⟩=da 9 (a*8+5)++hY 4 n:=λu v=>by simp only[dE];rw[if_neg b,if_neg (by decide),if_neg (by decide),if_neg (by decide),if_pos trivial,<-f 5 (by omega)];rfl
  exact key _ _ _ (e _ _) rfl rfl (aNn a n c (by omega)) (by rw[Aj];have:=p (a*8+5);omega) (e _ _)
theorem akp(r:bi):(dE r).length<=30+r.s.length:=by
 unfold dE;dsimp only;have c:=fA r.n;have e:=fA (r.num*8+r.wire%8);have d:=fA (r.s.length:Int);have b:(kM r.n 4).length=4:=xU _ 4;have a:(kM r.n 8).length=8:=xU _ 8
 (repeat' split)<;>simp only[Aj,Ak]<;>omega
theorem aCI(n:Nat)(h:n<=5):tm n<=10101010100000∧(n<=4->tm n<=101010100000):=by
 match n,h with
 |0,_=>decide
 |1,_=>decide
 |2,_=>decide
 |3,_=>decide
 |4,_=>decide
 |5,_=>decide
theorem aHT{l:List PFl}{i:Int}(h:(l.map PFl.num).Pairwise (·<·))(c:0<=i)(b:i<l.length):∀m∈(l.take i.toNat).map PFl.num,m<(l.getD i.toNat (aK .pfl)).num:=by
 have e:l.map PFl.num=(l.take i.toNat).map PFl.num++(l.drop i.toNat).map PFl.num:=by rw[<-AK,Ba]
 rw[e,fp (aK .pfl) c b,AL,By] at h
 exactλm a=>h.2.2 m a _ (AZ ..)
theorem aHU{k b:Int}(c:1<=k∧k<=17)(h:¬(k=14∨k=15∨k=16))(a:0<=b∧b<=18446744073709551615):yH k (ajf k b)=true∧0<=ajf k b∧ajf k b<=18446744073709551615:=by
 rw[af8,axi];unfold azF azE sL;refine⟨?_,?_,?_⟩
 ·(repeat' split)<;>first|(exfalso;omega)|(apply decide_eq_true;omega)
 ·(repeat' split)<;>omega
 ·(repeat' split)<;>omega
theorem aL0:∀s∈([[],[97],[195,164],[116,101,120,116],[97,10,98]]:Bss),lw s=true:=by decide
theorem aKU(ms:List PMs)(t s:Bs)(h:lw s=true):gj ms 14 t (.mk 0 s [] [])=true:=by rw[xG,if_neg (by decide),if_pos (.inl rfl)];simp only[aC.n,aC.s,aC.fs,aC.rest,h];rfl
theorem aHV(ms:List PMs)(t s:Bs):gj ms 15 t (.mk 0 s [] [])=true:=by rw[xG,if_neg (by decide),if_pos (.inr rfl)];simp only[aC.n,aC.s,aC.fs,aC.rest];rfl
theorem aEN(ms:List PMs){k n:Int}(t:Bs)(h:¬(k=14∨k=15∨k=16))(a:yH k n=true):gj ms k t (.mk n [] [] [])=true:=by rw[xG,if_neg (by omega),if_neg (by omega)];simp only[aC.n,aC.s,aC.fs,aC.rest,a];rfl
theorem aCJ{v:aC}(a:rgV v):∀{l:List aC},rgL l->rgL (l++[v])
 | [],_=>by simp only[Bg,rgL];exact⟨a,trivial⟩
 |x::l,h=>by rw[gE] at h;rw[AP,gE];exact⟨h.1,aCJ a h.2⟩
theorem azJ{n:Int}(s rest:Bs)(h:0<=n∧n<=18446744073709551615):rgV (.mk n s [] rest):=by simp only[rgV,uj];exact⟨h,trivial⟩
theorem aHW{ms:List PMs}{f:PFl}{vs:List aC}(k:f.label≠3)(m:vs≠[])(j:f.label≠2->vs.length=1)(q:∀v∈vs,gj ms f.kind f.typ v=true)(l:lq f=true->qU f.kind (vs.getD 0 (aK .pval))=false):sE ms f vs=true:=by
 have h:(f.label==3)=false:=by simpa using k
 have r:vs.any (λv=> !gj ms f.kind f.typ v)=false:=by rw[Dr];intro v c;rw[q v c];decide
 have p:(lq f&&vs.any (qU f.kind))=false:=by
  cases b:lq f with
  |false=>rfl
  |true=>
   have u:f.label=0:=by unfold lq at b;rw[Ac] at b;simpa using b.1
   have d:=j (by omega);obtain⟨v,rfl⟩:=List.length_eq_one_iff.1 d;have:=l b;simp only[BH] at this;simp[this]
 have a:vs.length≠0:=λe=>m (Dn.1 e)
 unfold sE;simp only[asf];rw[ao0 ms f k,r,p,h,decide_eq_true a];by_cases i:f.label=2;·rw[i];rfl
 ·rw[decide_eq_true (j i)];simp
theorem aJp{ms:List PMs}{f:PFl}{vs:List aC}(d:f.label=3)(m:f.key≠16)(h:vs≠[])(c:vs.length%2=0)(j:rgL vs)(k:iK ms f true none vs=true):(dB f.key [] vs≠[]∧sE ms f (dB f.key [] vs)=true)∧rgL (dB f.key [] vs):=by
 obtain⟨l,i⟩:=axI d m vs [] none c rfl j (by simp only[rgL]) k (by simp[iK]);have hp:=aHR f.key vs c h;have a:=auK f.key vs [] rfl;refine⟨⟨λe=>by rw[e] at hp;simp at hp,?_⟩,i⟩;have b:(f.label==3)=true:=by simpa using d
 unfold sE;simp only[asf];rw[l,b,decide_eq_true (show (dB f.key [] vs).length≠0 by omega),decide_eq_true a];simp
theorem aCK{p:PMs}(hp:sQ p){s:Bs}{L:List bi}(h:il (λr=>900<=r.num) s L)(a:s.length<=5000):u9 p s=true:=by
 unfold u9;rw[h.split a];simp only[beq_self_eq_true,Bp,AA];intro r c;have f:=h.2 r c;cases d:(cQ p r.num).2 with
 |false=>rfl
 |true=>obtain⟨b,e, -⟩:=yp r.num hp d;have:=b.n;omega
theorem aJq{w:Int}(a:0<=w)(b:w<4):∃x,Ai ([0,1,2,5]:List Int) w.toNat (aK (.num .i64))=x∧(x=0∨x=1∨x=2∨x=5):=by
 have:w=0∨w=1∨w=2∨w=3:=by omega
 rcases this with rfl|rfl|rfl|rfl;·exact⟨_,rfl,.inl rfl⟩
 ·exact⟨_,rfl,.inr (.inl rfl)⟩
 ·exact⟨_,rfl,.inr (.inr (.inl rfl))⟩
 ·exact⟨_,rfl,.inr (.inr (.inr rfl))⟩
theorem aJr{v y x:Int}(b:0<=v∧v<3)(c:0<=y∧y<200)(a:x=0∨x=1∨x=2∨x=5):∃L,il (λr=>900<=r.num) (dE ⟨Ab .i64 (900+v),x,Ab .u64 y,[114],[]⟩) L:=by
 rw[aQ _ (by omega),cp _ (by omega)];refine⟨_,(aiS (900+v) x y [114] (by omega) ?_).mono λr h=>by rw[h.1.1.1];omega⟩;rcases a with rfl|rfl|rfl|rfl;·exact .inl ⟨rfl,by omega,by omega⟩
 ·exact .inr (.inl ⟨rfl,by omega,by omega⟩)
 ·exact .inr (.inr (.inl ⟨rfl,by decide⟩))
 ·exact .inr (.inr (.inr ⟨rfl,by omega,by omega⟩))
theorem axK{ms:List PMs}{t:Bs}(h:∃y∈ms,y.name=t):(dh ms t).2 =true:=by
 obtain⟨y,a,rfl⟩:=h;unfold dh;cases b:ms.find? (λm=>decide (m.name=y.name)) with
 |some m=>rfl
 |none=>exact absurd (Cx.1 b y a) (by simp)
theorem aKV{ms:List PMs}{t:Bs}(h:(dh ms t).2 =true):(dh ms t).1 ∈ms:=by
 unfold dh at h ⊢;split at h;·rename_i m a;exact Cf a
 ·simp at h
section
variable{Q:V×List aJ->Prop}
def aF7(m:Nat):Prop:=∀(l:Bs)(n:Int)(ms:List PMs)(es:List PEn)(s:Bs)(d:Int),(5-d).toNat<=m->0<=d->d<=10->aeL ms->(dh ms s).2 =true->cW l n->∃r,fG l n ms es s d r
def VlQ(l:Bs)(b:Nat)(ms:List PMs)(k:Int)(t:Bs):V×List aJ->Prop:=λz=>∃(a:aC)(c:Bs)(d:Int)(rest:List aJ),z.1.dimR=.agg (enc .pval a)∧z.2=some [.sl .u8 (.may false) c,.int .i64 d]::rest∧wtV a<=b∧c=l∧cW l d∧(aeL ms->(1<=k∧k<=17)->(k=16->(dh ms t).2 =true)->gj ms k t a=true∧rgV a)
theorem aL1(l:Bs)(n:Int)(ms:List PMs)(es:List PEn)(k:Int)(t:Bs)(d:Int)(P:0<=d)(h:cW l n)(M:d<=9)(J:aeL ms)(m:1<=k∧k<=17)(z:k=16->(dh ms t).2 =true)(G:k=16->∀n,cW l n->∃r,fG l n ms es t (d+1) r):∃r,d4 l n ms es k t d r:=by
 apply aod 1;show Tot _ (VlQ l (200+(if k=16 then tm (4-d).toNat else 0)) ms k t);unfold ad0 adZ;dsimp only;have i:∀(a:Int)(s:Bs)(y:Fl)(rest:List aJ)(p:Int)(fs:List (Int×List aC))(q:Bs),y≠.own->wtV (.mk a s fs q)<=200+(if k=16 then tm (4-d).toNat else 0)->cW l p->gj ms k t (.mk a s fs q)=true∧rgV (.mk a s fs q)->Tot (some ((.agg [.int .u64 a,.str s,.sl .pfd y fs,.str q],some [.sl .u8 (.may false) l,.int .i64 p]::rest):V×List aJ)) (VlQ l (200+(if k=16 then tm (4-d).toNat else 0)) ms k t):=by
  intro a s y rest p fs q z L hp I;refine aG ⟨.mk a s fs q,_,_,_,?_,rfl,L,rfl,hp,λ_ _ _=>I⟩;cases y with
  |own=>exact absurd rfl z
  |may b=>rfl
 have small:∀(a:Int)(s:Bs),s.length<=100->wtV (.mk a s [] [])<=200+(if k=16 then tm (4-d).toNat else 0):=by intro a s N;simp only[wtV,eH,Ak];omega
 refine aB (λm=>?_) (λw=>aB (λf=>hU h (by decide) (λv p u c hp=>aD (ixt ⟨u,by simpa using c⟩) (i _ _ _ _ _ _ _ (by simp) (small _ _ (aCx (by decide) _)) hp ?_))) (λf=>aB (λe=>hU h (by decide) (λv p u c hp=>aD (ixt ⟨u,by simpa using c⟩) (i _ _ _ _ _ _ _ (by simp) (small _ _ (aCx (by decide) _)) hp ?_))) (λe=>aB (λj=>hU h (by decide) (λv p u c hp=>aD (ixt ⟨u,by simpa using c⟩) (i _ _ _ _ _ _ _ (by simp) (small _ _ (by decide)) hp ?_))) (λj=>aHP h (λb p F hp=>i _ _ _ _ _ _ _ (by simp) (small _ _ (by decide)) hp ?_)))))
 rotate_left
 ·have f:k=14:=by simpa using f
  rw[f];exact⟨aKU _ _ _ (aL0 _ (d8 _ u (by simpa using c))),azJ _ _ (by decide)⟩
 ·have e:k=15:=by simpa using e
  rw[e];exact⟨aHV _ _ _,azJ _ _ (by decide)⟩
 ·have j:k=17:=by simpa using j
  rw[j];have key:∀x∈([0,1,18446744073709551615,7]:List Int),yH 17 x=true∧0<=x∧x<=18446744073709551615:=by rw[af8];decide
  have:=key _ (d8 (aK (.num .u64)) u (by simpa using c));exact⟨aEN _ _ (by decide) this.1,azJ _ _ this.2⟩
 ·have f:k≠14:=by simpa using f
  have e:k≠15:=by simpa using e
  have w:k≠16:=by simpa using w
  have:=aHU (b:=b) m (by omega) F;exact⟨aEN _ _ (by omega) this.1,azJ _ _ this.2⟩
 have m:k=16:=by simpa using m
 rw[aQ (d+1) (by omega)];refine aY (G m n h) ?_;rintro⟨fs,q,O,p⟩ ⟨-,C,B,D,A⟩;dsimp only at C B D A;subst B;refine i _ _ _ _ _ _ _ (by simp) ?_ D ?_;·rw[if_pos m];simp only[wtV,Ak];rw[show (5-(d+1)).toNat=(4-d).toNat by omega] at C;omega
 ·obtain⟨H,E⟩:=A J (z m);refine⟨?_,by simp only[rgV];exact⟨by decide,E⟩⟩;rw[xG,if_pos m];simp only[aC.n,aC.s,aC.fs,aC.rest,H];rfl
theorem ao4{l:Bs}{n:Int}{ms:List PMs}{es:List PEn}{k:Int}{t:Bs}{d:Int}{K:aC×Bs×Int->Ro}(u:0<=d)(h:cW l n)(p:d<=9)(i:aeL ms)(e:1<=k∧k<=17)(m:k=16->(dh ms t).2 =true)(q:k=16->∀n,cW l n->∃r,fG l n ms es t (d+1) r)(w:∀v a,gj ms k t v=true∧rgV v->wtV v<=200+(if k=16 then tm (4-d).toNat else 0)->cW l a->Tot (K (v,l,a)) Q):Tot (aA (d4 l n ms es k t d) K) Q:=
 aY (aL1 l n ms es k t d u h p i e m q) (by rintro⟨v,x,a⟩ ⟨-,f,c,j,b⟩;dsimp only at f c j b;subst c;exact w v a (b i e m) f j)
def MgQ(l:Bs)(b:Nat)(ms:List PMs)(s:Bs):V×List aJ->Prop:=λz=>∃(a:List (Int×List aC))(c d:Bs)(e:Int)(rest:List aJ),z.1.dimR=.agg [.sl .pfd (.may false) a,.str c]∧z.2=some [.sl .u8 (.may false) d,.int .i64 e]::rest∧eH a+c.length<=b∧d=l∧cW l e∧(aeL ms->(dh ms s).2 =true->ui ms s a c=true∧uj a)
def ViI(ms:List PMs)(f:PFl)(l:List aC)(k:Int):Prop:=(f.label=3->iK ms f true none l=true)∧(f.label≠3->(∀v∈l,gj ms f.kind f.typ v=true)∧(l.length:Int)=k)∧rgL l
def MvI(W:Nat)(f:PFl)(l:List aC)(k n:Int):Prop:=0<=k∧k<=n∧n<=3∧(wtL l:Int)<=k*(400+W)∧(f.label=3->l.length%2=0)
set_option maxHeartbeats 4000000 in
theorem aCL(m:Nat)(hM:aF7 m):aF7 (m+1):=by
 intro l n ms es s d hd d0 d1 G be h;have hS:=G.1;obtain⟨N,hN⟩:∃N:Nat,N=200:=⟨_,rfl⟩
 apply acT N;show Tot _ (MgQ l (tm (5-d).toNat) ms s);unfold vJ i9;dsimp only;have hp:=aiB s hS;have C:∀(fs:List (Int×List aC))(I:Bs),aes ms (dh ms s).1 fs->uj fs->(∃L,il (λr=>900<=r.num) I L)->I.length<=5000->ui ms s fs I=true∧uj fs:=λfs I g1 g2 g3 g4=>by obtain⟨L,g3⟩:=g3;refine⟨?_,g2⟩;unfold ui;rw[be,aCF none [] g1 (λ_ _=>rfl) (λ_ _ _=>by simp),aCK hp g3 g4];rfl
 have Y:aes ms (dh ms s).1 []:=⟨by simp,λx h=>by simp at h,by simp⟩
 have al:uj []:=by simp only[uj]
 refine ard (by have:=hS.1;omega) (aB (λ_=>aG ⟨[],[],_,_,_,rfl,rfl,by simp[eH],rfl,h,λ_ _=>C _ _ Y al ⟨[],il.nil _⟩ (by simp)⟩) (λh4=>?_));have h4:=of_decide_eq_false h4;have an:=aKV be;obtain⟨p,cs⟩:∃p,p=(dh ms s).1 :=⟨_,rfl⟩
 rw[<-cs] at hp an C Y ⊢;have c2:=hp;obtain⟨ek,A, -,B⟩:=hp;obtain⟨W,hW⟩:∃W,W=tm (4-d).toNat:=⟨_,rfl⟩
 have ex:W<=101010100000:=by rw[hW];exact(aCI _ (by omega)).2 (by omega)
 have ds:tm (5-d).toNat=100*W+100000:=by rw[hW,show (5-d).toNat=(4-d).toNat+1 by omega];rfl
 rw[ds];have aa:∀(t:Bs)(c:Int),(dh ms t).2 =true->cW l c->∃r,fG l c ms es t (d+1) r:=λt c ht hp=>hM l c ms es t (d+1) (by omega) (by omega) (by omega) G ht hp
 refine bj (λ(x:dX)=>match x with|(d',J,M,p',i,l',c,a,b,fs,I)=>(d',J,M,p',l',a,b,I)=(d,ms,es,p,l,[],[],[])∧0<=i∧i<=p.fields.length∧(eH fs:Int)<=i*(1300+3*W)∧(∀m∈fs.map BP,m∈(p.fields.take i.toNat).map PFl.num)∧cW l c∧aes ms p fs∧uj fs) (λx=>(p.fields.length-x.2.2.2.2.1).toNat) ?_ _ _ ⟨rfl,As _,by omega,by simp[eH],by simp,h,Y,al⟩ (by dsimp only;omega);rintro u ⟨d',J,M,p',i,l',c,a,b,fs,I⟩ ⟨q,i0,i1,hw,ai,hp,S,ah⟩ ih;cases q;dsimp only at ih;have eg:eH fs<=93*W+40300:=by have:i*(1300+3*(W:Int))<=31*(1300+3*(W:Int)):=DD (by omega) (by omega);omega
 have ej:=akf fs;unfold oC nt;dsimp only;have done:∀c,cW l c->Tot (some ((.agg [.sl .pfd (.may false) fs,.str ([]:Bs)],[some [.sl .u8 (.may false) l,.int .i64 c],some [.sl .pfd (.may false) fs,.str ([]:Bs)],some [.sl .pfd (.may false) fs,.str ([]:Bs)]]):V×List aJ)) (MgQ l (100*W+100000) ms s):=λc hp=>aG ⟨_,_,_,_,_,rfl,rfl,by simp only[Ak];omega,rfl,hp,λ_ _=>C _ _ S ah ⟨[],il.nil _⟩ (by simp)⟩
 have rest:∀q c,cW l c->0<=q->q<3->Tot (aN N (fH N) (q,l,c,[],[],fs,[])) (MgQ l (100*W+100000) ms s):=by
  intro q c hp q0 q3;refine bj (λ(x:kA)=>match x with|(k,l',c,a,b,H,I)=>(l',a,b,H)=(l,[],[],fs)∧0<=k∧k<=q∧(I.length:Int)<=(q-k)*100∧cW l c∧∃L,il (λr=>900<=r.num) I L) (λx=>x.1.toNat) ?_ _ _ ⟨rfl,q0,As _,by simp,hp,[],il.nil _⟩ (by dsimp only;omega);rintro bs ⟨k,l',c,a,b,H,I⟩ ⟨e,k0,k1,hr,hp,aj⟩ a3;cases e;dsimp only at a3;unfold fH;dsimp only;refine aB (λO=>?_) (λO=>aG ⟨_,_,_,_,_,rfl,rfl,by omega,rfl,hp,λ_ _=>C _ _ S ah aj (by omega)⟩);have O:=of_decide_eq_true O;refine hU hp (by decide) (λv n2 ci c4 A=>hU A (by decide) (λw X a6 a9 B=>aD (ixt ⟨a6,by simpa using a9⟩) (hU B (by decide) (λy n4 c7 d2 c8=>aT (aBT _ (by simp)) (λ_ h=>h.2) ?_))));dsimp only;have hl:=akp ⟨Ab .i64 (900+v),Ai ([0,1,2,5]:List Int) (Ad w) (aK (.num .i64)),Ab .u64 y,([114]:Bs),([]:Bs)⟩;simp only[Af,Ak] at hl;rw[aQ (k-1) (by omega)];refine aD (decide_eq_true (by omega)) (a3 _ ⟨rfl,by first|omega|(dsimp only;omega),by first|omega|(dsimp only;omega),?_,c8,?_⟩ (by first|omega|(dsimp only;omega)));·dsimp only;simp only[Aj];omega
  ·obtain⟨x,b5,cc⟩:=aJq a6 a9;obtain⟨L1,c0⟩:=aj;obtain⟨L2,bd⟩:=aJr (v:=v) (y:=y) ⟨ci,c4⟩ ⟨c7,d2⟩ cc;rw[<-b5] at bd;exact⟨_,c0.app bd⟩
 have aq:∀c,cW l c->Tot (aA (bo l c 4) (λad=>cond (ad.1==0) (aA (bo ad.2.1 ad.2.2 3) (λaz=>aN N (fH N) (az.1,az.2.1,az.2.2,[],[],fs,[]))) (some (.agg [.sl .pfd (.may false) fs,.str ([]:Bs)],[some [.sl .u8 (.may false) ad.2.1,.int .i64 ad.2.2],some [.sl .pfd (.may false) fs,.str ([]:Bs)],some [.sl .pfd (.may false) fs,.str ([]:Bs)]])))) (MgQ l (100*W+100000) ms s):=
  λc hp=>hU hp (by decide) (λv n2 _ _ A=>aB (λ_=>hU A (by decide) (λq X q0 q3 B=>rest q X B q0 q3)) (λ_=>done _ A))
 refine aB (λE=>aJh (λov=>aB (λ_=>?_) (λ_=>aq _ hp))) (λ_=>aq _ hp);have E:=of_decide_eq_true E;have R:=d8 (aK .pfl) i0 E;have hf:=A _ R;have av:=aHT B i0 E;have ax:=lj (aK .pfl) i0 E;obtain⟨f,d3⟩:∃f,f=Ai p.fields i.toNat (aK .pfl):=⟨_,rfl⟩
 rw[<-d3] at hf R av ax ⊢;have D:f.kind=16->(dh ms f.typ).2 =true:=λh=>axK (G.2.1 p an f R h)
 have z:f.label=3->(1<=f.key∧f.key<=17)∧f.key≠16:=λh=>by have:=hf.ky h;unfold amV at this;omega
 rw[dj i0 (by omega)];have next:∀c,cW l c->Tot (u (d,ms,es,p,i+1,l,c,[],[],fs,[])) (MgQ l (100*W+100000) ms s):=by
  intro c hp;refine ih _ ⟨rfl,by first|omega|(dsimp only;omega),by first|omega|(dsimp only;omega),?_,?_,hp,S,ah⟩ (by first|omega|(dsimp only;omega));·dsimp only;rw[DS];omega
  ·intro m hm;rw[ax,AK];exact BS _ (ai m hm)
 have over:∀(vs:List aC)(c:Int),cW l c->wtL vs<=3*(400+W)->(f.label=3->vs.length%2=0)->((if f.label=3 then dB f.key [] vs else vs)≠[]∧sE ms f (if f.label=3 then dB f.key [] vs else vs)=true)∧rgL (if f.label=3 then dB f.key [] vs else vs)->Tot (aA (cI ms es p f fs [] vs) (λr=>u (d,ms,es,p,i+1,l,c,[],[],r.1,r.2))) (MgQ l (100*W+100000) ms s):=by
  intro vs c hp hv he hq;have cy:=aiN vs;have ho:=aJm c2 R S ah (λx hx=>av _ (ai _ (BX hx))) hq.1.1 hq.1.2 hq.2;refine aKJ (by omega) (by omega) (by omega) he (aI8 λhm=>by have:=av _ (ai _ (auC _ _ _ _ hm));omega) (ih _ ⟨rfl,by first|omega|(dsimp only;omega),by first|omega|(dsimp only;omega),?_,?_,hp,ho⟩ (by first|omega|(dsimp only;omega)));·have:=aKI p f fs vs;dsimp only;rw[DS];omega
  ·intro m hm;dsimp only[u7] at hm;rw[ax,AK];rcases aCi _ _ _ m hm with rfl|hm;·exact Cd _ (by simp)
   ·exact BS _ (ai m (auC _ _ _ _ hm))
 have fin:∀(vs:List aC)(c:Int),cW l c->wtL vs<=3*(400+W)->(f.label=3->vs.length%2=0)->(∃k,ViI ms f vs k∧(f.label≠2->f.label≠3->k<=1))->Tot (cond ((↑(Aa vs):Int)==0) (u (d,ms,es,p,i+1,l,c,[],[],fs,[])) (cond (f.label==0) (cond (f.oneof==0) (cond (!(f.kind==16)) (chk (decide ((0:Int)<↑(Aa vs))) (cond ((Ai vs (Ad 0) (aK .pval)).n==0) (chk (decide ((0:Int)<↑(Aa vs))) (cond (decide ((Ai vs (Ad 0) (aK .pval)).s=([]:Bs))) (u (d,ms,es,p,i+1,l,c,[],[],fs,[])) (aA (cI ms es p f fs [] vs) (λr=>u (d,ms,es,p,i+1,l,c,[],[],r.1,r.2))))) (aA (cI ms es p f fs [] vs) (λr=>u (d,ms,es,p,i+1,l,c,[],[],r.1,r.2))))) (aA (cI ms es p f fs [] vs) (λr=>u (d,ms,es,p,i+1,l,c,[],[],r.1,r.2)))) (aA (cI ms es p f fs [] vs) (λr=>u (d,ms,es,p,i+1,l,c,[],[],r.1,r.2)))) (aA (cI ms es p f fs [] vs) (λr=>u (d,ms,es,p,i+1,l,c,[],[],r.1,r.2))))) (MgQ l (100*W+100000) ms s):=by
  intro vs c hp hv he hq;obtain⟨k,⟨q1,q2,q3⟩,q4⟩:=hq;have x:=next c hp
  refine aB (λ_=>x) (λhz=>?_);have hz:(vs.length:Int)≠0:=by simpa using hz
  have aw:vs≠[]:=λe=>hz (by rw[e];rfl)
  have e:decide ((0:Int)<↑(Aa vs))=true:=decide_eq_true (by omega);have o:(lq f=true->qU f.kind (vs.getD 0 (aK .pval))=false)->_:=λcd=>over vs c hp hv he (by
   by_cases j:f.label=3;·rw[if_pos j];exact aJp j (z j).2 aw (he j) q3 (q1 j)
   ·rw[if_neg j];refine⟨⟨aw,aHW j aw (λh2=>?_) (q2 j).1 cd⟩,q3⟩;have:=q4 h2 j;have:=(q2 j).2;omega)
  refine aB (λhl=>aB (λho=>aB (λO=>aD e (aB (λhn=>aD e (aB (λ_=>x) (λhs=>o λ_=>?_))) (λhn=>o λ_=>?_))) (λO=>o λE=>?_)) (λho=>o λE=>?_)) (λhl=>o λE=>?_);·have hs:=of_decide_eq_false hs;unfold qU;rw[decide_eq_false (show ¬(vs.getD 0 (aK .pval)).s=[] from hs),Br,Br]
  ·unfold qU;rw[show ((vs.getD 0 (aK .pval)).n==0)=false from hn,Cs,Br]
  ·unfold lq at E;rw[O,Br,Br] at E;exact absurd E (by decide)
  ·unfold lq at E;rw[ho,Cs,Br] at E;exact absurd E (by decide)
  ·unfold lq at E;rw[hl,Cs] at E;exact absurd E (by decide)
 have Z:∀q c,cW l c->0<=q->q<=3->(f.label≠2->f.label≠3->q<=1)->Tot (aN N (gY N u) (.inl (d,ms,es,p,i,f,q,[],0,l,c,[],[],fs,[]))) (MgQ l (100*W+100000) ms s):=by
  intro q c hp q0 q3 b6;refine bj (λ(x:gX)=>match x with
   | .inl (d',J,M,p',i',f',q',vs,k,l',c,a,b,H,I)=>(d',J,M,p',i',f',q',l',a,b,H,I)=(d,ms,es,p,i,f,q,l,[],[],fs,[])∧MvI W f vs k q∧cW l c∧(f.label=3->vs=[])∧ViI ms f vs k
   | .inr (d',J,M,p',i',f',q',vs,k,l',c,a,b,H,I)=>(d',J,M,p',i',f',q',l',a,b,H,I)=(d,ms,es,p,i,f,q,l,[],[],fs,[])∧MvI W f vs k q∧cW l c∧f.label=3∧ViI ms f vs k)
   (λx=>match x with| .inl x=>(q-x.2.2.2.2.2.2.2.2.1).toNat| .inr x=>(q-x.2.2.2.2.2.2.2.2.1).toNat) ?_ _ _ ⟨rfl,⟨As _,q0,q3,by simp[wtL],λ_=>rfl⟩,hp,λ_=>rfl,λ_=>by simp[iK],λ_=>⟨λv h=>by simp at h,rfl⟩,by simp only[rgL]⟩ (by dsimp only;omega)
  have c3:∀k:Int,0<=k->k<=3->k*(400+(W:Int))<=3*(400+(W:Int)):=λk _ O=>DD O (by omega)
  rintro bY (⟨d',J,M,p',i',f',q',vs,k,l',c,a,b,H,I⟩|⟨d',J,M,p',i',f',q',vs,k,l',c,a,b,H,I⟩) ⟨e,⟨k0,k1,k3,er,P⟩,hp,ba,F⟩ ar
  all_goals
   cases e;unfold gY;dsimp only;have cy:=aiN vs;have e0:=c3 k k0 (by omega);rw[dj k0 (by omega),dj i0 (by omega)];refine aB (λO=>aB (λj=>?_) (λj=>?_)) (λ_=>fin vs c hp (by omega) P ⟨k,F,λa b=>by have:=b6 a b;omega⟩)
  ·have O:=of_decide_eq_true O;have j:f.label=3:=by simpa using j
   refine ao4 d0 hp (by omega) G (z j).1 (λh=>absurd h (z j).2) (λD=>absurd D (z j).2) (λx n2 gx hx A=>ao4 d0 A (by omega) G hf.k D (λhh n=>aa _ n (D hh)) (λy X gy hy B=>?_));simp only[nQ];rw[if_neg (z j).2] at hx;have hy:wtV y<=200+W:=by rw[<-hW] at hy;split at hy<;>omega
   have hm:=awI f.key x y vs;have au:=uA f.key x y vs;have ae:=akk j (z j).2 (by rw[aoZ ms (z j).2 f.typ []];exact gx.1) gy.1 gx.2 gy.2 vs none (P j) F.2.2 (F.1 j) rfl;refine asC (by omega) (P j) (ar (.inr (d,ms,es,p,i,f,q,_,k+1,l,X,[],[],fs,[])) ⟨rfl,⟨by omega,by omega,k3,?_,λ_=>au.2 (P j)⟩,B,j,λ_=>ae.1,λh=>absurd j h,ae.2⟩ (by first|omega|(dsimp only;omega)));rw[DS];omega
  ·have O:=of_decide_eq_true O;have j:f.label≠3:=by simpa using j
   refine ao4 d0 hp (by omega) G hf.k D (λhh n=>aa _ n (D hh)) (λy X gy hy B=>?_);dsimp only;simp only[nQ];have hy:wtV y<=200+W:=by rw[<-hW] at hy;split at hy<;>omega
   refine aD (decide_eq_true (by simp only[Af,Ak];omega)) (ar (.inl (d,ms,es,p,i,f,q,_,k+1,l,X,[],[],fs,[])) ⟨rfl,⟨by omega,by omega,k3,?_,λh=>absurd h j⟩,B,λh=>absurd h j,λh=>absurd h j,λ_=>⟨λv hv=>?_,?_⟩,?_⟩ (by first|omega|(dsimp only;omega)));·rw[aEF,aKH,DS];omega
   ·rcases Aw.1 hv with hv|hv;·exact(F.2.1 j).1 v hv
    ·rw[Av.1 hv];exact gy.1
   ·have:=(F.2.1 j).2;simp only[Aj,Af,Ak];omega
   ·exact aCJ gy.2 F.2.2
  ·have O:=of_decide_eq_true O;have j:f.label=3:=by simpa using j
   refine ao4 d0 hp (by omega) G (z j).1 (λh=>absurd h (z j).2) (λD=>absurd D (z j).2) (λx n2 gx hx A=>ao4 d0 A (by omega) G hf.k D (λhh n=>aa _ n (D hh)) (λy X gy hy B=>?_));simp only[nQ];rw[if_neg (z j).2] at hx;have hy:wtV y<=200+W:=by rw[<-hW] at hy;split at hy<;>omega
   have hm:=awI f.key x y vs;have au:=uA f.key x y vs;have ae:=akk j (z j).2 (by rw[aoZ ms (z j).2 f.typ []];exact gx.1) gy.1 gx.2 gy.2 vs none (P j) F.2.2 (F.1 j) rfl;refine asC (by omega) (P j) (ar (.inr (d,ms,es,p,i,f,q,_,k+1,l,X,[],[],fs,[])) ⟨rfl,⟨by omega,by omega,k3,?_,λ_=>au.2 (P j)⟩,B,j,λ_=>ae.1,λh=>absurd j h,ae.2⟩ (by first|omega|(dsimp only;omega)));rw[DS];omega
  ·rw[ba] at j;simp at j
 refine aD (ixt ⟨i0,E⟩) (hU hp (by decide) (λv n2 _ _ A=>aB (λ_=>next _ A) (λ_=>aB (λh2=>hU A (by decide) (λq X q0 q4 B=>Z q X B q0 (by omega) (λh=>absurd (by simpa using h2) h))) (λ_=>aB (λj=>hU A (by decide) (λq X q0 q4 B=>Z q X B q0 (by omega) (λ_ h=>absurd (by simpa using j) h))) (λ_=>Z 1 n2 A (by decide) (by decide) (λ_ _=>As _))))))
theorem aEO:∀m,aF7 m
 |0=>by
  intro l n ms es s d j e f a k h;exact aCL 0 (λl n ms es s d j e f c b h=>by
   have a:=c.1;have hp:=aiB s a;obtain⟨N,p⟩:∃N:Nat,N=200:=⟨_,rfl⟩
   apply acT N;show Tot _ (MgQ l (tm (5-d).toNat) ms s);unfold vJ i9;refine ard (by have:=a.1;omega) (aB (λ_=>aG ⟨[],[],_,_,_,rfl,rfl,by simp[eH],rfl,h,λ_ _=>⟨?_,by simp only[uj]⟩⟩) (λi=>by have:=of_decide_eq_false i;omega));unfold ui;rw[b,aCK hp (il.nil _) (by simp)];simp[nq]) l n ms es s d (by omega) e f a k h
 |m+1=>aCL m (aEO m)
end
theorem aHX(k n:Int):(agB k n).length<=10:=by
 unfold agB;have a:=fA (toR k n);have c:(kM (toR k n) 4).length=4:=xU _ 4;have b:(kM (toR k n) 8).length=8:=xU _ 8
 (repeat' split)<;>omega
theorem ao5(k:Int):∀l:List aC,(tp k l).length<=wtL l
 | []=>by simp[tp]
 |v::r=>by have:=ao5 k r;have:=aHX k v.n;have:=aey v;simp only[tp,wtL,Aj];omega
mutual
theorem afM(ms:List PMs)(num k:Int)(t:Bs):∀v:aC,(nB ms num k t v).length+70<=wtV v
 | .mk n s fs rest=>by
   have h1:=agS ms (dh ms t).1 fs
   simp only[nB,wtV]
   refine A6 (Nat.add_le_add_right (akp _) _) ?_
   dsimp only
   split
   ·simp only[Aj];omega
   ·omega
theorem agS(ms:List PMs)(p:PMs):∀fs:List (Int×List aC),(ep ms p fs).length<=eH fs
 | []=>by simp[ep]
 |x::r=>by
  have h1:=agS ms p r
  have h2:=aJs ms (cQ p x.1).1 x
  simp only[ep,eH,Aj];omega
theorem aJs(ms:List PMs)(f:PFl):∀x:Int×List aC,(asg ms f x).length<=100+wtP x
 |(n,l)=>by
  have h1:=ao6 ms f l
  have h2:=ao7 ms f l
  have h3:=ao5 f.kind l
  have h4:=akp ⟨f.num,2,0,tp f.kind l,[]⟩
  simp only[asg,wtP]
  (repeat' split)<;>(try dsimp only at h4)<;>omega
theorem ao6(ms:List PMs)(f:PFl):∀l:List aC,(k8 ms f l).length<=wtL l
 | []=>by simp[k8]
 | [a]=>by simp[k8]
 |a::b::r=>by
  have h1:=ao6 ms f r
  have h2:=afM ms 1 f.key [] a
  have h3:=afM ms 2 f.kind f.typ b
  have h4:=akp ⟨f.num,2,0,nB ms 1 f.key [] a++nB ms 2 f.kind f.typ b,[]⟩
  simp only[Aj] at h4
  simp only[k8,wtL,Aj];omega
theorem ao7(ms:List PMs)(f:PFl):∀l:List aC,(oq ms f l).length<=wtL l
 | []=>by simp[oq]
 |v::r=>by
  have h1:=ao7 ms f r
  have h2:=afM ms f.num f.kind f.typ v
  simp only[oq,wtL,Aj];omega
end
theorem asK(ms:List PMs)(num k:Int)(t:Bs)(v:aC):nB ms num k t v=dE ⟨num,dO k,toR k v.n,if k=16 then zU ms t v.fs v.rest else v.s,[]⟩:=by cases v;simp only[nB,zU,aC.n,aC.s,aC.fs,aC.rest]
theorem akq(ms:List PMs)(f:PFl)(l:List aC):adv ms f l=if f.label=3 then k8 ms f l else if f.packed=true then dE ⟨f.num,2,0,tp f.kind l,[]⟩ else oq ms f l:=by simp only[adv,asg]
theorem akr(ms:List PMs)(p:PMs)(x:Int×List aC)(r:List (Int×List aC)):ep ms p (x::r)=adv ms (cQ p x.1).1 x.2++ep ms p r:=by obtain⟨n,l⟩:=x;simp only[ep,adv,asg]
theorem aJt(ms:List PMs)(t:Bs)(fs:List (Int×List aC))(rest:Bs):(zU ms t fs rest).length<=eH fs+rest.length:=by have:=agS ms (dh ms t).1 fs;simp only[zU,Aj];omega
section
variable{Q:V×List aJ->Prop}
def SrQ(b:Bs):V×List aJ->Prop:=λz=>∃(a:Bs)(rest:List aJ),z.1.dimR=.str a∧z.2=rest∧a=b
theorem aao{b c:Bs}(o:List aJ)(h:c=b):Tot (some ((.str c,o):V×List aJ)) (SrQ b):=aG ⟨_,_,rfl,rfl,h⟩
end
section
open Go.RowKit
theorem azt(x:Value)(w:World):(callFunc 191 #[x]).run Tryz.prog w=.ok (.value x) w:=by rw[run_callFunc_extern Tryz.func191 (by kernel_rfl) (by kernel_rfl) (by kernel_rfl) (e:=Extern.AbiNoEscape.same) (by kernel_rfl)];rw[Lib.run_noEscape];rfl
set_option maxHeartbeats 1000000 in
theorem aKW(b o:Nat)(w:World)(d:w.cell? ⟨b,o,none⟩=some (.pointer (some ⟨b,o,none⟩))):
  Calls Tryz.prog 146 #[.pointer (some ⟨b,o,none⟩)] w λe w'=>e=.returned (.tuple #[])∧w'=w:=by
 obtain⟨j,c,a⟩:∃j,Tryz.prog.info? 168=some j∧j.size=2:=Aq.1 (show (Tryz.prog.info? 168).map (·.size)=some 2 by kernel_rfl)
 go_enter Tryz.func146,Tryz.ntmps146
 go_wp2
 rw[Lib.run_neq_ptr_same w _ Tryz.underlying166 c]
 go_wp2
 go_end0
 exact⟨rfl,rfl⟩
set_option maxHeartbeats 1000000 in
theorem aJu(b o E n:Nat)(w:World)(k:w.cell? ⟨b,o,none⟩=some (.pointer none))(a:w.shape? b=some (E,n))(i:o<n)
  (f:liesAt Tryz.prog Tryz.prog.depth E (n / Tryz.prog.cellsOf E) o 168 1=true) (h:w.frozen? ⟨b,o,none⟩=false):
  Calls Tryz.prog 146 #[.pointer (some ⟨b,o,none⟩)] w λe w'=>e=.returned (.tuple #[])∧w'=w.setCell ⟨b,o,none⟩ (.pointer (some ⟨b,o,none⟩)):=by
 obtain⟨j,d,c⟩:∃j,Tryz.prog.info? 168=some j∧j.size=2:=Aq.1 (show (Tryz.prog.info? 168).map (·.size)=some 2 by kernel_rfl)
 go_enter Tryz.func146,Tryz.ntmps146
 go_wp2
 rw[Lib.run_to_unsafe w ⟨b,o,none⟩ Tryz.underlying166 Tryz.underlying275 d (by rw[c];decide) a i];simp only[Result.andThen];rw[DB]
 go_wp2
 rw[azt];rw[DB]
 go_wp2
 rw[Lib.run_from_unsafe w ⟨b,o,none⟩ Tryz.underlying275 Tryz.underlying166 d a f];simp only[Result.andThen];rw[DB]
 go_wp2
 go_end0
 exact⟨rfl,rfl⟩
end
theorem row_cell{cs:List V}{o:Nat}{v:V}(h:cs[o]? =some v)(b:v.one=true):d7 cs=false:=by
 cases a:d7 cs with
 |false=>rfl
 |true=>
  unfold d7 at a;split at a
  ·cases o with
   |zero=>simp at h;subst h;cases b
   |succ o=>simp at h
  ·cases o with
   |zero=>simp at h;subst h;cases b
   |succ o=>simp at h
  ·cases o with
   |zero=>simp at h;subst h;cases b
   |succ o=>simp at h
  ·cases a
theorem map_cell{cs:List V}{o:Nat}{v:V}(h:cs[o]? =some v)(b:v.one=true):lM cs=false:=by
 cases a:lM cs with
 |false=>rfl
 |true=>
  obtain⟨k,es,rfl⟩:=aez a;cases o with
  |zero=>simp at h;subst h;cases b
  |succ o=>simp at h
theorem aCM{env:List V}{hp:List aJ}{id:Nat}{cs:List V}(h:hp[id]? =some (some cs))(a:d7 cs=false)(b:lM cs=false):St.obj {env:=env,hp:=hp} id=some cs:=by
 unfold St.obj;rw[Ar,h];simp only[Bo];split;·rename_i e;cases e;simp[d7] at a
 ·rename_i e;cases e;simp[d7] at a
 ·rename_i e;cases e;simp[lM] at b
 ·rename_i e;cases e;simp[d7] at a
 ·rfl
theorem SR.ofHR{g:Gh}{hp:List aJ}{w:World}(h:HR g hp w):SR g {env:=[],hp:=hp} w {tmps:= #[],defers:=[]}:=
 ⟨h,⟨rfl,by simp,by simp⟩⟩
theorem azu{α:Type}{l:List α}{o:Nat}{x:α}(h:l[o]? =some x):l.take o++[x]++l.drop (o+1)=l:=by obtain⟨a,rfl⟩:=Ag.1 h;rw[AB,Cy,<-AX a,Ba]
def aCN(E n o:Nat):Bool:=liesAt Tryz.prog Tryz.prog.depth E (n / Tryz.prog.cellsOf E) o 168 1
theorem aJv{hp:List aJ}{id:Nat}{x:aJ}(h:hp[id]? =some x):hp.set id x=hp:=by
 apply Do;intro j;rw[Ay];split;·rename_i e;subst e;obtain⟨a,rfl⟩:=Ag.1 h;simp[a]
 ·rfl
theorem aMN{id o E n:Nat}{cs:List V}{hp:List aJ}(k:hp[id]? =some (some cs))(j:cs[o]? =some (.bn E n))(I:aCN E n o=true):
  gc Tryz.prog 146 [.ptr id o] hp (.tup []) hp:=by
 intro w g l G p a x f;match l,a,f with
 |⟨[cv]⟩,a,f=>
  have r:=f 0 (.ptr id o) cv rfl rfl;cases r with
  |ptr _ _ H=>
  obtain⟨b,e,O,C,y⟩:=(p.obj id cs k).row (map_cell j rfl);have h:=row_cell j rfl;obtain⟨rfl,D⟩:=y.low h;obtain⟨rfl,rfl,v⟩:=D.bn o E n j;have L:o<cs.length:=(Ag.1 j).1;have a:=D.len;have d:w.cell? ⟨g.ρ id,o,none⟩=b[o]?:=bE C o;rcases v with v|v
  ·have z:w.shape? (g.ρ id)=some (E,b.size):=by simp[World.shape?,C]
   refine(aJu (g.ρ id) o E b.size w (by rw[d,v]) z (by omega) I (by simp[CD,C])).mono ?_;rintro e w' ⟨rfl,rfl⟩;obtain⟨A,F⟩:=(SR.ofHR p).putCells (id:=id) (o:=o) (cs:=cs) (news:=[.bn E b.size]) (us:=[.pointer (some ⟨g.ρ id,o,none⟩)]) (aCM k h (map_cell j rfl)) rfl (by simp[V.one]) (by simp;omega) (by
    intro i c u m q;cases i with
    |zero=>simp at m q;subst m q;exact .bn _ _ _
    |succ i=>simp at m) (by
    intro i c u m q;cases i with
    |zero=>simp at m q;subst m q;simp[aO]
    |succ i=>simp at m) (by
    intro i M N B;cases i with
    |zero=>simp at B;obtain⟨rfl,rfl⟩:=B;exact⟨j,.inr rfl⟩
    |succ i=>simp at B)
   have J:cs.take o++[V.bn E b.size]++cs.drop (o+[V.bn E b.size].length)=cs:=azu j;simp only[St.setObj] at A;rw[J,aJv k] at A F;exact⟨_,g,rfl,A.hr,F,.tup [] #[] rfl (by simp),by simp[aO]⟩
  ·refine(aKW (g.ρ id) o w (by rw[d,v])).mono ?_;rintro e w' ⟨rfl,rfl⟩;exact⟨_,g,rfl,p,FR.refl _ _ _,.tup [] #[] rfl (by simp),by simp[aO]⟩
 |⟨[]⟩,a,_=>simp at a
 |⟨_::_::_⟩,a,_=>simp at a
def Gcc(f:Nat)(vs:List V)(hp:List aJ):Option (Bool×V×List aJ):=
 if f=146 then
  match vs with
  | [.ptr id o]=>match hp.getD id none with
    |some cs=>match cs.getD o .undef with
     | .bn E n=>some (aCN E n o,.tup [],hp)
     |_=>none
    |none=>none
  |_=>none
 else none
theorem aL2:bB Tryz.prog Gcc:=by
 intro f vs hp v hp' h;unfold Gcc at h;split at h
 ·rename_i j;subst j;split at h
  ·rename_i id o;split at h
   ·rename_i cs a;split at h
    ·rename_i E n c;simp only[Ae,Al] at h;obtain⟨d,rfl,rfl⟩:=h;have i:hp[id]? =some (some cs):=by
      rw[Ar] at a;cases b:hp[id]? with
      |none=>rw[b] at a;simp at a
      |some x=>rw[b] at a;simpa using a
     have e:cs[o]? =some (.bn E n):=by
      rw[Ar] at c;cases b:cs[o]? with
      |none=>rw[b] at c;simp at c
      |some x=>rw[b] at c;simpa using c
     exact aMN i e d
    ·simp at h
   ·simp at h
  ·simp at h
 ·simp at h
theorem aJw:cE Gcc [146]:=by
 refine⟨?_,?_⟩
 ·intro f vs hp a;have:f≠146:=by rintro rfl;simp at a
  simp[Gcc,this]
 ·intro f vs hp c v hp' a;simp only[Df,D5,CM,beq_iff_eq] at a;omega
def mZ:IR:=.ret
def na:IR:=(.seq (.reg [Mv 17 1,Pp (.lens 18 (.t 17)),Mv 4 18,Pp (.mov 5 (.c (.nilif)))] []) mZ)
def nc:IR:=(.seq (.reg [Mv 8 0,Mv 9 0,Nk 10 9,Fa 11 1 10,Pp (.ld 12 1 false true (.t 11)),Mv 13 1,Pp (.apps 14 (.tk 12) (.t 13)),Nk 15 8,Fa 16 1 15,Pp (.st none 1 (.t 16) (.tk 14))] []) na)
def ne:IR:=(.seq (.reg [Mv 6 0,Pp (.call (some 7) 146 [(.t 6)])] []) nc)
def iV:IR:=(.seq (.reg [Pp (.mov 4 (.c (.int .i64 0))),Pp (.mov 5 (.c (.nilif)))] []) ne)
def iW:List RV:=[.t 4,.t 5]
theorem aMO(a:Nat):(bL Tryz.prog [146] a iV (Tryz.f91.body.getD .skip)&&dD Tryz.prog iW Tryz.f91.results.toList)=true:=by kernel_rfl
theorem aL3{id o E n:Nat}{cs:List V}{hp:List aJ}{l s:List UInt8}(a:hp[id]? =some (some cs))(h:cs[o]? =some (.bn E n))(z:aCN E n o=true)(m:cs[o+1]? =some (.sl .u8 .own l))
  (q:l.length+s.length<=140737488355328):
  callF Gcc 1 19 iW iV [.ptr id o,.str s] hp=some (.tup [.int .i64 (s.length:Int),.nilif],hp.set id (some (cs.set (o+1) (.sl .u8 .own (l++s))))):=by
 have e:id<hp.length:=(Ag.1 a).1;have b:o+1<cs.length:=(Ag.1 m).1;have d:hp.getD id none=some cs:=by simp[Ai,a]
 have j:∀env,St.obj {env:=env,hp:=hp} id=some cs:=λenv=>aCM a (row_cell h rfl) (map_cell h rfl)
 have i:∀env,St.obj {env:=env,hp:=hp.set id (some (cs.set (o+1) (.sl .u8 (.may false) l)))} id=some (cs.set (o+1) (.sl .u8 (.may false) l)):=λenv=>aCM (by rw[Cv e]) (row_cell (o:=o) (v:=.bn E n) (by rw[BK (by omega)];exact h) rfl) (map_cell (o:=o) (v:=.bn E n) (by rw[BK (by omega)];exact h) rfl)
 have x:cs.getD o .undef=.bn E n:=by simp[Ai,h]
 have y:cs.getD (o+1) .undef=.sl .u8 .own l:=by simp[Ai,m]
 have f:Gcc 146 [.ptr id o] hp=some (true,.tup [],hp):=by simp only[Gcc,if_true,d,x,z]
 have u:(cs.drop (o+1)).take 1=[.sl .u8 .own l]:=by
  rw[AX b];have:cs[o+1]=.sl .u8 .own l:=by simpa [Ah b] using m
  simp[this]
 have p:hp[id]=some cs:=by simpa [Ah e] using a
 have w:o+1+1<=cs.length:=b;have r:(cs.drop (o+1)).head?.getD .undef=.sl .u8 .own l:=by rw[List.head?_drop,m];rfl
 have k:l.length+s.length<=jU:=q;have c:(cs.set (o+1) (.sl .u8 (.may false) l)).take (o+1)++V.sl .u8 .own (l++s)::cs.drop (o+1+1)=cs.set (o+1) (.sl .u8 .own (l++s)):=by rw[List.take_set_of_le (Ap _),List.set_eq_take_append_cons_drop,if_pos b]
 simp[AM.Mv,AM.Pp,AM.Fa,AM.Nk,AM.stepO,AM.Fl.dis,AM.Fl.app,AM.ASrc.fix,AM.callF,AM.run,AM.kseq,AM.fin,AM.resultOf,AM.rvs,AM.RV.ev,mZ,na,nc,ne,iV,iW,AM.runOps,AM.chk,AM.start,AM.step,AM.St.set,AM.St.get,AM.St.setO,AM.ASrc.ev,AM.ASrc.after,AM.disown,j,i,AM.St.setObj,f,d,u,AM.loaded,AM.noBn,e,p,m,w,r,AM.V.cells,AM.V.one,k,c];rw[List.drop_set_of_lt (by omega),c]
theorem aMP{id o E n:Nat}{cs:List V}{hp:List aJ}{l s:List UInt8}(c:hp[id]? =some (some cs))(e:cs[o]? =some (.bn E n))(d:aCN E n o=true)(f:cs[o+1]? =some (.sl .u8 .own l))
  (b:l.length+s.length<=140737488355328):
  gc Tryz.prog 91 [.ptr id o,.str s] hp (.tup [.int .i64 (s.length:Int),.nilif]) (hp.set id (some (cs.set (o+1) (.sl .u8 .own (l++s))))):=by
 have a:=aMO hp.length;simp only[Ac] at a;exact ez aL2 aJw Tryz.func91 (show Tryz.f91.body=some (Tryz.f91.body.getD .skip) by kernel_rfl) a.1 a.2 (by decide) (aL3 c e d f b)
end Go.Proofs.YtndccphabnjkhaaGreat
namespace Go.AM
theorem HR.other{g:Gh}{hp:List aJ}{w w':World}(h:HR g hp w)(p:w.heap.size<=w'.heap.size)
  (f:∀b j,b<w.heap.size->w'.cell? ⟨b,j,none⟩=w.cell? ⟨b,j,none⟩)
  (v:∀(id:Nat) cs,hp[id]? =some (some cs)->w'.heap[g.ρ id]? =w.heap[g.ρ id]?)
  (x:∀(id j:Nat) cs c cv,hp[id]? =some (some cs)->(cellsOf cs)[j]? =some c->aO g w (.cell id j) c cv->aO g w' (.cell id j) c cv):
  HR g hp w'∧Up g.I g.ρ hp.length w g.I g.ρ hp.length w':=by
 have k:∀b j,g.I b j->b<w.heap.size:=by
  intro b j i;have:=h.exI b j i;rcases AH b w.heap.size with m|m;·exact m
  ·simp[BM,B7 m] at this
 have u:Up g.I g.ρ hp.length w g.I g.ρ hp.length w':=⟨λ_ _ h=>h,λb j i=>f b j (k b j i),λ_ _=>rfl,Ap _⟩
 refine⟨⟨?_,h.apart,h.notI,h.notO,λb j i=>by rw[f b j (k b j i)];exact h.exI b j i,λb o q=>AI (h.oLt b o q) p⟩,u⟩;intro id cs d;refine(h.obj id cs d).keep (v id cs d) λr e y _ a=>?_
 exact⟨a.len,a.plain,a.typed,a.cold,a.one,λj c cv f l=>(a.rel j c cv f l).up u,λj c cv f l=>x id j cs c cv d f (a.own j c cv f l),a.bn⟩
theorem HR.disownCell{g:Gh}{hp:List aJ}{w:World}(h:HR g hp w){id j:Nat}{cs:List V}{k:EK}{o:Fl}{xs:List (Ty k)}(m:hp[id]? =some (some cs))(v:cs[j]? =some (.sl k o xs)):
  HR g (hp.set id (some (cs.set j (.sl k (.may false) xs)))) w:=by
 have I:id<hp.length:=(Ag.1 m).1;have D:j<cs.length:=(Ag.1 v).1;have key:∀(i:Nat) c,(hp.set id (some (cs.set j (.sl k (.may false) xs))))[i]? =some (some c)->∃f,hp[i]? =some (some f)∧((i≠id∧c=f)∨(i=id∧f=cs∧c=cs.set j (.sl k (.may false) xs))):=by
  intro i c b;rw[Ay] at b;split at b;·rename_i e;subst e;exact⟨cs,m,.inr ⟨rfl,rfl,by simpa using b.symm⟩⟩
  ·rename_i e;exact⟨c,b,.inl ⟨λh=>e h.symm,rfl⟩⟩
 refine⟨?_,?_,?_,?_,h.exI,h.oLt⟩
 ·intro i c b;obtain⟨f,q,r⟩:=key i c b;rcases r with⟨u,rfl⟩|⟨rfl,rfl,rfl⟩
  ·rw[AR];exact h.obj i c q
  ·obtain⟨F,e,J,G,y⟩:=(h.obj i f q).row (Go.Proofs.YtndccphabnjkhaaGreat.map_cell v rfl);obtain⟨rfl,l⟩:=y.low (Go.Proofs.YtndccphabnjkhaaGreat.row_cell v rfl);refine .ofRow0 G ⟨by simpa using l.len,?_,?_,?_,?_⟩
   ·intro c a;rcases List.mem_or_eq_of_mem_set a with A|A;·exact l.one c A
    ·subst A;rfl
   ·intro i c cv a x;rw[AR];rw[Ay] at a;split at a;·rename_i e;subst e;simp only[Ae] at a;subst a;exact(l.rel j _ cv v x).own (by simp) (by simp)
    ·exact l.rel i c cv a x
   ·intro i c cv a x;rw[Ay] at a;split at a;·rename_i e;subst e;simp only[Ae] at a;subst a;simp[aO]
    ·exact l.own i c cv a x
   ·intro i E n a;rw[Ay] at a;split at a;·rename_i e;subst e;simp at a
    ·exact l.bn i E n a
 ·intro i C c f b z u;obtain⟨d,p,_⟩:=key i c b;obtain⟨H,B,_⟩:=key C f z;exact h.apart i C d H p B u
 ·intro i c b;obtain⟨d,p,_⟩:=key i c b;exact h.notI i d p
 ·intro i c b;obtain⟨d,p,_⟩:=key i c b;exact h.notO i d p
end Go.AM
namespace Go.Proofs.YtndccphabnjkhaaGreat
open Go.AM
section
open Go.AM Go.RowKit
theorem aHY{P:Program}{e:TypeId}(f:P.cellsOf e=1)(a b n:Nat)(d:b+n<=a):liesAt P P.depth e a b e n=true:=by have c:P.depth=(2*(P.types.size+Go.Made.depth)+1)+1:=rfl;rw[c];simp only[liesAt,Bl];left;rw[c];simp[rowAt,f,d,sameLayout,Nat.mod_one]
theorem amr{P:Program}(w:World)(m it y e:TypeId)(hp:P.underlying m=some (.pointer e))(p:P.cellsOf e=1)(g a cells:Nat)(i:w.shape? g=some (e,cells))(l:List UInt8)(v:l≠[])(u:a+l.length<=cells)(r:l.length<=9223372036854775807)
  (b:∀j x,l[j]? =some x->w.cell? ((⟨g,a,none⟩:Addr).add j)=some (.int .u8 x.toNat)):
  (Dx #[m,it] y #[.pointer (some ⟨g,a,none⟩),.int .i64 l.length]).run P w=.ok (.string ⟨l.toArray⟩) (w.freeze ⟨g,a,none⟩ l.length):=by
 have q:l.length≠0:=by simpa using v
 have k:=Lib.run_loadBytes (P:=P) w l ⟨g,a,none⟩ .empty b;have c:=aHY (P:=P) p (cells / P.cellsOf e) a l.length (by rw[p];simpa using u);have d:¬(9223372036854775807:Int)<(l.length:Int):=by omega
 have f:IntKind.i64.max=9223372036854775807:=rfl;have h:¬(l.length:Int)<0:=by omega
 show (asInt (.int .i64 l.length) >>=_:Sem Value).run P w=_;simp[asInt,asIntOf,f,d,h,q,variablesAt,i,elemOf,run_underlying hp,c,k]
set_option maxHeartbeats 2000000 in
theorem aKX(b o n:Nat)(v p:Value)(s:ByteArray)(w w':World)(j:w.drew.cell? ⟨b,o+1,none⟩=some v)(d:w'.cell? ⟨b,o+1,none⟩=some v)(f:∃c cap,v=.slice c n cap)
  (i:(Ea #[22] 237 #[v]).run Tryz.prog w.drew=.ok p w')
  (a:World) (h:(Dx #[237,3] 9 #[p,.int .i64 n]).run Tryz.prog w'=.ok (.string s) a):
  Calls Tryz.prog 93 #[.pointer (some ⟨b,o,none⟩)] w λe x=>e=.returned (.string s)∧x=a:=by
 obtain⟨c,cap,rfl⟩:=f
 go_enter Tryz.func93,Tryz.ntmps93
 go_wp2
 go_region
 all_goals (go_wp2;go_ret;exact⟨rfl,rfl⟩)
theorem aCO:Tryz.prog.underlying 237=some (.pointer (lN Tryz.prog)):=by kernel_rfl
theorem aF8:Tryz.prog.cellsOf (lN Tryz.prog)=1:=by kernel_rfl
theorem aD6(w:World)(a:Addr)(n b:Nat)(h:b≠a.block):(w.freeze a n).heap[b]? =w.heap[b]?:=by
 unfold C0;split;·rfl
 ·rw[Cz,if_neg (λe=>h e.symm)]
theorem aD7(w:World)(a:Addr)(n b j:Nat):(w.freeze a n).cell? ⟨b,j,none⟩=w.cell? ⟨b,j,none⟩:=by
 unfold C0;by_cases c:n=0;·simp only[c,if_true]
 ·simp only[c,if_false,BM,Cz];by_cases e:a.block=b
  ·subst e;simp only[if_true];cases d:w.heap[a.block]? with
   |none=>rfl
   |some o=>cases o<;>rfl
  ·simp only[e,if_false]
theorem aD8(w:World)(a:Addr)(n:Nat):(w.freeze a n).heap.size=w.heap.size:=by unfold C0;split<;>simp
theorem aho(w:World)(a:Addr)(n:Nat):(w.freeze a n).os=w.os∧(w.freeze a n).tape=w.tape∧(w.freeze a n).output=w.output:=by unfold C0;split<;>simp
theorem aMQ{id o:Nat}{cs:List V}{hp:List aJ}{l:List UInt8}(H:hp[id]? =some (some cs))(L:cs[o+1]? =some (.sl .u8 .own l)):
  gc Tryz.prog 93 [.ptr id o] hp (.str l) (hp.set id (some (cs.set (o+1) (.sl .u8 (.may false) l)))):=by
 intro w g N ay u m al B;match N,m,B with
 |⟨[cv]⟩,m,B=>
  have r:=B 0 (.ptr id o) cv rfl rfl;cases r with
  |ptr _ _ an=>
  obtain⟨Q,e,fz,h1,am⟩:=(u.obj id cs H).row (map_cell L rfl);obtain⟨rfl,h2⟩:=am.low (row_cell L rfl);have aq:o+1<Q.size:=by have:=(Ag.1 L).1;rw[h2.len] at this;exact this
  have d:w.cell? ⟨g.ρ id,o+1,none⟩=Q[o+1]?:=bE h1 (o+1);obtain⟨E,W⟩:∃E,Q[o+1]? =some E:=⟨_,Am aq⟩
  have hv:=h2.rel (o+1) _ E L W;have ho:=h2.own (o+1) _ E L W;rw[W] at d;have ba:=(u.disownCell H L).drew;have P:(hp.set id (some (cs.set (o+1) (.sl .u8 (.may false) l)))).length=hp.length:=by simp
  have M:∀(i:Nat) c,(hp.set id (some (cs.set (o+1) (.sl .u8 (.may false) l))))[i]? =some (some c)->∃c',hp[i]? =some (some c'):=by
   intro i c y;rw[Ay] at y;split at y;·rename_i e;subst e;exact⟨cs,H⟩
   ·exact⟨c,y⟩
  have fin:∀(a:World),(∀b j,b<w.heap.size->a.cell? ⟨b,j,none⟩=w.cell? ⟨b,j,none⟩)->w.heap.size<=a.heap.size->a.os=w.os->a.tape=w.tape->a.output=w.output->
    (∀b,b<w.heap.size->(∀v len cap,E=.slice (some v) len cap->len≠0->b≠v.block)->a.heap[b]? =w.heap[b]?)->
    HR g (hp.set id (some (cs.set (o+1) (.sl .u8 (.may false) l)))) a∧FR g hp w g (hp.set id (some (cs.set (o+1) (.sl .u8 (.may false) l)))) a:=by
   intro a e1 e2 e3 e4 e5 e6;have hO:∀v len cap,E=.slice (some v) len cap->g.O v.block=some (.cell id (o+1)):=by intro v len cap e;subst e;exact ho.1
   obtain⟨q1,q2⟩:=HR.other (w':=a) (u.disownCell H L) e2 e1 (by
    intro i c y;obtain⟨c',ag⟩:=M i c y;have A:g.ρ i<w.heap.size:=(u.obj i c' ag).lt;refine e6 _ A ?_;intro v len cap he _ q;have:=hO v len cap he;rw[<-q,u.notO i c' ag] at this;cases this) (by
    intro i j cd c cv y X ah;by_cases ab:i=id∧j=o+1;·obtain⟨rfl,rfl⟩:=ab;rw[Ay,if_pos rfl,if_pos an] at y;simp only[Ae] at y;subst y;have a2:o+1<cs.length:=(Ag.1 L).1;have ae:(cs.set (o+1) (V.sl .u8 (.may false) l))[o+1]? =some (.sl .u8 (.may false) l):=Cv a2;rw[nL (row_cell ae rfl),ae] at X;simp only[Ae] at X;subst X;simp[aO]
    ·refine dC ah rfl (λb j' hI=>⟨hI,e1 b j' ?_⟩) (λb C=>⟨C,e6 b (u.oLt b _ C) ?_,λ_ h=>h⟩)
     ·have hs:=u.exI b j' hI;rcases AH b w.heap.size with h'|h';·exact h'
      ·simp[BM,B7 h'] at hs
     ·intro v len cap he _ q;have:=hO v len cap he;rw[<-q,C] at this;simp only[Ae,Occ.cell.injEq] at this;exact ab this)
   refine⟨q1,rfl,e3,e4,e5,e2,?_,by rw[P] at q2 ⊢;exact q2,λ_ _ _ _ _ h=>h,λ_ _ _ h=>h,?_⟩;·intro b hb _ C;refine e6 b hb ?_;intro v len cap he _ q;have:=hO v len cap he;rw[<-q,C] at this;cases this
   ·intro i c y;exact .inl (M i c y)
  have F:∀(p:Value)(w' a:World)(n:Nat),l.length=n->(∃v cap,E=.slice v n cap)->w'.cell? ⟨g.ρ id,o+1,none⟩=some E->
    (Ea #[22] 237 #[E]).run Tryz.prog w.drew=.ok p w'->(Dx #[237,3] 9 #[p,.int .i64 n]).run Tryz.prog w'=.ok (.string ⟨l.toArray⟩) a->
    HR g (hp.set id (some (cs.set (o+1) (.sl .u8 (.may false) l)))) a∧FR g hp w g (hp.set id (some (cs.set (o+1) (.sl .u8 (.may false) l)))) a->l.length<=cw->
    Calls Tryz.prog 93 ⟨[.pointer (some ⟨g.ρ id,o,none⟩)]⟩ w λe w'=>∃cv g',e=.returned cv∧HR g' (hp.set id (some (cs.set (o+1) (.sl .u8 (.may false) l)))) w'∧FR g hp w g' (hp.set id (some (cs.set (o+1) (.sl .u8 (.may false) l)))) w'∧VRel g'.I g'.ρ (hp.set id (some (cs.set (o+1) (.sl .u8 (.may false) l)))).length w' (.str l) cv∧aO g' w' .res (.str l) cv:=by
   intro p w' a n hn au a1 a5 a6 J aw;refine(aKX (g.ρ id) o n E p ⟨l.toArray⟩ w w' d a1 au a5 a a6).mono ?_;rintro e x ⟨rfl,rfl⟩;exact⟨_,g,rfl,J.1,J.2,.str _ _ (by simp) (by simpa [ByteArray.size] using aw),by simp[aO]⟩
  cases hv with
  |sle _ _ v q=>exact absurd rfl q
  |sln k o=>refine F (.pointer none) w.drew w.drew 0 rfl ⟨_,_,rfl⟩ d rfl (Dc _ _ _ _ _) (fin _ (λ_ _ _=>rfl) (Ap _) rfl rfl rfl (λ_ _ _=>rfl)) (by simp)
  |sl k oo xs b S len cap hl bY hm hf f hI hw ao=>
   obtain⟨u1,⟨D,e',fz,u2,u3,u4⟩,u5⟩:=ho;have az:e'=lN Tryz.prog:=(u4 rfl).trans ay.1;have af:w.drew.shape? b=some (lN Tryz.prog,D.size):=by have:w.drew.heap[b]? =some (.cells D e' fz):=u2;simp[World.shape?,this,az]
   have ax:EK.u8.sz=1:=rfl;simp only[ax,CI] at u3 u5 hw hI;subst hl;by_cases h0:l=[]
   ·subst h0;by_cases Z:cap=0
    ·subst Z;have f:=my w.drew (.view ⟨b,S,none⟩ (lN Tryz.prog));refine F _ _ _ 0 rfl ⟨_,_,rfl⟩ ?_ (Lib.run_unsafeSliceData_zero w.drew _ _ (lN Tryz.prog) aCO ⟨b,S,none⟩ 0 _ af) (Dc _ _ _ _ _) (fin _ ?_ ?_ rfl rfl rfl ?_) (by simp);·have A:g.ρ id<w.heap.size:=(A1.1 h1).1;have:=f.2.1 (g.ρ id) A;unfold BM at d ⊢;rw[this];exact d
     ·intro b' j G;have:=f.2.1 b' G;unfold BM;rw[this];rfl
     ·rw[f.1];exact Nat.le_succ _
     ·intro b' G _;exact f.2.1 b' G
    ·refine F _ w.drew _ 0 rfl ⟨_,_,rfl⟩ d (DX _ _ _ _ _ _ Z) (Dc _ _ _ _ _) (fin _ (λ_ _ _=>rfl) (Ap _) rfl rfl rfl (λ_ _ _=>rfl)) (by simp)
   ·have R:l.length≠0:=by simpa using h0
    refine F _ w.drew _ l.length rfl ⟨_,_,rfl⟩ d (DX _ _ _ _ _ _ (by omega)) (amr _ _ _ _ _ aCO aF8 b S D.size af l h0 (by omega) (by unfold cw at hm;omega) ?_) (fin _ ?_ ?_ ?_ ?_ ?_ ?_) (by omega)
    ·intro j x X;have hx:=hw j x 0 X (by simp[enc]);have hr:=ao j x 0 _ X (by simp[enc];rfl);generalize f j 0=z at hx hr;cases hr;by_cases Y:j=0;·subst Y;simpa [Addr.add] using hx
     ·simpa [Addr.add,Y] using hx
    ·intro b j _;rw[aD7];rfl
    ·rw[aD8];exact Ap _
    ·exact(aho _ _ _).1
    ·exact(aho _ _ _).2.1
    ·exact(aho _ _ _).2.2
    ·intro b' G q;rw[aD6 _ _ _ _ (q _ _ _ rfl R)];rfl
 |⟨[]⟩,m,_=>simp at m
 |⟨_::_::_⟩,m,_=>simp at m
end
end Go.Proofs.YtndccphabnjkhaaGreat
end
