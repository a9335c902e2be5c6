import Derived.KernelRfl
import Derived.Test.YtndccphabnjkhaaGreatChecked
import Derived.WalkKit
import Derived.WalkSpells
import Derived.Laws.Externs
import Derived.Lib.Builder
import Derived.Lib.UnsafeStr
import Derived.Test.YtndccphabnjkhaaGreatZ02
import Derived.Test.YtndccphabnjkhaaGreatZ04
import Derived.Test.YtndccphabnjkhaaGreatZ05
import Derived.Test.YtndccphabnjkhaaGreatZ07
set_option linter.all false
open Bool renaming and_eq_true→Ac,true_and→Bd,not_false→Bh,not_eq_true'→BE,eq_iff_iff→BH,false_and→B3,and_assoc→Ce,false_eq_true→Cg,and_false→Cx,or_false→CD,false_or→CE,and_true→CF,not_eq_false'→DQ
open Eq renaming trans→AB
open Go.IntKind renaming wrap→Ab
open Go.Op renaming bytesLess→A2
open Go.Oper renaming upon_value→DB
open Go.World renaming frozen?→B2
open Int renaming toNat→Ad,le_refl→Av,tmod→AQ,tmod_eq_emod_of_nonneg→Bj,natCast_nonneg→Ch,tmod_nonneg→Dy
open List renaming length→Aa,getD→Af,getElem?_eq_some_iff→Ag,getElem?_eq_getElem→Ah,length_cons→Ai,length_append→Ak,length_nil→Al,drop→An,take→Ao,getD_eq_getElem?_getD→Aq,mem_of_getElem?→Ar,all_eq_true→Aw,getElem?_set→Ax,length_set→AD,mem_map→AH,length_drop→AL,append_assoc→AP,take_length→AZ,mem_cons→A3,mem_cons_self→A4,map_cons→Bb,getElem?_set_ne→Bp,map_append→BB,getElem?_set_self→BC,drop_eq_getElem_cons→BD,take_append_drop→BS,set→BV,append_nil→B5,getElem?_replicate→Cb,length_pos_iff→Cc,find?_cons→Cl,all_cons→Cm,replicate→Cy,cons_append→CB,contains_cons→CK,ext_getElem?→CO,find?_eq_none→Db,singleton_append→Dq,all_append→Dx,any_eq_false→D1,contains_nil→D2,length_eq_zero_iff→Ea
open Nat renaming le_refl→Ap,zero_le→AR,le_trans→A7,strongRecOn→C7
open Ne renaming symm→CU
open Option renaming map_eq_some_iff→As,getD_some→A8
open Option.some renaming injEq→Ae
open Prod renaming fst→CC
open Prod.mk renaming injEq→Aj
open UInt8 renaming toNat_lt→BP
set_option maxRecDepth 100000
noncomputable section
namespace Go.Proofs.YtndccphabnjkhaaGreat
open Go.AM
def aBd:aG:=tb_ [] [] [] [wH]
def ayx:IR:=Rs [Bx 2 0,Mb 4 false] (Sq (Rs [Fa 6 2 2,Lq 7 6,Bc 8 .eql 7 3] (Cn 8 (Rs [Mv 9 1,Bc 10 .eql 9 2,Mv 4 10] .ret) .skip)) (Rs [Fa 11 3 2,Lq 12 11,Ca 13 53 [12],Mv 5 13] (Rs [Mv 14 1,Mv 15 5,Bi 16 .eql 14 15,Mv 17 16,Gf 17 (.fad 18 2 2),Gf 17 (.lde 19 1 false 18),Gf 17 (.bin 20 .eql 19 (kI 2)),Gf 17 (.mov 21 20),Gt 21 (.mov 22 5),Gt 21 (.bin 23 .neq 22 (kI 2)),Gf 17 (.pick 24 21 23 (kB false)),Gf 17 (.mov 25 24),Gt 25 (.mov 26 1),Gt 25 (.bin 27 .eql 26 (kI 2)),Gf 17 (.pick 28 25 27 (kB false)),Po 29 17 28,Mv 4 29] .ret)))
theorem ayy:FnC Tryz.prog aBd [] 0 63 Tryz.f63 ayx aR:=fnC Tryz.func63
def ajX(N:Nat)(a:PFl)(b:Int):Ro:=cond (a.label==3) (some (vB (b==2),[])) (aA (j3 a.kind) (λ(c:Int)=>cond (b==c) (some (vB true,[])) (cond (a.label==2) (cond (!(c==2)) (some (vB (b==2),[])) (some (vB false,[]))) (some (vB false,[])))))
def ajY(N:Nat)(a:PFl)(b:Int):Ro:=ajX N a b
theorem awj(N:Nat)(b:PFl)(c:Int)(h:Tot (ajY N b c) (λz=>∃a rest,z.1.dimR=vB a∧z.2=rest∧yn b c (a))):∃r,sB b c r:=ayy.finP (N:=N) (by kernel_rfl) h λ_ ⟨a,_,e,_,q⟩=>⟨(a),e,q⟩
def aud:aG:=tb_ [] [] [] []
def ar0:IR:=Rs [Mb 2 false] (Sq (Rs [Mv 3 0] (.block 0 (Sq (Rs [Bc 5 .eql 3 3,Mv 4 5] (Cn 4 .skip (Rs [Bc 6 .eql 3 4,Mv 4 6] (Cn 4 .skip (Rs [Bc 7 .eql 3 7,Mv 4 7] (Cn 4 .skip (Rs [Bc 8 .eql 3 8,Mv 4 8] (Cn 4 .skip (Rs [Bc 9 .eql 3 11,Mv 4 9] (Cn 4 .skip (Rs [Bc 10 .eql 3 12,Mv 4 10] (Cn 4 .skip (Rg [Bc 11 .eql 3 17,Mv 4 11]))))))))))))) (Cn 4 (Rs [Mb 2 true] .ret) .skip)))) (Rs [Mb 2 false] .ret))
theorem ar1:FnC Tryz.prog aud [] 0 136 Tryz.f136 ar0 aF:=fnC Tryz.func136
def ae6(N:Nat)(a:Int):Ro:=cond (a==3) (some (vB true,[])) (cond (a==4) (some (vB true,[])) (cond (a==7) (some (vB true,[])) (cond (a==8) (some (vB true,[])) (cond (a==11) (some (vB true,[])) (cond (a==12) (some (vB true,[])) (cond (a==17) (some (vB true,[])) (some (vB false,[]))))))))
def ae7(N:Nat)(a:Int):Ro:=ae6 N a
theorem ap8(N:Nat)(b:Int)(h:Tot (ae7 N b) (λz=>∃a rest,z.1.dimR=vB a∧z.2=rest∧s9 b (a))):∃r,gr b r:=ar1.finP (N:=N) (by kernel_rfl) h λ_ ⟨a,_,e,_,q⟩=>⟨(a),e,q⟩
def aF1:aG:=tb_ [] [] [] [at7]
def aD6:IR:=Rs [Bx 4 1,Bx 5 2,Mi 6 0] (Sq (.block 0 (Rs [Mv 8 0,Bc 9 .eql 8 16,Mv 7 9] (Cn 7 (Rs [Mi 6 0] .ret) (Rs [Mv 11 0,Bc 12 .eql 11 14,Mv 13 12,Gf 13 (.mov 14 0),Gf 13 (.bin 15 .eql 14 (kI 15)),Po 16 13 15,Mv 10 16] (Cn 10 (Sq (Rs [Fa 17 1 4,Lq 18 17,Fa 19 1 5,Lq 20 19,Bi 21 .lss 18 20] (Cn 21 (Rs [Mi 6 (-1)] .ret) .skip)) (Sq (Rs [Fa 22 1 4,Lq 23 22,Fa 24 1 5,Lq 25 24,Bi 26 .gtr 23 25] (Cn 26 (Rs [Mi 6 1] .ret) .skip)) (Rs [Mi 6 0] .ret))) (Rs [Fa 28 0 4,Lq 29 28,Fa 30 0 5,Lq 31 30,Bi 32 .eql 29 31,Mv 27 32] (Cn 27 (Rs [Mi 6 0] .ret) (Sq (Rs [Mv 34 0,Ca 35 136 [34],Mv 36 35,Gt 36 (.fad 37 0 4),Gt 36 (.lde 38 1 false 37),Gt 36 (.cvi 39 .i64 38),Gt 36 (.fad 40 0 5),Gt 36 (.lde 41 1 false 40),Gt 36 (.cvi 42 .i64 41),Gt 36 (.bin 43 .lss 39 42),Pa 44 36 43,Mv 33 44] (Cn 33 .skip (Rg [Mv 45 0,Ca 46 136 [45],Un 47 46,Mv 48 47,Gt 48 (.fad 49 0 4),Gt 48 (.lde 50 1 false 49),Gt 48 (.fad 51 0 5),Gt 48 (.lde 52 1 false 51),Gt 48 (.bin 53 .lss 50 52),Pa 54 48 53,Mv 33 54]))) (Cn 33 (Rs [Mi 6 (-1)] .ret) .skip))))))))) (Rs [Mi 6 1] .ret))
theorem aD7:FnC Tryz.prog aF1 [] 0 79 Tryz.f79 aD6 aS:=fnC Tryz.func79
def ap9(N:Nat)(c:Int)(a b:aC):Ro:=
 let d:=(some (vI (-1),[]):Ro)
 cond (c==16) (
  some (vI 0,[])) (
  cond (c==14) (
   cond (A2 a.s b.s) (
    d) (
    let e:=(!(A2 a.s b.s||decide (a.s=b.s)))
    cond e (
     some (vI 1,[])) (
     some (vI 0,[])))) (
   cond (c==15) (
    cond (A2 a.s b.s) (
     d) (
     let f:=(!(A2 a.s b.s||decide (a.s=b.s)))
     cond f (
      some (.int .i64 1,[])) (
      some (.int .i64 0,[])))) (
    cond (a.n==b.n) (
     some (.int .i64 0,[])) (
     aA (gr c) (λ(g:Bool)=>
      cond g (
       let h:=decide ((Ab .i64 a.n)<(Ab .i64 b.n))
       cond h (
        d) (
        aA (gr c) (λ(i:Bool)=>
         cond (!i) (
          cond (decide (a.n<b.n)) (
           d) (
           some (vI 1,[]))) (
          some (vI 1,[]))))) (
       aA (gr c) (λ(j:Bool)=>
        cond (!j) (
         cond (decide (a.n<b.n)) (
          d) (
          some (vI 1,[]))) (
         some (vI 1,[])))))))))
def aqa(N:Nat)(a:Int)(b c:aC):Ro:=ap9 N a b c
theorem aBe(N:Nat)(b:Int)(c d:aC)(h:Tot (aqa N b c d) (λz=>∃a rest,z.1.dimR=vI a∧z.2=rest∧ajC b c d (a))):∃r,ff b c d r:=aD7.finP (N:=N) (by kernel_rfl) h λ_ ⟨a,_,e,_,q⟩=>⟨(a),e,q⟩
def aD8:aG:=tb_ [] [] [] []
def aBf:IR:=Rs [Bx 3 1,Mb 4 false] (Rs [Mv 5 0,Bc 6 .neq 5 16,Mv 7 6,Gt 7 (.fad 8 0 3),Gt 7 (.lde 9 1 false 8),Gt 7 (.bin 10 .eql 9 (kU 0)),Pa 11 7 10,Mv 12 11,Gt 12 (.fad 13 1 3),Gt 12 (.lde 14 1 false 13),Gt 12 (.bin 15 .eql 14 (kS [])),Pa 16 12 15,Mv 4 16] .ret)
theorem aBg:FnC Tryz.prog aD8 [] 0 98 Tryz.f98 aBf aR:=fnC Tryz.func98
def amA(N:Nat)(b:Int)(a:aC):Ro:=cond (!(b==16)) (cond (a.n==0) (let c:=decide (a.s=[]);some (vB c,[])) (some (vB false,[]))) (some (vB false,[]))
def amB(N:Nat)(a:Int)(b:aC):Ro:=amA N a b
theorem ayz(N:Nat)(b:Int)(c:aC)(h:Tot (amB N b c) (λz=>∃a rest,z.1.dimR=vB a∧z.2=rest∧aaG b c (a))):∃r,np b c r:=aBg.finP (N:=N) (by kernel_rfl) h λ_ ⟨a,_,e,_,q⟩=>⟨(a),e,q⟩
def aue:aG:=tb_ [] [] [] []
def ar2:IR:=Rs [Bx 1 0,Mb 2 false] (Rs [Fa 3 2 1,Lq 4 3,Bc 5 .eql 4 0,Mv 6 5,Gt 6 (.fad 7 7 1),Gt 6 (.lde 8 1 false 7),Gt 6 (.bin 9 .eql 8 (kI 0)),Pa 10 6 9,Mv 11 10,Gt 11 (.fad 12 3 1),Gt 11 (.lde 13 1 false 12),Gt 11 (.bin 14 .neq 13 (kI 16)),Pa 15 11 14,Mv 2 15] .ret)
theorem ar3:FnC Tryz.prog aue [] 0 97 Tryz.f97 ar2 aF:=fnC Tryz.func97
def ae8(N:Nat)(a:PFl):Ro:=cond (a.label==0) (cond (a.oneof==0) (some (vB (!(a.kind==16)),[])) (some (vB false,[]))) (some (vB false,[]))
def ae9(N:Nat)(a:PFl):Ro:=ae8 N a
theorem aqb(N:Nat)(b:PFl)(h:Tot (ae9 N b) (λz=>∃a rest,z.1.dimR=vB a∧z.2=rest∧ta b (a))):∃r,gq b r:=ar3.finP (N:=N) (by kernel_rfl) h λ_ ⟨a,_,e,_,q⟩=>⟨(a),e,q⟩
def gg:aG:=tb_ [] [] [] [aC6,vf,aoK,aDF,aA2]
def rJ:IR:=Sq (Rs [Mv 26 10,Fa 27 0 5,Lq 28 27,Ll 29 28,Bi 30 .lss 26 29] (Cn 30 .skip (.exit 0))) (Sq (.block 1 (Sq (.reg [Ld 34 3 true 7,Fa 35 0 5,Lq 36 35,Mv 37 10,Ix 38 .pfd 36 37,Fa 39 0 38,Fo [] [] (.ld 40 1 false false 39),Ca 41 52 [34,40],Mv 33 41,Ex_ 42 0 33,Ex_ 43 1 33,Pp (.alr 11 8),Fz 11 8 42,Mv 12 43] [[],[],[1],[],[1,2,3],rg 1 4,rg 1 5,rg 0 6,rg 0 7,rg 0 8,rg 0 8,[],rg 0 9++[11],rg 0 12]) (Sq (Sq (.reg [Mv 44 12,Un 45 44,Mv 46 45,Gf 46 (.mov 47 10),Gf 46 (.bin 48 .gtr 47 (kI 0)),Gf 46 (.mov 49 48),Gt 49 (.fad 50 0 5),Gt 49 (.lde 51 1 false 50),Gt 49 (.mov 52 10),Gt 49 (.ixa 53 .pfd 51 52),Gt 49 (.fad 54 0 53),⟨some (49,true),.ld 55 1 false false 54,some ([],[])⟩,Gt 49 (.fad 56 0 5),Gt 49 (.lde 57 1 false 56),Gt 49 (.mov 58 10),Gt 49 (.bin 59 .sub 58 (kI 1)),Gt 49 (.ixa 60 .pfd 57 59),Gt 49 (.fad 61 0 60),⟨some (49,true),.ld 62 1 false false 61,some ([],[])⟩,Gt 49 (.bin 63 .leq 55 62),Gf 46 (.pick 64 49 63 (kB false)),Po 65 46 64,Mv 66 65,Gf 66 (.lde 67 2 true 3),Gf 66 (.lde 68 8 true 11),Gf 66 (.fad 69 0 5),Gf 66 (.lde 70 1 false 69),Gf 66 (.mov 71 10),Gf 66 (.ixa 72 .pfd 70 71),Gf 66 (.fad 73 1 72),⟨some (66,false),.ld 74 1 false false 73,some ([],[])⟩,Gf 66 (.call 75 62 [67,68,74]),Gf 66 (.un 76 .not 75),Po 77 66 76] [[],[0],[0,1],[0,1,2],rg 0 3,rg 0 4,rg 0 5,rg 0 6,rg 0 5,rg 0 8,rg 0 9,rg 0 10,rg 0 5,rg 0 5++[12],rg 0 5,rg 0 5++[14],rg 0 5++rg 12 15,rg 0 5++rg 12 16,rg 0 5++rg 12 17,rg 0 18,rg 0 19,rg 0 20,rg 0 21,rg 0 22,rg 0 22,rg 0 22,rg 0 22++[25],rg 0 22,rg 0 22++[25,26,27],rg 0 22++rg 25 28,rg 0 22++rg 25 29,rg 0 30,rg 0 31,rg 0 32]) (Cn 77 (Rs [Mb 6 false] .ret) .skip)) (Rs [Fa 78 7 11,Lq 79 78,Bc 80 .gtr 79 0] (Cn 80 (Rs [Fa 81 7 11,Lq 82 81,Pp (.ixe 83 31 (.t 9) (.t 82)),Pp (.ldw 84 1 false 83),Bc 85 .add 84 1,Pp (.ixe 86 31 (.t 9) (.t 82)),Pp (.stw none 1 86 85)] (Rs [Fa 87 7 11,Lq 88 87,Pp (.ixe 89 31 (.t 9) (.t 88)),Pp (.ldw 90 1 false 89),Bc 91 .gtr 90 1] (Cn 91 (Rs [Mb 6 false] .ret) .skip))) .skip))))) (Rg [Mv 31 10,Bc 32 .add 31 1,Mv 10 32]))
def agK:IR:=Sq (Rs [Mv 98 15,Mv 99 13,Ll 100 99,Bi 101 .lss 98 100] (Cn 101 .skip (.exit 2))) (Sq (.block 3 (Sq (.reg [Ld 105 3 true 7,Mv 106 13,Mv 107 15,Ix 108 .record 106 107,Fa 109 0 108,Fo [] [] (.ld 110 1 false false 109),Ca 111 52 [105,110],Mv 104 111,Ex_ 112 0 104,Ex_ 113 1 104,Pp (.alr 16 8),Fz 16 8 112,Mv 17 113] [[],[],[],[1,2],[1,2,3],rg 1 4,rg 0 5,rg 0 6,rg 0 7,rg 0 7,[],rg 0 8++[10],rg 0 11]) (Sq (.reg [Mv 114 17,Mv 115 114,Gt 115 (.lde 116 8 true 16),Gt 115 (.mov 117 13),Gt 115 (.mov 118 15),Gt 115 (.ixa 119 .record 117 118),Gt 115 (.fad 120 1 119),⟨some (115,true),.ld 121 1 false false 120,some ([],[])⟩,Gt 115 (.call 122 63 [116,121]),Pa 123 115 122] [[],[0],[0,1],[0,1],[0,1],[0,1,3,4],[0,1,3,4,5],[0,1,3,4,5,6],rg 0 7,rg 0 8]) (Cn 123 (Rs [Mb 6 false] .ret) .skip)))) (Rg [Mv 102 15,Bc 103 .add 102 1,Mv 15 103]))
def agL:IR:=Rs [Mv 124 14,Bc 125 .eql 124 0,Mv 6 125] .ret
def yt:IR:=Rs [Fa 93 1 5,Lq 94 93,Ca 95 19 [94],Mv 92 95,Ex_ 96 0 92,Ex_ 97 1 92,Mv 13 96,Mv 14 97] (Sq (Rs [Mi 15 0] (.block 2 (.loop [7,13,14,15,1000001] 2 agK))) agL)
def aBh:IR:=Rs [Bx 3 0,Bx 5 2,Mb 6 false] (Rs [Ld 19 2 true 3,Mv 20 1,Ca 21 41 [19,20],Mv 18 21,Ex_ 22 0 18,Ex_ 23 1 18,Pp (.alr 7 3),Fz 7 3 22,Mv 8 23] (Sq (Rs [Mv 24 8,Un 25 24] (Cn 25 (Rs [Mb 6 false] .ret) .skip)) (Rs [Pp (.arw 9 .i64 31)] (Sq (Rs [Mi 10 0] (.block 0 (.loop [3,5,7,9,10,1000000] 2 rJ))) yt))))
theorem aBi:FnC Tryz.prog gg [] 0 25 Tryz.f25 aBh aS:=fnC Tryz.func25
def acy(R:TR)(a:TS):TE:=(bo a [3,5,7,9,10,1000000] 2 (aQ 0 (kseq (R yt) (fin aS))))
abbrev gQ:Type:=(List PMs×List PEn×List (Int×List aC)×Bs×PMs×Int×List Int)
def fq:gQ->St:=λ(a,b,c,d,e,f,g)=>{env:=(U 3 (.ea [vF .pms a,vF .pen b]::.undef::.ea [vF .pfd c,vT d]::.undef::.ea (enc .pms e)::.undef::.wp 0 (.num .i64) 0 0::vI f::(U 115 []))),hp:=[some [.rw (.num .i64) g],none]}
def ayA(R:TR)(a:TS):TE:=(bo a [7,13,14,15,1000001] 2 (aQ 2 (kseq (R agL) (fin aS))))
abbrev qq:Type:=(PMs×List bF×Int×Int×List Int)
def oJ:qq->St:=λ(a,b,c,d,e)=>{env:=(U 7 (.ea (enc .pms a)::(U 5 (vF .record b::vI c::vI d::(U 110 []))))),hp:=[some [.rw (.num .i64) e],none]}
def vD(N:Nat):TS->TS:=λa s=>run gg N agK (ayA (run gg N) a) s
def qr(N:Nat)(c:qq->Ro):qq->Ro:=λ(f,a,e,b,d)=>let g:=(↑(Aa a):Int);let l:=λn=>(some (vB n,[some [.rw (.num .i64) d],none]):Ro);cond (decide (b<g)) (chk (ixl b a) (let h:=(Af a (Ad b) (aI .record));aA (mU f h.num) (λm=>cond m.2 (chk (ixl b a) (let i:=(Af a (Ad b) (aI .record));aA (sB m.1 i.wire) (λ(o:Bool)=>cond o (l false) (let j:=(Ab .i64 (b+1));c (f,a,e,j,d))))) (let k:=(Ab .i64 (b+1));c (f,a,e,k,d))))) (l (e==0))
theorem awk(N:Nat):LB (vD N) oJ (qr N):=λ_ _=>by kernel_rfl
def vE(N:Nat):TS->TS:=λa s=>run gg N rJ (acy (run gg N) a) s
def tS(N:Nat)(e:gQ->Ro)(x:qq->Ro):gQ->Ro:=λ(f,g,a,h,j,c,b)=>let y:=(↑(Aa a):Int);let k:=λz=>(some (vB false,[some [.rw (.num .i64) z],none]):Ro);cond (decide (c<y)) (chk (ixl c a) (let G:=(Af a (Ad c) (aI .pfd));aA (mU j G.1) (λd=>cond (!d.2) (k b) (cond (decide (0<c)) (chk (ixl c a) (let B:=(Af a (Ad c) (aI .pfd));let v:=(Ab .i64 (c-1));chk (ixl v a) (let E:=(Af a (Ad v) (aI .pfd));cond (decide (B.1<=E.1)) (k b) (chk (ixl c a) (let F:=(Af a (Ad c) (aI .pfd));aA (ql f g d.1 F.2) (λ(A:Bool)=>cond (!A) (k b) (cond (decide (0<d.1.oneof)) (chk (decide (0<=(d.1.oneof:Int))&&decide ((d.1.oneof:Int)<31)) (chk (decide ((Ad d.1.oneof)<Aa b)) (let D:=Af b (Ad d.1.oneof) (aI (.num .i64));let H:=(Ab .i64 (D+1));chk (decide (0<=(d.1.oneof:Int))&&decide ((d.1.oneof:Int)<31)) (chk (decide ((Ad d.1.oneof)<Aa b)) (let l:=(BV b (Ad d.1.oneof) H);chk (decide (0<=(d.1.oneof:Int))&&decide ((d.1.oneof:Int)<31)) (chk (decide ((Ad d.1.oneof)<Aa l)) (let m:=Af l (Ad d.1.oneof) (aI (.num .i64));cond (decide (1<m)) (k l) (let n:=(Ab .i64 (c+1));e (f,g,a,h,j,n,l))))))))) (let o:=(Ab .i64 (c+1));e (f,g,a,h,j,o,b))))))))) (chk (ixl c a) (let p:=(Af a (Ad c) (aI .pfd));aA (ql f g d.1 p.2) (λ(C:Bool)=>cond (!C) (k b) (cond (decide (0<d.1.oneof)) (chk (decide (0<=(d.1.oneof:Int))&&decide ((d.1.oneof:Int)<31)) (chk (decide ((Ad d.1.oneof)<Aa b)) (let q:=Af b (Ad d.1.oneof) (aI (.num .i64));let r:=(Ab .i64 (q+1));chk (decide (0<=(d.1.oneof:Int))&&decide ((d.1.oneof:Int)<31)) (chk (decide ((Ad d.1.oneof)<Aa b)) (let i:=(BV b (Ad d.1.oneof) r);chk (decide (0<=(d.1.oneof:Int))&&decide ((d.1.oneof:Int)<31)) (chk (decide ((Ad d.1.oneof)<Aa i)) (let s:=Af i (Ad d.1.oneof) (aI (.num .i64));cond (decide (1<s)) (k i) (let t:=(Ab .i64 (c+1));e (f,g,a,h,j,t,i))))))))) (let u:=(Ab .i64 (c+1));e (f,g,a,h,j,u,b)))))))))) (aA (agh h) (λw=>x (j,w.1,w.2,0,b)))
def vG(N:Nat)(a:gQ->Ro)(x:gQ):Ro:=tS N a (λz=>aO N (qr N) z) x
def acz(N:Nat)(a:TS):List (Nat×(TS)):=(cT gg N rJ (acy (run gg N) a)++(cT gg N yt (fin aS)++[]))
theorem awl(N:Nat):∀(a:TS)(x:gQ),vE N a (fq x)=vG N (λy=>a (fq y)) x:=by
 intro a x;have b:∀C:Nat->TS,c8 C gg N rJ (acy (c8 C gg N) a) (fq x)=tS N (λy=>a (fq y)) (λz=>C 1000001 (oJ z)) x:=by intro C;kernel_rfl
 have h:vE N a (fq x)=tS N (λy=>a (fq y)) (λz=>aZ N (vD N) (oJ z)) x:=(eI (C:=gW (acz N a)) (dI (bX (l:=(acz N a)) (by kernel_rfl))) (ij (ew (nC (dI (jY (bX (l:=(acz N a)) (by kernel_rfl)))) rfl))) _).trans ((b _).trans (by kernel_rfl));have c:(λz=>aZ N (vD N) (oJ z))=(λz=>aO N (qr N) z):=funext λz=>aU (oJ) (vD N) (qr N) (awk N) N z
 rw[h,c];rfl
def sD(N:Nat)(a:List PMs)(b:List PEn)(f:Bs)(c:List (Int×List aC))(d:Bs)(g:gQ->Ro):Ro:=aA (gw a b f) (λe=>cond (!e.2) (some (vB false,[])) (g (a,b,c,d,e.1,0,(Cy 31 0))))
def amC(N:Nat)(a:List PMs)(b:List PEn)(e:Bs)(c:List (Int×List aC))(d:Bs):Ro:=sD N a b e c d (λz=>aO N (vG N) z)
theorem ayB(N:Nat)(a:List PMs)(c:List PEn)(g:Bs)(d:List (Int×List aC))(f:Bs)(h:Tot (amC N a c g d f) (λz=>∃i rest,z.1.dimR=vB i∧z.2=rest∧ahT a c g d f (i))):∃r,iB a c g d f r:=aBi.finP (N:=N) ((bD _ (by kernel_rfl) rfl (λC=>sD N a c g d f (λz=>C 1000000 (fq z))) (λC=>by kernel_rfl)).trans (AB (b:=sD N a c g d f (λz=>aZ N (vE N) (fq z))) (by kernel_rfl) (congrArg (sD N a c g d f) (funext λz=>aU (fq) (vE N) (vG N) (awl N) N z)))) h λ_ ⟨i,_,e,_,q⟩=>⟨(i),e,q⟩
def agM:aG:=tb_ [] [] [] [asW,at6,aDG,aFN]
def agN:IR:=Sq (Rs [Mv 38 7,Mv 39 2,Ll 40 39,Bi 41 .lss 38 40] (Cn 41 .skip (.exit 0))) (Sq (.block 1 (Rs [Fa 44 3 4,Lq 45 44,Mv 8 45] (Sq (Rs [Fa 46 2 4,Lq 47 46,Bc 48 .eql 47 3,Mv 49 48,Gt 49 (.mov 50 7),Gt 49 (.bin 51 .rem 50 (kI 2)),Gt 49 (.bin 52 .eql 51 (kI 0)),Pa 53 49 52] (Cn 53 (Rg [Fa 54 5 4,Lq 55 54,Mv 8 55]) .skip)) (Sq (Sq (.reg [Ld 56 2 true 3,Mv 57 8,Fa 58 4 4,Lq 59 58,Mv 60 2,Mv 61 7,Ix 62 .pval 60 61,Ld 63 4 true 62,Ca 64 107 [56,57,59,63],Un 65 64,Mv 66 65,Gf 66 (.lde 67 8 true 4),Gf 66 (.call 68 97 [67]),Gf 66 (.mov 69 68),Gt 69 (.mov 70 8),Gt 69 (.mov 71 2),Gt 69 (.mov 72 7),Gt 69 (.ixa 73 .pval 71 72),Gt 69 (.lde 74 4 true 73),Gt 69 (.call 75 98 [70,74]),Gf 66 (.pick 76 69 75 (kB false)),Po 77 66 76] [[],[],[],[2],[],[],[4,5],[4,5,6],rg 0 7,rg 0 8,rg 0 9,rg 0 10,rg 0 11,rg 0 12,rg 0 13,rg 0 13,rg 0 13,rg 0 13++[15,16],rg 0 13++[15,16,17],rg 0 18,rg 0 19,rg 0 20]) (Cn 77 (Rs [Mb 6 false] .ret) .skip)) (Sq (.reg [Fa 78 2 4,Lq 79 78,Bc 80 .eql 79 3,Mv 81 80,Gt 81 (.mov 82 7),Gt 81 (.bin 83 .rem 82 (kI 2)),Gt 81 (.bin 84 .eql 83 (kI 0)),Pa 85 81 84,Mv 86 85,Gt 86 (.mov 87 7),Gt 86 (.bin 88 .gtr 87 (kI 0)),Pa 89 86 88,Mv 90 89,Gt 90 (.mov 91 8),Gt 90 (.mov 92 2),Gt 90 (.mov 93 7),Gt 90 (.bin 94 .sub 93 (kI 2)),Gt 90 (.ixa 95 .pval 92 94),Gt 90 (.lde 96 4 true 95),Gt 90 (.mov 97 2),Gt 90 (.mov 98 7),Gt 90 (.ixa 99 .pval 97 98),Gt 90 (.lde 100 4 true 99),Gt 90 (.call 101 79 [91,96,100]),Gt 90 (.bin 102 .geq 101 (kI 0)),Pa 103 90 102] [[],[0],[0,1],[0,1,2],rg 0 3,rg 0 4,rg 0 5,rg 0 6,rg 0 7,rg 0 8,rg 0 9,rg 0 10,rg 0 11,rg 0 12,rg 0 12,rg 0 12,rg 0 12++[15],rg 0 12++[14,15,16],rg 0 12++rg 14 17,rg 0 12,rg 0 12,rg 0 12++[19,20],rg 0 12++[19,20,21],rg 0 22,rg 0 23,rg 0 24]) (Cn 103 (Rs [Mb 6 false] .ret) .skip)))))) (Rg [Mv 42 7,Bc 43 .add 42 1,Mv 7 43]))
def agO:IR:=Rs [Mb 6 true] .ret
def aBj:IR:=Rs [Bx 3 0,Bx 4 1,Mb 6 false] (Sq (Rs [Mv 9 2,Ll 10 9,Bc 11 .eql 10 0,Mv 12 11,Gf 12 (.fad 13 2 4),Gf 12 (.lde 14 1 false 13),Gf 12 (.bin 15 .neq 14 (kI 2)),Gf 12 (.mov 16 15),Gt 16 (.fad 17 2 4),Gt 16 (.lde 18 1 false 17),Gt 16 (.bin 19 .neq 18 (kI 3)),Gf 12 (.pick 20 16 19 (kB false)),Gf 12 (.mov 21 20),Gt 21 (.mov 22 2),Gt 21 (.lenl 23 22),Gt 21 (.bin 24 .neq 23 (kI 1)),Gf 12 (.pick 25 21 24 (kB false)),Po 26 12 25,Mv 27 26,Gf 27 (.fad 28 2 4),Gf 27 (.lde 29 1 false 28),Gf 27 (.bin 30 .eql 29 (kI 3)),Gf 27 (.mov 31 30),Gt 31 (.mov 32 2),Gt 31 (.lenl 33 32),Gt 31 (.bin 34 .rem 33 (kI 2)),Gt 31 (.bin 35 .eql 34 (kI 1)),Gf 27 (.pick 36 31 35 (kB false)),Po 37 27 36] (Cn 37 (Rs [Mb 6 false] .ret) .skip)) (Sq (Rs [Mi 7 0] (.block 0 (.loop [2,3,4,7,1000000] 0 agN))) agO))
theorem aBk:FnC Tryz.prog agM [] 0 62 Tryz.f62 aBj aS:=fnC Tryz.func62
def ayC(R:TR)(a:TS):TE:=(bo a [2,3,4,7,1000000] 0 (aQ 0 (kseq (R agO) (fin aS))))
abbrev qt:Type:=(List aC×List PMs×List PEn×PFl×Int)
def tT:qt->St:=λ(a,b,c,d,e)=>{env:=(.undef::.undef::vF .pval a::.ea [vF .pms b,vF .pen c]::.ea (enc .pfl d)::.undef::.undef::vI e::(U 96 [])),hp:=[]}
def acA(N:Nat):TS->TS:=λa s=>run agM N agN (ayC (run agM N) a) s
def mM(N:Nat)(a:qt->Ro):qt->Ro:=λ(e,b,c,f,d)=>let x4:=(↑(Aa e):Int);cond (decide (d<x4)) (cond (f.label==3) (cond ((AQ d 2)==0) (chk (ixl d e) (let x5:=(Af e (Ad d) (aI .pval));aA (sS b c f.key f.typ (reP x5)) (λ(F:Bool)=>cond (!F) (some (vB false,[])) (aA (gq f) (λ(r2:Bool)=>cond r2 (chk (ixl d e) (let S:=(Af e (Ad d) (aI .pval));aA (np f.key (reP S)) (λ(G:Bool)=>cond G (some (vB false,[])) (cond (f.label==3) (cond ((AQ d 2)==0) (cond (decide (0<d)) (let A:=(Ab .i64 (d-2));chk (ixl A e) (let X:=(Af e (Ad A) (aI .pval));chk (ixl d e) (let M:=(Af e (Ad d) (aI .pval));aA (ff f.key (reP X) (reP M)) (λ(C:Int)=>cond (decide (0<=C)) (some (vB false,[])) (let l:=(Ab .i64 (d+1));a (e,b,c,f,l)))))) (let m:=(Ab .i64 (d+1));a (e,b,c,f,m))) (let n:=(Ab .i64 (d+1));a (e,b,c,f,n))) (let o:=(Ab .i64 (d+1));a (e,b,c,f,o)))))) (cond (f.label==3) (cond ((AQ d 2)==0) (cond (decide (0<d)) (let g:=(Ab .i64 (d-2));chk (ixl g e) (let p:=(Af e (Ad g) (aI .pval));chk (ixl d e) (let q:=(Af e (Ad d) (aI .pval));aA (ff f.key (reP p) (reP q)) (λ(E:Int)=>cond (decide (0<=E)) (some (vB false,[])) (let r:=(Ab .i64 (d+1));a (e,b,c,f,r)))))) (let s:=(Ab .i64 (d+1));a (e,b,c,f,s))) (let t:=(Ab .i64 (d+1));a (e,b,c,f,t))) (let u:=(Ab .i64 (d+1));a (e,b,c,f,u)))))))) (chk (ixl d e) (let v:=(Af e (Ad d) (aI .pval));aA (sS b c f.kind f.typ (reP v)) (λ(r6:Bool)=>cond (!r6) (some (vB false,[])) (aA (gq f) (λ(B:Bool)=>cond B (chk (ixl d e) (let w:=(Af e (Ad d) (aI .pval));aA (np f.kind (reP w)) (λ(r8:Bool)=>cond r8 (some (vB false,[])) (cond (f.label==3) (cond ((AQ d 2)==0) (cond (decide (0<d)) (let h:=(Ab .i64 (d-2));chk (ixl h e) (let x:=(Af e (Ad h) (aI .pval));chk (ixl d e) (let y:=(Af e (Ad d) (aI .pval));aA (ff f.kind (reP x) (reP y)) (λ(R:Int)=>cond (decide (0<=R)) (some (vB false,[])) (let z:=(Ab .i64 (d+1));a (e,b,c,f,z)))))) (let L:=(Ab .i64 (d+1));a (e,b,c,f,L))) (let ab:=(Ab .i64 (d+1));a (e,b,c,f,ab))) (let I:=(Ab .i64 (d+1));a (e,b,c,f,I)))))) (cond (f.label==3) (cond ((AQ d 2)==0) (cond (decide (0<d)) (let i:=(Ab .i64 (d-2));chk (ixl i e) (let ad:=(Af e (Ad i) (aI .pval));chk (ixl d e) (let ae:=(Af e (Ad d) (aI .pval));aA (ff f.kind (reP ad) (reP ae)) (λ(af:Int)=>cond (decide (0<=af)) (some (vB false,[])) (let ag:=(Ab .i64 (d+1));a (e,b,c,f,ag)))))) (let ah:=(Ab .i64 (d+1));a (e,b,c,f,ah))) (let ai:=(Ab .i64 (d+1));a (e,b,c,f,ai))) (let aj:=(Ab .i64 (d+1));a (e,b,c,f,aj))))))))) (chk (ixl d e) (let O:=(Af e (Ad d) (aI .pval));aA (sS b c f.kind f.typ (reP O)) (λ(Y:Bool)=>cond (!Y) (some (vB false,[])) (aA (gq f) (λ(am:Bool)=>cond am (chk (ixl d e) (let an:=(Af e (Ad d) (aI .pval));aA (np f.kind (reP an)) (λ(Z:Bool)=>cond Z (some (vB false,[])) (cond (f.label==3) (cond ((AQ d 2)==0) (cond (decide (0<d)) (let j:=(Ab .i64 (d-2));chk (ixl j e) (let ap:=(Af e (Ad j) (aI .pval));chk (ixl d e) (let Q:=(Af e (Ad d) (aI .pval));aA (ff f.kind (reP ap) (reP Q)) (λ(J:Int)=>cond (decide (0<=J)) (some (vB false,[])) (let au:=(Ab .i64 (d+1));a (e,b,c,f,au)))))) (let D:=(Ab .i64 (d+1));a (e,b,c,f,D))) (let aw:=(Ab .i64 (d+1));a (e,b,c,f,aw))) (let H:=(Ab .i64 (d+1));a (e,b,c,f,H)))))) (cond (f.label==3) (cond ((AQ d 2)==0) (cond (decide (0<d)) (let k:=(Ab .i64 (d-2));chk (ixl k e) (let P:=(Af e (Ad k) (aI .pval));chk (ixl d e) (let az:=(Af e (Ad d) (aI .pval));aA (ff f.kind (reP P) (reP az)) (λ(a0:Int)=>cond (decide (0<=a0)) (some (vB false,[])) (let a1:=(Ab .i64 (d+1));a (e,b,c,f,a1)))))) (let a2:=(Ab .i64 (d+1));a (e,b,c,f,a2))) (let a3:=(Ab .i64 (d+1));a (e,b,c,f,a3))) (let W:=(Ab .i64 (d+1));a (e,b,c,f,W))))))))) (some (vB true,[]))
theorem awm(N:Nat):LB (acA N) tT (mM N):=λ_ _=>by kernel_rfl
def sE(N:Nat)(d:List PMs)(e:List PEn)(a:PFl)(b:List aC)(h:qt->Ro):Ro:=let i:=(↑(Aa b):Int);let c:=h (b,d,e,a,0);cond (i==0) (some (vB false,[])) (cond (!(a.label==2)) (cond (!(a.label==3)) (let j:=(↑(Aa b):Int);cond (!(j==1)) (some (vB false,[])) (cond (a.label==3) (let k:=(↑(Aa b):Int);cond ((AQ k 2)==1) (some (vB false,[])) (c)) (c))) (cond (a.label==3) (let f:=(↑(Aa b):Int);cond ((AQ f 2)==1) (some (vB false,[])) (c)) (c))) (cond (a.label==3) (let g:=(↑(Aa b):Int);cond ((AQ g 2)==1) (some (vB false,[])) (c)) (c)))
def amD(N:Nat)(a:List PMs)(b:List PEn)(c:PFl)(d:List aC):Ro:=sE N a b c d (λz=>aO N (mM N) z)
theorem ayD(N:Nat)(a:List PMs)(c:List PEn)(d:PFl)(f:List aC)(h:Tot (amD N a c d f) (λz=>∃g rest,z.1.dimR=vB g∧z.2=rest∧ahU a c d f (g))):∃r,ql a c d f r:=aBk.finP (N:=N) ((bD _ (by kernel_rfl) rfl (λC=>sE N a c d f (λz=>C 1000000 (tT z))) (λC=>by kernel_rfl)).trans (AB (b:=sE N a c d f (λz=>aZ N (acA N) (tT z))) (by kernel_rfl) (congrArg (sE N a c d f) (funext λz=>aU (tT) (acA N) (mM N) (awm N) N z)))) h λ_ ⟨g,_,e,_,q⟩=>⟨(g),e,q⟩
def aF2:aG:=tb_ [] [] [] [apy,aoL,aFq]
def aD9:IR:=Rs [Bx 4 0,Bx 7 3,Mb 8 false] (Rs [Fa 10 2 7,Fa 11 0 10,Lq 12 11,Ll 13 12,Bc 14 .eql 13 0,Mv 15 14,Gt 15 (.fad 16 2 7),Gt 15 (.fad 17 1 16),Gt 15 (.lde 18 1 false 17),Gt 15 (.bin 19 .eql 18 (kS [])),Pa 20 15 19,Mv 9 20] (Sq (.block 0 (Rs [Mv 22 1,Bc 23 .eql 22 16,Mv 21 23] (Cn 21 (Rs [Fa 24 0 7,Lq 25 24,Pp (.bin 26 .eql 25 (kU 0)),Mv 27 26,Gt 27 (.fad 28 1 7),Gt 27 (.lde 29 1 false 28),Gt 27 (.bin 30 .eql 29 (kS [])),Pa 31 27 30,Mv 32 31,Gt 32 (.lde 33 2 true 4),Gt 32 (.mov 34 2),Gt 32 (.fad 35 2 7),Gt 32 (.lde 36 2 true 35),Gt 32 (.call 37 25 [33,34,36]),Pa 38 32 37,Mv 8 38] .ret) (Rs [Mv 40 1,Bc 41 .eql 40 14,Mv 42 41,Gf 42 (.mov 43 1),Gf 42 (.bin 44 .eql 43 (kI 15)),Po 45 42 44,Mv 39 45] (Cn 39 (Rs [Fa 46 0 7,Lq 47 46,Pp (.bin 48 .eql 47 (kU 0)),Mv 49 48,Gt 49 (.mov 50 9),Pa 51 49 50,Mv 52 51,Gt 52 (.mov 53 1),Gt 52 (.bin 54 .eql 53 (kI 15)),Gt 52 (.mov 55 54),Gf 55 (.fad 56 1 7),Gf 55 (.lde 57 1 false 56),Gf 55 (.call 58 74 [57]),Gt 52 (.pick 59 55 (kB true) 58),Pa 60 52 59,Mv 8 60] .ret) .skip))))) (Rs [Fa 61 1 7,Lq 62 61,Pp (.bin 63 .eql 62 (kS [])),Mv 64 63,Gt 64 (.mov 65 9),Pa 66 64 65,Mv 67 66,Gt 67 (.mov 68 1),Gt 67 (.fad 69 0 7),Gt 67 (.lde 70 1 false 69),Gt 67 (.call 71 161 [68,70]),Pa 72 67 71,Mv 8 72] .ret)))
theorem aEa:FnC Tryz.prog aF2 [] 0 107 Tryz.f107 aD9 fT:=fnC Tryz.func107
def aqc(N:Nat)(c:List PMs)(d:List PEn)(b:Int)(f:Bs)(a:aC):Ro:=let g:=(↑(Aa a.fs):Int);cond (g==0) (let e:=decide (a.rest=[]);cond (b==16) (cond (a.n==0) (let h:=decide (a.s=[]);cond h (aA (iB c d f a.fs a.rest) (λ(i:Bool)=>some (vB i,[]))) (some (vB false,[]))) (some (vB false,[]))) (cond (b==14) (cond (a.n==0) (cond e (cond (b==15) (some (vB true,[])) (aA (mV a.s) (λ(j:Bool)=>some (vB j,[])))) (some (vB false,[]))) (some (vB false,[]))) (cond (b==15) (cond (a.n==0) (cond e (cond (b==15) (some (vB true,[])) (aA (mV a.s) (λ(k:Bool)=>some (vB k,[])))) (some (vB false,[]))) (some (vB false,[]))) (let l:=decide (a.s=[]);cond l (cond e (aA (acZ b a.n) (λ(m:Bool)=>some (vB m,[]))) (some (vB false,[]))) (some (vB false,[])))))) (cond (b==16) (cond (a.n==0) (let o:=decide (a.s=[]);cond o (aA (iB c d f a.fs a.rest) (λ(p:Bool)=>some (vB p,[]))) (some (vB false,[]))) (some (vB false,[]))) (cond (b==14) (cond (a.n==0) (some (vB false,[])) (some (vB false,[]))) (cond (b==15) (cond (a.n==0) (some (vB false,[])) (some (vB false,[]))) (let q:=decide (a.s=[]);cond q (some (vB false,[])) (some (vB false,[]))))))
def aqd(N:Nat)(a:List PMs)(b:List PEn)(c:Int)(d:Bs)(e:aC):Ro:=aqc N a b c d e
theorem aBl(N:Nat)(a:List PMs)(b:List PEn)(d:Int)(f:Bs)(g:aC)(h:Tot (aqd N a b d f g) (λz=>∃c rest,z.1.dimR=vB c∧z.2=rest∧ajG a b d f g (c))):∃r,sS a b d f g r:=aEa.finP (N:=N) (by kernel_rfl) h λ_ ⟨c,_,e,_,q⟩=>⟨(c),e,q⟩
def aiJ:aG:=tb_ [] [] [] []
def ajZ:IR:=Sq (Rs [Mv 7 6,Fa 8 0 2,Lq 9 8,Ll 10 9,Bi 11 .lss 7 10] (Cn 11 .skip (.exit 0))) (Sq (.block 1 (Rs [Fa 14 0 2,Lq 15 14,Mv 16 6,Ix 17 .pfd 15 16,Fa 18 0 17,Lo 19 18,Mv 20 1,Bi 21 .eql 19 20] (Cn 21 (Rs [Fa 22 0 2,Lq 23 22,Mv 24 6,Ix 25 .pfd 23 24,Fa 26 1 25,Lo 27 26,Mv 4 27,Mb 5 true] .ret) .skip))) (Rg [Mv 12 6,Bc 13 .add 12 1,Mv 6 13]))
def aj0:IR:=Rs [Pp (.mov 4 (.c (nl .pval))),Mb 5 false] .ret
def aEb:IR:=Rs [Bx 2 0,Pp (.mov 4 (.c (nl .pval))),Mb 5 false] (Sq (Rs [Mi 6 0] (.block 0 (.loop [1,2,6,1000000] 0 ajZ))) aj0)
theorem aEc:FnC Tryz.prog aiJ [] 0 21 Tryz.f21 aEb gH:=fnC Tryz.func21
def aBm(R:TR)(a:TS):TE:=(bo a [1,2,6,1000000] 0 (aQ 0 (kseq (R aj0) (fin gH))))
abbrev sF:Type:=(Int×List (Int×List aC)×Bs×Int)
def vH:sF->St:=λ(a,b,c,d)=>{env:=(.undef::vI a::.ea [vF .pfd b,vT c]::(U 3 (vI d::(U 21 [])))),hp:=[]}
def aew(N:Nat):TS->TS:=λa s=>run aiJ N ajZ (aBm (run aiJ N) a) s
def xU(N:Nat)(b:sF->Ro):sF->Ro:=λ(e,a,d,c)=>let f:=(↑(Aa a):Int);cond (decide (c<f)) (chk (ixl c a) (let g:=(Af a (Ad c) (aI .pfd));cond (g.1==e) (chk (ixl c a) (let h:=(Af a (Ad c) (aI .pfd));some (.tup [vF .pval h.2,vB true],[]))) (let i:=(Ab .i64 (c+1));b (e,a,d,i)))) (some (.tup [vF .pval [],vB false],[]))
theorem ayE(N:Nat):LB (aew N) vH (xU N):=λ_ _=>by kernel_rfl
def uR(N:Nat)(a:List (Int×List aC))(b:Bs)(c:Int)(d:sF->Ro):Ro:=d (c,a,b,0)
def aqe(N:Nat)(a:List (Int×List aC))(b:Bs)(c:Int):Ro:=uR N a b c (λz=>aO N (xU N) z)
theorem aBn(N:Nat)(a:List (Int×List aC))(c:Bs)(d:Int)(h:Tot (aqe N a c d) (λz=>∃f g rest,z.1.dimR=.tup [vF .pval f,vB g]∧z.2=rest∧ajE a c d (f,g))):∃r,wY a c d r:=aEc.finP (N:=N) ((bD _ (by kernel_rfl) rfl (λC=>uR N a c d (λz=>C 1000000 (vH z))) (λC=>by kernel_rfl)).trans (AB (b:=uR N a c d (λz=>aZ N (aew N) (vH z))) (by kernel_rfl) (congrArg (uR N a c d) (funext λz=>aU (vH) (aew N) (xU N) (ayE N) N z)))) h λ_ ⟨f,g,_,e,_,q⟩=>⟨(f,g),e,q⟩
def aiK:aG:=tb_ [] [] [] []
def aj1:IR:=Sq (Rs [Mv 10 7,Fa 11 0 3,Lo 12 11,Ll 13 12,Bi 14 .lss 10 13,Mv 15 14,Gt 15 (.fad 16 0 3),Gt 15 (.ld 17 1 false false 16),Gt 15 (.mov 18 7),Gt 15 (.ixa 19 .pfd 17 18),Gt 15 (.fad 20 0 19),Gt 15 (.ld 21 1 false false 20),Gt 15 (.mov 22 1),Gt 15 (.bin 23 .lss 21 22),Pa 24 15 23] (Cn 24 .skip (.exit 0))) (.block 1 (Rg [Mv 25 7,Bc 26 .add 25 1,Mv 7 26]))
def ah0:IR:=Rs [Fa 27 0 3,Lo 28 27,Mv 29 7,Pp (.subl 30 .pfd 28 (some 29) none),Mv 8 30] (Sq (Rs [Mv 31 7,Fa 32 0 3,Lo 33 32,Ll 34 33,Bi 35 .lss 31 34,Mv 36 35,Gt 36 (.fad 37 0 3),Gt 36 (.ld 38 1 false false 37),Gt 36 (.mov 39 7),Gt 36 (.ixa 40 .pfd 38 39),Gt 36 (.fad 41 0 40),Gt 36 (.ld 42 1 false false 41),Gt 36 (.mov 43 1),Gt 36 (.bin 44 .eql 42 43),Pa 45 36 44] (Cn 45 (Rg [Fa 46 0 3,Lo 47 46,Mv 48 7,Bc 49 .add 48 1,Pp (.subl 50 .pfd 47 (some 49) none),Mv 8 50]) .skip)) (Rs [Pp (.bsl 51 .pfd [] false),Fa 52 0 3,Lo 53 52,Mv 54 7,Pp (.subl 55 .pfd 53 none (some 54)),Pp (.app 56 .pfd (.tk 51) 55),Pp (.mov 9 (.tk 56))] (Sq (Rs [Mv 57 2,Ll 58 57,Bc 59 .gtr 58 0] (Cn 59 (Rg [Pp (.mov 60 (.tk 9)),Mv 61 1,Mv 62 2,Pp (.bld 63 [vI 0,fu .pval true] [(0,1,61),(1,1,62)]),Pp (.bsl 64 .pfd [63] true),Pp (.app 65 .pfd (.tk 60) 64),Pp (.mov 9 (.tk 65))]) .skip)) (Rs [Pp (.mov 66 (.tk 9)),Mv 67 8,Pp (.app 68 .pfd (.tk 66) 67),Fa 69 0 3,Sk 1 69 68] (Rs [Pp (.ld 70 2 true false 3),Sv 2 6 70] .ret)))))
def aEd:IR:=Rs [Pp (.box 3 0),Pp (.new 6 [nl .pfd,vS])] (Rs [Mi 7 0] (Sq (.block 0 (.loop [1,2,3,6,7,1000000] 2 aj1)) ah0))
def qu:List RV:=[.cell 6 2 true]
theorem aEe:FnC Tryz.prog aiK [] 0 83 Tryz.f83 aEd qu:=fnC Tryz.func83
def aBo(R:TR)(a:TS):TE:=(bo a [1,2,3,6,7,1000000] 2 (aQ 0 (kseq (R ah0) (fin qu))))
abbrev fR:Type:=(Int×List aC×Int×List (Int×List aC)×Bs×List (Int×List aC)×Bs)
def vJ:fR->St:=λ(a,b,c,d,e,f,g)=>{env:=(.undef::vI a::vF .pval b::.ptr 0 0::.undef::.undef::.ptr 1 0::vI c::(U 63 [])),hp:=[some [vF .pfd d,vT e],some [vO .pfd f,vT g]]}
def aex(N:Nat):TS->TS:=λa s=>run aiK N aj1 (aBo (run aiK N) a) s
def xV(N:Nat)(h:fR->Ro):fR->Ro:=λ(e,c,b,a,f,r,s)=>let I:=(↑(Aa a):Int);let g:=λB=>(some (.agg [vF .pfd B,vT f],[some [vO .pfd B,vT f],some [vF .pfd B,vT f]]):Ro);cond (decide (b<I)) (chk (ixl b a) (let Z:=(Af a (Ad b) (aI .pfd));cond (decide (Z.1<e)) (let W:=(Ab .i64 (b+1));h (e,c,W,a,f,r,s)) (chk (decide (0<=b)&&decide (b<=(↑(Aa a):Int))) (let p:=(An (Ad b) (Ao (Aa a) a));let Y:=(↑(Aa a):Int);cond (decide (b<Y)) (chk (ixl b a) (let L:=(Af a (Ad b) (aI .pfd));cond (L.1==e) (let C:=(Ab .i64 (b+1));chk (decide (0<=C)&&decide (C<=(↑(Aa a):Int))) (let A:=(An (Ad C) (Ao (Aa a) a));chk (decide (0<=b)&&decide (b<=(↑(Aa a):Int))) (let F:=(An 0 (Ao (Ad b) a));chk (decide ((Aa ([]:List (Int×List aC))+Aa F)*32<=140737488355328)) (let i:=(([]:List (Int×List aC))++F);let R:=(↑(Aa c):Int);cond (decide (0<R)) (chk (decide ((Aa i+Aa ([⟨e,c⟩]:List (Int×List aC)))*32<=140737488355328)) (let t:=(i++([⟨e,c⟩]:List (Int×List aC)));chk (decide ((Aa t+Aa A)*32<=140737488355328)) (g (t++A)))) (chk (decide ((Aa i+Aa A)*32<=140737488355328)) (g (i++A))))))) (chk (decide (0<=b)&&decide (b<=(↑(Aa a):Int))) (let u:=(An 0 (Ao (Ad b) a));chk (decide ((Aa ([]:List (Int×List aC))+Aa u)*32<=140737488355328)) (let j:=(([]:List (Int×List aC))++u);let X:=(↑(Aa c):Int);cond (decide (0<X)) (chk (decide ((Aa j+Aa ([⟨e,c⟩]:List (Int×List aC)))*32<=140737488355328)) (let v:=(j++([⟨e,c⟩]:List (Int×List aC)));chk (decide ((Aa v+Aa p)*32<=140737488355328)) (g (v++p)))) (chk (decide ((Aa j+Aa p)*32<=140737488355328)) (g (j++p)))))))) (chk (decide (0<=b)&&decide (b<=(↑(Aa a):Int))) (let w:=(An 0 (Ao (Ad b) a));chk (decide ((Aa ([]:List (Int×List aC))+Aa w)*32<=140737488355328)) (let k:=(([]:List (Int×List aC))++w);let Q:=(↑(Aa c):Int);cond (decide (0<Q)) (chk (decide ((Aa k+Aa ([⟨e,c⟩]:List (Int×List aC)))*32<=140737488355328)) (let x:=(k++([⟨e,c⟩]:List (Int×List aC)));chk (decide ((Aa x+Aa p)*32<=140737488355328)) (g (x++p)))) (chk (decide ((Aa k+Aa p)*32<=140737488355328)) (g (k++p)))))))))) (chk (decide (0<=b)&&decide (b<=(↑(Aa a):Int))) (let d:=(An (Ad b) (Ao (Aa a) a));let J:=(↑(Aa a):Int);cond (decide (b<J)) (chk (ixl b a) (let M:=(Af a (Ad b) (aI .pfd));cond (M.1==e) (let q:=(Ab .i64 (b+1));chk (decide (0<=q)&&decide (q<=(↑(Aa a):Int))) (let l:=(An (Ad q) (Ao (Aa a) a));chk (decide (0<=b)&&decide (b<=(↑(Aa a):Int))) (let y:=(An 0 (Ao (Ad b) a));chk (decide ((Aa ([]:List (Int×List aC))+Aa y)*32<=140737488355328)) (let m:=(([]:List (Int×List aC))++y);let P:=(↑(Aa c):Int);cond (decide (0<P)) (chk (decide ((Aa m+Aa ([⟨e,c⟩]:List (Int×List aC)))*32<=140737488355328)) (let z:=(m++([⟨e,c⟩]:List (Int×List aC)));chk (decide ((Aa z+Aa l)*32<=140737488355328)) (g (z++l)))) (chk (decide ((Aa m+Aa l)*32<=140737488355328)) (g (m++l))))))) (chk (decide (0<=b)&&decide (b<=(↑(Aa a):Int))) (let E:=(An 0 (Ao (Ad b) a));chk (decide ((Aa ([]:List (Int×List aC))+Aa E)*32<=140737488355328)) (let n:=(([]:List (Int×List aC))++E);let S:=(↑(Aa c):Int);cond (decide (0<S)) (chk (decide ((Aa n+Aa ([⟨e,c⟩]:List (Int×List aC)))*32<=140737488355328)) (let H:=(n++([⟨e,c⟩]:List (Int×List aC)));chk (decide ((Aa H+Aa d)*32<=140737488355328)) (g (H++d)))) (chk (decide ((Aa n+Aa d)*32<=140737488355328)) (g (n++d)))))))) (chk (decide (0<=b)&&decide (b<=(↑(Aa a):Int))) (let D:=(An 0 (Ao (Ad b) a));chk (decide ((Aa ([]:List (Int×List aC))+Aa D)*32<=140737488355328)) (let o:=(([]:List (Int×List aC))++D);let O:=(↑(Aa c):Int);cond (decide (0<O)) (chk (decide ((Aa o+Aa ([⟨e,c⟩]:List (Int×List aC)))*32<=140737488355328)) (let G:=(o++([⟨e,c⟩]:List (Int×List aC)));chk (decide ((Aa G+Aa d)*32<=140737488355328)) (g (G++d)))) (chk (decide ((Aa o+Aa d)*32<=140737488355328)) (g (o++d))))))))
theorem ayF(N:Nat):LB (aex N) vJ (xV N):=λ_ _=>by kernel_rfl
def uS(N:Nat)(a:List (Int×List aC))(b:Bs)(c:Int)(d:List aC)(e:fR->Ro):Ro:=e (c,d,0,a,b,([]:List (Int×List aC)),[])
def aqf(N:Nat)(a:List (Int×List aC))(b:Bs)(c:Int)(d:List aC):Ro:=uS N a b c d (λz=>aO N (xV N) z)
theorem aBp(N:Nat)(a:List (Int×List aC))(c:Bs)(d:Int)(f:List aC)(h:Tot (aqf N a c d f) (λz=>∃g i rest,z.1.dimR=.agg [vF .pfd g,vT i]∧z.2=rest∧ajD a c d f (g,i))):∃r,wZ a c d f r:=aEe.finP (N:=N) ((bD _ (by kernel_rfl) rfl (λC=>uS N a c d f (λz=>C 1000000 (vJ z))) (λC=>by kernel_rfl)).trans (AB (b:=uS N a c d f (λz=>aZ N (aex N) (vJ z))) (by kernel_rfl) (congrArg (uS N a c d f) (funext λz=>aU (vJ) (aex N) (xV N) (ayF N) N z)))) h λ_ ⟨g,i,_,e,_,q⟩=>⟨(g,i),e,q⟩
def aey:aG:=tb_ [] [] [] [aFM]
def agP:IR:=Sq (Rs [Fa 8 7 5,Lq 9 8,Bc 10 .gtr 9 0,Mv 11 10,Gt 11 (.mov 12 7),Gt 11 (.fad 13 1 3),Gt 11 (.lde 14 1 false 13),Gt 11 (.lenl 15 14),Gt 11 (.bin 16 .lss 12 15),Pa 17 11 16] (Cn 17 .skip (.exit 0))) (Sq (.block 1 (Sq (.reg [Fa 20 1 3,Lq 21 20,Mv 22 7,Ix 23 .pfl 21 22,Fa 24 7 23,Fo [] [] (.ld 25 1 false false 24),Fa 26 7 5,Lq 27 26,Bi 28 .eql 25 27,Mv 29 28,Gt 29 (.fad 30 1 3),Gt 29 (.lde 31 1 false 30),Gt 29 (.mov 32 7),Gt 29 (.ixa 33 .pfl 31 32),Gt 29 (.fad 34 0 33),⟨some (29,true),.ld 35 1 false false 34,some ([],[])⟩,Gt 29 (.fad 36 0 5),Gt 29 (.lde 37 1 false 36),Gt 29 (.bin 38 .neq 35 37),Pa 39 29 38] [[],[0],[],[0,1,2],rg 0 3,rg 0 4,[],[6],rg 0 7,rg 0 8,rg 0 9,rg 0 10,rg 0 9,rg 0 12,rg 0 13,rg 0 14,rg 0 9,rg 0 9++[16],rg 0 17,rg 0 18]) (Cn 39 (.reg [Fo [0] [] (.ld 40 2 true false 4),Fa 41 1 3,Lq 42 41,Mv 43 7,Ix 44 .pfl 42 43,Fa 45 0 44,Fo [] [] (.ld 46 1 false false 45),Ca 47 83 [40,46,.c (nl .pval)],Fo [] [0] (.st none 2 4 47)] [[],[],[1],[],[1,2,3],rg 1 4,rg 1 5,rg 0 6,rg 0 7]) .skip))) (Rg [Mv 18 7,Bc 19 .add 18 1,Mv 7 19]))
def agQ:IR:=Rs [Pp (.ld 48 2 true false 4),Sv 2 6 48] .ret
def ayG:IR:=Rs [Bx 3 0,Pp (.box 4 1),Bx 5 2,Pp (.new 6 [nl .pfd,vS])] (Sq (Rs [Mi 7 0] (.block 0 (.loop [3,4,5,6,7,1000000] 2 agP))) agQ)
theorem ayH:FnC Tryz.prog aey [] 0 81 Tryz.f81 ayG qu:=fnC Tryz.func81
def awn(R:TR)(a:TS):TE:=(bo a [3,4,5,6,7,1000000] 2 (aQ 0 (kseq (R agQ) (fin qu))))
abbrev oK:Type:=(PMs×PFl×Int×List (Int×List aC)×Bs×List (Int×List aC)×Bs)
def rK:oK->St:=λ(a,b,c,d,e,f,g)=>{env:=(U 3 (.ea (enc .pms a)::.ptr 0 0::.ea (enc .pfl b)::.ptr 1 0::vI c::(U 41 []))),hp:=[some [vF .pfd d,vT e],some [vO .pfd f,vT g]]}
def aaV(N:Nat):TS->TS:=λa s=>run aey N agP (awn (run aey N) a) s
def tU(N:Nat)(c:oK->Ro):oK->Ro:=λ(f,h,g,a,b,d,e)=>let i:=(some (.agg [vF .pfd a,vT b],[some [vF .pfd a,vT b],some [vF .pfd a,vT b]]):Ro);cond (decide (0<h.oneof)) (let k:=(↑(Aa f.fields):Int);cond (decide (g<k)) (chk (ixl g f.fields) (let l:=(Af f.fields (Ad g) (aI .pfl));cond (l.oneof==h.oneof) (chk (ixl g f.fields) (let m:=(Af f.fields (Ad g) (aI .pfl));cond (!(m.num==h.num)) (chk (ixl g f.fields) (let n:=(Af f.fields (Ad g) (aI .pfl));aA (wZ a b n.num []) (λj=>let o:=(Ab .i64 (g+1));c (f,h,o,j.1,j.2,d,e)))) (let p:=(Ab .i64 (g+1));c (f,h,p,a,b,d,e)))) (let q:=(Ab .i64 (g+1));c (f,h,q,a,b,d,e)))) (i)) (i)
theorem auf(N:Nat):LB (aaV N) rK (tU N):=λ_ _=>by kernel_rfl
def qv(N:Nat)(c:PMs)(a:List (Int×List aC))(b:Bs)(d:PFl)(e:oK->Ro):Ro:=e (c,d,0,a,b,([]:List (Int×List aC)),[])
def aj2(N:Nat)(c:PMs)(a:List (Int×List aC))(b:Bs)(d:PFl):Ro:=qv N c a b d (λz=>aO N (tU N) z)
theorem awo(N:Nat)(d:PMs)(a:List (Int×List aC))(c:Bs)(f:PFl)(h:Tot (aj2 N d a c f) (λz=>∃g i rest,z.1.dimR=.agg [vF .pfd g,vT i]∧z.2=rest∧agC d a c f (g,i))):∃r,sC d a c f r:=ayH.finP (N:=N) ((bD _ (by kernel_rfl) rfl (λC=>qv N d a c f (λz=>C 1000000 (rK z))) (λC=>by kernel_rfl)).trans (AB (b:=qv N d a c f (λz=>aZ N (aaV N) (rK z))) (by kernel_rfl) (congrArg (qv N d a c f) (funext λz=>aU (rK) (aaV N) (tU N) (auf N) N z)))) h λ_ ⟨g,i,_,e,_,q⟩=>⟨(g,i),e,q⟩
def aiL:aG:=tb_ [] [] [] [asW]
def aj3:IR:=Sq (Sq (.reg [Mv 11 9,Mv 12 1,Ll 13 12,Bi 14 .lss 11 13,Mv 15 14,Gt 15 (.mov 16 0),Gt 15 (.mov 17 1),Gt 15 (.mov 18 9),Gt 15 (.ixa 19 .pval 17 18),Gt 15 (.lde 20 4 true 19),Gt 15 (.lde 21 4 true 6),Gt 15 (.call 22 79 [16,20,21]),Gt 15 (.bin 23 .lss 22 (kI 0)),Pa 24 15 23] [[],[],[1],[0,1,2],rg 0 3,rg 0 4,rg 0 4,rg 0 4,rg 0 4++[6,7],rg 0 4++[6,7,8],rg 0 4,rg 0 10,rg 0 11,rg 0 12]) (Cn 24 .skip (.exit 0))) (.block 1 (Rg [Mv 25 9,Bc 26 .add 25 2,Mv 9 26]))
def aj4:IR:=Rs [Mv 27 1,Mv 28 9,Pp (.subl 29 .pval 27 (some 28) none),Mv 10 29] (Sq (Sq (.reg [Mv 30 9,Mv 31 1,Ll 32 31,Bi 33 .lss 30 32,Mv 34 33,Gt 34 (.mov 35 0),Gt 34 (.mov 36 1),Gt 34 (.mov 37 9),Gt 34 (.ixa 38 .pval 36 37),Gt 34 (.lde 39 4 true 38),Gt 34 (.lde 40 4 true 6),Gt 34 (.call 41 79 [35,39,40]),Gt 34 (.bin 42 .eql 41 (kI 0)),Pa 43 34 42] [[],[],[1],[0,1,2],rg 0 3,rg 0 4,rg 0 4,rg 0 4,rg 0 4++[6,7],rg 0 4++[6,7,8],rg 0 4,rg 0 10,rg 0 11,rg 0 12]) (Cn 43 (Rg [Mv 44 1,Mv 45 9,Bc 46 .add 45 2,Pp (.subl 47 .pval 44 (some 46) none),Mv 10 47]) .skip)) (Sq (.reg [Pp (.bsl 48 .pval [] false),Mv 49 1,Mv 50 9,Pp (.subl 51 .pval 49 none (some 50)),Pp (.app 52 .pval (.tk 48) 51),Ld 53 4 true 6,Ld 54 4 true 7,Pp (.bsl 55 .pval [53,54] true),Pp (.app 56 .pval (.tk 52) 55),Mv 57 10,Pp (.app 58 .pval (.tk 56) 57),Pp (.mov 8 (.tk 58))] [[],[],[],[1,2],rg 0 3,[],[],[5,6],rg 0 7,[],rg 0 9,rg 0 10]) .ret))
def aEf:IR:=Rs [Bx 6 2,Bx 7 3,Pp (.mov 8 (.c (nl .pval)))] (Rs [Mi 9 0] (Sq (.block 0 (.loop [0,1,6,7,9,1000000] 0 aj3)) aj4))
theorem aEg:FnC Tryz.prog aiL [] 0 44 Tryz.f44 aEf fT:=fnC Tryz.func44
def aBq(R:TR)(a:TS):TE:=(bo a [0,1,6,7,9,1000000] 0 (aQ 0 (kseq (R aj4) (fin fT))))
abbrev sG:Type:=(Int×List aC×aC×aC×Int)
def vK:sG->St:=λ(a,b,c,d,e)=>{env:=(vI a::vF .pval b::(U 4 (.ea (enc .pval c)::.ea (enc .pval d)::.undef::vI e::(U 49 [])))),hp:=[]}
def aez(N:Nat):TS->TS:=λa s=>run aiL N aj3 (aBq (run aiL N) a) s
def xW(N:Nat)(e:sG->Ro):sG->Ro:=λ(y,b,c,d,a)=>let D:=(↑(Aa b):Int);cond (decide (a<D)) (chk (ixl a b) (let O:=(Af b (Ad a) (aI .pval));aA (ff y (reP O) (reP c)) (λ(E:Int)=>cond (decide (E<0)) (let J:=(Ab .i64 (a+2));e (y,b,c,d,J)) (chk (decide (0<=a)&&decide (a<=(↑(Aa b):Int))) (let z:=(An (Ad a) (Ao (Aa b) b));let M:=(↑(Aa b):Int);cond (decide (a<M)) (chk (ixl a b) (let H:=(Af b (Ad a) (aI .pval));aA (ff y (reP H) (reP c)) (λ(L:Int)=>cond (L==0) (let B:=(Ab .i64 (a+2));chk (decide (0<=B)&&decide (B<=(↑(Aa b):Int))) (let C:=(An (Ad B) (Ao (Aa b) b));chk (decide (0<=a)&&decide (a<=(↑(Aa b):Int))) (let A:=(An 0 (Ao (Ad a) b));chk (decide ((Aa ([]:List aC)+Aa A)*64<=140737488355328)) (chk (decide ((Aa ([]++A)+Aa ([(reP c),(reP d)]:List aC))*64<=140737488355328)) (let h:=(([]++A)++([(reP c),(reP d)]:List aC));chk (decide ((Aa h+Aa C)*64<=140737488355328)) (some (vO .pval (h++C),[]))))))) (chk (decide (0<=a)&&decide (a<=(↑(Aa b):Int))) (let i:=(An 0 (Ao (Ad a) b));chk (decide ((Aa ([]:List aC)+Aa i)*64<=140737488355328)) (let j:=([]++i);chk (decide ((Aa j+Aa ([(reP c),(reP d)]:List aC))*64<=140737488355328)) (let k:=(j++([(reP c),(reP d)]:List aC));chk (decide ((Aa k+Aa z)*64<=140737488355328)) (some (vO .pval (k++z),[]))))))))) (chk (decide (0<=a)&&decide (a<=(↑(Aa b):Int))) (let l:=(An 0 (Ao (Ad a) b));chk (decide ((Aa ([]:List aC)+Aa l)*64<=140737488355328)) (let m:=([]++l);chk (decide ((Aa m+Aa ([(reP c),(reP d)]:List aC))*64<=140737488355328)) (let n:=(m++([(reP c),(reP d)]:List aC));chk (decide ((Aa n+Aa z)*64<=140737488355328)) (some (vO .pval (n++z),[]))))))))))) (chk (decide (0<=a)&&decide (a<=(↑(Aa b):Int))) (let f:=(An (Ad a) (Ao (Aa b) b));let G:=(↑(Aa b):Int);cond (decide (a<G)) (chk (ixl a b) (let I:=(Af b (Ad a) (aI .pval));aA (ff y (reP I) (reP c)) (λ(F:Int)=>cond (F==0) (let g:=(Ab .i64 (a+2));chk (decide (0<=g)&&decide (g<=(↑(Aa b):Int))) (let o:=(An (Ad g) (Ao (Aa b) b));chk (decide (0<=a)&&decide (a<=(↑(Aa b):Int))) (let p:=(An 0 (Ao (Ad a) b));chk (decide ((Aa ([]:List aC)+Aa p)*64<=140737488355328)) (let q:=([]++p);chk (decide ((Aa q+Aa ([(reP c),(reP d)]:List aC))*64<=140737488355328)) (let r:=(q++([(reP c),(reP d)]:List aC));chk (decide ((Aa r+Aa o)*64<=140737488355328)) (some (vO .pval (r++o),[]))))))) (chk (decide (0<=a)&&decide (a<=(↑(Aa b):Int))) (let s:=(An 0 (Ao (Ad a) b));chk (decide ((Aa ([]:List aC)+Aa s)*64<=140737488355328)) (let t:=([]++s);chk (decide ((Aa t+Aa ([(reP c),(reP d)]:List aC))*64<=140737488355328)) (let u:=(t++([(reP c),(reP d)]:List aC));chk (decide ((Aa u+Aa f)*64<=140737488355328)) (some (vO .pval (u++f),[]))))))))) (chk (decide (0<=a)&&decide (a<=(↑(Aa b):Int))) (let v:=(An 0 (Ao (Ad a) b));chk (decide ((Aa ([]:List aC)+Aa v)*64<=140737488355328)) (let w:=([]++v);chk (decide ((Aa w+Aa ([(reP c),(reP d)]:List aC))*64<=140737488355328)) (let x:=(w++([(reP c),(reP d)]:List aC));chk (decide ((Aa x+Aa f)*64<=140737488355328)) (some (vO .pval (x++f),[]))))))))
theorem ayI(N:Nat):LB (aez N) vK (xW N):=λ_ _=>by kernel_rfl
def uT(N:Nat)(a:Int)(b:List aC)(c d:aC)(e:sG->Ro):Ro:=e (a,b,c,d,0)
def aqg(N:Nat)(a:Int)(b:List aC)(c d:aC):Ro:=uT N a b c d (λz=>aO N (xW N) z)
theorem aBr(N:Nat)(a:Int)(c:List aC)(d f:aC)(h:Tot (aqg N a c d f) (λz=>∃g rest,z.1.dimR=vF .pval g∧z.2=rest∧ajF a c d f (g))):∃r,pi a c d f r:=aEg.finP (N:=N) ((bD _ (by kernel_rfl) rfl (λC=>uT N a c d f (λz=>C 1000000 (vK z))) (λC=>by kernel_rfl)).trans (AB (b:=uT N a c d f (λz=>aZ N (aez N) (vK z))) (by kernel_rfl) (congrArg (uT N a c d f) (funext λz=>aU (vK) (aez N) (xW N) (ayI N) N z)))) h λ_ ⟨g,_,e,_,q⟩=>⟨(g),e,q⟩
def amE:List RV:=[.cell 10 2 true]
abbrev qw:Type:=(List aC×PFl×List aC×Int×List (Int×List aC)×Bs×List (Int×List aC)×Bs)
def ayJ:aG:=tb_ [] [] [] [apy,vf,ajI]
def awp:IR:=Rs [Bx 3 0,Bx 5 2,Pp (.mov 6 (.c (nl .u8))),Mi 7 0] (Rs [Ld 12 2 true 3,Mv 13 1,Ca 14 41 [12,13],Mv 11 14,Ex_ 15 0 11,Ex_ 16 1 11,Pp (.alr 8 3),Fz 8 3 15,Mv 9 16] (Sq (Rs [Mv 17 9,Un 18 17] (Cn 18 (Rs [Pp (.mov 6 (.c (nl .u8))),Mi 7 1] .ret) .skip)) (Sq (Rs [Ld 19 2 true 3,Mv 20 1,Ld 21 2 true 5,Ca 22 25 [19,20,21],Un 23 22] (Cn 23 (Rs [Pp (.mov 6 (.c (nl .u8))),Mi 7 7] .ret) .skip)) (Rs [Ld 24 2 true 3,Mv 25 1,Ld 26 2 true 5,Ca 27 50 [24,25,26],Mv 10 27] (Sq (Rs [Mv 28 10,Pp (.lens 29 28),Bc 30 .gtr 29 5000] (Cn 30 (Rs [Pp (.mov 6 (.c (nl .u8))),Mi 7 3] .ret) .skip)) (Rs [Mv 31 10,Pp (.s2b 32 31),Mv 6 32,Mi 7 0] .ret))))))
def ah1:List RV:=[.t 6,.t 7]
theorem awq:FnC Tryz.prog ayJ [] 0 15 Tryz.f15 awp ah1:=fnC Tryz.func15
def ah2(N:Nat)(a:List PMs)(b:List PEn)(f:Bs)(c:List (Int×List aC))(d:Bs):Ro:=let e:=λh i=>(some (.tup [vF .u8 h,vI i],[]):Ro);aA (gw a b f) (λj=>cond (!j.2) (e [] 1) (aA (iB a b f c d) (λ(k:Bool)=>cond (!k) (e [] 7) (aA (jM a b f c d) (λ(g:Bs)=>let l:=(↑(Aa g):Int);cond (decide (5000<l)) (e [] 3) (e g 0))))))
def ah3(N:Nat)(a:List PMs)(b:List PEn)(e:Bs)(c:List (Int×List aC))(d:Bs):Ro:=ah2 N a b e c d
theorem aug(N:Nat)(a:List PMs)(b:List PEn)(i:Bs)(c:List (Int×List aC))(d:Bs)(h:Tot (ah3 N a b i c d) (λz=>∃f g rest,z.1.dimR=.tup [vF .u8 f,vI g]∧z.2=rest∧aeY a b i c d (f,g))):∃r,qk a b i c d r:=awq.finP (N:=N) (by kernel_rfl) h λ_ ⟨f,g,_,e,_,q⟩=>⟨(f,g),e,q⟩
def acB:aG:=tb_ [] [] [] [vf,aoK,av4]
def afa:IR:=Sq (Rs [Mv 19 10,Fa 20 0 5,Lq 21 20,Ll 22 21,Bi 23 .lss 19 22] (Cn 23 .skip (.exit 0))) (Sq (.block 1 (Sq (.reg [Ld 27 3 true 7,Fa 28 0 5,Lq 29 28,Mv 30 10,Ix 31 .pfd 29 30,Fa 32 0 31,Fo [] [] (.ld 33 1 false false 32),Ca 34 52 [27,33],Mv 26 34,Ex_ 35 0 26,Ex_ 36 1 26,Pp (.alr 11 8),Fz 11 8 35,Mv 12 36] [[],[],[1],[],[1,2,3],rg 1 4,rg 1 5,rg 0 6,rg 0 7,rg 0 8,rg 0 8,[],rg 0 9++[11],rg 0 12]) (.reg [Mv 37 9,Ld 38 2 true 3,Ld 39 8 true 11,Fa 40 0 5,Lq 41 40,Mv 42 10,Ix 43 .pfd 41 42,Fa 44 1 43,Fo [] [] (.ld 45 1 false false 44),Ca 46 54 [38,39,45],Bi 47 .add 37 46,Mv 9 47] [[],[],[],[],[3],[],[3,4,5],rg 3 6,rg 3 7,rg 1 8,rg 0 9,rg 0 10]))) (Rg [Mv 24 10,Bc 25 .add 24 1,Mv 10 25]))
def afb:IR:=Rs [Mv 48 9,Fa 49 1 5,Lq 50 49,Bi 51 .add 48 50,Mv 6 51] .ret
def awr:IR:=Rs [Bx 3 0,Bx 5 2,Ms 6 []] (Rs [Ld 14 2 true 3,Mv 15 1,Ca 16 41 [14,15],Mv 13 16,Ex_ 17 0 13,Ex_ 18 1 13,Pp (.alr 7 3),Fz 7 3 17,Mv 8 18] (Rs [Ms 9 []] (Sq (Rs [Mi 10 0] (.block 0 (.loop [3,5,7,9,10,1000000] 0 afa))) afb)))
theorem aws:FnC Tryz.prog acB [] 0 50 Tryz.f50 awr aS:=fnC Tryz.func50
def auh(R:TR)(a:TS):TE:=(bo a [3,5,7,9,10,1000000] 0 (aQ 0 (kseq (R afb) (fin aS))))
abbrev nr:Type:=(List PMs×List PEn×List (Int×List aC)×Bs×PMs×Bs×Int)
def pK:nr->St:=λ(a,b,c,d,e,f,g)=>{env:=(U 3 (.ea [vF .pms a,vF .pen b]::.undef::.ea [vF .pfd c,vT d]::.undef::.ea (enc .pms e)::.undef::vT f::vI g::(U 41 []))),hp:=[]}
def yu(N:Nat):TS->TS:=λa s=>run acB N afa (auh (run acB N) a) s
def rL(N:Nat)(d:nr->Ro):nr->Ro:=λ(e,f,a,c,h,g,b)=>let j:=(↑(Aa a):Int);cond (decide (b<j)) (chk (ixl b a) (let k:=(Af a (Ad b) (aI .pfd));aA (mU h k.1) (λl=>chk (ixl b a) (let m:=(Af a (Ad b) (aI .pfd));aA (tP e f l.1 m.2) (λ(i:Bs)=>chk (decide (Aa g+Aa i<=9223372036854775807)) (let n:=(Ab .i64 (b+1));d (e,f,a,c,h,(g++i),n))))))) (chk (decide (Aa g+Aa c<=9223372036854775807)) (some (vT (g++c),[])))
theorem ar4(N:Nat):LB (yu N) pK (rL N):=λ_ _=>by kernel_rfl
def oL(N:Nat)(a:List PMs)(b:List PEn)(e:Bs)(c:List (Int×List aC))(d:Bs)(f:nr->Ro):Ro:=aA (gw a b e) (λg=>f (a,b,c,d,g.1,[],0))
def ah4(N:Nat)(a:List PMs)(b:List PEn)(e:Bs)(c:List (Int×List aC))(d:Bs):Ro:=oL N a b e c d (λz=>aO N (rL N) z)
theorem aui(N:Nat)(a:List PMs)(c:List PEn)(g:Bs)(d:List (Int×List aC))(f:Bs)(h:Tot (ah4 N a c g d f) (λz=>∃i rest,z.1.dimR=vT i∧z.2=rest∧aeX a c g d f (i))):∃r,jM a c g d f r:=aws.finP (N:=N) ((bD _ (by kernel_rfl) rfl (λC=>oL N a c g d f (λz=>C 1000000 (pK z))) (λC=>by kernel_rfl)).trans (AB (b:=oL N a c g d f (λz=>aZ N (yu N) (pK z))) (by kernel_rfl) (congrArg (oL N a c g d f) (funext λz=>aU (pK) (yu N) (rL N) (ar4 N) N z)))) h λ_ ⟨i,_,e,_,q⟩=>⟨(i),e,q⟩
def iN:aG:=tb_ [] [] [] [akO,wH,atP,aHp,ayn,aoM]
def adV:IR:=Sq (Rs [Mv 16 8,Bc 17 .add 16 1,Mv 18 2,Ll 19 18,Bi 20 .lss 17 19] (Cn 20 .skip (.exit 0))) (Sq (.block 1 (Sq (.reg [Ld 23 2 true 3,Fa 24 5 4,Lq 25 24,Mv 26 2,Mv 27 8,Ix 28 .pval 26 27,Ld 29 4 true 28,Ca 30 99 [23,kI 1,25,kS [],29],Ld 31 2 true 3,Fa 32 3 4,Lq 33 32,Fa 34 4 4,Lq 35 34,Mv 36 2,Mv 37 8,Bc 38 .add 37 1,Ix 39 .pval 36 38,Ld 40 4 true 39,Ca 41 99 [31,kI 2,33,35,40],Bi 42 .add 30 41,Mv 9 42] [[],[],[1],[],[],[3,4],[3,4,5],rg 0 6,[],[],[9],[],[11],[],[],[14],[13,14,15],rg 13 16,rg 0 17,rg 0 18,rg 0 19]) (Rg [Mv 43 7,Fa 44 0 4,Lq 45 44,Mv 46 9,Pp (.bld 47 [vI 0,vI 0,vU 0,vS,vS] [(0,1,45),(1,1,kI 2),(3,1,46)]),Ca 48 20 [47],Bi 49 .add 43 48,Mv 7 49]))) (Rg [Mv 21 8,Bc 22 .add 21 2,Mv 8 22]))
def adW:IR:=Rs [Mv 50 7,Mv 6 50] .ret
def abQ:IR:=Sq (Rs [Mv 53 10,Mv 54 2,Ll 55 54,Bi 56 .lss 53 55] (Cn 56 .skip (.exit 2))) (Sq (.block 3 (Sq (.reg [Fa 59 3 4,Lq 60 59,Mv 61 2,Mv 62 10,Ix 63 .pval 61 62,Fa 64 0 63,Fo [] [] (.ld 65 1 false false 64),Ca 66 100 [60,65],Mv 11 66] [[],[0],[],[],[2,3],[2,3,4],rg 2 5,rg 0 6,rg 0 7]) (Rs [Fa 67 3 4,Lq 68 67,Ca 69 53 [68]] (.block 4 (Rs [Bc 75 .eql 69 0,Mv 74 75] (Cn 74 (Rg [Mv 76 7,Mv 77 11,Ca 78 58 [77],Bi 79 .add 76 78,Mv 7 79]) (Rs [Bc 81 .eql 69 1,Mv 80 81] (Cn 80 (Rg [Mv 82 7,Mv 83 11,Ca 84 59 [83,kI 8],Bi 85 .add 82 84,Mv 7 85]) (Rg [Mv 70 7,Mv 71 11,Ca 72 59 [71,kI 4],Bi 73 .add 70 72,Mv 7 73]))))))))) (Rg [Mv 57 10,Bc 58 .add 57 1,Mv 10 58]))
def abR:IR:=Rs [Fa 86 0 4,Lq 87 86,Mv 88 7,Pp (.bld 89 [vI 0,vI 0,vU 0,vS,vS] [(0,1,87),(1,1,kI 2),(3,1,88)]),Ca 90 20 [89],Mv 6 90] .ret
def abS:IR:=Sq (Rs [Mv 91 12,Mv 92 2,Ll 93 92,Bi 94 .lss 91 93] (Cn 94 .skip (.exit 5))) (Sq (.block 6 (.reg [Mv 97 7,Ld 98 2 true 3,Fa 99 0 4,Lq 100 99,Fa 101 3 4,Lq 102 101,Fa 103 4 4,Lq 104 103,Mv 105 2,Mv 106 12,Ix 107 .pval 105 106,Ld 108 4 true 107,Ca 109 99 [98,100,102,104,108],Bi 110 .add 97 109,Mv 7 110] [[],[],[],[2],[],[4],[],[6],[],[],[8,9],[8,9,10],rg 1 11,rg 0 12,rg 0 13])) (Rg [Mv 95 12,Bc 96 .add 95 1,Mv 12 96]))
def abT:IR:=Rs [Mv 111 7,Mv 6 111] .ret
def abU:IR:=Sq (Rs [Mi 12 0] (.block 5 (.loop [2,3,4,7,12,1000002] 0 abS))) abT
def abV:IR:=Sq (Rs [Fa 51 6 4,Lq 52 51] (Cn 52 (Sq (Rs [Mi 10 0] (.block 2 (.loop [2,4,7,10,1000001] 0 abQ))) abR) .skip)) abU
def auj:IR:=Rs [Bx 3 0,Bx 4 1,Ms 6 []] (Rs [Ms 7 []] (Sq (Rs [Fa 13 2 4,Lq 14 13,Bc 15 .eql 14 3] (Cn 15 (Sq (Rs [Mi 8 0] (.block 0 (.loop [2,3,4,7,8,1000000] 0 adV))) adW) .skip)) abV))
theorem auk:FnC Tryz.prog iN [] 0 54 Tryz.f54 auj aS:=fnC Tryz.func54
def ar5(R:TR)(a:TS):TE:=(bo a [2,3,4,7,8,1000000] 0 (aQ 0 (kseq (R adW) (kseq (R abV) (fin aS)))))
abbrev dM:Type:=(List aC×List PMs×List PEn×PFl×Bs×Int)
def oM:dM->St:=λ(a,b,c,d,e,f)=>{env:=(.undef::.undef::vF .pval a::.ea [vF .pms b,vF .pen c]::.ea (enc .pfl d)::.undef::.undef::vT e::vI f::(U 103 [])),hp:=[]}
def wn(N:Nat):TS->TS:=λa s=>run iN N adV (ar5 (run iN N) a) s
def pL(N:Nat)(c:dM->Ro):dM->Ro:=λ(d,a,b,e,g,f)=>let l:=(Ab .i64 (f+1));let m:=(↑(Aa d):Int);cond (decide (l<m)) (chk (ixl f d) (let n:=(Af d (Ad f) (aI .pval));aA (jN a b 1 e.key [] (reP n)) (λ(h:Bs)=>let i:=(Ab .i64 (f+1));chk (ixl i d) (let o:=(Af d (Ad i) (aI .pval));aA (jN a b 2 e.kind e.typ (reP o)) (λ(j:Bs)=>chk (decide (Aa h+Aa j<=9223372036854775807)) (aA (q8 ⟨e.num,2,0,(h++j),[]⟩) (λ(k:Bs)=>chk (decide (Aa g+Aa k<=9223372036854775807)) (let p:=(Ab .i64 (f+2));c (d,a,b,e,(g++k),p))))))))) (some (vT g,[]))
theorem aqh(N:Nat):LB (wn N) oM (pL N):=λ_ _=>by kernel_rfl
def ar6(R:TR)(a:TS):TE:=(bo a [2,4,7,10,1000001] 0 (aQ 2 (kseq (R abR) (kseq (R abU) (fin aS)))))
abbrev lR:Type:=(List aC×PFl×Bs×Int)
def oN:lR->St:=λ(a,b,c,d)=>{env:=(.undef::.undef::vF .pval a::.undef::.ea (enc .pfl b)::.undef::.undef::vT c::.undef::.undef::vI d::(U 101 [])),hp:=[]}
def wo(N:Nat):TS->TS:=λa s=>run iN N abQ (ar6 (run iN N) a) s
def pM(N:Nat)(a:lR->Ro):lR->Ro:=λ(d,e,c,b)=>let m:=(↑(Aa d):Int);cond (decide (b<m)) (chk (ixl b d) (let o:=(Af d (Ad b) (aI .pval));aA (yO e.kind o.n) (λ(f:Int)=>aA (j3 e.kind) (λ(i:Int)=>cond (i==0) (aA (yh f) (λ(j:Bs)=>chk (decide (Aa c+Aa j<=9223372036854775807)) (let p:=(Ab .i64 (b+1));a (d,e,(c++j),p)))) (cond (i==1) (aA (afx f 8) (λ(k:Bs)=>chk (decide (Aa c+Aa k<=9223372036854775807)) (let g:=(Ab .i64 (b+1));a (d,e,(c++k),g)))) (aA (afx f 4) (λ(l:Bs)=>chk (decide (Aa c+Aa l<=9223372036854775807)) (let h:=(Ab .i64 (b+1));a (d,e,(c++l),h))))))))) (aA (q8 ⟨e.num,2,0,c,[]⟩) (λ(q:Bs)=>some (vT q,[])))
theorem aqi(N:Nat):LB (wo N) oN (pM N):=λ_ _=>by kernel_rfl
def ar7(R:TR)(a:TS):TE:=(bo a [2,3,4,7,12,1000002] 0 (aQ 5 (kseq (R abT) (fin aS))))
def oO:dM->St:=λ(a,b,c,d,e,f)=>{env:=(.undef::.undef::vF .pval a::.ea [vF .pms b,vF .pen c]::.ea (enc .pfl d)::.undef::.undef::vT e::(U 4 (vI f::(U 99 [])))),hp:=[]}
def wq(N:Nat):TS->TS:=λa s=>run iN N abS (ar7 (run iN N) a) s
def pN(N:Nat)(a:dM->Ro):dM->Ro:=λ(f,c,d,g,h,b)=>let i:=(↑(Aa f):Int);cond (decide (b<i)) (chk (ixl b f) (let j:=(Af f (Ad b) (aI .pval));aA (jN c d g.num g.kind g.typ (reP j)) (λ(e:Bs)=>chk (decide (Aa h+Aa e<=9223372036854775807)) (let k:=(Ab .i64 (b+1));a (f,c,d,g,(h++e),k))))) (some (vT h,[]))
theorem aqj(N:Nat):LB (wq N) oO (pN N):=λ_ _=>by kernel_rfl
def nt(N:Nat)(a:List PMs)(b:List PEn)(c:PFl)(d:List aC)(e:dM->Ro)(f:lR->Ro)(g:dM->Ro):Ro:=cond (c.label==3) (e (d,a,b,c,[],0)) (cond c.packed (f (d,c,[],0)) (g (d,a,b,c,[],0)))
def agR(N:Nat)(a:List PMs)(b:List PEn)(c:PFl)(d:List aC):Ro:=nt N a b c d (λz=>aO N (pL N) z) (λz=>aO N (pM N) z) (λz=>aO N (pN N) z)
theorem ar8(N:Nat)(a:List PMs)(c:List PEn)(d:PFl)(f:List aC)(h:Tot (agR N a c d f) (λz=>∃g rest,z.1.dimR=vT g∧z.2=rest∧adJ a c d f (g))):∃r,tP a c d f r:=auk.finP (N:=N) ((bD _ (by kernel_rfl) rfl (λC=>nt N a c d f (λz=>C 1000000 (oM z)) (λz=>C 1000001 (oN z)) (λz=>C 1000002 (oO z))) (λC=>by kernel_rfl)).trans (AB (b:=nt N a c d f (λz=>aZ N (wn N) (oM z)) (λz=>aZ N (wo N) (oN z)) (λz=>aZ N (wq N) (oO z))) (by kernel_rfl) (congr (congr (congrArg (nt N a c d f) (funext λz=>aU (oM) (wn N) (pL N) (aqh N) N z)) (funext λz=>aU (oN) (wo N) (pM N) (aqi N) N z)) (funext λz=>aU (oO) (wq N) (pN N) (aqj N) N z)))) h λ_ ⟨g,_,e,_,q⟩=>⟨(g),e,q⟩
def ayK:aG:=tb_ [] [] [] [akO,ajI,wH,aoM]
def awt:IR:=Rs [Bx 5 0,Bx 9 4,Ms 10 []] (Sq (.reg [Mv 12 1,Mv 13 2,Ca 14 53 [13],Mv 15 2,Fa 16 0 9,Lq 17 16,Ca 18 100 [15,17],Fa 19 1 9,Lq 20 19,Pp (.bld 21 [vI 0,vI 0,vU 0,vS,vS] [(0,1,12),(1,1,14),(2,1,18),(3,1,20)]),Pp (.new 11 [vI 0,vI 0,vU 0,vS,vS]),Fo [] [0] (.st none 5 11 21)] [[],[],[1],[],[],[4],rg 1 5,[],[7],rg 0 8,[],rg 0 10]) (Sq (Rs [Mv 22 2,Bc 23 .eql 22 16] (Cn 23 (Rg [Ld 24 2 true 5,Mv 25 3,Fa 26 2 9,Ld 27 2 true 26,Ca 28 50 [24,25,27],Fa 29 3 11,Sv 1 29 28]) .skip)) (Rs [Pp (.ld 30 5 true false 11),Ca 31 20 [30],Mv 10 31] .ret)))
def lq:List RV:=[.t 10]
theorem awu:FnC Tryz.prog ayK [] 0 99 Tryz.f99 awt lq:=fnC Tryz.func99
def ah5(N:Nat)(a:List PMs)(b:List PEn)(f g:Int)(j:Bs)(c:aC):Ro:=let h:=λk l m o=>(some (vT k,[some [vI f,vI l,vU m,vT o,vT []]]):Ro);aA (j3 g) (λ(d:Int)=>aA (yO g c.n) (λ(e:Int)=>cond (g==16) (aA (jM a b j c.fs c.rest) (λ(i:Bs)=>aA (q8 ⟨f,d,e,i,[]⟩) (λ(p:Bs)=>h p d e i))) (aA (q8 ⟨f,d,e,c.s,[]⟩) (λ(q:Bs)=>h q d e c.s))))
def ah6(N:Nat)(a:List PMs)(b:List PEn)(c d:Int)(e:Bs)(f:aC):Ro:=ah5 N a b c d e f
theorem aul(N:Nat)(a:List PMs)(b:List PEn)(d f:Int)(g:Bs)(i:aC)(h:Tot (ah6 N a b d f g i) (λz=>∃c rest,z.1.dimR=vT c∧z.2=rest∧aeW a b d f g i (c))):∃r,jN a b d f g i r:=awu.finP (N:=N) (by kernel_rfl) h λ_ ⟨c,_,e,_,q⟩=>⟨(c),e,q⟩
section
variable{Q:V×List aK->Prop}
theorem aEh(k:Int):∃r,gr k r:=by
 apply ap8 1;unfold ae7 ae6
 repeat' (first|(with_reducible refine aB ?_ ?_<;>(intro a;(try simp only[bnl] at a);(try revert a;intro _)))|with_reducible refine aD ?_ ?_|with_reducible refine aE ?_|fail)
 all_goals exact⟨_,_,rfl,rfl,by unfold s9 aiG;simp_all⟩
theorem aEi{k:Int}{K:Bool->Ro}(a:Tot (K (aiG k)) Q):Tot (aA (gr k) K) Q:=aL (aEh k) (λ_ h=>h.2) a
def CmQ(k:Int)(a b:aC):V×List aK->Prop:=λz=>∃(c:Int)(rest:List aK),z.1.dimR=.int .i64 c∧z.2=rest∧c=nn k a b
theorem aL0(k:Int)(a b:aC):∃r,ff k a b r:=by
 apply aBe 1;show Tot _ (CmQ k a b);unfold aqa ap9;dsimp only;have c:∀n:Int,n=nn k a b->Tot (some ((.int .i64 n,[]):V×List aK)) (CmQ k a b):=λn h=>aE ⟨_,_,rfl,rfl,h⟩
 have t:k=14∨k=15->k≠16->Tot (cond (A2 a.s b.s) (some (.int .i64 (-1),[])) (cond (!(A2 a.s b.s||decide (a.s=b.s))) (some (.int .i64 1,[])) (some (.int .i64 0,[])))) (CmQ k a b):=by
  intro h f;have e:nn k a b=if A2 a.s b.s then -1 else if a.s=b.s then 0 else 1:=by unfold nn aKe;rw[if_neg f,if_pos h]
  refine aB (λi=>c _ (by rw[e,if_pos i])) (λi=>aB (λj=>c _ ?_) (λj=>c _ ?_));·simp only[i,CE,BE,decide_eq_false_iff_not] at j;rw[e,if_neg (by simp[i]),if_neg j]
  ·simp only[i,CE,DQ,decide_eq_true_eq] at j;rw[e,if_neg (by simp[i]),if_pos j]
 refine aB (λh=>c _ ?_) (λf=>?_)
 ·have h:k=16:=by simpa using h
  simp[nn,h]
 have f:k≠16:=by simpa using f
 refine aB (λh=>t (.inl (by simpa using h)) f) (λu=>aB (λh=>t (.inr (by simpa using h)) f) (λv=>?_));have q:¬(k=14∨k=15):=by rintro(rfl|rfl)<;>simp at u v
 have l:nn k a b=if a.n=b.n then 0 else if aiG k then (if Ab .i64 a.n<Ab .i64 b.n then -1 else 1) else if a.n<b.n then -1 else 1:=by unfold nn;rw[if_neg f,if_neg q]
 refine aB (λh=>c _ ?_) (λp=>aEi (aB (λd=>aB (λh=>c _ ?_) (λh=>aEi (aB (λm=>?_) (λ_=>c _ ?_)))) (λd=>aEi (aB (λ_=>aB (λh=>c _ ?_) (λh=>c _ ?_)) (λm=>?_)))));·rw[l,if_pos (by simpa using h)]
 ·rw[l,if_neg (by simpa using p),if_pos d,if_pos (of_decide_eq_true h)]
 ·rw[d] at m;simp at m
 ·rw[l,if_neg (by simpa using p),if_pos d,if_neg (of_decide_eq_false h)]
 ·rw[l,if_neg (by simpa using p),if_neg (by simp[d]),if_pos (of_decide_eq_true h)]
 ·rw[l,if_neg (by simpa using p),if_neg (by simp[d]),if_neg (of_decide_eq_false h)]
 ·rw[d] at m;simp at m
theorem aEj{k:Int}{a b:aC}{K:Int->Ro}(c:Tot (K (nn k a b)) Q):Tot (aA (ff k a b) K) Q:=aL (aL0 k a b) (λ_ h=>h.2) c
theorem aKF(k:Int)(v:aC):∃r,np k v r:=by
 apply ayz 1;unfold amB amA
 repeat' (first|(with_reducible refine aB ?_ ?_<;>(intro a;(try simp only[bnl] at a);(try revert a;intro _)))|with_reducible refine aD ?_ ?_|with_reducible refine aE ?_|fail)
 all_goals exact⟨_,_,rfl,rfl,by unfold aaG ry;simp_all⟩
theorem aL1{k:Int}{v:aC}{K:Bool->Ro}(a:Tot (K (ry k v)) Q):Tot (aA (np k v) K) Q:=aL (aKF k v) (λ_ h=>h.2) a
theorem aL2(f:PFl):∃r,gq f r:=by
 apply aqb 1;unfold ae9 ae8
 repeat' (first|(with_reducible refine aB ?_ ?_<;>(intro a;(try simp only[bnl] at a);(try revert a;intro _)))|with_reducible refine aD ?_ ?_|with_reducible refine aE ?_|fail)
 all_goals exact⟨_,_,rfl,rfl,by unfold ta mo;simp_all⟩
theorem aEk{f:PFl}{K:Bool->Ro}(a:Tot (K (mo f)) Q):Tot (aA (gq f) K) Q:=aL (aL2 f) (λ_ h=>h.2) a
theorem aJn(f:PFl)(w:Int):∃r,sB f w r:=by
 apply awj 1;unfold ajY ajX
 repeat' (first|(with_reducible refine aB ?_ ?_<;>(intro a;(try simp only[bnl] at a);(try revert a;intro _)))|with_reducible refine aD ?_ ?_|with_reducible refine aE ?_|(refine aL (acw _) (λ_ h=>h.2) ?_)|fail)
 all_goals exact⟨_,_,rfl,rfl,by unfold yn sA;grind⟩
theorem aKG{f:PFl}{w:Int}{K:Bool->Ro}(a:Tot (K (sA f w)) Q):Tot (aA (sB f w) K) Q:=aL (aJn f w) (λ_ h=>h.2) a
theorem aL3(fs:List (Int×List aC))(rest:Bs)(n:Int)(h:fs.length<=100000000000):∃r,wY fs rest n r:=by
 obtain⟨N,v⟩:∃N:Nat,N=200000000000:=⟨_,rfl⟩
 apply aBn N;unfold aqe uR;refine aW (λ(y:sF)=>match y with|(p,c,t,k)=>(p,c,t)=(n,fs,rest)∧0<=k∧k<=fs.length∧qi (fs.drop k.toNat) n=qi fs n) (λy=>(fs.length-y.2.2.2).toNat) ?_ _ _ ⟨rfl,Av _,by omega,rfl⟩ (by dsimp only;omega);rintro j ⟨p,c,t,k⟩ ⟨q,d,w,b⟩ m;cases q;dsimp only at m;unfold xU;dsimp only;refine aB (λa=>?_) (λa=>?_)
 ·have a:=of_decide_eq_true a;have e:=ixt (l:=fs) ⟨d,a⟩;rw[dm (aI .pfd) d a] at b;obtain⟨f,u⟩:∃f,f=Af fs k.toNat (aI .pfd):=⟨_,rfl⟩
  rw[<-u] at b ⊢;refine aD e (aB (λi=>aD e (aE ⟨f.2,true,_,rfl,rfl,?_⟩)) (λi=>?_));·show _=qi fs n;rw[<-b];simp only[qi,Cl,i]
  ·rw[cu d (by omega)];refine m _ ⟨rfl,by first|omega|(dsimp only;omega),by first|omega|(dsimp only;omega),?_⟩ (by first|omega|(dsimp only;omega));rw[<-b];simp only[qi,Cl,i]
 ·have a:=of_decide_eq_false a;rw[dP a] at b;exact aE ⟨[],false,_,rfl,rfl,b⟩
theorem aNn{fs:List (Int×List aC)}{rest:Bs}{n:Int}{K:List aC×Bool->Ro}(h:fs.length<=100000000000)(a:Tot (K (qi fs n)) Q):Tot (aA (wY fs rest n) K) Q:=aL (aL3 fs rest n h) (λ_ h=>h.2) a
def StQ(fs:List (Int×List aC))(rest:Bs)(n:Int)(l:List aC):V×List aK->Prop:=λz=>∃(a:List (Int×List aC))(b:Bs)(r:List aK),z.1.dimR=.agg [.sl .pfd (.may false) a,.str b]∧z.2=r∧(a,b)=(ee fs n l,rest)
theorem aq7(n:Int)(l:List aC)(r:List (Int×List aC))(h:0<(l.length:Int)):qh n l r=(n,l)::r:=by unfold qh;rw[if_neg (by intro e;subst e;simp at h)]
theorem aKH(n:Int)(l:List aC)(r:List (Int×List aC))(h:¬0<(l.length:Int)):qh n l r=r:=by unfold qh;rw[if_pos (Ea.1 (by omega))]
theorem aL4(fs:List (Int×List aC))(rest:Bs)(n:Int)(l:List aC)(h:fs.length<=100000000000):∃r,wZ fs rest n l r:=by
 obtain⟨N,J⟩:∃N:Nat,N=200000000000:=⟨_,rfl⟩
 apply aBp N;show Tot _ (StQ fs rest n l);unfold aqf uS;refine aW (λ(y:fR)=>match y with|(F,G,k,v,E,a,b)=>(F,G,v,E,a,b)=(n,l,fs,rest,[],[])∧0<=k∧k<=fs.length∧ee fs n l=fs.take k.toNat++ee (fs.drop k.toNat) n l) (λy=>(fs.length-y.2.2.1).toNat) ?_ _ _ ⟨rfl,Av _,by omega,rfl⟩ (by dsimp only;omega);rintro B ⟨F,G,k,v,E,a,b⟩ ⟨q,j,L,d⟩ D;cases q;dsimp only at D;unfold xV;dsimp only;have w:=acx fs k.toNat;have A:(decide (0<=k)&&decide (k<=(↑(Aa fs):Int)))=true:=by simp only[Ac,decide_eq_true_eq];omega
 have m:∀(g:List (Int×List aC))(o:List aK),g=ee fs n l->Tot (some ((.agg [.sl .pfd (.may false) g,.str rest],o):V×List aK)) (StQ fs rest n l):=λg o e=>aE ⟨_,_,_,rfl,rfl,by rw[e]⟩
 have fin:∀r:List (Int×List aC),r.length<=fs.length->ee fs n l=fs.take k.toNat++qh n l r->Tot (chk ((decide (0<=k)&&decide (k<=(↑(Aa fs):Int)))) (chk (decide ((Aa ([]:List (Int×List aC))+Aa (An 0 (Ao (Ad k) fs)))*32<=140737488355328)) (cond (decide (0<(↑(Aa l):Int))) (chk (decide ((Aa (([]:List (Int×List aC))++(An 0 (Ao (Ad k) fs)))+Aa ([⟨n,l⟩]:List (Int×List aC)))*32<=140737488355328)) (chk (decide ((Aa ((([]:List (Int×List aC))++(An 0 (Ao (Ad k) fs)))++([⟨n,l⟩]:List (Int×List aC)))+Aa r)*32<=140737488355328)) (some (.agg [.sl .pfd (.may false) (((([]:List (Int×List aC))++(An 0 (Ao (Ad k) fs)))++([⟨n,l⟩]:List (Int×List aC)))++r),.str rest],[some [.sl .pfd .own (((([]:List (Int×List aC))++(An 0 (Ao (Ad k) fs)))++([⟨n,l⟩]:List (Int×List aC)))++r),.str rest],some [.sl .pfd (.may false) (((([]:List (Int×List aC))++(An 0 (Ao (Ad k) fs)))++([⟨n,l⟩]:List (Int×List aC)))++r),.str rest]])))) (chk (decide ((Aa (([]:List (Int×List aC))++(An 0 (Ao (Ad k) fs)))+Aa r)*32<=140737488355328)) (some (.agg [.sl .pfd (.may false) ((([]:List (Int×List aC))++(An 0 (Ao (Ad k) fs)))++r),.str rest],[some [.sl .pfd .own ((([]:List (Int×List aC))++(An 0 (Ao (Ad k) fs)))++r),.str rest],some [.sl .pfd (.may false) ((([]:List (Int×List aC))++(An 0 (Ao (Ad k) fs)))++r),.str rest]])))))) (StQ fs rest n l):=by
  intro r I e;refine aD A (aD (decide_eq_true (by simp only[Ak,Al] at w ⊢;omega)) (aB (λz=>aD (decide_eq_true (by simp only[Ak,Ai,Al] at w ⊢;omega)) (aD (decide_eq_true (by simp only[Ak,Ai,Al] at w ⊢;omega)) (m _ _ ?_))) (λz=>aD (decide_eq_true (by simp only[Ak,Ai,Al] at w ⊢;omega)) (m _ _ ?_))));·rw[e,aq7 _ _ _ (of_decide_eq_true z)];simp
  ·rw[e,aKH _ _ _ (of_decide_eq_false z)];simp
 refine aB (λc=>?_) (λc=>?_)
 ·have i:=c;have c:=of_decide_eq_true c;have e:=ixt (l:=fs) ⟨j,c⟩;rw[dm (aI .pfd) j c] at d;have t:=sU (aI .pfd) j c;obtain⟨f,C⟩:∃f,f=Af fs k.toNat (aI .pfd):=⟨_,rfl⟩
  rw[<-C] at d t ⊢;simp only[ee] at d;refine aD e (aB (λu=>?_) (λu=>?_));·rw[cu j (by omega)];refine D _ ⟨rfl,by first|omega|(dsimp only;omega),by first|omega|(dsimp only;omega),?_⟩ (by first|omega|(dsimp only;omega));dsimp only;rw[d,if_pos (of_decide_eq_true u),t,AP];rfl
  ·have u:=of_decide_eq_false u;rw[if_neg u] at d;have H:=lE fs k.toNat;refine aD A (aB (λ_=>aD e (aB (λx=>?_) (λx=>?_))) (λp=>by rw[i] at p;simp at p));·rw[cu j (by omega)];refine aD (by simp only[Ac,decide_eq_true_eq];omega) (fin _ (lE fs _) ?_);rw[d,if_pos (by simpa using x),AZ]
   ·refine fin _ H ?_;rw[d,if_neg (by simpa using x),AZ,dm (aI .pfd) j c,<-C]
 ·have i:=c;have c:=of_decide_eq_false c;rw[dP c] at d;simp only[ee] at d;refine aD A (aB (λp=>by rw[i] at p;simp at p) (λ_=>fin _ (lE fs _) ?_));rw[d,AZ,dP c]
theorem aNo{fs:List (Int×List aC)}{rest:Bs}{n:Int}{l:List aC}{K:List (Int×List aC)×Bs->Ro}(h:fs.length<=100000000000)(a:Tot (K (ee fs n l,rest)) Q):Tot (aA (wZ fs rest n l) K) Q:=aL (aL4 fs rest n l h) (λ_ h=>h.2) a
theorem aum(n:Int):∀fs:List (Int×List aC),(ee fs n []).length<=fs.length
 | []=>by simp[ee,qh]
 |x::r=>by
  have:=aum n r;simp only[ee,qh,if_true];split;·simp only[Ai];omega
  ·split<;>simp
theorem aGH(f:PFl):∀(p:List PFl)(fs:List (Int×List aC)),(alR p fs f).length<=fs.length
 | [],fs=>by simp[alR]
 |x::r,fs=>by
  simp only[alR];refine A7 (aGH f r _) ?_;split;·exact aum _ _
  ·exact Ap _
theorem aHO(p:PMs)(fs:List (Int×List aC))(f:PFl):(jt p fs f).length<=fs.length:=by
 unfold jt;split;·exact aGH _ _ _
 ·exact Ap _
theorem aJo(p:PMs)(fs:List (Int×List aC))(rest:Bs)(f:PFl)(h:fs.length<=100000000000)(hp:p.fields.length<=1000):∃r,sC p fs rest f r:=by
 obtain⟨N,E⟩:∃N:Nat,N=2000:=⟨_,rfl⟩
 apply awo N;unfold aj2 qv;refine aW (λ(y:oK)=>match y with|(B,C,k,g,A,a,b)=>(B,C,A,a,b)=(p,f,rest,[],[])∧0<=k∧k<=p.fields.length∧g.length<=fs.length∧(if 0<f.oneof then alR (p.fields.drop k.toNat) g f else g)=jt p fs f) (λy=>(p.fields.length-y.2.2.1).toNat) ?_ _ _ ⟨rfl,Av _,by omega,Ap _,rfl⟩ (by dsimp only;omega);rintro i ⟨B,C,k,g,A,a,b⟩ ⟨q,w,F,v,c⟩ z;cases q;dsimp only at z;unfold tU;dsimp only;refine aB (λu=>?_) (λu=>?_)
 ·rw[if_pos (of_decide_eq_true u)] at c;refine aB (λd=>?_) (λd=>?_)
  ·have d:=of_decide_eq_true d;have e:=ixt (l:=p.fields) ⟨w,d⟩;rw[dm (aI .pfl) w d] at c;obtain⟨x,D⟩:∃x,x=Af p.fields k.toNat (aI .pfl):=⟨_,rfl⟩
   rw[<-D] at c ⊢;simp only[alR] at c;rw[cu w (by omega)];have go:∀t:List (Int×List aC),t.length<=fs.length->alR (p.fields.drop (k+1).toNat) t f=jt p fs f->Tot (i (p,f,k+1,t,rest,[],[])) _:=λt j m=>z _ ⟨rfl,by first|omega|(dsimp only;omega),by first|omega|(dsimp only;omega),j,by rw[if_pos (of_decide_eq_true u)];exact m⟩ (by first|omega|(dsimp only;omega))
   refine aD e (aB (λj=>aD e (aB (λm=>aD e (aNo (by omega) ?_)) (λm=>?_))) (λj=>?_));·refine go _ (A7 (aum _ _) v) ?_;rw[if_pos ⟨by simpa using j,by simpa using m⟩] at c;exact c
   ·refine go _ v ?_;rw[if_neg (λh=>h.2 (by simpa using m))] at c;exact c
   ·refine go _ v ?_;rw[if_neg (λh=>by simp[h.1] at j)] at c;exact c
  ·have d:=of_decide_eq_false d;rw[dP d] at c;simp only[alR] at c;exact aE ⟨g,rest,_,rfl,rfl,by show (g,rest)=_;rw[<-c]⟩
 ·rw[if_neg (of_decide_eq_false u)] at c;exact aE ⟨g,rest,_,rfl,rfl,by show (g,rest)=_;rw[<-c]⟩
theorem aKI{p:PMs}{fs:List (Int×List aC)}{rest:Bs}{f:PFl}{K:List (Int×List aC)×Bs->Ro}(h:fs.length<=100000000000)(hp:p.fields.length<=1000)(a:Tot (K (jt p fs f,rest)) Q):Tot (aA (sC p fs rest f) K) Q:=aL (aJo p fs rest f h hp) (λ_ h=>h.2) a
end
def ar9:aG:=tb_ [] [] [] [yq]
def aqk:IR:=Rs [Mi 4 0] (Rs [Mv 5 0,Mv 6 1,Ca 7 236 [5,6],Mv 4 7] .ret)
theorem aql:FnC Tryz.prog ar9 [] 0 217 Tryz.f217 aqk aR:=fnC Tryz.func217
def adX(N:Nat)(a b:Bs):Ro:=aA (gt a b) (λ(c:Int)=>some (vI c,[]))
def adY(N:Nat)(a b:Bs):Ro:=adX N a b
theorem anI(N:Nat)(b c:Bs)(h:Tot (adY N b c) (λz=>∃a rest,z.1.dimR=vI a∧z.2=rest∧qQ b c (a))):∃r,lI b c r:=aql.finP (N:=N) (by kernel_rfl) h λ_ ⟨a,_,e,_,q⟩=>⟨(a),e,q⟩
def uU:aG:=tb_ [] [] [] []
def t9:IR:=Rs [Pp (.mov 2 (.c (nl .pfl)))] (Sq (Rs [Mv 3 0,Pp (.snil 4 (.t 3))] (Cn 4 (Rs [Pp (.mov 2 (.c (nl .pfl)))] .ret) .skip)) (Rs [Pp (.bsl 5 .pfl [] false),Mv 6 0,Pp (.app 7 .pfl (.tk 5) 6),Pp (.mov 2 (.tk 7))] .ret))
theorem ua:FnC Tryz.prog uU [] 0 86 Tryz.f86 t9 aF:=fnC Tryz.func86
def jT(N:Nat)(a:List PFl):Ro:=chk (decide (0<Aa a)) (chk (decide ((Aa ([]:List PFl)+Aa a)*80<=140737488355328)) (some (vO .pfl ([]++a),[])))
def jU(N:Nat)(a:List PFl):Ro:=jT N a
theorem td(N:Nat)(b:List PFl)(h:Tot (jU N b) (λz=>∃a rest,z.1.dimR=vF .pfl a∧z.2=rest∧iZ b (a))):∃r,dX b r:=ua.finP (N:=N) (by kernel_rfl) h λ_ ⟨a,_,e,_,q⟩=>⟨(a),e,q⟩
def acC:aG:=tb_ [] [] [] []
def aa4:IR:=Rs [Pp (.mov 2 (.c (nl .str)))] (Sq (Rs [Mv 3 0,Pp (.snil 4 (.t 3))] (Cn 4 (Rs [Pp (.mov 2 (.c (nl .str)))] .ret) .skip)) (Rs [Pp (.bsl 5 .str [] false),Mv 6 0,Pp (.app 7 .str (.tk 5) 6),Pp (.mov 2 (.tk 7))] .ret))
theorem aa5:FnC Tryz.prog acC [] 0 87 Tryz.f87 aa4 aF:=fnC Tryz.func87
def po(N:Nat)(a:Bss):Ro:=chk (decide (0<Aa a)) (chk (decide ((Aa ([]:Bss)+Aa a)*16<=140737488355328)) (let b:=([]++a);some (vO .str b,[])))
def pp(N:Nat)(a:Bss):Ro:=po N a
theorem aaW(N:Nat)(b:Bss)(h:Tot (pp N b) (λz=>∃a rest,z.1.dimR=vF .str a∧z.2=rest∧nK b (a))):∃r,fW b r:=aa5.finP (N:=N) (by kernel_rfl) h λ_ ⟨a,_,e,_,q⟩=>⟨(a),e,q⟩
def asa:aG:=tb_ [] [] [] []
def aqm:IR:=Rs [Mb 2 false] (Rs [Mv 3 0,Mv 4 0,Bi 5 .neq 3 4,Mv 2 5] .ret)
theorem aqn:FnC Tryz.prog asa [] 0 237 Tryz.f237 aqm aF:=fnC Tryz.func237
def adZ(N:Nat)(a:Int):Ro:=some (vB (!(a==a)),[])
def ad0(N:Nat)(a:Int):Ro:=adZ N a
theorem anJ(N:Nat)(b:Int)(h:Tot (ad0 N b) (λz=>∃a rest,z.1.dimR=vB a∧z.2=rest∧rG b (a))):∃r,lQ b r:=aqn.finP (N:=N) (by kernel_rfl) h λ_ ⟨a,_,e,_,q⟩=>⟨(a),e,q⟩
def aqo:aG:=tb_ [] [] [] []
def anK:IR:=Rs [Mb 2 false] (Rs [Mv 3 0,Mv 4 0,Bi 5 .neq 3 4,Mv 2 5] .ret)
theorem anL:FnC Tryz.prog aqo [] 0 238 Tryz.f238 anK aF:=fnC Tryz.func238
def abW(N:Nat)(a:Int):Ro:=some (vB (!(a==a)),[])
def abX(N:Nat)(a:Int):Ro:=abW N a
theorem alA(N:Nat)(b:Int)(h:Tot (abX N b) (λz=>∃a rest,z.1.dimR=vB a∧z.2=rest∧qm b (a))):∃r,kH b r:=anL.finP (N:=N) (by kernel_rfl) h λ_ ⟨a,_,e,_,q⟩=>⟨(a),e,q⟩
def anM:aG:=tb_ [] [] [] [arY]
def alB:IR:=Rs [Mi 4 0] (Rs [Mv 7 0,Ca 8 237 [7],Mv 5 8] (Rs [Mv 9 1,Ca 10 237 [9],Mv 6 10] (Sq (Rs [Mv 11 5] (Cn 11 (Sq (Rs [Mv 12 6] (Cn 12 (Rs [Mi 4 0] .ret) .skip)) (Rs [Mi 4 (-1)] .ret)) .skip)) (Sq (Rs [Mv 13 6] (Cn 13 (Rs [Mi 4 1] .ret) .skip)) (Sq (Rs [Mv 14 0,Mv 15 1,Bi 16 .lss 14 15] (Cn 16 (Rs [Mi 4 (-1)] .ret) .skip)) (Sq (Rs [Mv 17 0,Mv 18 1,Bi 19 .gtr 17 18] (Cn 19 (Rs [Mi 4 1] .ret) .skip)) (Rs [Mi 4 0] .ret)))))))
theorem alC:FnC Tryz.prog anM [] 0 219 Tryz.f219 alB aR:=fnC Tryz.func219
def aaX(N:Nat)(a b:Int):Ro:=aA (lQ a) (λ(d:Bool)=>aA (lQ b) (λ(c:Bool)=>cond d (cond c (some (vI 0,[])) (some (vI (-1),[]))) (cond c (some (vI 1,[])) (cond (decide (a<b)) (some (vI (-1),[])) (cond (decide (b<a)) (some (vI 1,[])) (some (vI 0,[])))))))
def aaY(N:Nat)(a b:Int):Ro:=aaX N a b
theorem aj5(N:Nat)(b c:Int)(h:Tot (aaY N b c) (λz=>∃a rest,z.1.dimR=vI a∧z.2=rest∧pl b c (a))):∃r,nJ b c r:=alC.finP (N:=N) (by kernel_rfl) h λ_ ⟨a,_,e,_,q⟩=>⟨(a),e,q⟩
def alD:aG:=tb_ [] [] [] [ap0]
def aj6:IR:=Rs [Mi 4 0] (Rs [Mv 7 0,Ca 8 238 [7],Mv 5 8] (Rs [Mv 9 1,Ca 10 238 [9],Mv 6 10] (Sq (Rs [Mv 11 5] (Cn 11 (Sq (Rs [Mv 12 6] (Cn 12 (Rs [Mi 4 0] .ret) .skip)) (Rs [Mi 4 (-1)] .ret)) .skip)) (Sq (Rs [Mv 13 6] (Cn 13 (Rs [Mi 4 1] .ret) .skip)) (Sq (Rs [Mv 14 0,Mv 15 1,Bi 16 .lss 14 15] (Cn 16 (Rs [Mi 4 (-1)] .ret) .skip)) (Sq (Rs [Mv 17 0,Mv 18 1,Bi 19 .gtr 17 18] (Cn 19 (Rs [Mi 4 1] .ret) .skip)) (Rs [Mi 4 0] .ret)))))))
theorem aj7:FnC Tryz.prog alD [] 0 220 Tryz.f220 aj6 aR:=fnC Tryz.func220
def zi(N:Nat)(a b:Int):Ro:=aA (kH a) (λ(d:Bool)=>aA (kH b) (λ(c:Bool)=>cond d (cond c (some (vI 0,[])) (some (vI (-1),[]))) (cond c (some (vI 1,[])) (cond (decide (a<b)) (some (vI (-1),[])) (cond (decide (b<a)) (some (vI 1,[])) (some (vI 0,[])))))))
def zj(N:Nat)(a b:Int):Ro:=zi N a b
theorem aiM(N:Nat)(b c:Int)(h:Tot (zj N b c) (λz=>∃a rest,z.1.dimR=vI a∧z.2=rest∧nP b c (a))):∃r,mz b c r:=aj7.finP (N:=N) (by kernel_rfl) h λ_ ⟨a,_,e,_,q⟩=>⟨(a),e,q⟩
def pm:aG:=tb_ [] [] [] []
def tV:IR:=Rs [Bi 9 .lss 8 7] (Sq (Cn 9 .skip (.exit 0)) (Sq (.block 1 (Rs [Mv 10 8,Mv 5 10] (Rs [Mv 11 1,Mv 12 0,Mv 13 5,Ix 14 (.num .i64) 12 13,Lq 15 14,Bi 16 .eql 11 15] (Cn 16 (Rs [Mv 17 5,Mv 4 17] .ret) .skip)))) (Rg [Bc 18 .add 8 1,Mv 8 18])))
def tW:IR:=Rs [Mi 4 (-1)] .ret
def ahh:IR:=Rs [Mi 4 0] (Sq (Rs [Mv 6 0,Ll 7 6,Mi 8 0] (.block 0 (.loop [0,1,7,8,1000000] 0 tV))) tW)
theorem ahi:FnC Tryz.prog pm [] 0 240 Tryz.f240 ahh aR:=fnC Tryz.func240
def agS(R:TR)(a:TS):TE:=(bo a [0,1,7,8,1000000] 0 (aQ 0 (kseq (R tW) (fin aR))))
abbrev fK:Type:=(List Int×Int×Int×Int)
def hD:fK->St:=λ(a,b,c,d)=>{env:=(.sl (.num .i64) (.may false) a::vI b::(U 5 (vI c::vI d::(U 10 [])))),hp:=[]}
def nu(N:Nat):TS->TS:=λa s=>run pm N tV (agS (run pm N) a) s
def iO(N:Nat)(a:fK->Ro):fK->Ro:=λ(c,d,e,b)=>cond (decide (b<e)) (chk (ixl b c) (let f:=Af c (Ad b) (aI (.num .i64));cond (d==f) (some (vI b,[])) (let g:=(Ab .i64 (b+1));a (c,d,e,g)))) (some (vI (-1),[]))
theorem afE(N:Nat):LB (nu N) hD (iO N):=λ_ _=>by kernel_rfl
def f5(N:Nat)(a:List Int)(b:Int)(c:fK->Ro):Ro:=let d:=(↑(Aa a):Int);c (a,b,d,0)
def wa(N:Nat)(a:List Int)(b:Int):Ro:=f5 N a b (λz=>aO N (iO N) z)
theorem agT(N:Nat)(a:List Int)(c:Int)(h:Tot (wa N a c) (λz=>∃d rest,z.1.dimR=vI d∧z.2=rest∧tQ a c (d))):∃r,kh a c r:=ahi.finP (N:=N) ((bD _ (by kernel_rfl) rfl (λC=>f5 N a c (λz=>C 1000000 (hD z))) (λC=>by kernel_rfl)).trans (AB (b:=f5 N a c (λz=>aZ N (nu N) (hD z))) (by kernel_rfl) (congrArg (f5 N a c) (funext λz=>aU (hD) (nu N) (iO N) (afE N) N z)))) h λ_ ⟨d,_,e,_,q⟩=>⟨(d),e,q⟩
def afF:aG:=tb_ [] [] [] [aiI]
def aeA:IR:=Rs [Mb 4 false] (Rs [Mv 5 0,Mv 6 1,Ca 7 240 [5,6],Bc 8 .geq 7 0,Mv 4 8] .ret)
theorem aeB:FnC Tryz.prog afF [] 0 224 Tryz.f224 aeA aR:=fnC Tryz.func224
def sH(N:Nat)(a:List Int)(b:Int):Ro:=aA (kh a b) (λ(c:Int)=>some (vB (decide (0<=c)),[]))
def sI(N:Nat)(a:List Int)(b:Int):Ro:=sH N a b
theorem ad1(N:Nat)(b:List Int)(c:Int)(h:Tot (sI N b c) (λz=>∃a rest,z.1.dimR=vB a∧z.2=rest∧qn b c (a))):∃r,gZ b c r:=aeB.finP (N:=N) (by kernel_rfl) h λ_ ⟨a,_,e,_,q⟩=>⟨(a),e,q⟩
def aqp:aG:=tb_ [] [] [] []
def anN:IR:=Rs [Bx 2 0,Mb 3 false] (Rs [Fa 4 0 2,Lq 5 4,Lq 6 1,Bi 7 .eql 5 6,Mv 3 7] .ret)
def te:List RV:=[.t 3]
theorem anO:FnC Tryz.prog aqp [] 0 85 Tryz.f85 anN te:=fnC Tryz.func85
def abY(N:Nat)(a:PMs)(b:Bs):Ro:=some (vB (decide (a.name=b)),[])
def abZ(N:Nat)(a:PMs)(b:Bs):Ro:=abY N a b
theorem alE(N:Nat)(b:PMs)(c:Bs)(h:Tot (abZ N b c) (λz=>∃a rest,z.1.dimR=vB a∧z.2=rest∧zf b c (a))):∃r,oF b c r:=anO.finP (N:=N) (by kernel_rfl) h λ_ ⟨a,_,e,_,q⟩=>⟨(a),e,q⟩
def cV:aG:=tb_ [] [] [] [apZ]
def dE:IR:=Rs [Bi 9 .lss 8 7] (Sq (Cn 9 .skip (.exit 0)) (Sq (.block 1 (Rs [Mv 10 8,Mv 5 10] (Rs [Mv 11 1,Mv 12 0,Mv 13 5,Ix 14 .pms 12 13,Ld 15 3 true 14,Pp (.dcall (some 16) 85 (.t 11) [.t 15])] (Cn 16 (Rs [Mv 17 5,Mv 4 17] .ret) .skip)))) (Rg [Bc 18 .add 8 1,Mv 8 18])))
def dF:IR:=Rs [Mi 4 (-1)] .ret
def hH:IR:=Rs [Mi 4 0] (Sq (Rs [Mv 6 0,Ll 7 6,Mi 8 0] (.block 0 (.loop [0,1,7,8,1000000] 0 dE))) dF)
theorem hJ:FnC Tryz.prog cV [] 0 84 Tryz.f84 hH aR:=fnC Tryz.func84
def gR(R:TR)(a:TS):TE:=(bo a [0,1,7,8,1000000] 0 (aQ 0 (kseq (R dF) (fin aR))))
abbrev bJ:Type:=(List PMs×Bs×Int×Int)
def b7:bJ->St:=λ(a,b,c,d)=>{env:=(vF .pms a::.fn 85 [.ea [vT b]]::(U 5 (vI c::vI d::(U 10 [])))),hp:=[]}
def cP(N:Nat):TS->TS:=λa s=>run cV N dE (gR (run cV N) a) s
def b9(N:Nat)(b:bJ->Ro):bJ->Ro:=λ(d,a,e,c)=>cond (decide (c<e)) (chk (ixl c d) (let f:=(Af d (Ad c) (aI .pms));aA (oF f a) (λ(g:Bool)=>cond g (some (vI c,[])) (let h:=(Ab .i64 (c+1));b (d,a,e,h))))) (some (vI (-1),[]))
theorem gu(N:Nat):LB (cP N) b7 (b9 N):=λ_ _=>by kernel_rfl
def bK(N:Nat)(b:List PMs)(a:Bs)(c:bJ->Ro):Ro:=let d:=(↑(Aa b):Int);c (b,a,d,0)
def dN(N:Nat)(b:List PMs)(a:Bs):Ro:=bK N b a (λz=>aO N (b9 N) z)
theorem gS(N:Nat)(c:List PMs)(a:Bs)(h:Tot (dN N c a) (λz=>∃d rest,z.1.dimR=vI d∧z.2=rest∧dD c a (d))):∃r,cd c a r:=hJ.finP (N:=N) ((bD _ (by kernel_rfl) rfl (λC=>bK N c a (λz=>C 1000000 (b7 z))) (λC=>by kernel_rfl)).trans (AB (b:=bK N c a (λz=>aZ N (cP N) (b7 z))) (by kernel_rfl) (congrArg (bK N c a) (funext λz=>aU (b7) (cP N) (b9 N) (gu N) N z)))) h λ_ ⟨d,_,e,_,q⟩=>⟨(d),e,q⟩
def awv:aG:=tb_ [] [] [] [hR,uO,acu]
def aun:IR:=Rs [Bx 2 0,Bx 3 1,Pp (.new 4 [vS,nl .pfl,nl .str]),Mb 5 false] (Rs [Fa 8 0 2,Lq 9 8,Pp (.mkf 10 85 [.t 3]),Ca 11 84 [9,10],Mv 6 11] (Sq (Rs [Mv 12 6,Bc 13 .lss 12 0] (Cn 13 (Rs [Pp (.bld 14 [vS,fu .pfl true,fu .str true] []),Sv 3 4 14,Mb 5 false] .ret) .skip)) (Rs [Fa 15 0 2,Lq 16 15,Mv 17 6,Ix 18 .pms 16 17,Ld 19 3 true 18,Pp (.new 7 [vS,nl .pfl,nl .str]),Sv 3 7 19] (Sq (.reg [Fa 20 1 7,Fo [1] [] (.ld 21 1 false false 20),Ca 22 86 [21],Fa 23 2 7,Fo [1] [] (.ld 24 1 false false 23),Ca 25 87 [24],Fa 26 1 7,Fo [] [1] (.st none 1 26 (.tk 22)),Fa 27 2 7,Fo [] [1] (.st none 1 27 (.tk 25))] [[],[0],[0,1],[],[3],rg 0 4,rg 0 4,rg 0 6,rg 0 7,rg 0 8]) (Rs [Pp (.ld 28 3 true false 7),Sv 3 4 28,Mb 5 true] .ret)))))
theorem auo:FnC Tryz.prog awv [] 0 47 Tryz.f47 aun eE:=fnC Tryz.func47
def agU(N:Nat)(a:List PMs)(f:List PEn)(g:Bs):Ro:=aA (cd a g) (λ(c:Int)=>cond (decide (c<0)) (some (.tup [.agg [vT [],.sl .pfl (.may true) [],.sl .str (.may true) []],vB false],[some [vT [],.sl .pfl (.may true) [],.sl .str (.may true) []]])) (chk (ixl c a) (let b:=(Af a (Ad c) (aI .pms));aA (dX b.fields) (λ(d:List PFl)=>aA (fW b.oneofs) (λ(e:Bss)=>some (.tup [.agg [vT b.name,vF .pfl d,vF .str e],vB true],[some [vT b.name,vF .pfl d,vF .str e],some [vT b.name,vF .pfl d,vF .str e]]))))))
def agV(N:Nat)(a:List PMs)(b:List PEn)(c:Bs):Ro:=agU N a b c
theorem asb(N:Nat)(a:List PMs)(b:List PEn)(f:Bs)(h:Tot (agV N a b f) (λz=>∃c d rest,z.1.dimR=.tup [.agg (enc .pms c),vB d]∧z.2=rest∧adS a b f (c,d))):∃r,iL a b f r:=auo.finP (N:=N) (by kernel_rfl) h λ_ ⟨c,d,_,e,_,q⟩=>⟨(c,d),e,q⟩
def aup:aG:=tb_ [] [] [] []
def asc:IR:=Rs [Bx 2 0,Mb 3 false] (Rs [Fa 4 0 2,Lq 5 4,Lq 6 1,Bi 7 .eql 5 6,Mv 3 7] .ret)
theorem asd:FnC Tryz.prog aup [] 0 141 Tryz.f141 asc te:=fnC Tryz.func141
def afc(N:Nat)(a:PFl)(b:Int):Ro:=some (vB (a.num==b),[])
def afd(N:Nat)(a:PFl)(b:Int):Ro:=afc N a b
theorem aqq(N:Nat)(b:PFl)(c:Int)(h:Tot (afd N b c) (λz=>∃a rest,z.1.dimR=vB a∧z.2=rest∧abP b c (a))):∃r,rH b c r:=asd.finP (N:=N) (by kernel_rfl) h λ_ ⟨a,_,e,_,q⟩=>⟨(a),e,q⟩
def dd:aG:=tb_ [] [] [] [aua]
def d9:IR:=Rs [Bi 9 .lss 8 7] (Sq (Cn 9 .skip (.exit 0)) (Sq (.block 1 (Rs [Mv 10 8,Mv 5 10] (Rs [Mv 11 1,Mv 12 0,Mv 13 5,Ix 14 .pfl 12 13,Ld 15 8 true 14,Pp (.dcall (some 16) 141 (.t 11) [.t 15])] (Cn 16 (Rs [Mv 17 5,Mv 4 17] .ret) .skip)))) (Rg [Bc 18 .add 8 1,Mv 8 18])))
def eb:IR:=Rs [Mi 4 (-1)] .ret
def jP:IR:=Rs [Mi 4 0] (Sq (Rs [Mv 6 0,Ll 7 6,Mi 8 0] (.block 0 (.loop [0,1,7,8,1000000] 0 d9))) eb)
theorem jQ:FnC Tryz.prog dd [] 0 140 Tryz.f140 jP aR:=fnC Tryz.func140
def jx(R:TR)(a:TS):TE:=(bo a [0,1,7,8,1000000] 0 (aQ 0 (kseq (R eb) (fin aR))))
abbrev bO:Type:=(List PFl×Int×Int×Int)
def ck:bO->St:=λ(a,b,c,d)=>{env:=(vF .pfl a::.fn 141 [.ea [vI b]]::(U 5 (vI c::vI d::(U 10 [])))),hp:=[]}
def da(N:Nat):TS->TS:=λa s=>run dd N d9 (jx (run dd N) a) s
def cn(N:Nat)(b:bO->Ro):bO->Ro:=λ(d,a,e,c)=>cond (decide (c<e)) (chk (ixl c d) (let f:=(Af d (Ad c) (aI .pfl));aA (rH f a) (λ(g:Bool)=>cond g (some (vI c,[])) (let h:=(Ab .i64 (c+1));b (d,a,e,h))))) (some (vI (-1),[]))
theorem ja(N:Nat):LB (da N) ck (cn N):=λ_ _=>by kernel_rfl
def bS(N:Nat)(b:List PFl)(a:Int)(c:bO->Ro):Ro:=let d:=(↑(Aa b):Int);c (b,a,d,0)
def ez(N:Nat)(b:List PFl)(a:Int):Ro:=bS N b a (λz=>aO N (cn N) z)
theorem jy(N:Nat)(c:List PFl)(a:Int)(h:Tot (ez N c a) (λz=>∃d rest,z.1.dimR=vI d∧z.2=rest∧d8 c a (d))):∃r,ct c a r:=jQ.finP (N:=N) ((bD _ (by kernel_rfl) rfl (λC=>bS N c a (λz=>C 1000000 (ck z))) (λC=>by kernel_rfl)).trans (AB (b:=bS N c a (λz=>aZ N (da N) (ck z))) (by kernel_rfl) (congrArg (bS N c a) (funext λz=>aU (ck) (da N) (cn N) (ja N) N z)))) h λ_ ⟨d,_,e,_,q⟩=>⟨(d),e,q⟩
def aBs:aG:=tb_ [] [] [] [kg]
def ayL:IR:=Rs [Bx 2 0,Bx 3 1,Pp (.new 4 [vI 0,vS,vI 0,vI 0,vS,vI 0,.bool false,vI 0]),Mb 5 false] (Rs [Fa 7 1 2,Lq 8 7,Pp (.mkf 9 141 [.t 3]),Ca 10 140 [8,9],Mv 6 10] (Sq (Rs [Mv 11 6,Bc 12 .lss 11 0] (Cn 12 (Rs [Pp (.bld 13 [vI 0,vS,vI 0,vI 0,vS,vI 0,.bool false,vI 0] []),Sv 8 4 13,Mb 5 false] .ret) .skip)) (Rs [Fa 14 1 2,Lq 15 14,Mv 16 6,Ix 17 .pfl 15 16,Ld 18 8 true 17,Sv 8 4 18,Mb 5 true] .ret)))
theorem ayM:FnC Tryz.prog aBs [] 0 89 Tryz.f89 ayL aes:=fnC Tryz.func89
def aj8(N:Nat)(b:PMs)(m:Int):Ro:=let d:=λe f g h i j k l n=>(some (.tup [.agg [vI e,vT f,vI g,vI h,vT i,vI j,vB k,vI l],vB n],[some [vI e,vT f,vI g,vI h,vT i,vI j,vB k,vI l]]):Ro);aA (ct b.fields m) (λ(c:Int)=>cond (decide (c<0)) (d 0 [] 0 0 [] 0 false 0 false) (chk (ixl c b.fields) (let a:=(Af b.fields (Ad c) (aI .pfl));d a.num a.name a.label a.kind a.typ a.key a.packed a.oneof true)))
def aj9(N:Nat)(a:PMs)(b:Int):Ro:=aj8 N a b
theorem aww(N:Nat)(c:PMs)(d:Int)(h:Tot (aj9 N c d) (λz=>∃a b rest,z.1.dimR=.tup [.agg (enc .pfl a),vB b]∧z.2=rest∧agF c d (a,b))):∃r,lD c d r:=ayM.finP (N:=N) (by kernel_rfl) h λ_ ⟨a,b,_,e,_,q⟩=>⟨(a,b),e,q⟩
section
variable{Q:V×List aK->Prop}
theorem as0(a b:Bs):∃r,lI a b r:=by apply anI 1;unfold adY adX;exact aL (arZ a b) (λ_ h=>h.2) (aE ⟨_,_,rfl,rfl,rfl⟩)
theorem aHP(l:List PFl)(h:l.length<=1000000):∃r,dX l r:=by
 by_cases a:l=[]
 ·subst a;exact⟨[],amz aFY aDS,rfl⟩
 ·have:=Cc.2 a;apply td 1;unfold jU jT;exact aD (decide_eq_true this) (aD (decide_eq_true (by simp only[Al];omega)) (aE ⟨l,_,rfl,rfl,rfl⟩))
theorem aHQ(l:Bss)(h:l.length<=1000000):∃r,fW l r:=by
 by_cases a:l=[]
 ·subst a;exact⟨[],amz aFX aDR,rfl⟩
 ·have:=Cc.2 a;apply aaW 1;unfold pp po;exact aD (decide_eq_true this) (aD (decide_eq_true (by simp only[Al];omega)) (aE ⟨l,_,rfl,rfl,rfl⟩))
theorem azH(a:Int):∃r,lQ a r:=by apply anJ 1;unfold ad0 adZ;exact aE ⟨_,_,rfl,rfl,by simp[rG]⟩
theorem awx(a:Int):∃r,kH a r:=by apply alA 1;unfold abX abW;exact aE ⟨_,_,rfl,rfl,by simp[qm]⟩
theorem aJp(a b:Int):∃r,nJ a b r:=by
 apply aj5 1;unfold aaY aaX;refine aL (azH _) (λ_ h=>h.2) (aL (azH _) (λ_ h=>h.2) ?_)
 repeat' (first|(with_reducible refine aB ?_ ?_<;>(intro c;(try simp only[bnl] at c);(try revert c;intro _)))|with_reducible refine aD ?_ ?_|with_reducible refine aE ?_|fail)
 all_goals exact⟨_,_,rfl,rfl,by unfold pl ayl;grind⟩
theorem aHR(a b:Int):∃r,mz a b r:=by
 apply aiM 1;unfold zj zi;refine aL (awx _) (λ_ h=>h.2) (aL (awx _) (λ_ h=>h.2) ?_)
 repeat' (first|(with_reducible refine aB ?_ ?_<;>(intro c;(try simp only[bnl] at c);(try revert c;intro _)))|with_reducible refine aD ?_ ?_|with_reducible refine aE ?_|fail)
 all_goals exact⟨_,_,rfl,rfl,by unfold nP ayl;grind⟩
theorem agW{α:Type}{p:α->Bool}{l:List α}{k:Int}(d:α)(e:0<=k)(b:k<l.length)(hp:p (l.getD k.toNat d)=true)(c:(l.take k.toNat).all (λx=> !p x)=true):alw p l k:=by
 refine⟨by omega,b,λh=>by omega,λf _=>⟨?_,c⟩⟩;have a:k.toNat<l.length:=by omega
 rw[Aq,Ah a] at hp ⊢;exact hp
theorem agX{α:Type}{p:α->Bool}{l:List α}(a:l.all (λx=> !p x)=true):alw p l (-1):=⟨by omega,by omega,λ_=>a,λ_ h=>by omega⟩
theorem ayN{α:Type}{p:α->Bool}{l:List α}{r:Int}(d:α)(h:alw p l r):decide (0<=r)=l.any p:=by
 by_cases a:0<=r;·rw[decide_eq_true a,(List.any_eq_true.2 ⟨_,dJ d a h.2.1,(h.2.2.2 d a).1⟩:l.any p=true)]
 ·rw[decide_eq_false a];symm;rw[D1];intro x b;have:=Aw.1 (h.2.2.1 (by omega)) x b;simpa using this
theorem aEl{α:Type}{p:α->Bool}{l:List α}{r:Int}(d:α)(h:alw p l r):l.find? p=if r<0 then none else some (l.getD r.toNat d):=by
 split;·rename_i b;rw[Db];intro x a;have:=Aw.1 (h.2.2.1 b) x a;simpa using this
 ·rename_i b;have c:=h.2.2.2 d (by omega);have e:l=l.take r.toNat++(l.getD r.toNat d::l.drop (r+1).toNat):=by
   rw[<-dm d (by omega) h.2.1,BS]
  have:(l.take r.toNat).find? p=none:=by rw[Db];intro x a;have:=Aw.1 c.2 x a;simpa using this
  conv=>lhs;rw[e]
  rw[List.find?_append,this,Cl,c.1];rfl
theorem aqr{α:Type}{p:α->Bool}{l:List α}{k:Int}(d:α)(c:0<=k)(b:k<l.length)(a:(l.take k.toNat).all (λx=> !p x)=true)(hp:p (l.getD k.toNat d)=false):(l.take (k+1).toNat).all (λx=> !p x)=true:=by rw[sU d c b,Dx,a,Cm,hp];rfl
theorem aJq(l:List Int)(x:Int)(h:l.length<=1000000):∃r,kh l x r:=by
 obtain⟨N,m⟩:∃N:Nat,N=1000001:=⟨_,rfl⟩
 apply agT N;unfold wa f5;refine aW (λ(y:fK)=>match y with|(j,f,n,k)=>(j,f,n)=(l,x,(l.length:Int))∧0<=k∧k<=l.length∧(l.take k.toNat).all (λy=> !(x==y))=true) (λy=>(l.length-y.2.2.2).toNat) ?_ _ _ ⟨rfl,Av _,by omega,rfl⟩ (by dsimp only;omega);rintro e ⟨j,f,n,k⟩ ⟨q,b,t,c⟩ i;cases q;dsimp only at i;unfold iO;dsimp only;refine aB (λa=>?_) (λa=>?_);·have a:=of_decide_eq_true a;refine aD (ixt ⟨b,a⟩) (aB (λd=>aE ⟨k,_,rfl,rfl,agW (p:=λy=>x==y) (aI (.num .i64)) b a d c⟩) (λd=>?_));rw[cu b (by omega)];exact i _ ⟨rfl,by first|omega|(dsimp only;omega),by first|omega|(dsimp only;omega),aqr (p:=λy=>x==y) (aI (.num .i64)) b a c d⟩ (by first|omega|(dsimp only;omega))
 ·rw[yr (of_decide_eq_false a)] at c;exact aE ⟨-1,_,rfl,rfl,agX c⟩
theorem aEm(l:List Int)(x:Int)(h:l.length<=1000000):∃r,gZ l x r:=by apply ad1 1;unfold sI sH;refine aX (aJq l x h) ?_;rintro r ⟨-,a⟩;exact aE ⟨_,_,rfl,rfl,ayN (aI (.num .i64)) a⟩
theorem aL5(m:PMs)(s:Bs):∃r,oF m s r:=by apply alE 1;unfold abZ abY;exact aE ⟨_,_,rfl,rfl,rfl⟩
theorem aKJ(l:List PMs)(s:Bs)(h:l.length<=1000000):∃r,cd l s r:=by
 obtain⟨N,t⟩:∃N:Nat,N=1000001:=⟨_,rfl⟩
 apply gS N;unfold dN bK;refine aW (λ(y:bJ)=>match y with|(j,f,n,k)=>(j,f,n)=(l,s,(l.length:Int))∧0<=k∧k<=l.length∧(l.take k.toNat).all (λm:PMs=> !decide (m.name=s))=true) (λy=>(l.length-y.2.2.2).toNat) ?_ _ _ ⟨rfl,Av _,by omega,rfl⟩ (by dsimp only;omega);rintro e ⟨j,f,n,k⟩ ⟨q,b,u,c⟩ i;cases q;dsimp only at i;unfold b9;dsimp only;refine aB (λa=>?_) (λa=>?_);·have a:=of_decide_eq_true a;refine aD (ixt ⟨b,a⟩) (aL (aL5 _ _) (λ_ h=>h.2) (aB (λd=>aE ⟨k,_,rfl,rfl,agW (p:=λm:PMs=>decide (m.name=s)) (aI .pms) b a d c⟩) (λd=>?_)));rw[cu b (by omega)];exact i _ ⟨rfl,by first|omega|(dsimp only;omega),by first|omega|(dsimp only;omega),aqr (p:=λm:PMs=>decide (m.name=s)) (aI .pms) b a c d⟩ (by first|omega|(dsimp only;omega))
 ·rw[yr (of_decide_eq_false a)] at c;exact aE ⟨-1,_,rfl,rfl,agX c⟩
theorem aEn(a:List PMs)(es:List PEn)(s:Bs)(e:nL a):∃r,iL a es s r:=by
 apply asb 1;unfold agV agU;refine aX (aKJ a s (by have:=e.1;omega)) ?_;rintro k ⟨-,c⟩;have b:=aEl (aI .pms) c;refine aB (λh=>?_) (λh=>?_);·rw[if_pos (of_decide_eq_true h)] at b;exact aE ⟨⟨[],[],[]⟩,false,_,rfl,rfl,by show _=dU a s;unfold dU;rw[b]⟩
 ·have h:=of_decide_eq_false h;rw[if_neg h] at b;have d:=e.2 _ (dJ (aI .pms) (by omega) c.2.1);refine aD (ixt ⟨by omega,c.2.1⟩) (aL (aHP _ (by have:=d.1;omega)) (λ_ h=>h.2) (aL (aHQ _ (by have:=d.2.2.1;omega)) (λ_ h=>h.2) ?_));exact aE ⟨Af a k.toNat (aI .pms),true,_,rfl,rfl,by show _=dU a s;unfold dU;rw[b]⟩
theorem aiN{a:List PMs}{es:List PEn}{s:Bs}{K:PMs×Bool->Ro}(b:nL a)(c:Tot (K (dU a s)) Q):Tot (aA (iL a es s) K) Q:=aL (aEn a es s b) (λ_ h=>h.2) c
theorem aL6(f:PFl)(n:Int):∃r,rH f n r:=by apply aqq 1;unfold afd afc;exact aE ⟨_,_,rfl,rfl,rfl⟩
theorem aKK(l:List PFl)(s:Int)(h:l.length<=1000000):∃r,ct l s r:=by
 obtain⟨N,t⟩:∃N:Nat,N=1000001:=⟨_,rfl⟩
 apply jy N;unfold ez bS;refine aW (λ(y:bO)=>match y with|(m,i,n,k)=>(m,i,n)=(l,s,(l.length:Int))∧0<=k∧k<=l.length∧(l.take k.toNat).all (λf:PFl=> !(f.num==s))=true) (λy=>(l.length-y.2.2.2).toNat) ?_ _ _ ⟨rfl,Av _,by omega,rfl⟩ (by dsimp only;omega);rintro e ⟨m,i,n,k⟩ ⟨q,b,u,c⟩ j;cases q;dsimp only at j;unfold cn;dsimp only;refine aB (λa=>?_) (λa=>?_);·have a:=of_decide_eq_true a;refine aD (ixt ⟨b,a⟩) (aL (aL6 _ _) (λ_ h=>h.2) (aB (λd=>aE ⟨k,_,rfl,rfl,agW (p:=λf:PFl=>f.num==s) (aI .pfl) b a d c⟩) (λd=>?_)));rw[cu b (by omega)];exact j _ ⟨rfl,by first|omega|(dsimp only;omega),by first|omega|(dsimp only;omega),aqr (p:=λf:PFl=>f.num==s) (aI .pfl) b a c d⟩ (by first|omega|(dsimp only;omega))
 ·rw[yr (of_decide_eq_false a)] at c;exact aE ⟨-1,_,rfl,rfl,agX c⟩
theorem aHS(m:PMs)(n:Int)(h:m.fields.length<=1000):∃r,lD m n r:=by
 apply aww 1;unfold aj9 aj8;refine aX (aKK m.fields n (by omega)) ?_;rintro k ⟨-,b⟩;have a:=aEl (aI .pfl) b;refine aB (λh=>?_) (λh=>?_);·rw[if_pos (of_decide_eq_true h)] at a;exact aE ⟨⟨0,[],0,0,[],0,false,0⟩,false,_,rfl,rfl,by show _=cK m n;unfold cK;rw[a]⟩
 ·have h:=of_decide_eq_false h;rw[if_neg h] at a;exact aD (ixt ⟨by omega,b.2.1⟩) (aE ⟨Af m.fields k.toNat (aI .pfl),true,_,rfl,rfl,by show _=cK m n;unfold cK;rw[a]⟩)
theorem aqs{m:PMs}{n:Int}{K:PFl×Bool->Ro}(h:m.fields.length<=1000)(a:Tot (K (cK m n)) Q):Tot (aA (lD m n) K) Q:=aL (aHS m n h) (λ_ h=>h.2) a
end
theorem alF(k:Int)(x y:aC):∀l:List aC,(mq k l x y).length<=l.length+2∧(l.length%2=0->(mq k l x y).length%2=0)
 | []=>by simp[mq]
 | [a]=>by simp[mq]
 |a::b::r=>by
  have:=alF k x y r;simp only[mq]
  (repeat' split)<;>simp only[Ai]<;>omega
theorem sV(v:aC):wtV v=100+v.s.length+v.rest.length+cM v.fs:=by cases v;simp only[wtV,aC.s,aC.rest,aC.fs]
theorem aGI:∀a b:List aC,wtL (a++b)=wtL a+wtL b
 | [],b=>by simp[wtL]
 |x::a,b=>by simp only[CB,wtL,aGI a b];omega
theorem aL7(v:aC):wtL [v]=wtV v:=by simp[wtL]
theorem ayO(k:Int)(x y:aC)(l:List aC):wtL (mq k l x y)<=wtL l+wtV x+wtV y:=by
 fun_induction mq k l x y<;>simp_all only[wtL]<;>omega
theorem aKL(k:Int)(l a:List aC):wtL (oE k a l)<=wtL a+wtL l:=by
 fun_induction oE k a l with
 |case1 a x y r b=>have:=ayO k x y a;simp only[wtL];omega
 |case2=>omega
theorem zk:∀l:List aC,100*l.length<=wtL l
 | []=>by simp[wtL]
 |v::l=>by have:=zk l;have:=sV v;simp only[wtL,Ai];omega
theorem yv:∀l:List (Int×List aC),100*l.length<=cM l
 | []=>by simp[cM]
 |(n,v)::l=>by have:=yv l;simp only[cM,Ai];omega
theorem aJr(n:Int)(l:List aC):∀fs:List (Int×List aC),cM (ee fs n l)<=cM fs+100+wtL l
 | []=>by simp only[ee,qh];split<;>simp only[cM,wtP]<;>omega
 |x::r=>by
  have:=aJr n l r;simp only[ee,qh]
  (repeat' split)<;>simp only[cM,wtP]<;>omega
theorem aGJ(n:Int):∀fs:List (Int×List aC),cM (ee fs n [])<=cM fs
 | []=>by simp[ee,qh]
 |x::r=>by
  have:=aGJ n r;simp only[ee,qh,if_true];split;·simp only[cM];omega
  ·split<;>simp only[cM]<;>omega
theorem aJs(f:PFl):∀(p:List PFl)(fs:List (Int×List aC)),cM (alR p fs f)<=cM fs
 | [],fs=>by simp[alR]
 |x::r,fs=>by
  simp only[alR];refine A7 (aJs f r _) ?_;split;·exact aGJ _ _
  ·exact Ap _
theorem aKM(p:PMs)(fs:List (Int×List aC))(f:PFl):cM (jt p fs f)<=cM fs:=by
 unfold jt;split;·exact aJs _ _ _
 ·exact Ap _
theorem aL8(p:PMs)(f:PFl)(fs:List (Int×List aC))(l:List aC):cM (xR p f fs l)<=cM fs+100+wtL l:=by
 unfold xR;refine A7 (aJr _ _ _) ?_;have:=aKM p fs f;split;·have:=aKL f.key l [];simp only[wtL] at this;omega
 ·omega
theorem aEo(n:Int)(l:List aC):∀fs:List (Int×List aC),∀m∈(ee fs n l).map CC,m=n∨m∈fs.map CC
 | [],m,h=>by simp only[ee,qh] at h;split at h<;>simp_all
 |x::r,m,h=>by
  have a:=aEo n l r m;simp only[ee,qh] at h
  (repeat' split at h)<;>simp only[Bb,A3] at h ⊢ <;>grind
theorem azI(n:Int):∀fs:List (Int×List aC),∀m∈(ee fs n []).map CC,m∈fs.map CC
 | [],m,h=>by simp[ee,qh] at h
 |x::r,m,h=>by
  have a:=azI n r m;simp only[ee,qh,if_true] at h
  (repeat' split at h)<;>simp only[Bb,A3] at h ⊢ <;>grind
theorem aEp(f:PFl):∀(p:List PFl)(fs:List (Int×List aC)),∀m∈(alR p fs f).map CC,m∈fs.map CC
 | [],fs,m,h=>by simpa [alR] using h
 |x::r,fs,m,h=>by
  simp only[alR] at h;have:=aEp f r _ m h;split at this;·exact azI _ _ _ this
  ·exact this
theorem awy(p:PMs)(fs:List (Int×List aC))(f:PFl):∀m∈(jt p fs f).map CC,m∈fs.map CC:=by
 intro m h;unfold jt at h;split at h;·exact aEp _ _ _ m h
 ·exact h
theorem aKN{fs:List (Int×List aC)}{n:Int}(h:n ∉ fs.map CC):qi fs n=([],false):=by unfold qi;rw[Db.2 (λx b a=>h (AH.2 ⟨x,b,by simpa using a⟩))]
section
variable{Q:V×List aK->Prop}
def PtQ(k:Int)(l:List aC)(x y:aC):V×List aK->Prop:=λz=>∃(a:List aC)(rest:List aK),z.1.dimR=.sl .pval (.may false) a∧z.2=rest∧a=mq k l x y
theorem aJt(K:Int)(l:List aC)(x y:aC)(h:l.length<=100000000000)(P:l.length%2=0):∃r,pi K l x y r:=by
 obtain⟨N,L⟩:∃N:Nat,N=200000000000:=⟨_,rfl⟩
 apply aBr N;show Tot _ (PtQ K l x y);unfold aqg uT;refine aW (λ(z:sG)=>match z with|(k',G,F,D,k)=>(k',G,F,D)=(K,l,x,y)∧0<=k∧k<=l.length∧k%2=0∧mq K l x y=l.take k.toNat++mq K (l.drop k.toNat) x y) (λz=>(l.length-z.2.2.2.2).toNat) ?_ _ _ ⟨rfl,Av _,by omega,rfl,rfl⟩ (by dsimp only;omega);rintro B ⟨k',G,F,D,k⟩ ⟨q,C,M,O,f⟩ E;cases q;dsimp only at E;unfold xW;dsimp only;simp only[kr];have v:=acx l k.toNat;have A:(decide (0<=k)&&decide (k<=(↑(Aa l):Int)))=true:=by simp only[Ac,decide_eq_true_eq];omega
 have fin:∀r:List aC,r.length<=l.length->mq K l x y=l.take k.toNat++x::y::r->Tot (chk ((decide (0<=k)&&decide (k<=(↑(Aa l):Int)))) (chk (decide ((Aa ([]:List aC)+Aa (An 0 (Ao (Ad k) l)))*64<=140737488355328)) (chk (decide ((Aa (([]:List aC)++(An 0 (Ao (Ad k) l)))+Aa ([x,y]:List aC))*64<=140737488355328)) (chk (decide ((Aa ((([]:List aC)++(An 0 (Ao (Ad k) l)))++([x,y]:List aC))+Aa r)*64<=140737488355328)) (some ((.sl .pval .own (((([]:List aC)++(An 0 (Ao (Ad k) l)))++([x,y]:List aC))++r),[]):V×List aK)))))) (PtQ K l x y):=by intro r J e;refine aD A (aD (decide_eq_true (by simp only[Ak,Al] at v ⊢;omega)) (aD (decide_eq_true (by simp only[Ak,Ai,Al] at v ⊢;omega)) (aD (decide_eq_true (by simp only[Ak,Ai,Al] at v ⊢;omega)) (aE ⟨_,_,rfl,rfl,?_⟩))));rw[e];simp
 refine aB (λc=>?_) (λc=>?_)
 ·have i:=c;have c:=of_decide_eq_true c;have e:=ixt (l:=l) ⟨C,c⟩;have d:=dm (aI .pval) C c;have p:=dm (l:=l) (k:=k+1) (aI .pval) (by omega) (by omega);have t:=sU (aI .pval) C c;have m:=sU (l:=l) (k:=k+1) (aI .pval) (by omega) (by omega);obtain⟨a,I⟩:∃a,a=Af l k.toNat (aI .pval):=⟨_,rfl⟩
  obtain⟨b,H⟩:∃b,b=Af l (k+1).toNat (aI .pval):=⟨_,rfl⟩
  rw[<-I] at d t ⊢;rw[<-H,show k+1+1=k+2 by omega] at p m;rw[p] at d;rw[d] at f;simp only[mq] at f;rw[aT (k+2) (by omega)];refine aD e (aEj (aB (λu=>?_) (λu=>aD A (aB (λ_=>aD e (aEj (aB (λw=>aD (by simp only[Ac,decide_eq_true_eq];omega) ?_) (λw=>?_)))) (λj=>by rw[i] at j;simp at j)))));·refine E _ ⟨rfl,by first|omega|(dsimp only;omega),by first|omega|(dsimp only;omega),by first|omega|(dsimp only;omega),?_⟩ (by first|omega|(dsimp only;omega));dsimp only;rw[f,if_pos (of_decide_eq_true u),m,t];simp
  ·refine fin _ (lE l _) ?_;rw[f,if_neg (of_decide_eq_false u),if_pos (by simpa using w),AZ]
  ·refine fin _ (lE l _) ?_;rw[f,if_neg (of_decide_eq_false u),if_neg (by simpa using w),AZ,d]
 ·have i:=c;have c:=of_decide_eq_false c;rw[dP c] at f;simp only[mq] at f;refine aD A (aB (λj=>by rw[i] at j;simp at j) (λ_=>fin _ (lE l _) ?_));rw[f,AZ,dP c]
theorem auq{k:Int}{l:List aC}{x y:aC}{K:List aC->Ro}(h:l.length<=100000000000)(b:l.length%2=0)(a:Tot (K (mq k l x y)) Q):Tot (aA (pi k l x y) K) Q:=aL (aJt k l x y h b) (λ_ h=>h.2) a
end
theorem alG(a:List PMs)(k:Int)(t:Bs)(v:aC):pf a k t v=if k=16 then v.n==0&&(decide (v.s=[])&&uL a t v.fs v.rest) else if k=14∨k=15 then v.n==0&&(decide (v.fs.length=0)&&(decide (v.rest=[])&&(k==15||rU v.s))) else decide (v.s=[])&&(decide (v.fs.length=0)&&(decide (v.rest=[])&&afq k v.n)):=by cases v;simp only[pf,uL,aC.n,aC.s,aC.fs,aC.rest];rfl
theorem aBR{k:Int}(h:0<=k):AQ k 2=k%2:=Bj h
def aaZ(l:List aC)(k:Int):Option aC:=if k=0 then none else some (l.getD (2*((k-1) / 2)).toNat (aI .pval))
def agY(f:PFl)(a:Bool)(pk:Option aC)(v:aC):Bool:=match pk with|none=>true|some q=> !(f.label==3&&a)||decide (nn f.key q v<0)
theorem aqt(b:List PMs)(f:PFl)(a:Bool)(pk:Option aC)(v:aC)(r:List aC):qj b f a pk (v::r)=(pf b (if (f.label==3&&a)=true then f.key else f.kind) f.typ v&&(!(mo f&&ry f.kind v)&&(agY f a pk v&&qj b f (!a) (if a then some v else pk) r))):=by simp only[qj,agY];rfl
section
variable{Q:V×List aK->Prop}
def BoQ(b:Bool):V×List aK->Prop:=λz=>∃(a:Bool)(rest:List aK),z.1.dimR=.bool a∧z.2=rest∧a=b
theorem gi{b c:Bool}(o:List aK)(h:c=b):Tot (some ((.bool c,o):V×List aK)) (BoQ b):=aE ⟨_,_,rfl,rfl,h⟩
def aHT(n:Nat):Prop:=∀(a:List PMs)(es:List PEn)(t:Bs)(fs:List (Int×List aC))(rest:Bs),nL a->cM fs<=n->∃r,iB a es t fs rest r
theorem aEq(a:List PMs)(es:List PEn)(k:Int)(t:Bs)(v:aC)(c:∃r,iB a es t v.fs v.rest r):∃r,sS a es k t v r:=by
 apply aBl 1;show Tot _ (BoQ (pf a k t v));unfold aqd aqc;dsimp only;have d:((v.fs.length:Int)=0)↔v.fs.length=0:=by omega
 repeat' (first|(with_reducible refine aB ?_ ?_<;>(intro b;(try simp only[bnl] at b);(try revert b;intro _)))|with_reducible refine aD ?_ ?_|with_reducible refine aE ?_|(refine aL c (λ_ h=>h.2) ?_)|(refine aL (azG _) (λ_ h=>h.2) ?_)|(refine aL (aJf _ _) (λ_ h=>h.2) ?_)|fail)
 all_goals refine⟨_,_,rfl,rfl,?_⟩
 all_goals rw[alG]
 all_goals grind
theorem aL9(a:List PMs)(es:List PEn)(f:PFl)(l:List aC)(hl:l.length<=200000000000)(hF:∀v∈l,∀t,∃r,iB a es t v.fs v.rest r):∃r,ql a es f l r:=by
 obtain⟨N,hN⟩:∃N:Nat,N=300000000000:=⟨_,rfl⟩
 apply ayD N;show Tot _ (BoQ (nO a f l));unfold amD sE;dsimp only;have Y:nO a f l=(decide (l.length≠0)&&((f.label==2||(f.label==3||decide (l.length=1)))&&((!(f.label==3)||decide (l.length%2=0))&&qj a f true none l))):=by simp only[nO,aym]
 have D:nO a f l=qj a f true none l->Tot (aO N (mM N) (l,a,es,f,0)) (BoQ (nO a f l)):=by
  intro e0;refine aW (λ(x:qt)=>match x with|(Z,E,F,X,k)=>(Z,E,F,X)=(l,a,es,f)∧0<=k∧k<=l.length∧nO a f l=qj a f (decide (k%2=0)) (aaZ l k) (l.drop k.toNat)) (λx=>(l.length-x.2.2.2.2).toNat) ?_ _ _ ⟨rfl,Av _,by omega,by rw[e0];rfl⟩ (by dsimp only;omega);rintro z ⟨Z,E,F,X,k⟩ ⟨q,G,k1,y⟩ S;cases q;dsimp only at S;unfold mM;dsimp only;simp only[kr,aBR G];refine aB (λp=>?_) (λp=>?_)
  ·have p:=of_decide_eq_true p;have e:=ixt (l:=l) ⟨G,p⟩;rw[dm (aI .pval) G p] at y;have I:=hF _ (dJ (aI .pval) G p);have R:0<k->k%2=0->aaZ l k=some (Af l (Ad (k-2)) (aI .pval)):=by
    intro h1 u;unfold aaZ;rw[if_neg (by omega),show 2*((k-1) / 2)=k-2 by omega]
   obtain⟨v,H⟩:∃v,v=Af l k.toNat (aI .pval):=⟨_,rfl⟩
   rw[<-H] at y I ⊢;rw[aqt] at y;rw[cu G (by omega)];obtain⟨A,d⟩:∃A,A=pf a (if (f.label==3&&decide (k%2=0))=true then f.key else f.kind) f.typ v:=⟨_,rfl⟩
   obtain⟨C,B⟩:∃C,C=agY f (decide (k%2=0)) (aaZ l k) v:=⟨_,rfl⟩
   rw[<-d,<-B] at y;have w:(A&&(!(mo f&&ry f.kind v)&&C))=false->Tot (some ((.bool false,[]):V×List aK)) (BoQ (nO a f l)):=by intro h;refine gi _ ?_;rw[y,<-Ce,<-Ce,Ce A,h,B3]
   have go:(A&&(!(mo f&&ry f.kind v)&&C))=true->Tot (z (l,a,es,f,k+1)) (BoQ (nO a f l)):=by
    intro h;refine S _ ⟨rfl,by first|omega|(dsimp only;omega),by first|omega|(dsimp only;omega),?_⟩ (by first|omega|(dsimp only;omega));dsimp only;rw[y,<-Ce,<-Ce,Ce A,h,Bd];have O:(!decide (k%2=0))=decide ((k+1)%2=0):=by
     rcases(show k%2=0∨k%2=1 by omega) with h|h;·rw[show (k+1)%2=1 by omega,h];rfl
     ·rw[show (k+1)%2=0 by omega,h];rfl
    have M:(if decide (k%2=0) then some v else aaZ l k)=aaZ l (k+1):=by
     unfold aaZ;rcases(show k%2=0∨k%2=1 by omega) with h|h;·rw[h,if_neg (show ¬k+1=0 by omega),show 2*((k+1-1) / 2)=k by omega,<-H];rfl
     ·rw[h,if_neg (show ¬k+1=0 by omega),if_neg (show ¬k=0 by omega),show 2*((k+1-1) / 2)=2*((k-1) / 2) by omega];rfl
    rw[O,M]
   refine aB (λb=>aB (λu=>?_) (λu=>?_)) (λb=>?_)
   ·have m:mo f=false:=by
                    have b:f.label=3:=by simpa using b
                    simp[mo,b]
    have j:k%2=0:=by simpa using u
    rw[b,j] at d;simp only[decide_true,Bool.and_self,if_true] at d;rw[m,B3] at w go;rw[j] at B;refine aD e (aL (aEq a es f.key f.typ v (I _)) (λ_ h=>h.2) (aB (λc=>w (by rw[show A=false by rw[d];simpa using c];rfl)) (λc=>aEk (aB (λh=>by rw[m] at h;simp at h) (λ_=>aB (λ_=>aB (λ_=>aB (λhp=>?_) (λhp=>go ?_)) (λh=>by rw[u] at h;simp at h)) (λh=>by rw[b] at h;simp at h))))))
    ·have hp:=of_decide_eq_true hp;rw[aT (k-2) (by omega)];have i:C=decide (nn f.key (Af l (Ad (k-2)) (aI .pval)) v<0):=by
      rw[B,R hp j];simp[agY,b]
     have c:A=true:=by rw[d];simpa using c
     refine aD (ixt ⟨by omega,by omega⟩) (aD e (aEj (aB (λP=>w ?_) (λP=>go ?_))));·rw[i,decide_eq_false (by have:=of_decide_eq_true P;omega)];simp
     ·rw[i,c,decide_eq_true (by have:=of_decide_eq_false P;omega)];rfl
    ·have L:k=0:=by have:=of_decide_eq_false hp;omega
     have c:A=true:=by rw[d];simpa using c
     rw[c,B,L];rfl
   ·have m:mo f=false:=by
                    have b:f.label=3:=by simpa using b
                    simp[mo,b]
    have j:k%2≠0:=by simpa using u
    rw[b,decide_eq_false j] at d;simp only[Cx,Cg,if_false] at d;have i:C=true:=by rw[B,decide_eq_false j];unfold agY;split<;>simp
    rw[m,B3,i] at w go;refine aD e (aL (aEq a es f.kind f.typ v (I _)) (λ_ h=>h.2) (aB (λc=>w (by rw[show A=false by rw[d];simpa using c];rfl)) (λc=>aEk (aB (λh=>by rw[m] at h;simp at h) (λ_=>aB (λ_=>aB (λh=>by rw[u] at h;simp at h) (λ_=>go (by rw[d];simpa using c))) (λh=>by rw[b] at h;simp at h))))))
   ·rw[b] at d;simp only[B3,Cg,if_false] at d;have i:C=true:=by
     rw[B];unfold agY;split;·rfl
     ·rw[b];rfl
    rw[i] at w go;refine aD e (aL (aEq a es f.kind f.typ v (I _)) (λ_ h=>h.2) (aB (λc=>w (by rw[show A=false by rw[d];simpa using c];rfl)) (λc=>aEk (aB (λm=>aD e (aL1 (aB (λJ=>w (by rw[m,J];simp)) (λJ=>aB (λh=>by rw[b] at h;simp at h) (λ_=>go (by rw[d,m,J];simpa using c)))))) (λm=>aB (λh=>by rw[b] at h;simp at h) (λ_=>go (by rw[d,m];simpa using c)))))))
  ·have p:=of_decide_eq_false p;rw[dP p] at y;exact gi _ (by rw[y];simp only[qj])
 simp only[aBR (Ch l.length)];have go:(0:Int)≠l.length->(f.label=2∨f.label=3∨(l.length:Int)=1)->(f.label=3->(l.length:Int)%2≠1)->Tot (aO N (mM N) (l,a,es,f,0)) (BoQ (nO a f l)):=λh1 u b=>D (by
  rw[Y];have O:decide (l.length≠0)=true:=decide_eq_true (by omega);have M:(f.label==2||(f.label==3||decide (l.length=1)))=true:=by
   rcases u with h|h|h;·simp[h]
   ·simp[h]
   ·simp[show l.length=1 by omega]
  have e3:(!(f.label==3)||decide (l.length%2=0))=true:=by
   by_cases h:f.label=3;·have:=b h;simp[show l.length%2=0 by omega]
   ·simp[h]
  rw[O,M,e3];rfl)
 repeat' (first|(with_reducible refine aB ?_ ?_<;>(intro W;(try simp only[bnl] at W);(try revert W;intro _)))|with_reducible refine aD ?_ ?_|with_reducible refine aE ?_|fail)
 all_goals first
  |(refine go ?_ ?_ ?_<;>grind)
  |(refine⟨_,_,rfl,rfl,?_⟩;rw[Y];grind)
def OnI(a b:List Int):Prop:=b.length=31∧∀o:Int,1<=o->o<=30->b.getD o.toNat (aI (.num .i64))=if a.contains o then 1 else 0
theorem aMa{a b:List Int}{o:Int}(h:OnI a b)(f:1<=o)(i:o<=30)(k:a.contains o=false):OnI (o::a) (b.set o.toNat 1):=by
 refine⟨by simp[h.1],λq d c=>?_⟩;have j:=h.1;by_cases e:q=o;·subst e;rw[Aq,BC (by omega)];simp
 ·have:=h.2 q d c;rw[Aq] at this ⊢;rw[Bp (by omega),this];simp only[CK];rw[show (q==o)=false by simpa using e,CE]
def rM(fs:List (Int×List aC))(k:Int):Option Int:=if k=0 then none else some (fs.getD (k-1).toNat (aI .pfd)).1
theorem aka{x:Int×List aC}:∀{fs:List (Int×List aC)},x∈fs->100+wtL x.2<=cM fs
 | [],h=>by simp at h
 |y::r,h=>by
  simp only[cM];rcases A3.1 h with rfl|h;·obtain⟨n,l⟩:=x;simp only[wtP];omega
  ·have:=aka h;omega
theorem lr{v:aC}:∀{l:List aC},v∈l->wtV v<=wtL l
 | [],h=>by simp at h
 |y::r,h=>by
  simp only[wtL];rcases A3.1 h with rfl|h;·omega
  ·have:=lr h;omega
theorem awz:∀(n:Nat)(s:Bs)(l:List bF),jh n s=some l->l.length<=n
 |n,[],l,h=>by
  have:l=[]:=by cases n<;>(simp only[jh,Ae] at h;exact h.symm)
  subst this;exact AR _
 |0,_::_,l,h=>by simp[jh] at h
 |k+1,c::s,l,h=>by
  simp only[jh] at h;split at h;·cases h
  ·split at h;·cases h
   ·rename_i r _ b a;cases h;have:=awz k _ _ a;simp only[Ai];omega
theorem azJ(s:Bs):(fo s).1.length <=5000:=by
 unfold fo;split;·simp
 ·cases h:jh s.length s with
  |none=>simp
  |some l=>have:=awz _ _ _ h;simp only;omega
def aq8(a:Option Int)(n:Int):Bool:=match a with|none=>true|some m=>decide (m<n)
theorem awA(c:List PMs)(p:PMs)(b:Option Int)(a:List Int)(x:Int×List aC)(r:List (Int×List aC)):jg c p b a (x::r)=((cK p x.1).2 &&(aq8 b x.1&&(nO c (cK p x.1).1 x.2&&(!(decide (0<(cK p x.1).1.oneof)&&a.contains (cK p x.1).1.oneof)&&jg c p (some x.1) (if 0<(cK p x.1).1.oneof then (cK p x.1).1.oneof ::a else a) r)))):=by obtain⟨n,l⟩:=x;simp only[jg,aq8,nO,aym];rfl
set_option maxHeartbeats 4000000 in
theorem aJu(n:Nat)(hF:∀k,k<n->aHT k)(hn:n<=20000000000000):aHT n:=by
 intro d es t fs rest hS hw;obtain⟨N,hN⟩:∃N:Nat,N=300000000000:=⟨_,rfl⟩
 apply ayB N;show Tot _ (BoQ (uL d t fs rest));unfold amC sD;dsimp only;refine ac4 (by have:=hS.1;omega) (aB (λh=>gi _ ?_) (λh=>?_));·unfold uL;rw[show (dU d t).2 =false by simpa using h];rfl
 have h:(dU d t).2 =true:=by simpa using h
 have hp:=ajW t hS;have ed:uL d t fs rest=(jg d (dU d t).1 none [] fs&&rz (dU d t).1 rest):=by unfold uL;rw[h];rfl
 obtain⟨p,al⟩:∃p,p=(dU d t).1 :=⟨_,rfl⟩
 rw[<-al] at hp ed ⊢;have ay:=hp.1;have a3:=yv fs;rw[ed];refine aW (λ(x:gQ)=>match x with|(S,Y,O,re,L,k,a)=>(S,Y,O,re,L)=(d,es,fs,rest,p)∧0<=k∧k<=fs.length∧∃c,OnI c a∧jg d p none [] fs=jg d p (rM fs k) c (fs.drop k.toNat)) (λx=>(fs.length-x.2.2.2.2.2.1).toNat) ?_ _ _ ⟨rfl,Av _,by omega,[],⟨by simp,λo o1 o2=>?_⟩,rfl⟩ (by dsimp only;omega)
 rotate_left
 ·rw[Aq,Cb,if_pos (by omega)];rfl
 rintro u ⟨S,Y,O,re,L,k,a⟩ ⟨q,k0,k1,c,Z,i⟩ ih;cases q;dsimp only at ih;unfold vG tS;dsimp only;refine aB (λB=>?_) (λB=>?_)
 ·have B:=of_decide_eq_true B;have e:=ixt (l:=fs) ⟨k0,B⟩;rw[dm (aI .pfd) k0 B,awA] at i;have M:=dJ (aI .pfd) k0 B;have F:0<k->rM fs k=some (Af fs (Ad (k-1)) (aI .pfd)).1 :=λh=>by unfold rM;rw[if_neg (by omega)]
  have m:rM fs (k+1)=some (Af fs k.toNat (aI .pfd)).1 :=by unfold rM;rw[if_neg (by omega),show k+1-1=k by omega]
  obtain⟨x,hx⟩:∃x,x=Af fs k.toNat (aI .pfd):=⟨_,rfl⟩
  rw[<-hx] at i M m ⊢;have ax:=aka M;have a7:=zk x.2;have no:∀o:List aK,jg d p none [] fs=false->Tot (some ((.bool false,o):V×List aK)) (BoQ (jg d p none [] fs&&rz p rest)):=λo h=>gi _ (by rw[h];rfl)
  rw[cu k0 (by omega),aT (k-1) (by omega)];refine aD e (ap7 (by omega) (aB (λh=>no _ (by rw[i,show (cK p x.1).2 =false by simpa using h];rfl)) (λh=>?_)));have h:(cK p x.1).2 =true:=by simpa using h
  have X:=(aq6 x.1 hp h).1;obtain⟨f,ah⟩:∃f,f=(cK p x.1).1 :=⟨_,rfl⟩
  rw[<-ah] at i X ⊢;rw[h,Bd] at i
  have C:aq8 (rM fs k) x.1=true->Tot (aA (ql d es f x.2) (λ(r3:Bool)=>
           cond (!r3) (
            some (.bool false,[some [.rw (.num .i64) a],none])) (
            cond (decide (0<f.oneof)) (
             chk ((decide (0<=(f.oneof:Int))&&decide ((f.oneof:Int)<31))) (
              chk (decide ((Ad f.oneof)<Aa a)) (
               chk ((decide (0<=(f.oneof:Int))&&decide ((f.oneof:Int)<31))) (
                chk (decide ((Ad f.oneof)<Aa a)) (
                 chk ((decide (0<=(f.oneof:Int))&&decide ((f.oneof:Int)<31))) (
                  chk (decide ((Ad f.oneof)<Aa (BV a (Ad f.oneof) (Ab .i64 ((Af a (Ad f.oneof) (aI (.num .i64)))+1))))) (
                   cond (decide (1<(Af (BV a (Ad f.oneof) (Ab .i64 ((Af a (Ad f.oneof) (aI (.num .i64)))+1))) (Ad f.oneof) (aI (.num .i64)):Int))) (
                    some (.bool false,[some [.rw (.num .i64) (BV a (Ad f.oneof) (Ab .i64 ((Af a (Ad f.oneof) (aI (.num .i64)))+1)))],none])) (
                    u (d,es,fs,rest,p,k+1,(BV a (Ad f.oneof) (Ab .i64 ((Af a (Ad f.oneof) (aI (.num .i64)))+1)))))))))))) (
             u (d,es,fs,rest,p,k+1,a))))) (BoQ (jg d p none [] fs&&rz p rest)):=by
   intro G;rw[G,Bd] at i;refine aL (aL9 d es f x.2 (by omega) (λv hv t=>hF (cM v.fs) (by have:=lr hv;have:=sV v;omega) d es t v.fs v.rest hS (Ap _))) (λ_ h=>h.2) (aB (λhf=>no _ (by rw[i,show nO d f x.2=false by simpa using hf];rfl)) (λhf=>?_));rw[show nO d f x.2=true by simpa using hf,Bd] at i;refine aB (λb=>?_) (λb=>?_)
   ·have b:=of_decide_eq_true b;rw[decide_eq_true b,if_pos b,Bd] at i;have D:f.oneof<=30:=X.2.2.2.1;have P:=Z.2 f.oneof (by omega) D;have au:=Z.1;have c1:(decide (0<=(f.oneof:Int))&&decide ((f.oneof:Int)<31))=true:=by simp only[Ac,decide_eq_true_eq];omega
    have c2:∀y:Int,decide ((Ad f.oneof)<Aa (BV a (Ad f.oneof) y))=true:=λy=>decide_eq_true (by rw[AD];omega)
    have c3:decide ((Ad f.oneof)<Aa a)=true:=decide_eq_true (by omega);have W:∀y:Int,Af (BV a (Ad f.oneof) y) (Ad f.oneof) (aI (.num .i64))=y:=λy=>by rw[Aq,BC (by omega)];rfl
    rw[P,W];refine aD c1 (aD c3 (aD c1 (aD c3 (aD c1 (aD (c2 _) ?_)))));cases hc:c.contains f.oneof with
    |true=>rw[hc] at i;exact aB (λ_=>no _ (by rw[i];rfl)) (λh=>absurd h (by decide))
    |false=>rw[hc] at i;simp only[Bh,Bd] at i;refine aB (λh=>absurd h (by decide)) (λ_=>?_);refine ih _ ⟨rfl,by first|omega|(dsimp only;omega),by first|omega|(dsimp only;omega),f.oneof::c,aMa Z (by omega) D hc,?_⟩ (by first|omega|(dsimp only;omega));dsimp only;rw[i,m]
   ·have b:=of_decide_eq_false b;rw[decide_eq_false b,if_neg b] at i;simp only[B3,Bh,Bd] at i;exact ih _ ⟨rfl,by first|omega|(dsimp only;omega),by first|omega|(dsimp only;omega),c,Z,by dsimp only;rw[i,m]⟩ (by first|omega|(dsimp only;omega))
  refine aB (λw=>?_) (λw=>aD e (C ?_))
  ·have w:=of_decide_eq_true w;have e2:aq8 (rM fs k) x.1=decide ((Af fs (Ad (k-1)) (aI .pfd)).1 <x.1):=by rw[F w];rfl
   refine aD e (aD (ixt ⟨by omega,by omega⟩) (aB (λH=>no _ ?_) (λH=>aD e (C ?_))));·rw[i,e2,decide_eq_false (by have:=of_decide_eq_true H;omega)];rfl
   ·rw[e2,decide_eq_true (by have:=of_decide_eq_false H;omega)]
  ·have:k=0:=by have:=of_decide_eq_false w;omega
   subst this;rfl
 ·have B:=of_decide_eq_false B;rw[dP B] at i;rw[i];have ad:=azJ rest;refine aL (aHJ _) (λ_ h=>h.2) ?_;have er:rz p rest=((fo rest).2 ==0&&(fo rest).1.all (λx=> !((cK p x.num).2 &&sA (cK p x.num).1 x.wire))):=rfl;have ef:jg d p (rM fs k) c []=true:=by simp only[jg]
  rw[ef,Bd,er];obtain⟨l,hl⟩:∃l,l=(fo rest).1 :=⟨_,rfl⟩
  obtain⟨e,he⟩:∃e,e=(fo rest).2 :=⟨_,rfl⟩
  rw[<-hl] at ad ⊢;rw[<-he];refine aW (λ(x:qq)=>match x with|(L,l',e',j,E)=>(L,l',e')=(p,l,e)∧0<=j∧j<=l.length∧l.all (λx=> !((cK p x.num).2 &&sA (cK p x.num).1 x.wire))=(l.drop j.toNat).all (λx=> !((cK p x.num).2 &&sA (cK p x.num).1 x.wire))) (λx=>(l.length-x.2.2.2.1).toNat) ?_ _ _ ⟨rfl,Av _,by omega,rfl⟩ (by dsimp only;omega);rintro z ⟨L,l',e',j,E⟩ ⟨q,j0,j1,J⟩ R;cases q;dsimp only at R;unfold qr;dsimp only;refine aB (λr=>?_) (λr=>?_)
  ·have r:=of_decide_eq_true r;have e1:=ixt (l:=l) ⟨j0,r⟩;rw[dm (aI .record) j0 r,Cm] at J;obtain⟨x,hx⟩:∃x,x=Af l j.toNat (aI .record):=⟨_,rfl⟩
   rw[<-hx] at J ⊢;rw[cu j0 (by omega)];have go:(!((cK p x.num).2 &&sA (cK p x.num).1 x.wire))=true->Tot (z (p,l,e,j+1,E)) (BoQ (e==0&&l.all (λx=> !((cK p x.num).2 &&sA (cK p x.num).1 x.wire)))):=λh=>R _ ⟨rfl,by first|omega|(dsimp only;omega),by first|omega|(dsimp only;omega),by rw[J,h];rfl⟩ (by first|omega|(dsimp only;omega))
   refine aD e1 (ap7 (by omega) (aB (λA=>aD e1 (aKG (aB (λI=>gi _ ?_) (λI=>go ?_)))) (λA=>go ?_)));·rw[J,A,I];simp
   ·rw[A,I];rfl
   ·rw[A];rfl
  ·have r:=of_decide_eq_false r;rw[dP r] at J;exact gi _ (by rw[J];simp)
theorem aKO(n:Nat)(c:n<=20000000000000):aHT n:=by
 induction n using C7 with
 |_ n a=>exact aJu n (λk b=>a k b (by omega)) c
theorem aJv{a:List PMs}{es:List PEn}{t:Bs}{fs:List (Int×List aC)}{rest:Bs}{K:Bool->Ro}(b:nL a)(d:cM fs<=20000000000000)(c:Tot (K (uL a t fs rest)) Q):Tot (aA (iB a es t fs rest) K) Q:=aL (aKO _ (Ap _) a es t fs rest b d) (λ_ h=>h.2) c
end
def aBt:aG:=tb_ [] [] [] [aiu]
def ayP:IR:=Rs [Mb 2 false] (Rs [Mv 4 0,Ca 5 158 [4],Mv 3 5] (Rs [Mv 6 3,Bc 7 .geq 6 0,Mv 8 7,Gt 8 (.mov 9 3),Gt 8 (.bin 10 .neq 9 (kI 2)),Pa 11 8 10,Mv 2 11] .ret))
theorem ayQ:FnC Tryz.prog aBt [] 0 186 Tryz.f186 ayP aF:=fnC Tryz.func186
def akb(N:Nat)(b:Int):Ro:=aA (wJ b) (λ(a:Int)=>cond (decide (0<=a)) (some (vB (!(a==2)),[])) (some (vB false,[])))
def akc(N:Nat)(a:Int):Ro:=akb N a
theorem awB(N:Nat)(b:Int)(h:Tot (akc N b) (λz=>∃a rest,z.1.dimR=vB a∧z.2=rest∧yp b (a))):∃r,xS b r:=ayQ.finP (N:=N) (by kernel_rfl) h λ_ ⟨a,_,e,_,q⟩=>⟨(a),e,q⟩
def aEr:aG:=tb_ [] [] [] [aiu,aBa]
def aBu:IR:=Rs [Bx 2 0,Mb 4 false] (Sq (Rs [Fa 6 2 2,Lq 7 6,Bc 8 .eql 7 3] (Cn 8 (Rs [Mv 9 1,Bc 10 .eql 9 2,Mv 4 10] .ret) .skip)) (Rs [Fa 11 3 2,Lq 12 11,Ca 13 158 [12],Mv 5 13] (Rs [Mv 14 5,Bc 15 .geq 14 0,Mv 16 15,Gt 16 (.mov 17 1),Gt 16 (.mov 18 5),Gt 16 (.bin 19 .eql 17 18),Gt 16 (.mov 20 19),Gf 20 (.fad 21 2 2),Gf 20 (.lde 22 1 false 21),Gf 20 (.bin 23 .eql 22 (kI 2)),Gf 20 (.mov 24 23),Gt 24 (.fad 25 3 2),Gt 24 (.lde 26 1 false 25),Gt 24 (.call 27 186 [26]),Gf 20 (.pick 28 24 27 (kB false)),Gf 20 (.mov 29 28),Gt 29 (.mov 30 1),Gt 29 (.bin 31 .eql 30 (kI 2)),Gf 20 (.pick 32 29 31 (kB false)),Gt 16 (.pick 33 20 (kB true) 32),Pa 34 16 33,Mv 4 34] .ret)))
theorem aBv:FnC Tryz.prog aEr [] 0 139 Tryz.f139 aBu aR:=fnC Tryz.func139
def amF(N:Nat)(a:PFl)(b:Int):Ro:=cond (a.label==3) (some (vB (b==2),[])) (aA (wJ a.kind) (λ(c:Int)=>cond (decide (0<=c)) (cond (b==c) (some (vB true,[])) (cond (a.label==2) (aA (xS a.kind) (λ(d:Bool)=>cond d (some (vB (b==2),[])) (some (vB false,[])))) (some (vB false,[])))) (some (vB false,[]))))
def amG(N:Nat)(a:PFl)(b:Int):Ro:=amF N a b
theorem ayR(N:Nat)(b:PFl)(c:Int)(h:Tot (amG N b c) (λz=>∃a rest,z.1.dimR=vB a∧z.2=rest∧aaP b c (a))):∃r,aaS b c r:=aBv.finP (N:=N) (by kernel_rfl) h λ_ ⟨a,_,e,_,q⟩=>⟨(a),e,q⟩
def aBw:aG:=tb_ [] [] [] [afC]
def ayS:IR:=Rs [Mb 2 false] (Rs [Pp (.bsl 3 (.num .i64) [kI 3,kI 4,kI 7,kI 8,kI 11,kI 12,kI 17] true),Mv 4 0,Ca 5 224 [3,4],Mv 2 5] .ret)
theorem ayT:FnC Tryz.prog aBw [] 0 218 Tryz.f218 ayS aF:=fnC Tryz.func218
def akd(N:Nat)(a:Int):Ro:=aA (gZ [3,4,7,8,11,12,17] a) (λ(b:Bool)=>some (vB b,[]))
def ake(N:Nat)(a:Int):Ro:=akd N a
theorem awC(N:Nat)(b:Int)(h:Tot (ake N b) (λz=>∃a rest,z.1.dimR=vB a∧z.2=rest∧agG b (a))):∃r,xT b r:=ayT.finP (N:=N) (by kernel_rfl) h λ_ ⟨a,_,e,_,q⟩=>⟨(a),e,q⟩
def aHU:aG:=tb_ [] [] [] [aro,aBb,anH,alx]
def aF3:IR:=Rs [Bx 4 1,Bx 5 2,Mi 6 0] (Sq (.block 0 (Rs [Mv 8 0,Bc 9 .eql 8 16,Mv 7 9] (Cn 7 (Rs [Mi 6 0] .ret) (Rs [Mv 11 0,Bc 12 .eql 11 14,Mv 13 12,Gf 13 (.mov 14 0),Gf 13 (.bin 15 .eql 14 (kI 15)),Po 16 13 15,Mv 10 16] (Cn 10 (Rs [Fa 17 1 4,Lq 18 17,Fa 19 1 5,Lq 20 19,Ca 21 217 [18,20],Mv 6 21] .ret) (Rs [Mv 23 0,Ca 24 218 [23],Mv 22 24] (Cn 22 (Rs [Fa 25 0 4,Lq 26 25,Pp (.cvi 27 .i64 26),Fa 28 0 5,Lq 29 28,Pp (.cvi 30 .i64 29),Ca 31 219 [27,30],Mv 6 31] .ret) .skip))))))) (Rs [Fa 32 0 4,Lq 33 32,Fa 34 0 5,Lq 35 34,Ca 36 220 [33,35],Mv 6 36] .ret))
theorem aF4:FnC Tryz.prog aHU [] 0 187 Tryz.f187 aF3 aS:=fnC Tryz.func187
def as1(N:Nat)(a:Int)(b c:aC):Ro:=cond (a==16) (some (vI 0,[])) (cond (a==14) (aA (lI b.s c.s) (λ(d:Int)=>some (vI d,[]))) (cond (a==15) (aA (lI b.s c.s) (λ(e:Int)=>some (vI e,[]))) (aA (xT a) (λ(f:Bool)=>cond f (aA (nJ (Ab .i64 b.n) (Ab .i64 c.n)) (λ(g:Int)=>some (vI g,[]))) (aA (mz b.n c.n) (λ(h:Int)=>some (vI h,[])))))))
def as2(N:Nat)(a:Int)(b c:aC):Ro:=as1 N a b c
theorem aEs(N:Nat)(b:Int)(c d:aC)(h:Tot (as2 N b c d) (λz=>∃a rest,z.1.dimR=vI a∧z.2=rest∧amw b c d (a))):∃r,aaU b c d r:=aF4.finP (N:=N) (by kernel_rfl) h λ_ ⟨a,_,e,_,q⟩=>⟨(a),e,q⟩
def aF5:aG:=tb_ [] [] [] []
def aEt:IR:=Rs [Bx 1 0,Mb 2 false] (Rs [Fa 3 0 1,Lq 4 3,Ll 5 4,Bc 6 .eql 5 0,Mv 7 6,Gt 7 (.fad 8 1 1),Gt 7 (.lde 9 1 false 8),Gt 7 (.bin 10 .eql 9 (kS [])),Pa 11 7 10,Mv 2 11] .ret)
theorem aEu:FnC Tryz.prog aF5 [] 0 189 Tryz.f189 aEt aF:=fnC Tryz.func189
def aqu(N:Nat)(a:List (Int×List aC))(b:Bs):Ro:=let c:=(↑(Aa a):Int);cond (c==0) (let d:=decide (b=[]);some (vB d,[])) (some (vB false,[]))
def aqv(N:Nat)(a:List (Int×List aC))(b:Bs):Ro:=aqu N a b
theorem aBx(N:Nat)(a:List (Int×List aC))(b:Bs)(h:Tot (aqv N a b) (λz=>∃c rest,z.1.dimR=vB c∧z.2=rest∧acr a b (c))):∃r,ac3 a b r:=aEu.finP (N:=N) (by kernel_rfl) h λ_ ⟨c,_,e,_,q⟩=>⟨(c),e,q⟩
def aF6:aG:=tb_ [] [] [] []
def aEv:IR:=Rs [Bx 1 0,Mb 2 false] (Rs [Fa 3 0 1,Lq 4 3,Pp (.bin 5 .eql 4 (kU 0)),Mv 6 5,Gt 6 (.fad 7 1 1),Gt 6 (.lde 8 1 false 7),Gt 6 (.bin 9 .eql 8 (kS [])),Pa 10 6 9,Mv 2 10] .ret)
theorem aEw:FnC Tryz.prog aF6 [] 0 106 Tryz.f106 aEv aF:=fnC Tryz.func106
def aqw(N:Nat)(a:aC):Ro:=cond (a.n==0) (let b:=decide (a.s=[]);some (vB b,[])) (some (vB false,[]))
def aqx(N:Nat)(a:aC):Ro:=aqw N a
theorem aBy(N:Nat)(b:aC)(h:Tot (aqx N b) (λz=>∃a rest,z.1.dimR=vB a∧z.2=rest∧acs b (a))):∃r,sT b r:=aEw.finP (N:=N) (by kernel_rfl) h λ_ ⟨a,_,e,_,q⟩=>⟨(a),e,q⟩
def aHV:aG:=tb_ [] [] [] [asY,aAw,aFW,aFt]
def aF7:IR:=Rs [Bx 4 0,Bx 7 3,Mb 8 false] (Sq (.block 0 (Rs [Mv 10 1,Bc 11 .eql 10 16,Mv 9 11] (Cn 9 (Rs [Fa 12 0 7,Lq 13 12,Pp (.bin 14 .eql 13 (kU 0)),Mv 15 14,Gt 15 (.fad 16 1 7),Gt 15 (.lde 17 1 false 16),Gt 15 (.bin 18 .eql 17 (kS [])),Pa 19 15 18,Mv 20 19,Gt 20 (.lde 21 2 true 4),Gt 20 (.mov 22 2),Gt 20 (.fad 23 2 7),Gt 20 (.lde 24 2 true 23),Gt 20 (.call 25 48 [21,22,24]),Pa 26 20 25,Mv 8 26] .ret) (Rs [Fa 28 2 7,Ld 29 2 true 28,Ca 30 189 [29],Un 31 30,Mv 27 31] (Cn 27 (Rs [Mb 8 false] .ret) (Rs [Mv 33 1,Bc 34 .eql 33 14,Mv 32 34] (Cn 32 (Rs [Fa 35 0 7,Lq 36 35,Pp (.bin 37 .eql 36 (kU 0)),Mv 38 37,Gt 38 (.fad 39 1 7),Gt 38 (.lde 40 1 false 39),Gt 38 (.call 41 172 [40]),Pa 42 38 41,Mv 8 42] .ret) (Rs [Mv 44 1,Bc 45 .eql 44 15,Mv 43 45] (Cn 43 (Rs [Fa 46 0 7,Lq 47 46,Pp (.bin 48 .eql 47 (kU 0)),Mv 8 48] .ret) .skip))))))))) (Rs [Fa 49 1 7,Lq 50 49,Pp (.bin 51 .eql 50 (kS [])),Mv 52 51,Gt 52 (.mov 53 1),Gt 52 (.fad 54 0 7),Gt 52 (.lde 55 1 false 54),Gt 52 (.call 56 190 [53,55]),Pa 57 52 56,Mv 8 57] .ret))
theorem aF8:FnC Tryz.prog aHV [] 0 145 Tryz.f145 aF7 fT:=fnC Tryz.func145
def as3(N:Nat)(b:List PMs)(c:List PEn)(d:Int)(e:Bs)(a:aC):Ro:=cond (d==16) (cond (a.n==0) (let f:=decide (a.s=[]);cond f (aA (fQ b c e a.fs a.rest) (λ(g:Bool)=>some (vB g,[]))) (some (vB false,[]))) (some (vB false,[]))) (aA (ac3 a.fs a.rest) (λ(h:Bool)=>cond (!h) (some (vB false,[])) (cond (d==14) (cond (a.n==0) (aA (aeh a.s) (λ(i:Bool)=>some (vB i,[]))) (some (vB false,[]))) (cond (d==15) (some (vB (a.n==0),[])) (let j:=decide (a.s=[]);cond j (aA (aiv d a.n) (λ(k:Bool)=>some (vB k,[]))) (some (vB false,[])))))))
def as4(N:Nat)(a:List PMs)(b:List PEn)(c:Int)(d:Bs)(e:aC):Ro:=as3 N a b c d e
theorem aEx(N:Nat)(a:List PMs)(b:List PEn)(d:Int)(f:Bs)(g:aC)(h:Tot (as4 N a b d f g) (λz=>∃c rest,z.1.dimR=vB c∧z.2=rest∧amx a b d f g (c))):∃r,vz a b d f g r:=aF8.finP (N:=N) (by kernel_rfl) h λ_ ⟨c,_,e,_,q⟩=>⟨(c),e,q⟩
def agZ:aG:=tb_ [] [] [] [awa,aHD]
def ah7:IR:=Rs [Bi 12 .lss 11 10] (Sq (Cn 12 .skip (.exit 0)) (Sq (.block 1 (Rs [Mv 13 11,Ix 14 .pval 9 11,Ld 15 4 true 14,Pp (.alr 8 4),Mv 7 13,Fz 8 4 15] (.block 2 (Rs [Mv 17 7,Bc 18 .rem 17 2,Bc 19 .eql 18 1,Mv 16 19] (Cn 16 (Rs [Ld 20 2 true 3,Fa 21 3 4,Lq 22 21,Fa 23 4 4,Lq 24 23,Ld 25 4 true 8,Ca 26 145 [20,22,24,25],Un 27 26] (Cn 27 (Rs [Mb 6 false] .ret) .skip)) (Sq (.reg [Ld 29 2 true 3,Fa 30 5 4,Lq 31 30,Ld 32 4 true 8,Ca 33 145 [29,31,kS [],32],Un 34 33,Mv 35 34,Gf 35 (.mov 36 7),Gf 35 (.bin 37 .gtr 36 (kI 0)),Gf 35 (.mov 38 37),Gt 38 (.fad 39 5 4),Gt 38 (.lde 40 1 false 39),Gt 38 (.mov 41 2),Gt 38 (.mov 42 7),Gt 38 (.bin 43 .sub 42 (kI 2)),Gt 38 (.ixa 44 .pval 41 43),Gt 38 (.lde 45 4 true 44),Gt 38 (.lde 46 4 true 8),Gt 38 (.call 47 187 [40,45,46]),Gt 38 (.bin 48 .geq 47 (kI 0)),Gf 35 (.pick 49 38 48 (kB false)),Po 50 35 49,Mv 28 50] [[],[],[1],[],rg 0 3,rg 0 4,rg 0 5,rg 0 6,rg 0 7,rg 0 8,rg 0 9,rg 0 10,rg 0 9,rg 0 9,rg 0 9++[13],rg 0 9++[12,13,14],rg 0 9++rg 12 15,rg 0 9,rg 0 17,rg 0 18,rg 0 19,rg 0 20,rg 0 21]) (Cn 28 (Rs [Mb 6 false] .ret) .skip))))))) (Rg [Bc 51 .add 11 1,Mv 11 51])))
def ag0:IR:=Rs [Mv 52 2,Ll 53 52,Bc 54 .rem 53 2,Bc 55 .eql 54 0,Mv 6 55] .ret
def aBz:IR:=Rs [Bx 3 0,Bx 4 1,Mb 6 false] (Sq (Rs [Mv 9 2,Ll 10 9,Mi 11 0] (.block 0 (.loop [2,3,4,9,10,11,1000000] 0 ah7))) ag0)
theorem aBA:FnC Tryz.prog agZ [] 0 142 Tryz.f142 aBz aS:=fnC Tryz.func142
def ayU(R:TR)(a:TS):TE:=(bo a [2,3,4,9,10,11,1000000] 0 (aQ 0 (kseq (R ag0) (fin aS))))
abbrev qz:Type:=(List aC×List PMs×List PEn×PFl×List aC×Int×Int)
def tX:qz->St:=λ(a,b,c,d,e,f,g)=>{env:=(.undef::.undef::vF .pval a::.ea [vF .pms b,vF .pen c]::.ea (enc .pfl d)::(U 4 (vF .pval e::vI f::vI g::(U 44 [])))),hp:=[]}
def acD(N:Nat):TS->TS:=λa s=>run agZ N ah7 (ayU (run agZ N) a) s
def vL(N:Nat)(d:qz->Ro):qz->Ro:=λ(g,b,c,e,h,f,a)=>let i:=λl=>d (g,b,c,e,h,f,l);cond (decide (a<f)) (chk (ixl a h) (let j:=(Af h (Ad a) (aI .pval));cond ((AQ a 2)==1) (aA (vz b c e.kind e.typ (reP j)) (λ(m:Bool)=>cond (!m) (some (vB false,[])) (let n:=(Ab .i64 (a+1));i n))) (aA (vz b c e.key [] (reP j)) (λ(o:Bool)=>cond (!o) (some (vB false,[])) (cond (decide (0<a)) (let k:=(Ab .i64 (a-2));chk (ixl k g) (let p:=(Af g (Ad k) (aI .pval));aA (aaU e.key (reP p) (reP j)) (λ(q:Int)=>cond (decide (0<=q)) (some (vB false,[])) (let r:=(Ab .i64 (a+1));i r)))) (let s:=(Ab .i64 (a+1));i s)))))) (let t:=(↑(Aa g):Int);some (vB ((AQ t 2)==0),[]))
theorem awD(N:Nat):LB (acD N) tX (vL N):=λ_ _=>by kernel_rfl
def sJ(N:Nat)(a:List PMs)(b:List PEn)(d:PFl)(c:List aC)(e:qz->Ro):Ro:=let f:=(↑(Aa c):Int);e (c,a,b,d,c,f,0)
def amH(N:Nat)(a:List PMs)(b:List PEn)(c:PFl)(d:List aC):Ro:=sJ N a b c d (λz=>aO N (vL N) z)
theorem ayV(N:Nat)(a:List PMs)(c:List PEn)(d:PFl)(f:List aC)(h:Tot (amH N a c d f) (λz=>∃g rest,z.1.dimR=vB g∧z.2=rest∧ahW a c d f (g))):∃r,aaT a c d f r:=aBA.finP (N:=N) ((bD _ (by kernel_rfl) rfl (λC=>sJ N a c d f (λz=>C 1000000 (tX z))) (λC=>by kernel_rfl)).trans (AB (b:=sJ N a c d f (λz=>aZ N (acD N) (tX z))) (by kernel_rfl) (congrArg (sJ N a c d f) (funext λz=>aU (tX) (acD N) (vL N) (awD N) N z)))) h λ_ ⟨g,_,e,_,q⟩=>⟨(g),e,q⟩
def awE:aG:=tb_ [] [] [] [awa]
def aur:IR:=Rs [Bx 3 0,Mb 4 false] (Rs [Ld 5 2 true 1,Fa 6 3 2,Lq 7 6,Fa 8 4 2,Lq 9 8,Ld 10 4 true 3,Ca 11 145 [5,7,9,10],Un 12 11,Mv 4 12] .ret)
theorem aus:FnC Tryz.prog awE [] 0 144 Tryz.f144 aur aR:=fnC Tryz.func144
def ag1(N:Nat)(a:aC)(e:List PMs)(d:List PEn)(h:Int)(k:Bs)(i f:Int)(c:Bs)(m:Int)(j:Bool)(l:Int):Ro:=aA (vz e d f c (reP a)) (λ(b:Bool)=>some (vB (!b),[]))
def ag2(N:Nat)(a:aC)(k:List PMs)(e:List PEn)(c:Int)(h:Bs)(d l:Int)(b:Bs)(j:Int)(f:Bool)(i:Int):Ro:=ag1 N a k e c h d l b j f i
theorem ase(N:Nat)(b:aC)(t:List PMs)(i:List PEn)(d:Int)(l:Bs)(f j:Int)(c:Bs)(p:Int)(k:Bool)(m:Int)(h:Tot (ag2 N b t i d l f j c p k m) (λz=>∃a rest,z.1.dimR=vB a∧z.2=rest∧adT b t i d l f j c p k m (a))):∃r,tR b t i d l f j c p k m r:=aus.finP (N:=N) (by kernel_rfl) h λ_ ⟨a,_,e,_,q⟩=>⟨(a),e,q⟩
def dG:aG:=tb_ [] [] [] [av9]
def fj:IR:=Rs [Bi 9 .lss 8 7] (Sq (Cn 9 .skip (.exit 0)) (Sq (.block 1 (Rs [Mv 10 8,Mv 5 10] (Rs [Mv 11 1,Mv 12 0,Mv 13 5,Ix 14 .pval 12 13,Ld 15 4 true 14,Pp (.dcall (some 16) 144 (.t 11) [.t 15])] (Cn 16 (Rs [Mv 17 5,Mv 4 17] .ret) .skip)))) (Rg [Bc 18 .add 8 1,Mv 8 18])))
def fk:IR:=Rs [Mi 4 (-1)] .ret
def mN:IR:=Rs [Mi 4 0] (Sq (Rs [Mv 6 0,Ll 7 6,Mi 8 0] (.block 0 (.loop [0,1,7,8,1000000] 0 fj))) fk)
theorem mO:FnC Tryz.prog dG [] 0 188 Tryz.f188 mN aR:=fnC Tryz.func188
def mB(R:TR)(a:TS):TE:=(bo a [0,1,7,8,1000000] 0 (aQ 0 (kseq (R fk) (fin aR))))
abbrev ce:Type:=(List aC×List PMs×List PEn×Int×Bs×Int×Int×Bs×Int×Bool×Int×Int×Int)
def cO:ce->St:=λ(d,e,f,g,h,i,j,k,l,m,a,b,c)=>{env:=(vF .pval d::.fn 144 [.ea [vF .pms e,vF .pen f],.ea [vI g,vT h,vI i,vI j,vT k,vI l,vB m,vI a]]::(U 5 (vI b::vI c::(U 10 [])))),hp:=[]}
def dx(N:Nat):TS->TS:=λa s=>run dG N fj (mB (run dG N) a) s
def cS(N:Nat)(k:ce->Ro):ce->Ro:=λ(m,a,b,c,d,e,f,g,h,i,j,n,l)=>cond (decide (l<n)) (chk (ixl l m) (let o:=(Af m (Ad l) (aI .pval));aA (tR (reP o) a b c d e f g h i j) (λ(p:Bool)=>cond p (some (vI l,[])) (let q:=(Ab .i64 (l+1));k (m,a,b,c,d,e,f,g,h,i,j,n,q))))) (some (vI (-1),[]))
theorem lS(N:Nat):LB (dx N) cO (cS N):=λ_ _=>by kernel_rfl
def cf(N:Nat)(k:List aC)(a:List PMs)(b:List PEn)(c:Int)(d:Bs)(e f:Int)(g:Bs)(h:Int)(i:Bool)(j:Int)(l:ce->Ro):Ro:=let m:=(↑(Aa k):Int);l (k,a,b,c,d,e,f,g,h,i,j,m,0)
def fy(N:Nat)(k:List aC)(a:List PMs)(b:List PEn)(c:Int)(d:Bs)(e f:Int)(g:Bs)(h:Int)(i:Bool)(j:Int):Ro:=cf N k a b c d e f g h i j (λz=>aO N (cS N) z)
theorem mC(N:Nat)(n:List aC)(a:List PMs)(c:List PEn)(d:Int)(f:Bs)(g i:Int)(j:Bs)(k:Int)(l:Bool)(m:Int)(h:Tot (fy N n a c d f g i j k l m) (λz=>∃o rest,z.1.dimR=vI o∧z.2=rest∧fh n a c d f g i j k l m (o))):∃r,cY n a c d f g i j k l m r:=mO.finP (N:=N) ((bD _ (by kernel_rfl) rfl (λC=>cf N n a c d f g i j k l m (λz=>C 1000000 (cO z))) (λC=>by kernel_rfl)).trans (AB (b:=cf N n a c d f g i j k l m (λz=>aZ N (dx N) (cO z))) (by kernel_rfl) (congrArg (cf N n a c d f g i j k l m) (funext λz=>aU (cO) (dx N) (cS N) (lS N) N z)))) h λ_ ⟨o,_,e,_,q⟩=>⟨(o),e,q⟩
def lT:aG:=tb_ [] [] [] [nq]
def lF:IR:=Rs [Mb 4 false] (Rs [Mv 5 0,Mv 6 1,Ca 7 188 [5,6],Bc 8 .geq 7 0,Mv 4 8] .ret)
theorem lG:FnC Tryz.prog lT [] 0 143 Tryz.f143 lF aR:=fnC Tryz.func143
def eX(N:Nat)(k:List aC)(a:List PMs)(b:List PEn)(c:Int)(d:Bs)(e f:Int)(g:Bs)(h:Int)(i:Bool)(j:Int):Ro:=aA (cY k a b c d e f g h i j) (λ(l:Int)=>some (vB (decide (0<=l)),[]))
def eY(N:Nat)(k:List aC)(a:List PMs)(b:List PEn)(c:Int)(d:Bs)(e f:Int)(g:Bs)(h:Int)(i:Bool)(j:Int):Ro:=eX N k a b c d e f g h i j
theorem kO(N:Nat)(n:List aC)(a:List PMs)(b:List PEn)(c:Int)(d:Bs)(f g:Int)(i:Bs)(j:Int)(k:Bool)(l:Int)(h:Tot (eY N n a b c d f g i j k l) (λz=>∃m rest,z.1.dimR=vB m∧z.2=rest∧eF n a b c d f g i j k l (m))):∃r,aM n a b c d f g i j k l r:=lG.finP (N:=N) (by kernel_rfl) h λ_ ⟨m,_,e,_,q⟩=>⟨(m),e,q⟩
def aEy:aG:=tb_ [] [] [] [aFU,aDQ,lP]
def aBB:IR:=Rs [Bx 3 0,Bx 4 1,Mb 6 false] (Sq (Rs [Mv 7 2,Ll 8 7,Bc 9 .eql 8 0] (Cn 9 (Rs [Mb 6 false] .ret) .skip)) (Sq (Rs [Fa 10 2 4,Lq 11 10,Bc 12 .eql 11 3] (Cn 12 (Rs [Ld 13 2 true 3,Ld 14 8 true 4,Mv 15 2,Ca 16 142 [13,14,15],Mv 6 16] .ret) .skip)) (Sq (Rs [Fa 17 2 4,Lq 18 17,Bc 19 .neq 18 2,Mv 20 19,Gt 20 (.mov 21 2),Gt 20 (.lenl 22 21),Gt 20 (.bin 23 .neq 22 (kI 1)),Pa 24 20 23,Mv 25 24,Gf 25 (.fad 26 2 4),Gf 25 (.lde 27 1 false 26),Gf 25 (.bin 28 .eql 27 (kI 0)),Gf 25 (.mov 29 28),Gt 29 (.fad 30 7 4),Gt 29 (.lde 31 1 false 30),Gt 29 (.bin 32 .eql 31 (kI 0)),Gf 25 (.pick 33 29 32 (kB false)),Gf 25 (.mov 34 33),Gt 34 (.fad 35 3 4),Gt 34 (.lde 36 1 false 35),Gt 34 (.bin 37 .neq 36 (kI 16)),Gf 25 (.pick 38 34 37 (kB false)),Gf 25 (.mov 39 38),Gt 39 (.mov 40 2),Gt 39 (.ixa 41 .pval 40 (kI 0)),Gt 39 (.lde 42 4 true 41),Gt 39 (.call 43 106 [42]),Gf 25 (.pick 44 39 43 (kB false)),Po 45 25 44] (Cn 45 (Rs [Mb 6 false] .ret) .skip)) (Rs [Mv 46 2,Pp (.mkf 47 144 [.t 3,.t 4]),Ca 48 143 [46,47],Un 49 48,Mv 6 49] .ret))))
theorem aBC:FnC Tryz.prog aEy [] 0 90 Tryz.f90 aBB aS:=fnC Tryz.func90
def amI(N:Nat)(b:List PMs)(c:List PEn)(a:PFl)(d:List aC):Ro:=let g:=(↑(Aa d):Int);cond (g==0) (some (vB false,[])) (cond (a.label==3) (aA (aaT b c a d) (λ(h:Bool)=>some (vB h,[]))) (cond (!(a.label==2)) (let i:=(↑(Aa d):Int);cond (!(i==1)) (some (vB false,[])) (cond (a.label==0) (cond (a.oneof==0) (cond (!(a.kind==16)) (chk (decide ((0:Int)<↑(Aa d))) (let j:=(Af d (Ad 0) (aI .pval));aA (sT (reP j)) (λ(k:Bool)=>cond k (some (vB false,[])) (aA (aM d b c a.num a.name a.label a.kind a.typ a.key a.packed a.oneof) (λ(l:Bool)=>some (vB (!l),[])))))) (aA (aM d b c a.num a.name a.label a.kind a.typ a.key a.packed a.oneof) (λ(m:Bool)=>some (vB (!m),[])))) (aA (aM d b c a.num a.name a.label a.kind a.typ a.key a.packed a.oneof) (λ(n:Bool)=>some (vB (!n),[])))) (aA (aM d b c a.num a.name a.label a.kind a.typ a.key a.packed a.oneof) (λ(o:Bool)=>some (vB (!o),[]))))) (cond (a.label==0) (cond (a.oneof==0) (cond (!(a.kind==16)) (chk (decide ((0:Int)<↑(Aa d))) (let p:=(Af d (Ad 0) (aI .pval));aA (sT (reP p)) (λ(q:Bool)=>cond q (some (vB false,[])) (aA (aM d b c a.num a.name a.label a.kind a.typ a.key a.packed a.oneof) (λ(r:Bool)=>some (vB (!r),[])))))) (aA (aM d b c a.num a.name a.label a.kind a.typ a.key a.packed a.oneof) (λ(s:Bool)=>some (vB (!s),[])))) (aA (aM d b c a.num a.name a.label a.kind a.typ a.key a.packed a.oneof) (λ(e:Bool)=>some (vB (!e),[])))) (aA (aM d b c a.num a.name a.label a.kind a.typ a.key a.packed a.oneof) (λ(f:Bool)=>some (vB (!f),[]))))))
def amJ(N:Nat)(a:List PMs)(b:List PEn)(c:PFl)(d:List aC):Ro:=amI N a b c d
theorem ayW(N:Nat)(a:List PMs)(b:List PEn)(d:PFl)(f:List aC)(h:Tot (amJ N a b d f) (λz=>∃c rest,z.1.dimR=vB c∧z.2=rest∧ahX a b d f (c))):∃r,qo a b d f r:=aBC.finP (N:=N) (by kernel_rfl) h λ_ ⟨c,_,e,_,q⟩=>⟨(c),e,q⟩
def ayX:aG:=tb_ [] [] [] [aev,aDP]
def awF:IR:=Rs [Bx 2 0,Mb 3 false] (Rs [Ld 7 3 true 1,Fa 8 0 2,Lq 9 8,Ca 10 89 [7,9],Mv 6 10,Ex_ 11 0 6,Ex_ 12 1 6,Pp (.alr 4 8),Fz 4 8 11,Mv 5 12] (Rs [Mv 13 5,Mv 14 13,Gt 14 (.lde 15 8 true 4),Gt 14 (.fad 16 1 2),Gt 14 (.lde 17 1 false 16),Gt 14 (.call 18 139 [15,17]),Pa 19 14 18,Mv 3 19] .ret))
theorem awG:FnC Tryz.prog ayX [] 0 138 Tryz.f138 awF te:=fnC Tryz.func138
def ah8(N:Nat)(a:bF)(d:Bs)(e:List PFl)(f:Bss):Ro:=aA (lD ⟨d,e,f⟩ a.num) (λb=>cond b.2 (aA (aaS b.1 a.wire) (λ(c:Bool)=>some (vB c,[]))) (some (vB false,[])))
def ah9(N:Nat)(a:bF)(b:Bs)(c:List PFl)(d:Bss):Ro:=ah8 N a b c d
theorem aut(N:Nat)(b:bF)(d:Bs)(c:List PFl)(f:Bss)(h:Tot (ah9 N b d c f) (λz=>∃a rest,z.1.dimR=vB a∧z.2=rest∧ae4 b d c f (a))):∃r,vy b d c f r:=awG.finP (N:=N) (by kernel_rfl) h λ_ ⟨a,_,e,_,q⟩=>⟨(a),e,q⟩
def dj:aG:=tb_ [] [] [] [ayp]
def eA:IR:=Rs [Bi 9 .lss 8 7] (Sq (Cn 9 .skip (.exit 0)) (Sq (.block 1 (Rs [Mv 10 8,Mv 5 10] (Rs [Mv 11 1,Mv 12 0,Mv 13 5,Ix 14 .record 12 13,Ld 15 5 true 14,Pp (.dcall (some 16) 138 (.t 11) [.t 15])] (Cn 16 (Rs [Mv 17 5,Mv 4 17] .ret) .skip)))) (Rg [Bc 18 .add 8 1,Mv 8 18])))
def eB:IR:=Rs [Mi 4 (-1)] .ret
def kJ:IR:=Rs [Mi 4 0] (Sq (Rs [Mv 6 0,Ll 7 6,Mi 8 0] (.block 0 (.loop [0,1,7,8,1000000] 0 eA))) eB)
theorem kK:FnC Tryz.prog dj [] 0 157 Tryz.f157 kJ aR:=fnC Tryz.func157
def kj(R:TR)(a:TS):TE:=(bo a [0,1,7,8,1000000] 0 (aQ 0 (kseq (R eB) (fin aR))))
abbrev bT:Type:=(List bF×Bs×List PFl×Bss×Int×Int)
def cq:bT->St:=λ(a,b,c,d,e,f)=>{env:=(vF .record a::.fn 138 [.ea [vT b,vF .pfl c,vF .str d]]::(U 5 (vI e::vI f::(U 10 [])))),hp:=[]}
def de(N:Nat):TS->TS:=λa s=>run dj N eA (kj (run dj N) a) s
def cw(N:Nat)(d:bT->Ro):bT->Ro:=λ(f,a,b,c,g,e)=>cond (decide (e<g)) (chk (ixl e f) (let h:=(Af f (Ad e) (aI .record));aA (vy h a b c) (λ(i:Bool)=>cond i (some (vI e,[])) (let j:=(Ab .i64 (e+1));d (f,a,b,c,g,j))))) (some (vI (-1),[]))
theorem jR(N:Nat):LB (de N) cq (cw N):=λ_ _=>by kernel_rfl
def bW(N:Nat)(d:List bF)(a:Bs)(b:List PFl)(c:Bss)(e:bT->Ro):Ro:=let f:=(↑(Aa d):Int);e (d,a,b,c,f,0)
def eG(N:Nat)(d:List bF)(a:Bs)(b:List PFl)(c:Bss):Ro:=bW N d a b c (λz=>aO N (cw N) z)
theorem km(N:Nat)(f:List bF)(a:Bs)(c:List PFl)(d:Bss)(h:Tot (eG N f a c d) (λz=>∃g rest,z.1.dimR=vI g∧z.2=rest∧ey f a c d (g))):∃r,cI f a c d r:=kK.finP (N:=N) ((bD _ (by kernel_rfl) rfl (λC=>bW N f a c d (λz=>C 1000000 (cq z))) (λC=>by kernel_rfl)).trans (AB (b:=bW N f a c d (λz=>aZ N (de N) (cq z))) (by kernel_rfl) (congrArg (bW N f a c d) (funext λz=>aU (cq) (de N) (cw N) (jR N) N z)))) h λ_ ⟨g,_,e,_,q⟩=>⟨(g),e,q⟩
def jS:aG:=tb_ [] [] [] [kN]
def jz:IR:=Rs [Mb 4 false] (Rs [Mv 5 0,Mv 6 1,Ca 7 157 [5,6],Bc 8 .geq 7 0,Mv 4 8] .ret)
theorem jA:FnC Tryz.prog jS [] 0 103 Tryz.f103 jz aR:=fnC Tryz.func103
def eg(N:Nat)(d:List bF)(a:Bs)(b:List PFl)(c:Bss):Ro:=aA (cI d a b c) (λ(e:Int)=>some (vB (decide (0<=e)),[]))
def eh(N:Nat)(d:List bF)(a:Bs)(b:List PFl)(c:Bss):Ro:=eg N d a b c
theorem jb(N:Nat)(f:List bF)(a:Bs)(b:List PFl)(c:Bss)(h:Tot (eh N f a b c) (λz=>∃d rest,z.1.dimR=vB d∧z.2=rest∧dY f a b c (d))):∃r,cp f a b c r:=jA.finP (N:=N) (by kernel_rfl) h λ_ ⟨d,_,e,_,q⟩=>⟨(d),e,q⟩
def aF9:aG:=tb_ [] [] [] [aFo,jO]
def aEz:IR:=Rs [Bx 2 0,Mb 4 false] (Rs [Mv 8 1,Ca 9 102 [8],Mv 7 9,Ex_ 10 0 7,Ex_ 11 1 7,Mv 5 10,Mv 6 11] (Rs [Mv 12 6,Bc 13 .eql 12 0,Mv 14 13,Gt 14 (.mov 15 5),Gt 14 (.mkf 16 138 [.t 2]),Gt 14 (.call 17 103 [15,16]),Gt 14 (.un 18 .not 17),Pa 19 14 18,Mv 4 19] .ret))
theorem aEA:FnC Tryz.prog aF9 [] 0 88 Tryz.f88 aEz aR:=fnC Tryz.func88
def aqy(N:Nat)(a:PMs)(c:Bs):Ro:=aA (ait c) (λb=>cond (b.2==0) (aA (cp b.1 a.name a.fields a.oneofs) (λ(d:Bool)=>some (vB (!d),[]))) (some (vB false,[])))
def aqz(N:Nat)(a:PMs)(b:Bs):Ro:=aqy N a b
theorem aBD(N:Nat)(b:PMs)(c:Bs)(h:Tot (aqz N b c) (λz=>∃a rest,z.1.dimR=vB a∧z.2=rest∧ajR b c (a))):∃r,ac1 b c r:=aEA.finP (N:=N) (by kernel_rfl) h λ_ ⟨a,_,e,_,q⟩=>⟨(a),e,q⟩
def aiO:aG:=tb_ [] [] [] [aaQ,aFT,aev,aDN]
def aia:IR:=Rs [Bi 34 .lss 33 32] (Sq (Cn 34 .skip (.exit 0)) (Sq (.block 1 (Rs [Mv 35 33,Ix 36 .pfd 31 33,Ld 37 2 true 36,Pp (.alr 11 2),Mv 10 35,Fz 11 2 37] (Rs [Ld 39 3 true 7,Fa 40 0 11,Lq 41 40,Ca 42 89 [39,41],Mv 38 42,Ex_ 43 0 38,Ex_ 44 1 38,Pp (.alr 12 8),Fz 12 8 43,Mv 13 44] (Sq (Sq (.reg [Mv 45 13,Un 46 45,Mv 47 46,Gf 47 (.mov 48 10),Gf 47 (.bin 49 .gtr 48 (kI 0)),Gf 47 (.mov 50 49),Gt 50 (.fad 51 0 5),Gt 50 (.lde 52 1 false 51),Gt 50 (.mov 53 10),Gt 50 (.bin 54 .sub 53 (kI 1)),Gt 50 (.ixa 55 .pfd 52 54),Gt 50 (.fad 56 0 55),⟨some (50,true),.ld 57 1 false false 56,some ([],[])⟩,Gt 50 (.fad 58 0 11),Gt 50 (.lde 59 1 false 58),Gt 50 (.bin 60 .geq 57 59),Gf 47 (.pick 61 50 60 (kB false)),Po 62 47 61,Mv 63 62,Gf 63 (.mov 64 9),Gf 63 (.fad 65 7 12),Gf 63 (.lde 66 1 false 65),Gf 63 (.mget 67 .ib false (.t 64) (.t 66)),Po 68 63 67,Mv 69 68,Gf 69 (.lde 70 2 true 3),Gf 69 (.lde 71 8 true 12),Gf 69 (.fad 72 1 11),Gf 69 (.lde 73 1 false 72),Gf 69 (.call 74 90 [70,71,73]),Gf 69 (.un 75 .not 74),Po 76 69 75] [[],[0],[0,1],[0,1,2],rg 0 3,rg 0 4,rg 0 5,rg 0 6,rg 0 5,rg 0 5++[8],rg 0 9,rg 0 10,rg 0 11,rg 0 5,rg 0 5++[13],rg 0 14,rg 0 15,rg 0 16,rg 0 17,rg 0 18,rg 0 18,rg 0 18++[20],rg 0 21,rg 0 22,rg 0 23,rg 0 24,rg 0 24,rg 0 24,rg 0 24++[27],rg 0 28,rg 0 29,rg 0 30]) (Cn 76 (Rs [Mb 6 false] .ret) .skip)) (Rs [Fa 77 7 12,Lq 78 77,Bc 79 .gtr 78 0] (Cn 79 (Rg [Mv 80 9,Fa 81 7 12,Lq 82 81,Pp (.mput none .ib (.t 80) (.t 82) (.c (.bool true)))]) .skip)))))) (Rg [Bc 83 .add 33 1,Mv 33 83])))
def aib:IR:=Rs [Mb 6 true] .ret
def aEB:IR:=Rs [Bx 3 0,Bx 5 2,Mb 6 false] (Rs [Ld 15 2 true 3,Mv 16 1,Ca 17 47 [15,16],Mv 14 17,Ex_ 18 0 14,Ex_ 19 1 14,Pp (.alr 7 3),Fz 7 3 18,Mv 8 19] (Sq (Rs [Mv 20 8,Un 21 20,Mv 22 21,Gf 22 (.lde 23 3 true 7),Gf 22 (.fad 24 1 5),Gf 22 (.lde 25 1 false 24),Gf 22 (.call 26 88 [23,25]),Gf 22 (.un 27 .not 26),Po 28 22 27] (Cn 28 (Rs [Mb 6 false] .ret) .skip)) (Rs [Pp (.mkm 29 .ib),Mv 9 29] (Sq (Rs [Fa 30 0 5,Lq 31 30,Ll 32 31,Mi 33 0] (.block 0 (.loop [3,5,7,9,31,32,33,1000000] 1 aia))) aib))))
theorem aEC:FnC Tryz.prog aiO [] 0 48 Tryz.f48 aEB aS:=fnC Tryz.func48
def aBE(R:TR)(a:TS):TE:=(bo a [3,5,7,9,31,32,33,1000000] 1 (aQ 0 (kseq (R aib) (fin aS))))
abbrev sK:Type:=(List PMs×List PEn×List (Int×List aC)×Bs×PMs×List (Int×List aC)×Int×Int×List (Int×Bool))
def vM:sK->St:=λ(a,b,c,d,e,f,g,h,i)=>{env:=(U 3 (.ea [vF .pms a,vF .pen b]::.undef::.ea [vF .pfd c,vT d]::.undef::.ea (enc .pms e)::.undef::.mr 0::(U 21 (vF .pfd f::vI g::vI h::(U 50 []))))),hp:=[some [.mp .ib i]]}
def aeC(N:Nat):TS->TS:=λa s=>run aiO N aia (aBE (run aiO N) a) s
def xX(N:Nat)(f:sK->Ro):sK->Ro:=λ(c,d,e,j,r,h,l,b,a)=>let i:=(some (vB false,[some [.mp .ib a]]):Ro);let m:=λt u=>f (c,d,e,j,r,h,l,t,u);cond (decide (b<l)) (chk (ixl b h) (let n:=(Af h (Ad b) (aI .pfd));aA (lD r n.1) (λg=>cond (!g.2) (i) (cond (decide (0<b)) (let s:=(Ab .i64 (b-1));chk (ixl s e) (let v:=(Af e (Ad s) (aI .pfd));cond (decide (n.1<=v.1)) (i) (let w:=(akn (k:=.ib) a g.1.oneof);cond w (i) (aA (qo c d g.1 n.2) (λ(x:Bool)=>cond (!x) (i) (cond (decide (0<g.1.oneof)) (let y:=(nB (k:=.ib) a g.1.oneof true);let z:=(Ab .i64 (b+1));m z y) (let C:=(Ab .i64 (b+1));m C a))))))) (let A:=(akn (k:=.ib) a g.1.oneof);cond A (i) (aA (qo c d g.1 n.2) (λ(B:Bool)=>cond (!B) (i) (cond (decide (0<g.1.oneof)) (let o:=(nB (k:=.ib) a g.1.oneof true);let p:=(Ab .i64 (b+1));m p o) (let q:=(Ab .i64 (b+1));m q a))))))))) (some (vB true,[some [.mp .ib a]]))
theorem ayY(N:Nat):LB (aeC N) vM (xX N):=λ_ _=>by kernel_rfl
def uV(N:Nat)(b:List PMs)(c:List PEn)(f:Bs)(a:List (Int×List aC))(d:Bs)(g:sK->Ro):Ro:=aA (iL b c f) (λe=>cond (!e.2) (some (vB false,[])) (aA (ac1 e.1 d) (λ(h:Bool)=>cond (!h) (some (vB false,[])) (let i:=(↑(Aa a):Int);g (b,c,a,d,e.1,a,i,0,([]:List (Int×Bool)))))))
def aqA(N:Nat)(a:List PMs)(b:List PEn)(e:Bs)(c:List (Int×List aC))(d:Bs):Ro:=uV N a b e c d (λz=>aO N (xX N) z)
theorem aBF(N:Nat)(a:List PMs)(c:List PEn)(g:Bs)(d:List (Int×List aC))(f:Bs)(h:Tot (aqA N a c g d f) (λz=>∃i rest,z.1.dimR=vB i∧z.2=rest∧ajS a c g d f (i))):∃r,fQ a c g d f r:=aEC.finP (N:=N) ((bD _ (by kernel_rfl) rfl (λC=>uV N a c g d f (λz=>C 1000000 (vM z))) (λC=>by kernel_rfl)).trans (AB (b:=uV N a c g d f (λz=>aZ N (aeC N) (vM z))) (by kernel_rfl) (congrArg (uV N a c g d f) (funext λz=>aU (vM) (aeC N) (xX N) (ayY N) N z)))) h λ_ ⟨i,_,e,_,q⟩=>⟨(i),e,q⟩
theorem aMb{k:Int}(h:1<=k∧k<=17):0<=ei k:=by rw[uk];unfold acN;(repeat' split)<;>omega
section
variable{Q:V×List aK->Prop}
theorem aGa(k:Int):∃r,xS k r:=by
 apply awB 1;unfold akc akb;refine aL (ap4 _) (λ_ h=>h.2) ?_
 repeat' (first|(with_reducible refine aB ?_ ?_<;>(intro a;(try simp only[bnl] at a);(try revert a;intro _)))|with_reducible refine aD ?_ ?_|with_reducible refine aE ?_|fail)
 all_goals exact⟨_,_,rfl,rfl,by unfold yp;grind⟩
theorem aHW(f:PFl)(w:Int)(b:1<=f.kind∧f.kind<=17):∃r,aaS f w r:=by
 apply ayR 1;unfold amG amF;have c:=aMb b
 repeat' (first|(with_reducible refine aB ?_ ?_<;>(intro a;(try simp only[bnl] at a);(try revert a;intro _)))|with_reducible refine aD ?_ ?_|with_reducible refine aE ?_|(refine aL (ap4 _) (λ_ h=>h.2) ?_)|(refine aL (aGa _) (λ_ h=>h.2) ?_)|fail)
 all_goals exact⟨_,_,rfl,rfl,by unfold aaP sA;grind⟩
theorem aGb(k:Int):∃r,xT k r:=by apply awC 1;unfold ake akd;refine aL (aEm _ _ (by decide)) (λ_ h=>h.2) (aE ⟨_,_,rfl,rfl,?_⟩);show _=aiG k;simp only[List.any_cons,List.any_nil,CD,aiG,Bool.or_assoc]
theorem aMc{a b:Int}(d:0<=a∧a<=18446744073709551615)(c:0<=b∧b<=18446744073709551615)(h:a≠b):Ab .i64 a≠Ab .i64 b:=by rw[mR,mR];omega
theorem aJw:∀l:Bs,A2 l l=false
 | []=>rfl
 |a::l=>by simp[A2,aJw l]
theorem aED{k:Int}{a b:aC}(c:k≠16)(h:k=14∨k=15):nn k a b=if a.s=b.s then 0 else if A2 a.s b.s then -1 else 1:=by
 unfold nn aKe;rw[if_neg c,if_pos h];by_cases e:a.s=b.s;·rw[e,aJw];simp
 ·rw[if_neg e,if_neg e]
theorem aEE{k:Int}{a b:aC}(c:k≠16)(h:¬(k=14∨k=15)):nn k a b=if a.n=b.n then 0 else if aiG k then (if Ab .i64 a.n<Ab .i64 b.n then -1 else 1) else if a.n<b.n then -1 else 1:=by unfold nn;rw[if_neg c,if_neg h]
theorem aKP(k:Int)(a b:aC):∃r,aaU k a b r:=by
 refine mA (λd=>?_);have m:=d (.agg (enc .pval a)) (by simp) (.int .u64 a.n) (by simp[enc]);have q:=d (.agg (enc .pval b)) (by simp) (.int .u64 b.n) (by simp[enc]);have l:0<=a.n∧a.n<=18446744073709551615:=m;have p:0<=b.n∧b.n<=18446744073709551615:=q;apply aEs 1;show Tot _ (CmQ k a b);unfold as2 as1;have c:∀n:Int,n=nn k a b->Tot (some ((.int .i64 n,[]):V×List aK)) (CmQ k a b):=λn h=>aE ⟨_,_,rfl,rfl,h⟩
 refine aB (λh=>c _ (by unfold nn;rw[if_pos (by simpa using h)])) (λf=>?_);have f:k≠16:=by simpa using f
 refine aB (λh=>aL (as0 _ _) (λ_ h=>h.2) (c _ (aED f (.inl (by simpa using h))).symm)) (λu=>aB (λh=>aL (as0 _ _) (λ_ h=>h.2) (c _ (aED f (.inr (by simpa using h))).symm)) (λt=>?_));have i:¬(k=14∨k=15):=by rintro(rfl|rfl)<;>simp at u t
 refine aL (aGb k) (λ_ h=>h.2) (aB (λj=>aL (aJp _ _) (λ_ h=>h.2) (c _ ?_)) (λj=>aL (aHR _ _) (λ_ h=>h.2) (c _ ?_)))
 ·rw[aEE f i];unfold ayl;by_cases e:a.n=b.n;·rw[if_pos e,e];simp
  ·have:=aMc l p e;rw[if_neg e,if_pos j,if_neg this]
 ·rw[aEE f i];unfold ayl;rw[if_neg (show ¬aiG k=true by simp[j])];by_cases e:a.n=b.n;·rw[if_pos e,e];simp
  ·rw[if_neg e,if_neg e]
theorem aMd{k:Int}{a b:aC}{K:Int->Ro}(c:Tot (K (nn k a b)) Q):Tot (aA (aaU k a b) K) Q:=aL (aKP k a b) (λ_ h=>h.2) c
theorem aJx(fs:List (Int×List aC))(rest:Bs):∃r,ac3 fs rest r:=by
 apply aBx 1;unfold aqv aqu;have b:((fs.length:Int)=0)↔fs.length=0:=by omega
 repeat' (first|(with_reducible refine aB ?_ ?_<;>(intro a;(try simp only[bnl] at a);(try revert a;intro _)))|with_reducible refine aD ?_ ?_|with_reducible refine aE ?_|fail)
 all_goals exact⟨_,_,rfl,rfl,by unfold acr;grind⟩
theorem aJy(v:aC):∃r,sT v r:=by
 apply aBy 1;unfold aqx aqw
 repeat' (first|(with_reducible refine aB ?_ ?_<;>(intro a;(try simp only[bnl] at a);(try revert a;intro _)))|with_reducible refine aD ?_ ?_|with_reducible refine aE ?_|fail)
 all_goals exact⟨_,_,rfl,rfl,by unfold acs;grind⟩
def aHX(n:Nat):Prop:=∀(a:List PMs)(es:List PEn)(t:Bs)(fs:List (Int×List aC))(rest:Bs),nL a->cM fs<=n->∃r,fQ a es t fs rest r
theorem ayZ(a:List PMs)(es:List PEn)(k:Int)(t:Bs)(v:aC)(c:∃r,fQ a es t v.fs v.rest r):∃r,vz a es k t v r:=by
 apply aEx 1;show Tot _ (BoQ (pf a k t v));unfold as4 as3
 repeat' (first|(with_reducible refine aB ?_ ?_<;>(intro b;(try simp only[bnl] at b);(try revert b;intro _)))|with_reducible refine aD ?_ ?_|with_reducible refine aE ?_|(refine aL c (λ_ h=>h.2) ?_)|(refine aL (aJx _ _) (λ_ h=>h.2) ?_)|(refine aL (aHK _) (λ_ h=>h.2) ?_)|(refine aL (aJd _ _) (λ_ h=>h.2) ?_)|fail)
 all_goals refine⟨_,_,rfl,rfl,?_⟩
 all_goals rw[alG]
 all_goals first|grind|(simp_all;done)
theorem aJz(a:List PMs){k:Int}(h:k≠16)(t u:Bs)(v:aC):pf a k t v=pf a k u v:=by rw[alG,alG,if_neg h,if_neg h]
theorem aKQ(b:List PMs)(es:List PEn)(f:PFl)(l:List aC)(hl:l.length<=200000000000)(F:f.label=3)(S:f.key≠16)(P:∀v∈l,∀t,∃r,fQ b es t v.fs v.rest r):∃r,aaT b es f l r:=by
 obtain⟨N,Y⟩:∃N:Nat,N=300000000000:=⟨_,rfl⟩
 apply ayV N;show Tot _ (BoQ (qj b f true none l&&decide (l.length%2=0)));unfold amH sJ;have X:mo f=false:=by simp[mo,F]
 refine aW (λ(x:qz)=>match x with|(O,w,y,L,M,n,k)=>(O,w,y,L,M,n)=(l,b,es,f,l,(l.length:Int))∧0<=k∧k<=l.length∧qj b f true none l=qj b f (decide (k%2=0)) (aaZ l k) (l.drop k.toNat)) (λx=>(l.length-x.2.2.2.2.2.2).toNat) ?_ _ _ ⟨rfl,Av _,by omega,rfl⟩ (by dsimp only;omega);rintro p ⟨O,w,y,L,M,n,k⟩ ⟨q,z,k1,m⟩ J;cases q;dsimp only at J;unfold vL;dsimp only;simp only[kr,aBR z,aBR (Ch l.length)];refine aB (λa=>?_) (λa=>?_)
 ·have a:=of_decide_eq_true a;have e:=ixt (l:=l) ⟨z,a⟩;rw[dm (aI .pval) z a] at m;have H:=P _ (dJ (aI .pval) z a);have I:0<k->k%2=0->aaZ l k=some (Af l (Ad (k-2)) (aI .pval)):=by
   intro i Z;unfold aaZ;rw[if_neg (by omega),show 2*((k-1) / 2)=k-2 by omega]
  obtain⟨v,B⟩:∃v,v=Af l k.toNat (aI .pval):=⟨_,rfl⟩
  rw[<-B] at m H ⊢;rw[aqt,X] at m;simp only[B3,Bh,Bd] at m;rw[cu z (by omega)];obtain⟨A,d⟩:∃A,A=pf b (if (f.label==3&&decide (k%2=0))=true then f.key else f.kind) f.typ v:=⟨_,rfl⟩
  obtain⟨C,u⟩:∃C,C=agY f (decide (k%2=0)) (aaZ l k) v:=⟨_,rfl⟩
  rw[<-d,<-u] at m;have D:(A&&C)=false->Tot (some ((.bool false,[]):V×List aK)) (BoQ (qj b f true none l&&decide (l.length%2=0))):=by intro h;refine gi _ ?_;rw[m,<-Ce,h];rfl
  have go:(A&&C)=true->Tot (p (l,b,es,f,l,(l.length:Int),k+1)) (BoQ (qj b f true none l&&decide (l.length%2=0))):=by
   intro h;refine J _ ⟨rfl,by first|omega|(dsimp only;omega),by first|omega|(dsimp only;omega),?_⟩ (by first|omega|(dsimp only;omega));dsimp only;rw[m,<-Ce,h,Bd];have W:(!decide (k%2=0))=decide ((k+1)%2=0):=by
    rcases(show k%2=0∨k%2=1 by omega) with h|h;·rw[show (k+1)%2=1 by omega,h];rfl
    ·rw[show (k+1)%2=0 by omega,h];rfl
   have R:(if decide (k%2=0) then some v else aaZ l k)=aaZ l (k+1):=by
    unfold aaZ;rcases(show k%2=0∨k%2=1 by omega) with h|h;·rw[h,if_neg (show ¬k+1=0 by omega),show 2*((k+1-1) / 2)=k by omega,<-B];rfl
    ·rw[h,if_neg (show ¬k+1=0 by omega),if_neg (show ¬k=0 by omega),show 2*((k+1-1) / 2)=2*((k-1) / 2) by omega];rfl
   rw[W,R]
  refine aD e (aB (λi=>?_) (λi=>?_))
  ·have i:k%2=1:=by simpa using i
   rw[decide_eq_false (show ¬k%2=0 by omega),Cx] at d;simp only[Cg,if_false] at d;have j:C=true:=by rw[u,decide_eq_false (show ¬k%2=0 by omega)];unfold agY;split<;>simp
   exact aL (ayZ b es f.kind f.typ v (H _)) (λ_ h=>h.2) (aB (λc=>D (by rw[show A=false by rw[d];simpa using c];rfl)) (λc=>go (by rw[j,show A=true by rw[d];simpa using c];rfl)))
  ·have i:k%2=0:=by
                have:k%2≠1:=by simpa using i
                omega
   rw[F,i] at d;simp only[decide_true,beq_self_eq_true,Bool.and_self,if_true] at d;rw[aJz b S f.typ []] at d;rw[i] at u;refine aL (ayZ b es f.key [] v (H _)) (λ_ h=>h.2) (aB (λc=>D (by rw[show A=false by rw[d];simpa using c];rfl)) (λc=>aB (λhp=>?_) (λhp=>go ?_)))
   ·have hp:=of_decide_eq_true hp;rw[aT (k-2) (by omega)];have j:C=decide (nn f.key (Af l (Ad (k-2)) (aI .pval)) v<0):=by
     rw[u,I hp i];simp[agY,F]
    have c:A=true:=by rw[d];simpa using c
    refine aD (ixt ⟨by omega,by omega⟩) (aMd (aB (λG=>D ?_) (λG=>go ?_)));·rw[j,decide_eq_false (by have:=of_decide_eq_true G;omega)];simp
    ·rw[j,c,decide_eq_true (by have:=of_decide_eq_false G;omega)];rfl
   ·have E:k=0:=by have:=of_decide_eq_false hp;omega
    have c:A=true:=by rw[d];simpa using c
    rw[c,u,E];rfl
 ·have a:=of_decide_eq_false a;rw[dP a] at m;refine gi _ ?_;rw[m];simp only[qj,Bd];rw[BH];simp only[beq_iff_eq,decide_eq_true_eq];omega
theorem azK(b:List PMs)(f:PFl)(c:f.label≠3):∀(l:List aC)(ev:Bool)(pk:Option aC),qj b f ev pk l= !(l.any (λv=> !pf b f.kind f.typ v)||mo f&&l.any (ry f.kind))
 | [],ev,pk=>by simp[qj]
 |v::r,ev,pk=>by
  have a:(f.label==3)=false:=by simpa using c
  have d:agY f ev pk v=true:=by
   unfold agY;split;·rfl
   ·rw[a];rfl
  rw[aqt,d,azK b f c r,a];simp only[B3,Cg,if_false,List.any_cons,Bd];cases pf b f.kind f.typ v<;>cases mo f<;>cases ry f.kind v<;>simp
theorem aMe(v:aC)(f:List PMs)(es:List PEn)(a:Int)(b:Bs)(c k:Int)(t:Bs)(d:Int)(e:Bool)(g:Int)(i:∀t,∃r,fQ f es t v.fs v.rest r):∃r,tR v f es a b c k t d e g r:=by apply ase 1;unfold ag2 ag1;rw[kr];exact aL (ayZ f es k t v (i _)) (λ_ h=>h.2) (aE ⟨_,_,rfl,rfl,rfl⟩)
theorem aKR(l:List aC)(j:List PMs)(es:List PEn)(a:Int)(b:Bs)(c k:Int)(t:Bs)(d:Int)(e:Bool)(g:Int)(h:l.length<=200000000000)(M:∀v∈l,∀t,∃r,fQ j es t v.fs v.rest r):∃r,cY l j es a b c k t d e g r:=by
 obtain⟨N,O⟩:∃N:Nat,N=300000000000:=⟨_,rfl⟩
 apply mC N;unfold fy cf;refine aW (λ(y:ce)=>match y with|(I,A,G,J,L,B,D,E,F,H,m,n,i)=>(I,A,G,J,L,B,D,E,F,H,m,n)=(l,j,es,a,b,c,k,t,d,e,g,(l.length:Int))∧0<=i∧i<=l.length∧(l.take i.toNat).all (λv=> !!pf j k t v)=true) (λy=>(l.length-y.2.2.2.2.2.2.2.2.2.2.2.2).toNat) ?_ _ _ ⟨rfl,Av _,by omega,rfl⟩ (by dsimp only;omega);rintro x ⟨I,A,G,J,L,B,D,E,F,H,m,n,i⟩ ⟨q,u,P,w⟩ C;cases q;dsimp only at C;unfold cS;dsimp only;rw[kr];refine aB (λf=>?_) (λf=>?_);·have f:=of_decide_eq_true f;refine aD (ixt ⟨u,f⟩) (aL (aMe _ j es a b c k t d e g (M _ (dJ _ u f))) (λ_ h=>h.2) (aB (λz=>aE ⟨i,_,rfl,rfl,agW (p:=λv=> !pf j k t v) (aI .pval) u f z w⟩) (λz=>?_)));rw[cu u (by omega)];exact C _ ⟨rfl,by first|omega|(dsimp only;omega),by first|omega|(dsimp only;omega),aqr (p:=λv=> !pf j k t v) (aI .pval) u f w z⟩ (by first|omega|(dsimp only;omega))
 ·rw[yr (of_decide_eq_false f)] at w;exact aE ⟨-1,_,rfl,rfl,agX w⟩
theorem aKS(l:List aC)(f:List PMs)(es:List PEn)(a:Int)(b:Bs)(c k:Int)(t:Bs)(d:Int)(e:Bool)(g:Int)(h:l.length<=200000000000)(j:∀v∈l,∀t,∃r,fQ f es t v.fs v.rest r):∃r,aM l f es a b c k t d e g r:=by apply kO 1;unfold eY eX;refine aX (aKR l f es a b c k t d e g h j) ?_;rintro r ⟨-,i⟩;exact aE ⟨_,_,rfl,rfl,ayN (aI .pval) i⟩
theorem aJA(a:List PMs)(es:List PEn)(f:PFl)(l:List aC)(B:l.length<=200000000000)(G:f.key≠16)(A:∀v∈l,∀t,∃r,fQ a es t v.fs v.rest r):∃r,qo a es f l r:=by
 apply ayW 1;show Tot _ (BoQ (nO a f l));unfold amJ amI;dsimp only;simp only[kr];have q:nO a f l=(decide (l.length≠0)&&((f.label==2||(f.label==3||decide (l.length=1)))&&((!(f.label==3)||decide (l.length%2=0))&&qj a f true none l))):=by simp only[nO,aym]
 refine aB (λi=>gi _ ?_) (λi=>aB (λe=>?_) (λe=>?_))
 ·have:l.length=0:=by
               have:(l.length:Int)=0:=by simpa using i
               omega
  rw[q,this];rfl
 ·have e:f.label=3:=by simpa using e
  have i:l.length≠0:=by
                 have:(l.length:Int)≠0:=by simpa using i
                 omega
  refine aL (aKQ a es f l B e G A) (λ_ h=>h.2) (gi _ ?_);rw[q,e,decide_eq_true i];simp[Bool.and_comm]
 ·have e:f.label≠3:=by simpa using e
  have z:(f.label==3)=false:=by simpa using e
  have i:l.length≠0:=by
                 have:(l.length:Int)≠0:=by simpa using i
                 omega
  rw[azK a f e,decide_eq_true i,z] at q;simp only[Bd,CE,Bh,Bool.true_or] at q;have c:(f.label=2∨l.length=1)->(mo f&&l.any (ry f.kind))=false->Tot (aA (aM l a es f.num f.name f.label f.kind f.typ f.key f.packed f.oneof) (λ(d:Bool)=>some (.bool (!d),[]))) (BoQ (nO a f l)):=by
   intro m w;refine aL (aKS l a es _ _ _ _ _ _ _ _ B A) (λ_ h=>h.2) (gi _ ?_);rw[q,w,CD];rcases m with h|h;·simp[h]
   ·simp[h]
  have E:f.label=2->mo f=false:=λh=>by simp[mo,h]
  have one:∀v,l=[v]->(l.any (ry f.kind))=ry f.kind v:=λv h=>by rw[h];simp
  have F:l.length=1->∃v,l=[v]∧Af l (Ad 0) (aI .pval)=v:=λh=>by
   match l,h with
   | [v],_=>exact⟨v,rfl,rfl⟩
  have j:(f.label=2∨l.length=1)->Tot (cond (f.label==0) (cond (f.oneof==0) (cond (!(f.kind==16)) (chk (decide ((0:Int)<↑(Aa l))) (aA (sT (Af l (Ad 0) (aI .pval))) (λ(I:Bool)=>cond I (some (.bool false,[])) (aA (aM l a es f.num f.name f.label f.kind f.typ f.key f.packed f.oneof) (λ(d:Bool)=>some (.bool (!d),[])))))) (aA (aM l a es f.num f.name f.label f.kind f.typ f.key f.packed f.oneof) (λ(d:Bool)=>some (.bool (!d),[])))) (aA (aM l a es f.num f.name f.label f.kind f.typ f.key f.packed f.oneof) (λ(d:Bool)=>some (.bool (!d),[])))) (aA (aM l a es f.num f.name f.label f.kind f.typ f.key f.packed f.oneof) (λ(d:Bool)=>some (.bool (!d),[])))) (BoQ (nO a f l)):=by
   intro m;refine aB (λu=>aB (λy=>aB (λx=>?_) (λx=>c m (by simp[mo,x]))) (λy=>c m (by simp[mo,y]))) (λu=>c m (by simp[mo,u]));have k:l.length=1:=by
    rcases m with h|h;·rw[h] at u;simp at u
    ·exact h
   obtain⟨v,C,D⟩:=F k;rw[D];have w:ry f.kind v=(v.n==0&&decide (v.s=[])):=by unfold ry;rw[x];rfl
   have H:mo f=true:=by unfold mo;rw[u,y,x];rfl
   refine aD (decide_eq_true (by omega)) (aL (aJy v) (λ_ h=>h.2) (aB (λp=>gi _ ?_) (λp=>c m (by rw[one v C,w,p,Cx]))));rw[q,one v C,w,p,H];simp
  refine aB (λb=>aB (λk=>gi _ ?_) (λk=>j (.inr ?_))) (λb=>j (.inl (by simpa using b)))
  ·have b:f.label≠2:=by simpa using b
   have k:l.length≠1:=by
                  have:(l.length:Int)≠1:=by simpa using k
                  omega
   rw[q,show (f.label==2)=false by simpa using b,decide_eq_false k];rfl
  ·have:(l.length:Int)=1:=by simpa using k
   omega
theorem aMf(x:bF)(p:PMs)(hp:zK p):∃r,vy x p.name p.fields p.oneofs r:=by apply aut 1;show Tot _ (BoQ (aaO p x));unfold ah9 ah8;refine aqs (by have:=hp.1;dsimp only;omega) ?_;have e:(⟨p.name,p.fields,p.oneofs⟩:PMs)=p:=rfl;rw[e];refine aB (λh=>?_) (λh=>gi _ (by unfold aaO;rw[h];rfl));have a:=(aq6 x.num hp h).1;exact aL (aHW _ _ ⟨a.1,a.2.1⟩) (λ_ h=>h.2) (gi _ (by unfold aaO;rw[h];rfl))
theorem aKT(l:List bF)(p:PMs)(h:l.length<=1000000)(hp:zK p):∃r,cI l p.name p.fields p.oneofs r:=by
 obtain⟨N,u⟩:∃N:Nat,N=1000001:=⟨_,rfl⟩
 apply km N;unfold eG bW;refine aW (λ(y:bT)=>match y with|(m,f,i,t,n,k)=>(m,f,i,t,n)=(l,p.name,p.fields,p.oneofs,(l.length:Int))∧0<=k∧k<=l.length∧(l.take k.toNat).all (λx=> !aaO p x)=true) (λy=>(l.length-y.2.2.2.2.2).toNat) ?_ _ _ ⟨rfl,Av _,by omega,rfl⟩ (by dsimp only;omega);rintro e ⟨m,f,i,t,n,k⟩ ⟨q,b,v,c⟩ j;cases q;dsimp only at j;unfold cw;dsimp only;refine aB (λa=>?_) (λa=>?_);·have a:=of_decide_eq_true a;refine aD (ixt ⟨b,a⟩) (aL (aMf _ p hp) (λ_ h=>h.2) (aB (λd=>aE ⟨k,_,rfl,rfl,agW (p:=aaO p) (aI .record) b a d c⟩) (λd=>?_)));rw[cu b (by omega)];exact j _ ⟨rfl,by first|omega|(dsimp only;omega),by first|omega|(dsimp only;omega),aqr (p:=aaO p) (aI .record) b a c d⟩ (by first|omega|(dsimp only;omega))
 ·rw[yr (of_decide_eq_false a)] at c;exact aE ⟨-1,_,rfl,rfl,agX c⟩
theorem aKU(l:List bF)(p:PMs)(h:l.length<=1000000)(hp:zK p):∃r,cp l p.name p.fields p.oneofs r:=by apply jb 1;unfold eh eg;refine aX (aKT l p h hp) ?_;rintro r ⟨-,a⟩;exact aE ⟨_,_,rfl,rfl,ayN (aI .record) a⟩
theorem aGK{α:Type}(p:α->Bool):∀l:List α,(!l.any p)=l.all (λx=> !p x)
 | []=>rfl
 |x::l=>by simp only[List.any_cons,Cm,Bool.not_or,aGK p l]
theorem aJB(p:PMs)(s:Bs)(hp:zK p):∃r,ac1 p s r:=by
 apply aBD 1;show Tot _ (BoQ (rz p s));unfold aqz aqy;have a:=azJ s;refine aL (aJc s) (λ_ h=>h.2) (aB (λh=>aL (aKU _ p (by omega) hp) (λ_ h=>h.2) (gi _ ?_)) (λh=>gi _ ?_));·unfold rz;rw[h,aGK];rfl
 ·unfold rz;rw[h];rfl
def MpI(a:List Int)(es:List (Int×Bool)):Prop:=∀o:Int,(akn (k:=.ib) es o:Bool)=a.contains o
theorem aMg(es:List (Int×Bool))(o x:Int):(akn (k:=.ib) (nB (k:=.ib) es o true) x:Bool)=(if x=o then true else akn (k:=.ib) es x):=by
 induction es with
 |nil=>
  by_cases h:x=o;·subst h;simp[akn,nB,fB]
  ·simp[akn,nB,fB,h,CU h]
 |cons e r b=>
  simp only[akn] at b ⊢;simp only[nB];split
  ·rename_i a;simp only[fB];by_cases h:o=x;·subst h;simp
   ·rw[if_neg h,if_neg (CU h),if_neg (by rw[a];exact h)]
  ·rename_i a;simp only[fB];by_cases h:e.1=x;·rw[if_pos h,if_pos h,if_neg (by rw[<-h];exact a)]
   ·rw[if_neg h,if_neg h];exact b
theorem aMh{a:List Int}{es:List (Int×Bool)}{o:Int}(h:MpI a es):MpI (o::a) (nB (k:=.ib) es o true):=by
 intro x;rw[aMg,h x,CK];by_cases e:x=o;·rw[if_pos e,e];simp
 ·rw[if_neg e,show (x==o)=false by simpa using e];rfl
set_option maxHeartbeats 4000000 in
theorem aHY(n:Nat)(hF:∀k,k<n->aHX k)(hn:n<=20000000000000):aHX n:=by
 intro b es t fs rest S hw;obtain⟨N,hN⟩:∃N:Nat,N=300000000000:=⟨_,rfl⟩
 apply aBF N;show Tot _ (BoQ (uL b t fs rest));unfold aqA uV;refine aiN S (aB (λh=>gi _ ?_) (λh=>?_));·unfold uL;rw[show (dU b t).2 =false by simpa using h];rfl
 have h:(dU b t).2 =true:=by simpa using h
 have hp:=ajW t S;have ed:uL b t fs rest=(jg b (dU b t).1 none [] fs&&rz (dU b t).1 rest):=by unfold uL;rw[h];rfl
 obtain⟨p,Y⟩:∃p,p=(dU b t).1 :=⟨_,rfl⟩
 rw[<-Y] at hp ed ⊢;have aj:=hp.1;have af:=yv fs;rw[ed];refine aL (aJB p rest hp) (λ_ h=>h.2) (aB (λa=>gi _ ?_) (λa=>?_));·rw[show rz p rest=false by simpa using a,Cx]
 have a:rz p rest=true:=by simpa using a
 rw[a,CF];dsimp only;refine aW (λ(x:sK)=>match x with|(E,H,I,re,Z,F,m,k,z)=>(E,H,I,re,Z,F,m)=(b,es,fs,rest,p,fs,(fs.length:Int))∧0<=k∧k<=fs.length∧∃c,MpI c z∧(∀o∈c,0<o)∧jg b p none [] fs=jg b p (rM fs k) c (fs.drop k.toNat)) (λx=>(fs.length-x.2.2.2.2.2.2.2.1).toNat) ?_ _ _ ⟨rfl,Av _,by omega,[],λo=>rfl,by simp,rfl⟩ (by dsimp only;omega);rintro r ⟨E,H,I,re,Z,F,m,k,z⟩ ⟨q,M,k1,c,W,i,a⟩ R;cases q;dsimp only at R;unfold xX;dsimp only;refine aB (λu=>?_) (λu=>?_)
 ·have u:=of_decide_eq_true u;have e:=ixt (l:=fs) ⟨M,u⟩;rw[dm (aI .pfd) M u,awA] at a;have D:=dJ (aI .pfd) M u;have C:0<k->rM fs k=some (Af fs (Ad (k-1)) (aI .pfd)).1 :=λh=>by unfold rM;rw[if_neg (by omega)]
  have d:rM fs (k+1)=some (Af fs k.toNat (aI .pfd)).1 :=by unfold rM;rw[if_neg (by omega),show k+1-1=k by omega]
  obtain⟨x,hx⟩:∃x,x=Af fs k.toNat (aI .pfd):=⟨_,rfl⟩
  rw[<-hx] at a D d ⊢;have ag:=aka D;have ah:=zk x.2;have L:∀o:List aK,jg b p none [] fs=false->Tot (some ((.bool false,o):V×List aK)) (BoQ (jg b p none [] fs)):=λo h=>gi _ h.symm
  rw[cu M (by omega),aT (k-1) (by omega)];refine aD e (aqs (by omega) (aB (λh=>L _ (by rw[a,show (cK p x.1).2 =false by simpa using h];rfl)) (λh=>?_)));have h:(cK p x.1).2 =true:=by simpa using h
  have G:=(aq6 x.1 hp h).1;obtain⟨f,X⟩:∃f,f=(cK p x.1).1 :=⟨_,rfl⟩
  rw[<-X] at a G ⊢;rw[h,Bd] at a;have J:=W f.oneof;have w:aq8 (rM fs k) x.1=true->Tot (cond (akn (k:=.ib) z f.oneof) (some (.bool false,[some [.mp .ib z]])) (aA (qo b es f x.2) (λ(r4:Bool)=>cond (!r4) (some (.bool false,[some [.mp .ib z]])) (cond (decide (0<f.oneof)) (r (b,es,fs,rest,p,fs,(fs.length:Int),k+1,nB (k:=.ib) z f.oneof true)) (r (b,es,fs,rest,p,fs,(fs.length:Int),k+1,z)))))) (BoQ (jg b p none [] fs)):=by
   intro A;rw[A,Bd] at a;rw[J];refine aB (λO=>L _ ?_) (λO=>?_);·have:0<f.oneof:=i _ (by simpa using O);rw[a,O,decide_eq_true this];simp
   rw[O,Cx,Bh,Bd] at a;refine aL (aJA b es f x.2 (by omega) (by have:=G.2.2.2.2.2.2.2.1;omega) (λv hv t=>hF (cM v.fs) (by have:=lr hv;have:=sV v;omega) b es t v.fs v.rest S (Ap _))) (λ_ h=>h.2) (aB (λP=>L _ (by rw[a,show nO b f x.2=false by simpa using P];rfl)) (λP=>?_));rw[show nO b f x.2=true by simpa using P,Bd] at a;refine aB (λy=>?_) (λy=>?_);·have y:=of_decide_eq_true y;rw[if_pos y] at a;exact R _ ⟨rfl,by first|omega|(dsimp only;omega),by first|omega|(dsimp only;omega),f.oneof::c,aMh W,by simpa using ⟨y,i⟩,by dsimp only;rw[a,d]⟩ (by first|omega|(dsimp only;omega))
   ·have y:=of_decide_eq_false y;rw[if_neg y] at a;exact R _ ⟨rfl,by first|omega|(dsimp only;omega),by first|omega|(dsimp only;omega),c,W,i,by dsimp only;rw[a,d]⟩ (by first|omega|(dsimp only;omega))
  refine aB (λj=>?_) (λj=>w ?_)
  ·have j:=of_decide_eq_true j;have e2:aq8 (rM fs k) x.1=decide ((Af fs (Ad (k-1)) (aI .pfd)).1 <x.1):=by rw[C j];rfl
   refine aD (ixt ⟨by omega,by omega⟩) (aB (λB=>L _ ?_) (λB=>w ?_));·rw[a,e2,decide_eq_false (by have:=of_decide_eq_true B;omega)];rfl
   ·rw[e2,decide_eq_true (by have:=of_decide_eq_false B;omega)]
  ·have:k=0:=by have:=of_decide_eq_false j;omega
   subst this;rfl
 ·have u:=of_decide_eq_false u;rw[dP u] at a;exact gi _ (by rw[a];simp only[jg])
theorem aJC(n:Nat)(c:n<=20000000000000):aHX n:=by
 induction n using C7 with
 |_ n a=>exact aHY n (λk b=>a k b (by omega)) c
theorem aKV{a:List PMs}{es:List PEn}{t:Bs}{fs:List (Int×List aC)}{rest:Bs}{K:Bool->Ro}(b:nL a)(d:cM fs<=20000000000000)(c:Tot (K (uL a t fs rest)) Q):Tot (aA (fQ a es t fs rest) K) Q:=aL (aJC _ (Ap _) a es t fs rest b d) (λ_ h=>h.2) c
end
section
variable{Q:V×List aK->Prop}
theorem aMi(l:List UInt8)(n m:Int)(h:cU l n)(a:0<m):∃r,br l n m r:=by
 obtain⟨d,e,c⟩:=h;apply apA 1;unfold ae1 ae0;dsimp only
 repeat' (first|(with_reducible refine aB ?_ ?_<;>(intro b;(try simp only[bnl] at b);(try revert b;intro _)))|with_reducible refine aD ?_ ?_|with_reducible refine aE ?_|fail)
 ·exact⟨_,_,_,_,rfl,rfl,by simp,by simpa using a,rfl,d,e,c⟩
 ·simp(disch:=omega) only[bj,bnl]
 ·simp only[bnl];omega
 ·refine⟨_,_,_,_,rfl,rfl,?_,?_,rfl,?_,?_,c⟩;·simp only;have:=BP (l.getD (IntKind.i64.wrap (IntKind.i64.wrap (n+1)-1)).toNat (aI .u8));rw[aT _ (by omega)];exact Dy _ (by omega)
  ·simp only;exact Int.tmod_lt_of_pos _ a
  ·simp only;rw[aT _ (by omega)];omega
  ·simp only;rw[aT _ (by omega)];omega
theorem gT{l:Bs}{n m:Int}{K:Int×Bs×Int->Ro}(h:cU l n)(f:0<m)(i:∀v a,0<=v->v<m->cU l a->Tot (K (v,l,a)) Q):Tot (aA (br l n m) K) Q:=
 aX (aMi l n m h f) (by rintro⟨v,j,a⟩ ⟨-,c,d,b,e⟩;dsimp only at c d b e;subst b;exact i v a c d e)
theorem aJD(l:List UInt8)(n:Int):∃r,lO l n r:=by
 apply anq 1;unfold adM adL;dsimp only
 repeat' (first|(with_reducible refine aB ?_ ?_<;>(intro a;(try simp only[bnl] at a);(try revert a;intro _)))|with_reducible refine aD ?_ ?_|with_reducible refine aE ?_|fail)
 exact⟨_,_,_,_,rfl,rfl,rfl,rfl⟩
theorem aKW{l:Bs}{n:Int}{K:Bool×Bs×Int->Ro}(d:∀b,Tot (K (b,l,n)) Q):Tot (aA (lO l n) K) Q:=
 aX (aJD l n) (by rintro⟨b,f,e⟩ ⟨-,a,c⟩;dsimp only at a c;subst a c;exact d b)
theorem alH(l:List UInt8):∃r,ph l r:=by
 apply aA6 1;unfold agE apM
 repeat' (first|(with_reducible refine aB ?_ ?_<;>(intro a;(try simp only[bnl] at a);(try revert a;intro _)))|with_reducible refine aD ?_ ?_|with_reducible refine aE ?_|fail)
 exact⟨_,_,[],rfl,rfl⟩
theorem acE{l:Bss}{b:Nat}(h:l.all (λx=>decide (x.length<=b))=true)(i:Nat):(l.getD i (aI .str)).length<=b:=by
 rw[Aq];cases a:l[i]? with
 |none=>exact AR _
 |some x=>exact of_decide_eq_true (Aw.1 h x (Ar a))
def TxQ(b:Nat)(l:Bs):V×List aK->Prop:=λz=>∃(d a:Bs)(c:Int)(rest:List aK),z.1.dimR=.str d∧z.2=some [.sl .u8 (.may false) a,.int .i64 c]::rest∧TxR b l (d,a,c)
theorem aJE(l:Bs)(n:Int)(h:cU l n):∃r,iT l n r:=by apply anr 1;show Tot _ (TxQ 10 l);unfold adO adN;dsimp only;refine gT h (by decide) (λv c b a hp=>aD (ixt ⟨b,by simpa using a⟩) (aE ⟨_,_,_,_,rfl,rfl,acE (by decide) _,rfl,hp⟩))
theorem aGL{l:Bs}{n:Int}{K:Bs×Bs×Int->Ro}(h:cU l n)(e:∀t a,t.length<=10->cU l a->Tot (K (t,l,a)) Q):Tot (aA (iT l n) K) Q:=
 aX (aJE l n h) (by rintro⟨v,f,a⟩ ⟨-,c,d,b⟩;dsimp only at c d b;subst d;exact e v a c b)
theorem aHZ(l:Bs)(n:Int)(h:cU l n):∃r,gb l n r:=by apply ajJ 1;show Tot _ (TxQ 10 l);unfold aaJ aaI;dsimp only;refine gT h (by decide) (λv c b a hp=>aD (ixt ⟨b,by simpa using a⟩) (aE ⟨_,_,_,_,rfl,rfl,acE (by decide) _,rfl,hp⟩))
theorem azL{l:Bs}{n:Int}{K:Bs×Bs×Int->Ro}(h:cU l n)(e:∀t a,t.length<=10->cU l a->Tot (K (t,l,a)) Q):Tot (aA (gb l n) K) Q:=
 aX (aHZ l n h) (by rintro⟨v,f,a⟩ ⟨-,c,d,b⟩;dsimp only at c d b;subst d;exact e v a c b)
theorem afL{v:Int}{K:Bs->Ro}(a:∀t:Bs,t.length<=21->Tot (K t) Q):Tot (aA (hY v) K) Q:=
 aX (aKx v) (λt h=>a t h.2)
theorem aEF(N:Nat)(l a b c d:Bs)(n:Int)(h:cU l n)(e:a.length<=10)(j:b.length<=22)(f:c.length<=24)(i:d.length<=20):Tot (iH N (a,b,c,d,l,n)) (TxQ 200 l):=by unfold iH;dsimp only;refine aD ?_ (aD ?_ (aD ?_ (aD ?_ (aD ?_ (aD ?_ (aE ⟨_,_,_,_,rfl,rfl,?_,rfl,h⟩))))));all_goals (try apply decide_eq_true);simp only[Ak,Ai,Al];omega
theorem aEG(N:Nat)(l a b c d:Bs)(n:Int)(h:cU l n)(e:a.length<=10)(j:b.length<=22)(f:c.length<=24)(i:d.length<=20):Tot (iI N (a,b,c,d,l,n)) (TxQ 200 l):=by unfold iI;dsimp only;refine aD ?_ (aD ?_ (aD ?_ (aD ?_ (aD ?_ (aD ?_ (aD ?_ (aE ⟨_,_,_,_,rfl,rfl,?_,rfl,h⟩)))))));all_goals (try apply decide_eq_true);simp only[Ak,Ai,Al];omega
theorem aKX(N:Nat)(l a b c:Bs)(n:Int)(h:cU l n)(d:a.length<=10)(f:b.length<=22)(e:c.length<=24):Tot (iJ N (a,b,c,l,n)) (TxQ 200 l):=by unfold iJ;dsimp only;refine aD ?_ (aD ?_ (aD ?_ (aD ?_ (aE ⟨_,_,_,_,rfl,rfl,?_,rfl,h⟩))));all_goals (try apply decide_eq_true);simp only[Ak,Ai,Al];omega
theorem aKY(N:Nat)(l:Bs)(r k:Bool)(p:Int)(a b c:Bs)(n:Int)(h:cU l n)(f:a.length<=10)(j:b.length<=22)(i:c.length<=24):Tot (iK N (r,a,b,c,p,k,l,n)) (TxQ 200 l):=by unfold iK ln;dsimp only;refine aB (λ_=>gT h (by decide) (λv q m d hp=>aD (ixt ⟨m,by simpa using d⟩) ?_)) (λ_=>aB (λ_=>gT h (by decide) (λv q m d hp=>aD (ixt ⟨m,by simpa using d⟩) (aB (λ_=>aEG N l _ _ _ _ _ hp f j i (by decide)) (λ_=>aEG N l _ _ _ _ _ hp f j i (acE (by decide) _))))) (λ_=>aKX N l _ _ _ _ h f j i));have e:=aEF N l a b c [] q hp f j i (by decide);exact aB (λ_=>e) (λ_=>aB (λ_=>e) (λ_=>aB (λ_=>e) (λ_=>aB (λ_=>e) (λ_=>aEF N l _ _ _ _ _ hp f j i (acE (by decide) _)))))
theorem aEH(N:Nat)(l:Bs)(c:Int)(f:Bool)(a:Bs)(n:Int)(h:cU l n)(d:a.length<=10):Tot (mw N (c,f,a,l,n)) (TxQ 200 l):=by
 unfold mw lp;dsimp only;refine afL (λt p=>aD ?_ (afL (λu j=>aD ?_ (gT h (by decide) (λv m k i hp=>aB (λ_=>aD ?_ (aD ?_ (aD ?_ (aD ?_ (aD ?_ (aE ⟨_,_,_,_,rfl,rfl,?_,rfl,hp⟩)))))) (λ_=>?_))))))
 all_goals first
  |((try apply decide_eq_true);simp only[Ak,Ai,Al];omega)
  |(
    have b:([102]++t:Bs).length<=22:=by simp only[Ak,Ai,Al];omega
    have e:([32,61,32]++u:Bs).length<=24:=by simp only[Ak,Ai,Al];omega
    repeat' (first|(with_reducible refine aB ?_ ?_<;>(intro b;(try simp only[bnl] at b);(try revert b;intro _)))|with_reducible refine aD ?_ ?_|with_reducible refine aE ?_|(exact aKY N l _ _ _ _ _ _ _ hp d b e)|fail)
    done)
theorem aH0(l:Bs)(n b:Int)(c:Bool)(h:cU l n):∃r,kD l n b c r:=by apply alp 1;show Tot _ (TxQ 200 l);unfold abM jv;dsimp only;exact aGL h (λt i e hp=>aB (λ_=>azL hp (λu f d a=>aEH _ _ _ _ _ _ a d)) (λ_=>aEH _ _ _ _ _ _ hp e))
theorem aJF{l:Bs}{n a:Int}{c:Bool}{K:Bs×Bs×Int->Ro}(h:cU l n)(i:∀t b,t.length<=200->cU l b->Tot (K (t,l,b)) Q):Tot (aA (kD l n a c) K) Q:=
 aX (aH0 l n a c h) (by rintro⟨v,j,b⟩ ⟨-,e,f,d⟩;dsimp only at e f d;subst f;exact i v b e d)
theorem aKZ(l:Bs)(n m:Int)(c:Bool)(h:cU l n)(J:0<=m∧m<=20):∃r,iS l n m c r:=by
 obtain⟨N,P⟩:∃N:Nat,N=100:=⟨_,rfl⟩
 apply anw N;show Tot _ (TxQ 100000 l);unfold adP kE;dsimp only;rw[cu J.1 (by omega)];refine gT h (by omega) (λq Y F I A=>?_);dsimp only;refine aW (λ(x:jw)=>match x with|(D,s,o,k,C,E,B)=>(D,C,E)=(c,q,l)∧0<=k∧k<=q∧(s.length:Int)<=200*k∧(o.length:Int)<=200*k∧cU l B) (λx=>(q-x.2.2.2.1).toNat) ?_ _ _ ⟨rfl,Av _,F,by simp,by simp,A⟩ (by dsimp only;omega);rintro v ⟨D,s,o,k,C,E,B⟩ ⟨e,M,X,hs,W,hp⟩ i;cases e;dsimp only at i;unfold nI;dsimp only;rw[cu M (by omega)];refine aB (λp=>?_) (λp=>?_)
 ·have p:=of_decide_eq_true p;refine gT hp (by decide) (λa Z _ _ z=>gT z (by decide) (λb R _ _ f=>aB (λ_=>aGL f (λt H L d=>aB (λ_=>azL d (λu n5 S j=>?_)) (λ_=>?_))) (λ_=>aJF f (λt H L d=>?_))));·refine aD ?_ (aD ?_ (afL (λw O=>aD ?_ (aD ?_ (afL (λy G=>aD ?_ (aD ?_ (i _ ⟨rfl,by first|omega|(dsimp only;omega),by first|omega|(dsimp only;omega),by first|omega|(dsimp only;omega),?_,j⟩ (by first|omega|(dsimp only;omega))))))))));all_goals (try apply decide_eq_true);(try dsimp only);(try simp only[Ak,Ai,Al]);omega
  ·refine aD ?_ (aD ?_ (afL (λw O=>aD ?_ (aD ?_ (afL (λy G=>aD ?_ (aD ?_ (i _ ⟨rfl,by first|omega|(dsimp only;omega),by first|omega|(dsimp only;omega),by first|omega|(dsimp only;omega),?_,d⟩ (by first|omega|(dsimp only;omega))))))))));all_goals (try apply decide_eq_true);(try dsimp only);(try simp only[Ak,Ai,Al]);omega
  ·refine aD ?_ (i _ ⟨rfl,by first|omega|(dsimp only;omega),by first|omega|(dsimp only;omega),?_,by first|omega|(dsimp only;omega),d⟩ (by first|omega|(dsimp only;omega)));all_goals (try apply decide_eq_true);(try dsimp only);(try simp only[Ak,Ai,Al]);omega
 ·refine aB (λ_=>aD ?_ (aD ?_ (aD ?_ (aE ⟨_,_,_,_,rfl,rfl,?_,rfl,hp⟩)))) (λ_=>aE ⟨_,_,_,_,rfl,rfl,?_,rfl,hp⟩);all_goals (try apply decide_eq_true);(try dsimp only);(try simp only[Ak,Ai,Al]);omega
theorem aGM{l:Bs}{n m:Int}{c:Bool}{K:Bs×Bs×Int->Ro}(h:cU l n)(f:0<=m∧m<=20)(i:∀t a,t.length<=100000->cU l a->Tot (K (t,l,a)) Q):Tot (aA (iS l n m c) K) Q:=
 aX (aKZ l n m c h f) (by rintro⟨v,j,a⟩ ⟨-,d,e,b⟩;dsimp only at d e b;subst e;exact i v a d b)
theorem aK0(l:Bs)(n:Int)(c:Bool)(h:cU l n):∃r,lN l n c r:=by apply anx 1;show Tot _ (TxQ 1000000 l);unfold adR adQ;dsimp only;refine aGM h (by decide) (λt d i b=>aD ?_ (aD ?_ (aGM b (by decide) (λu e f a=>aD ?_ (aD ?_ (aE ⟨_,_,_,_,rfl,rfl,?_,rfl,a⟩))))));all_goals (try apply decide_eq_true);(try dsimp only);(try simp only[Ak,Ai,Al]);omega
theorem aMj{l:Bs}{n:Int}{c:Bool}{K:Bs×Bs×Int->Ro}(h:cU l n)(f:∀t a,cU l a->Tot (K (t,l,a)) Q):Tot (aA (lN l n c) K) Q:=
 aX (aK0 l n c h) (by rintro⟨v,i,a⟩ ⟨-,e,d,b⟩;dsimp only at e d b;subst d;exact f v a b)
theorem aNp(s:Bs):∃r,ahV s r:=by apply aFO 1;unfold av7 av6;refine aX (aKE _) ?_;rintro⟨fs,e,f,a⟩ ⟨-,b⟩;dsimp only[ab9] at b ⊢;refine aB (λ_=>aE ⟨_,_,_,_,rfl,rfl,λh=>by simp at h⟩) (λd=>aX (aHM fs (b (by simpa using d))) ?_);rintro⟨i,es,j,t⟩ ⟨-,c⟩;dsimp only[ye] at c ⊢;exact aE ⟨_,_,_,_,rfl,rfl,λh=>(c (by simpa using h)).1⟩
theorem aqB(l:Bs)(n:Int)(h:cU l n):∃r,bm l n r:=by apply als 1;unfold abO abN;refine aMj h (λt c hp=>aX (aNp t) ?_);rintro⟨b,es,is⟩ ⟨-,a⟩;exact aE ⟨_,_,_,_,_,_,rfl,rfl,a⟩
theorem aGc(l:Bs)(n k:Int)(h:cU l n):∃r,ju l n k r:=by apply ajP 1;unfold aaN aaM;dsimp only;refine gT h (by decide) (λv c b a hp=>aD (ixt ⟨b,by simpa using a⟩) (aL (azE _ _) (λ_ h=>h.2) (aE ⟨_,_,_,_,rfl,rfl,rfl,hp⟩)))
theorem aJG{l:Bs}{n k:Int}{K:Int×Bs×Int->Ro}(h:cU l n)(d:∀v a,cU l a->Tot (K (v,l,a)) Q):Tot (aA (ju l n k) K) Q:=
 aX (aGc l n k h) (by rintro⟨v,e,a⟩ ⟨-,b,c⟩;dsimp only at b c;subst b;exact d v a c)
end
theorem alI(r:bF):(i9 r).length<=30+r.s.length:=by
 unfold i9;dsimp only;have b:=fD r.n;have a:=fD (r.num*8+r.wire%8);have e:=fD (r.s.length:Int);have c:(gX r.n 4).length=4:=yN _ 4;have d:(gX r.n 8).length=8:=yN _ 8
 (repeat' split)<;>simp only[Ak,Al]<;>omega
theorem auu(n:Nat)(h:n<=5):oD n<=10101010100000∧(n<=4->oD n<=101010100000):=by
 match n,h with
 |0,_=>decide
 |1,_=>decide
 |2,_=>decide
 |3,_=>decide
 |4,_=>decide
 |5,_=>decide
theorem aJH{l:List PFl}{i:Int}(h:(l.map PFl.num).Nodup)(a:0<=i)(c:i<l.length):(l.getD i.toNat (aI .pfl)).num ∉ (l.take i.toNat).map PFl.num:=by
 have e:l.map PFl.num=(l.take i.toNat).map PFl.num++(l.drop i.toNat).map PFl.num:=by rw[<-BB,BS]
 rw[e,dm (aI .pfl) a c,Bb,List.nodup_append] at h
 exactλb=>h.2.2 _ b _ (A4 ..) rfl
section
variable{Q:V×List aK->Prop}
def aOg(m:Nat):Prop:=∀(l:Bs)(n:Int)(a:List PMs)(es:List PEn)(s:Bs)(d:Int),(5-d).toNat<=m->0<=d->d<=10->nL a->cU l n->∃r,eQ l n a es s d r
def VlQ(l:Bs)(b:Nat):V×List aK->Prop:=λz=>∃(d:aC)(a:Bs)(c:Int)(rest:List aK),z.1.dimR=.agg (enc .pval d)∧z.2=some [.sl .u8 (.may false) a,.int .i64 c]::rest∧wtV d<=b∧a=l∧cU l c
theorem aNq(l:Bs)(n:Int)(w:List PMs)(es:List PEn)(k:Int)(t:Bs)(d:Int)(B:0<=d)(h:cU l n)(C:d<=9)(z:k=16->∀n,cU l n->∃r,eQ l n w es t (d+1) r):∃r,d6 l n w es k t d r:=by
 apply apK 1;show Tot _ (VlQ l (200+(if k=16 then oD (4-d).toNat else 0)));unfold ae3 ae2;dsimp only;have c:∀(a:Int)(s:Bs)(m:Fl)(rest:List aK)(f:Int)(fs:List (Int×List aC))(i:Bs),m≠.own->wtV (.mk a s fs i)<=200+(if k=16 then oD (4-d).toNat else 0)->cU l f->Tot (some ((.agg [.int .u64 a,.str s,.sl .pfd m fs,.str i],some [.sl .u8 (.may false) l,.int .i64 f]::rest):V×List aK)) (VlQ l (200+(if k=16 then oD (4-d).toNat else 0))):=by
  intro a s m rest f fs i y A hp;refine aE ⟨.mk a s fs i,_,_,_,?_,rfl,A,rfl,hp⟩;cases m with
  |own=>exact absurd rfl y
  |may b=>rfl
 have small:∀(a:Int)(s:Bs),s.length<=100->wtV (.mk a s [] [])<=200+(if k=16 then oD (4-d).toNat else 0):=by intro a s D;simp only[wtV,cM,Al];omega
 refine aB (λp=>?_) (λ_=>aB (λ_=>gT h (by decide) (λv f j e hp=>aD (ixt ⟨j,by simpa using e⟩) (c _ _ _ _ _ _ _ (by simp) (small _ _ (acE (by decide) _)) hp))) (λ_=>aB (λ_=>gT h (by decide) (λv f j e hp=>aD (ixt ⟨j,by simpa using e⟩) (c _ _ _ _ _ _ _ (by simp) (small _ _ (acE (by decide) _)) hp))) (λ_=>aB (λ_=>gT h (by decide) (λv f j e hp=>aD (ixt ⟨j,by simpa using e⟩) (c _ _ _ _ _ _ _ (by simp) (small _ _ (by decide)) hp))) (λ_=>aJG h (λv f hp=>c _ _ _ _ _ _ _ (by simp) (small _ _ (by decide)) hp)))));have p:k=16:=by simpa using p
 rw[aT (d+1) (by omega)];refine aX (z p n h) ?_;rintro⟨fs,i,E,f⟩ ⟨-,q,u,x⟩;dsimp only at q u x;subst u;refine c _ _ _ _ _ _ _ (by simp) ?_ x;rw[if_pos p];simp only[wtV,Al];rw[show (5-(d+1)).toNat=(4-d).toNat by omega] at q;omega
theorem aqC{l:Bs}{n:Int}{b:List PMs}{es:List PEn}{k:Int}{t:Bs}{d:Int}{K:aC×Bs×Int->Ro}(i:0<=d)(h:cU l n)(m:d<=9)(p:k=16->∀n,cU l n->∃r,eQ l n b es t (d+1) r)(j:∀v a,wtV v<=200+(if k=16 then oD (4-d).toNat else 0)->cU l a->Tot (K (v,l,a)) Q):Tot (aA (d6 l n b es k t d) K) Q:=
 aX (aNq l n b es k t d i h m p) (by rintro⟨v,q,a⟩ ⟨-,c,e,f⟩;dsimp only at c e f;subst e;exact j v a c f)
def MvI(W:Nat)(f:PFl)(l:List aC)(k n:Int):Prop:=0<=k∧k<=n∧n<=3∧(wtL l:Int)<=k*(400+W)∧(f.label=3->l.length%2=0)
end
theorem aJI(k n:Int):(pJ k n).length<=10:=by
 unfold pJ;have a:=fD (toR k n);have b:(gX (toR k n) 4).length=4:=yN _ 4;have c:(gX (toR k n) 8).length=8:=yN _ 8
 (repeat' split)<;>omega
theorem aic(k:Int):∀l:List aC,(lj k l).length<=wtL l
 | []=>by simp[lj]
 |v::r=>by have:=aic k r;have:=aJI k v.n;have:=sV v;simp only[lj,wtL,Ak];omega
mutual
theorem yw(ms:List PMs)(num k:Int)(t:Bs):∀v:aC,(pg ms num k t v).length+70<=wtV v
 | .mk n s fs rest=>by
   have h1:=ad2 ms (dU ms t).1 fs
   simp only[pg,wtV]
   refine A7 (Nat.add_le_add_right (alI _) _) ?_
   dsimp only
   split
   ·simp only[Ak];omega
   ·omega
theorem ad2(ms:List PMs)(p:PMs):∀fs:List (Int×List aC),(li ms p fs).length<=cM fs
 | []=>by simp[li]
 |x::r=>by
  have h1:=ad2 ms p r
  have h2:=aK1 ms (cK p x.1).1 x
  simp only[li,cM,Ak];omega
theorem aK1(ms:List PMs)(f:PFl):∀x:Int×List aC,(at2 ms f x).length<=100+wtP x
 |(n,l)=>by
  have h1:=aid ms f l
  have h2:=aie ms f l
  have h3:=aic f.kind l
  have h4:=alI ⟨f.num,2,0,lj f.kind l,[]⟩
  simp only[at2,wtP]
  (repeat' split)<;>(try dsimp only at h4)<;>omega
theorem aid(ms:List PMs)(f:PFl):∀l:List aC,(iA ms f l).length<=wtL l
 | []=>by simp[iA]
 | [a]=>by simp[iA]
 |a::b::r=>by
  have h1:=aid ms f r
  have h2:=yw ms 1 f.key [] a
  have h3:=yw ms 2 f.kind f.typ b
  have h4:=alI ⟨f.num,2,0,pg ms 1 f.key [] a++pg ms 2 f.kind f.typ b,[]⟩
  simp only[Ak] at h4
  simp only[iA,wtL,Ak];omega
theorem aie(ms:List PMs)(f:PFl):∀l:List aC,(mt ms f l).length<=wtL l
 | []=>by simp[mt]
 |v::r=>by
  have h1:=aie ms f r
  have h2:=yw ms f.num f.kind f.typ v
  simp only[mt,wtL,Ak];omega
end
theorem alJ(b:List PMs)(a k:Int)(t:Bs)(v:aC):pg b a k t v=i9 ⟨a,ei k,toR k v.n,if k=16 then aaH b t v.fs v.rest else v.s,[]⟩:=by cases v;simp only[pg,aaH,aC.n,aC.s,aC.fs,aC.rest]
theorem acF(a:List PMs)(f:PFl)(l:List aC):wl a f l=if f.label=3 then iA a f l else if f.packed=true then i9 ⟨f.num,2,0,lj f.kind l,[]⟩ else mt a f l:=by simp only[wl,at2]
theorem awH(a:List PMs)(p:PMs)(x:Int×List aC)(r:List (Int×List aC)):li a p (x::r)=wl a (cK p x.1).1 x.2++li a p r:=by obtain⟨n,l⟩:=x;simp only[li,wl,at2]
theorem aEI(a:List PMs)(t:Bs)(fs:List (Int×List aC))(rest:Bs):(aaH a t fs rest).length<=cM fs+rest.length:=by have:=ad2 a (dU a t).1 fs;simp only[aaH,Ak];omega
section
variable{Q:V×List aK->Prop}
def SrQ(b:Bs):V×List aK->Prop:=λz=>∃(a:Bs)(rest:List aK),z.1.dimR=.str a∧z.2=rest∧a=b
theorem nv{b c:Bs}(o:List aK)(h:c=b):Tot (some ((.str c,o):V×List aK)) (SrQ b):=aE ⟨_,_,rfl,rfl,h⟩
def aH1(n:Nat):Prop:=∀(a:List PMs)(es:List PEn)(t:Bs)(fs:List (Int×List aC))(rest:Bs),nL a->cM fs<=n->rest.length<=20000000000000->∃r,jM a es t fs rest r
theorem aJJ(b:List PMs)(es:List PEn)(a k:Int)(t:Bs)(v:aC)(i:wtV v<=20000000000000)(d:∃r,jM b es t v.fs v.rest r):∃r,jN b es a k t v r:=by
 apply aul 1;show Tot _ (SrQ (pg b a k t v));unfold ah6 ah5;dsimp only;have f:=sV v;have e:=aEI b t v.fs v.rest;refine aL (acw _) (λ_ h=>h.2) (aL (ayv _ _) (λ_ h=>h.2) (aB (λc=>aL d (λ_ h=>h.2) (aL (agJ _ (by dsimp only;omega)) (λ_ h=>h.2) (nv _ ?_))) (λc=>aL (agJ _ (by dsimp only;omega)) (λ_ h=>h.2) (nv _ ?_))));·rw[alJ,if_pos (by simpa using c)]
 ·rw[alJ,if_neg (by simpa using c)]
theorem aH2(d:List PMs)(es:List PEn)(f:PFl)(l:List aC)(hw:wtL l<=20000000000000)(Y:∀v∈l,∀t,∃r,jM d es t v.fs v.rest r):∃r,tP d es f l r:=by
 obtain⟨N,hN⟩:∃N:Nat,N=300000000000:=⟨_,rfl⟩
 apply ar8 N;show Tot _ (SrQ (wl d f l));unfold agR nt;have ac:=zk l;have z:∀v∈l,∀(F k:Int)(t:Bs),∃r,jN d es F k t v r:=λv W F k t=>aJJ d es F k t v (by have:=lr W;omega) (Y v W t)
 refine aB (λO=>?_) (λO=>aB (λhp=>?_) (λhp=>?_))
 ·have I:wl d f l=iA d f l:=by rw[acF,if_pos (by simpa using O)]
  rw[I];have i:=aid d f l;refine aW (λ(x:dM)=>match x with|(E,A,B,D,b,k)=>(E,A,B,D)=(l,d,es,f)∧0<=k∧k<=l.length+1∧iA d f l=b++iA d f (l.drop k.toNat)) (λx=>(l.length+1-x.2.2.2.2.2).toNat) ?_ _ _ ⟨rfl,Av _,by omega,rfl⟩ (by dsimp only;omega);rintro p ⟨E,A,B,D,b,k⟩ ⟨q,w,S,j⟩ C;cases q;dsimp only at C;unfold pL;dsimp only;simp only[kr];rw[cu w (by omega),aT (k+2) (by omega)];refine aB (λc=>?_) (λc=>?_)
  ·have c:=of_decide_eq_true c;have m:=dm (l:=l) (aI .pval) w (by omega);have J:=dm (l:=l) (k:=k+1) (aI .pval) (by omega) c;rw[show k+1+1=k+2 by omega] at J;have u:=dJ (l:=l) (aI .pval) w (by omega);have G:=dJ (l:=l) (k:=k+1) (aI .pval) (by omega) c;rw[J] at m;obtain⟨x,L⟩:∃x,x=Af l k.toNat (aI .pval):=⟨_,rfl⟩
   obtain⟨y,R⟩:∃y,y=Af l (k+1).toNat (aI .pval):=⟨_,rfl⟩
   rw[<-L] at m u ⊢;rw[<-R] at m G ⊢;rw[m] at j;simp only[iA] at j;have H:b.length+((i9 ⟨f.num,2,0,pg d 1 f.key [] x++pg d 2 f.kind f.typ y,[]⟩).length+(iA d f (l.drop (k+2).toNat)).length)<=wtL l:=by rw[j] at i;simpa only[Ak] using i
   have ab:=yw d 1 f.key [] x;have Z:=yw d 2 f.kind f.typ y;have ad:=lr u;have aa:=lr G;refine aD (ixt ⟨w,by omega⟩) (aL (z x u 1 f.key []) (λ_ h=>h.2) (aD (ixt ⟨by omega,c⟩) (aL (z y G 2 f.kind f.typ) (λ_ h=>h.2) (aD (decide_eq_true (by omega)) (aL (agJ _ (by simp only[Ak];omega)) (λ_ h=>h.2) (aD (decide_eq_true (by omega)) (C _ ⟨rfl,by first|omega|(dsimp only;omega),by first|omega|(dsimp only;omega),?_⟩ (by first|omega|(dsimp only;omega)))))))));rw[j,AP]
  ·have c:=of_decide_eq_false c;have:iA d f (l.drop k.toNat)=[]:=by
    have X:(l.drop k.toNat).length<=1:=by rw[AL];omega
    match h:l.drop k.toNat,X with
    | [],_=>simp[iA]
    | [a],_=>simp[iA]
   rw[this,B5] at j;exact nv _ j.symm
 ·have I:wl d f l=i9 ⟨f.num,2,0,lj f.kind l,[]⟩:=by rw[acF,if_neg (by simpa using O),if_pos hp]
  rw[I];have i:=aic f.kind l;refine aW (λ(x:lR)=>match x with|(E,D,b,k)=>(E,D)=(l,f)∧0<=k∧k<=l.length∧lj f.kind l=b++lj f.kind (l.drop k.toNat)) (λx=>(l.length-x.2.2.2).toNat) ?_ _ _ ⟨rfl,Av _,by omega,rfl⟩ (by dsimp only;omega);rintro p ⟨E,D,b,k⟩ ⟨q,w,S,j⟩ C;cases q;dsimp only at C;unfold pM;dsimp only;rw[cu w (by omega)];refine aB (λc=>?_) (λc=>?_)
  ·have c:=of_decide_eq_true c;have m:=dm (l:=l) (aI .pval) w c;obtain⟨x,L⟩:∃x,x=Af l k.toNat (aI .pval):=⟨_,rfl⟩
   rw[<-L] at m ⊢;rw[m] at j;simp only[lj] at j;have H:b.length+((pJ f.kind x.n).length+(lj f.kind (l.drop (k+1).toNat)).length)<=wtL l:=by rw[j] at i;simpa only[Ak] using i
   have go:∀y,y=pJ f.kind x.n->Tot (p (l,f,b++y,k+1)) (SrQ (i9 ⟨f.num,2,0,lj f.kind l,[]⟩)):=λy R=>C _ ⟨rfl,by first|omega|(dsimp only;omega),by first|omega|(dsimp only;omega),by rw[j,R,AP]⟩ (by first|omega|(dsimp only;omega))
   refine aD (ixt ⟨w,c⟩) (aL (ayv _ _) (λ_ h=>h.2) (aL (acw _) (λ_ h=>h.2) (aB (λM=>aL (aBc _) (λ_ h=>h.2) ?_) (λM=>aB (λP=>aL (aGE _ _ (by decide)) (λ_ h=>h.2) ?_) (λP=>aL (aGE _ _ (by decide)) (λ_ h=>h.2) ?_)))))
   ·have e:dK (toR f.kind x.n)=pJ f.kind x.n:=by unfold pJ;rw[if_pos (by simpa using M)]
    exact aD (decide_eq_true (by rw[e];omega)) (go _ e)
   ·have e:gX (toR f.kind x.n) 8=pJ f.kind x.n:=by unfold pJ;rw[if_neg (by simpa using M),if_pos (by simpa using P)]
    exact aD (decide_eq_true (by rw[e];omega)) (go _ e)
   ·have e:gX (toR f.kind x.n) 4=pJ f.kind x.n:=by unfold pJ;rw[if_neg (by simpa using M),if_neg (by simpa using P)]
    exact aD (decide_eq_true (by rw[e];omega)) (go _ e)
  ·have c:=of_decide_eq_false c;rw[dP c] at j;simp only[lj,B5] at j;rw[<-j];exact aL (agJ _ (by dsimp only;omega)) (λ_ h=>h.2) (nv _ rfl)
 ·have I:wl d f l=mt d f l:=by rw[acF,if_neg (by simpa using O),if_neg (by simpa using hp)]
  rw[I];have i:=aie d f l;refine aW (λ(x:dM)=>match x with|(E,A,B,D,b,k)=>(E,A,B,D)=(l,d,es,f)∧0<=k∧k<=l.length∧mt d f l=b++mt d f (l.drop k.toNat)) (λx=>(l.length-x.2.2.2.2.2).toNat) ?_ _ _ ⟨rfl,Av _,by omega,rfl⟩ (by dsimp only;omega);rintro p ⟨E,A,B,D,b,k⟩ ⟨q,w,S,j⟩ C;cases q;dsimp only at C;unfold pN;dsimp only;simp only[kr];rw[cu w (by omega)];refine aB (λc=>?_) (λc=>?_)
  ·have c:=of_decide_eq_true c;have m:=dm (l:=l) (aI .pval) w c;have u:=dJ (l:=l) (aI .pval) w c;obtain⟨x,L⟩:∃x,x=Af l k.toNat (aI .pval):=⟨_,rfl⟩
   rw[<-L] at m u ⊢;rw[m] at j;simp only[mt] at j;have H:b.length+((pg d f.num f.kind f.typ x).length+(mt d f (l.drop (k+1).toNat)).length)<=wtL l:=by rw[j] at i;simpa only[Ak] using i
   exact aD (ixt ⟨w,c⟩) (aL (z x u f.num f.kind f.typ) (λ_ h=>h.2) (aD (decide_eq_true (by omega)) (C _ ⟨rfl,by first|omega|(dsimp only;omega),by first|omega|(dsimp only;omega),by rw[j,AP]⟩ (by first|omega|(dsimp only;omega)))))
  ·have c:=of_decide_eq_false c;rw[dP c] at j;simp only[mt,B5] at j;exact nv _ j.symm
theorem aGd(n:Nat)(H:∀k,k<n->aH1 k)(R:n<=20000000000000):aH1 n:=by
 intro a es t fs rest y W J;obtain⟨N,P⟩:∃N:Nat,N=300000000000:=⟨_,rfl⟩
 apply aui N;show Tot _ (SrQ (aaH a t fs rest));unfold ah4 oL;dsimp only;have hp:=ajW t y;have I:=yv fs;have c:=ad2 a (dU a t).1 fs;refine ac4 (by have:=y.1;omega) ?_;have E:aaH a t fs rest=li a (dU a t).1 fs++rest:=rfl;obtain⟨p,z⟩:∃p,p=(dU a t).1 :=⟨_,rfl⟩
 rw[<-z] at hp E c ⊢;have O:=hp.1;rw[E];refine aW (λ(x:nr)=>match x with|(j,r,u,D,C,b,k)=>(j,r,u,D,C)=(a,es,fs,rest,p)∧0<=k∧k<=fs.length∧li a p fs=b++li a p (fs.drop k.toNat)) (λx=>(fs.length-x.2.2.2.2.2.2).toNat) ?_ _ _ ⟨rfl,Av _,by omega,rfl⟩ (by dsimp only;omega);rintro A ⟨j,r,u,D,C,b,k⟩ ⟨q,w,S,f⟩ B;cases q;dsimp only at B;unfold rL;dsimp only;rw[cu w (by omega)];refine aB (λd=>?_) (λd=>?_)
 ·have d:=of_decide_eq_true d;have e:=ixt (l:=fs) ⟨w,d⟩;have i:=dm (l:=fs) (aI .pfd) w d;have m:=dJ (l:=fs) (aI .pfd) w d;obtain⟨x,M⟩:∃x,x=Af fs k.toNat (aI .pfd):=⟨_,rfl⟩
  rw[<-M] at i m ⊢;rw[i,awH] at f;have L:=aka m;have G:b.length+((wl a (cK p x.1).1 x.2).length+(li a p (fs.drop (k+1).toNat)).length)<=cM fs:=by rw[f] at c;simpa only[Ak] using c
  refine aD e (ap7 (by omega) (aD e (aL (aH2 a es _ x.2 (by omega) (λv F t=>H (cM v.fs) (by have:=lr F;have:=sV v;omega) a es t v.fs v.rest y (Ap _) (by have:=lr F;have:=sV v;omega))) (λ_ h=>h.2) (aD (decide_eq_true (by omega)) (B _ ⟨rfl,by first|omega|(dsimp only;omega),by first|omega|(dsimp only;omega),by rw[f,AP]⟩ (by first|omega|(dsimp only;omega)))))))
 ·have d:=of_decide_eq_false d;rw[dP d] at f;simp only[li,B5] at f;rw[f] at c ⊢;exact aD (decide_eq_true (by omega)) (nv _ rfl)
theorem aH3(n:Nat)(c:n<=20000000000000):aH1 n:=by
 induction n using C7 with
 |_ n a=>exact aGd n (λk b=>a k b (by omega)) c
theorem aqD(b:List PMs)(es:List PEn)(t:Bs)(fs:List (Int×List aC))(rest:Bs)(d:nL b)(e:cM fs<=20000000000000)(f:rest.length<=20000000000000):∃r,qk b es t fs rest r:=by
 apply aug 1;unfold ah3 ah2;dsimp only;refine ac4 (by have:=d.1;omega) (aB (λh=>aE ⟨_,_,_,rfl,rfl,?_⟩) (λh=>aJv d e (aB (λa=>aE ⟨_,_,_,rfl,rfl,?_⟩) (λa=>aL (aH3 _ e b es t fs rest d (Ap _) f) (λ_ h=>h.2) (aB (λc=>aE ⟨_,_,_,rfl,rfl,?_⟩) (λc=>aE ⟨_,_,_,rfl,rfl,?_⟩))))));all_goals show _=sR b t fs rest
 all_goals unfold sR
 ·rw[if_pos (by simpa using h)]
 ·rw[if_neg (by simpa using h),if_pos (by simpa using a)]
 ·rw[if_neg (by simpa using h),if_neg (by simpa using a),if_pos (by have:=of_decide_eq_true c;omega)]
 ·rw[if_neg (by simpa using h),if_neg (by simpa using a),if_neg (by have:=of_decide_eq_false c;omega)]
end
section
open Go.RowKit
theorem aBG(x:Value)(w:World):(callFunc 191 #[x]).run Tryz.prog w=.ok (.value x) w:=by rw[run_callFunc_extern Tryz.func191 (by kernel_rfl) (by kernel_rfl) (by kernel_rfl) (e:=Extern.AbiNoEscape.same) (by kernel_rfl)];rw[Lib.run_noEscape];rfl
set_option maxHeartbeats 1000000 in
theorem aMk(b o:Nat)(w:World)(d:w.cell? ⟨b,o,none⟩=some (.pointer (some ⟨b,o,none⟩))):
  Calls Tryz.prog 146 #[.pointer (some ⟨b,o,none⟩)] w λe w'=>e=.returned (.tuple #[])∧w'=w:=by
 obtain⟨j,c,a⟩:∃j,Tryz.prog.info? 168=some j∧j.size=2:=As.1 (show (Tryz.prog.info? 168).map (·.size)=some 2 by kernel_rfl)
 go_enter Tryz.func146,Tryz.ntmps146
 go_wp2
 rw[Lib.run_neq_ptr_same w _ Tryz.underlying166 c]
 go_wp2
 go_end0
 exact⟨rfl,rfl⟩
set_option maxHeartbeats 1000000 in
theorem aK2(b o E n:Nat)(w:World)(k:w.cell? ⟨b,o,none⟩=some (.pointer none))(a:w.shape? b=some (E,n))(f:o<n)
  (h:liesAt Tryz.prog Tryz.prog.depth E (n / Tryz.prog.cellsOf E) o 168 1=true) (i:w.frozen? ⟨b,o,none⟩=false):
  Calls Tryz.prog 146 #[.pointer (some ⟨b,o,none⟩)] w λe w'=>e=.returned (.tuple #[])∧w'=w.setCell ⟨b,o,none⟩ (.pointer (some ⟨b,o,none⟩)):=by
 obtain⟨j,d,c⟩:∃j,Tryz.prog.info? 168=some j∧j.size=2:=As.1 (show (Tryz.prog.info? 168).map (·.size)=some 2 by kernel_rfl)
 go_enter Tryz.func146,Tryz.ntmps146
 go_wp2
 rw[Lib.run_to_unsafe w ⟨b,o,none⟩ Tryz.underlying166 Tryz.underlying275 d (by rw[c];decide) a f];simp only[Result.andThen];rw[DB]
 go_wp2
 rw[aBG];rw[DB]
 go_wp2
 rw[Lib.run_from_unsafe w ⟨b,o,none⟩ Tryz.underlying275 Tryz.underlying166 d a h];simp only[Result.andThen];rw[DB]
 go_wp2
 go_end0
 exact⟨rfl,rfl⟩
end
theorem row_cell{cs:List V}{o:Nat}{v:V}(h:cs[o]? =some v)(b:v.one=true):dH cs=false:=by
 cases a:dH cs with
 |false=>rfl
 |true=>
  unfold dH at a;split at a
  ·cases o with
   |zero=>simp at h;subst h;cases b
   |succ o=>simp at h
  ·cases o with
   |zero=>simp at h;subst h;cases b
   |succ o=>simp at h
  ·cases o with
   |zero=>simp at h;subst h;cases b
   |succ o=>simp at h
  ·cases a
theorem map_cell{cs:List V}{o:Nat}{v:V}(h:cs[o]? =some v)(b:v.one=true):kP cs=false:=by
 cases a:kP cs with
 |false=>rfl
 |true=>
  obtain⟨k,es,rfl⟩:=afN a;cases o with
  |zero=>simp at h;subst h;cases b
  |succ o=>simp at h
theorem aEJ{env:List V}{hp:List aK}{id:Nat}{cs:List V}(h:hp[id]? =some (some cs))(a:dH cs=false)(b:kP cs=false):St.obj {env:=env,hp:=hp} id=some cs:=by
 unfold St.obj;rw[Aq,h];simp only[A8];split;·rename_i e;cases e;simp[dH] at a
 ·rename_i e;cases e;simp[dH] at a
 ·rename_i e;cases e;simp[kP] at b
 ·rename_i e;cases e;simp[dH] at a
 ·rfl
theorem SR.ofHR{g:Gh}{hp:List aK}{w:World}(h:HR g hp w):SR g {env:=[],hp:=hp} w {tmps:= #[],defers:=[]}:=
 ⟨h,⟨rfl,by simp,by simp⟩⟩
theorem aBH{α:Type}{l:List α}{o:Nat}{x:α}(h:l[o]? =some x):l.take o++[x]++l.drop (o+1)=l:=by obtain⟨a,rfl⟩:=Ag.1 h;rw[AP,Dq,<-BD a,BS]
def aEK(E n o:Nat):Bool:=liesAt Tryz.prog Tryz.prog.depth E (n / Tryz.prog.cellsOf E) o 168 1
theorem aK3{hp:List aK}{id:Nat}{x:aK}(h:hp[id]? =some x):hp.set id x=hp:=by
 apply CO;intro j;rw[Ax];split;·rename_i e;subst e;obtain⟨a,rfl⟩:=Ag.1 h;simp[a]
 ·rfl
theorem aOh{id o E n:Nat}{cs:List V}{hp:List aK}(l:hp[id]? =some (some cs))(j:cs[o]? =some (.bn E n))(G:aEK E n o=true):
  fS Tryz.prog 146 [.ptr id o] hp (.tup []) hp:=by
 intro w g k F p a z d;match k,a,d with
 |⟨[cv]⟩,a,d=>
  have r:=d 0 (.ptr id o) cv rfl rfl;cases r with
  |ptr _ _ J=>
  obtain⟨b,e,N,v,B⟩:=(p.obj id cs l).row (map_cell j rfl);have h:=row_cell j rfl;obtain⟨rfl,C⟩:=B.low h;obtain⟨rfl,rfl,t⟩:=C.bn o E n j;have H:o<cs.length:=(Ag.1 j).1;have a:=C.len;have f:w.cell? ⟨g.ρ id,o,none⟩=b[o]?:=bk v o;rcases t with t|t
  ·have x:w.shape? (g.ρ id)=some (E,b.size):=by simp[World.shape?,v]
   refine(aK2 (g.ρ id) o E b.size w (by rw[f,t]) x (by omega) G (by simp[B2,v])).mono ?_;rintro e w' ⟨rfl,rfl⟩;obtain⟨y,D⟩:=(SR.ofHR p).putCells (id:=id) (o:=o) (cs:=cs) (news:=[.bn E b.size]) (us:=[.pointer (some ⟨g.ρ id,o,none⟩)]) (aEJ l h (map_cell j rfl)) rfl (by simp[V.one]) (by simp;omega) (by
    intro i c u m q;cases i with
    |zero=>simp at m q;subst m q;exact .bn _ _ _
    |succ i=>simp at m) (by
    intro i c u m q;cases i with
    |zero=>simp at m q;subst m q;simp[aP]
    |succ i=>simp at m) (by
    intro i L M A;cases i with
    |zero=>simp at A;obtain⟨rfl,rfl⟩:=A;exact⟨j,.inr rfl⟩
    |succ i=>simp at A)
   have I:cs.take o++[V.bn E b.size]++cs.drop (o+[V.bn E b.size].length)=cs:=aBH j;simp only[St.setObj] at y;rw[I,aK3 l] at y D;exact⟨_,g,rfl,y.hr,D,.tup [] #[] rfl (by simp),by simp[aP]⟩
  ·refine(aMk (g.ρ id) o w (by rw[f,t])).mono ?_;rintro e w' ⟨rfl,rfl⟩;exact⟨_,g,rfl,p,FR.refl _ _ _,.tup [] #[] rfl (by simp),by simp[aP]⟩
 |⟨[]⟩,a,_=>simp at a
 |⟨_::_::_⟩,a,_=>simp at a
def Gcc(f:Nat)(vs:List V)(hp:List aK):Option (Bool×V×List aK):=
 if f=146 then
  match vs with
  | [.ptr id o]=>match hp.getD id none with
    |some cs=>match cs.getD o .undef with
     | .bn E n=>some (aEK E n o,.tup [],hp)
     |_=>none
    |none=>none
  |_=>none
 else none
theorem aNr:bC Tryz.prog Gcc:=by
 intro f vs hp v hp' h;unfold Gcc at h;split at h
 ·rename_i d;subst d;split at h
  ·rename_i id o;split at h
   ·rename_i cs a;split at h
    ·rename_i E n c;simp only[Ae,Aj] at h;obtain⟨j,rfl,rfl⟩:=h;have e:hp[id]? =some (some cs):=by
      rw[Aq] at a;cases b:hp[id]? with
      |none=>rw[b] at a;simp at a
      |some x=>rw[b] at a;simpa using a
     have i:cs[o]? =some (.bn E n):=by
      rw[Aq] at c;cases b:cs[o]? with
      |none=>rw[b] at c;simp at c
      |some x=>rw[b] at c;simpa using c
     exact aOh e i j
    ·simp at h
   ·simp at h
  ·simp at h
 ·simp at h
theorem aK4:co Gcc [146]:=by
 refine⟨?_,?_⟩
 ·intro f vs hp a;have:f≠146:=by rintro rfl;simp at a
  simp[Gcc,this]
 ·intro f vs hp c v hp' a;simp only[CK,D2,CD,beq_iff_eq] at a;omega
def nw:IR:=.ret
def nx:IR:=(.seq (.reg [Mv 17 1,Pp (.lens 18 (.t 17)),Mv 4 18,Pp (.mov 5 (.c (.nilif)))] []) nw)
def ny:IR:=(.seq (.reg [Mv 8 0,Mv 9 0,Nk 10 9,Fa 11 1 10,Pp (.ld 12 1 false true (.t 11)),Mv 13 1,Pp (.apps 14 (.tk 12) (.t 13)),Nk 15 8,Fa 16 1 15,Pp (.st none 1 (.t 16) (.tk 14))] []) nx)
def nz:IR:=(.seq (.reg [Mv 6 0,Pp (.call (some 7) 146 [(.t 6)])] []) ny)
def iP:IR:=(.seq (.reg [Pp (.mov 4 (.c (.int .i64 0))),Pp (.mov 5 (.c (.nilif)))] []) nz)
def iQ:List RV:=[.t 4,.t 5]
theorem aOi(a:Nat):(bL Tryz.prog [146] a iP (Tryz.f91.body.getD .skip)&&dy Tryz.prog iQ Tryz.f91.results.toList)=true:=by kernel_rfl
theorem aNs{id o E n:Nat}{cs:List V}{hp:List aK}{l s:List UInt8}(b:hp[id]? =some (some cs))(i:cs[o]? =some (.bn E n))(y:aEK E n o=true)(p:cs[o+1]? =some (.sl .u8 .own l))
  (q:l.length+s.length<=140737488355328):
  callF Gcc 1 19 iQ iP [.ptr id o,.str s] hp=some (.tup [.int .i64 (s.length:Int),.nilif],hp.set id (some (cs.set (o+1) (.sl .u8 .own (l++s))))):=by
 have f:id<hp.length:=(Ag.1 b).1;have a:o+1<cs.length:=(Ag.1 p).1;have d:hp.getD id none=some cs:=by simp[Af,b]
 have k:∀env,St.obj {env:=env,hp:=hp} id=some cs:=λenv=>aEJ b (row_cell i rfl) (map_cell i rfl)
 have m:∀env,St.obj {env:=env,hp:=hp.set id (some (cs.set (o+1) (.sl .u8 (.may false) l)))} id=some (cs.set (o+1) (.sl .u8 (.may false) l)):=λenv=>aEJ (by rw[BC f]) (row_cell (o:=o) (v:=.bn E n) (by rw[Bp (by omega)];exact i) rfl) (map_cell (o:=o) (v:=.bn E n) (by rw[Bp (by omega)];exact i) rfl)
 have w:cs.getD o .undef=.bn E n:=by simp[Af,i]
 have x:cs.getD (o+1) .undef=.sl .u8 .own l:=by simp[Af,p]
 have e:Gcc 146 [.ptr id o] hp=some (true,.tup [],hp):=by simp only[Gcc,if_true,d,w,y]
 have t:(cs.drop (o+1)).take 1=[.sl .u8 .own l]:=by
  rw[BD a];have:cs[o+1]=.sl .u8 .own l:=by simpa [Ah a] using p
  simp[this]
 have j:hp[id]=some cs:=by simpa [Ah f] using b
 have u:o+1+1<=cs.length:=a;have r:(cs.drop (o+1)).head?.getD .undef=.sl .u8 .own l:=by rw[List.head?_drop,p];rfl
 have h:l.length+s.length<=jV:=q;have c:(cs.set (o+1) (.sl .u8 (.may false) l)).take (o+1)++V.sl .u8 .own (l++s)::cs.drop (o+1+1)=cs.set (o+1) (.sl .u8 .own (l++s)):=by rw[List.take_set_of_le (Ap _),List.set_eq_take_append_cons_drop,if_pos a]
 simp[AM.Mv,AM.Pp,AM.Fa,AM.Nk,AM.stepO,AM.Fl.dis,AM.Fl.app,AM.ASrc.fix,AM.callF,AM.run,AM.kseq,AM.fin,AM.resultOf,AM.rvs,AM.RV.ev,nw,nx,ny,nz,iP,iQ,AM.runOps,AM.chk,AM.start,AM.step,AM.St.set,AM.St.get,AM.St.setO,AM.ASrc.ev,AM.ASrc.after,AM.disown,k,m,AM.St.setObj,e,d,t,AM.loaded,AM.noBn,f,j,p,u,r,AM.V.cells,AM.V.one,h,c];rw[List.drop_set_of_lt (by omega),c]
theorem aOj{id o E n:Nat}{cs:List V}{hp:List aK}{l s:List UInt8}(c:hp[id]? =some (some cs))(f:cs[o]? =some (.bn E n))(e:aEK E n o=true)(d:cs[o+1]? =some (.sl .u8 .own l))
  (b:l.length+s.length<=140737488355328):
  fS Tryz.prog 91 [.ptr id o,.str s] hp (.tup [.int .i64 (s.length:Int),.nilif]) (hp.set id (some (cs.set (o+1) (.sl .u8 .own (l++s))))):=by
 have a:=aOi hp.length;simp only[Ac] at a;exact eu aNr aK4 Tryz.func91 (show Tryz.f91.body=some (Tryz.f91.body.getD .skip) by kernel_rfl) a.1 a.2 (by decide) (aNs c f e d b)
end Go.Proofs.YtndccphabnjkhaaGreat
end
