import Derived.KernelRfl
import Derived.Test.YtndccphabnjkhaaGreatZ02
import Derived.Test.YtndccphabnjkhaaGreatZ03
import Derived.Test.YtndccphabnjkhaaGreatZ04
set_option linter.all false
open Eq renaming trans→AB
open Go.IntKind renaming wrap→Ab
open Int renaming toNat→Ad,tmod→AQ
open List renaming length→Aa,getD→Af
set_option maxRecDepth 100000
noncomputable section
namespace Go.Proofs.YtndccphabnjkhaaGreat
open Go.AM
def at8:aG:=tb_ [] [] [] []
def arK:IR:=Rs [Mi 4 0] (Sq (Sq (.reg [Mv 5 0,Nk 6 5,Fa 7 1 6,Fo [0] [] (.ld 8 1 false false 7),Mv 9 0,Nk 10 9,Fa 11 0 10,Fo [0] [] (.ld 12 1 false false 11),Ll 13 12,Bi 14 .geq 8 13] [[],[0],[0,1],[0,1,2],[],[4],[4,5],[4,5,6],rg 4 7,rg 0 8]) (Cn 14 (Rs [Mi 4 0] .ret) .skip)) (Rs [Mv 15 0,Nk 16 15,Fa 17 1 16,Lo 18 17,Bc 19 .add 18 1,Nk 20 15,Fa 21 1 20,Sv 1 21 19] (Sq (.reg [Mv 22 0,Nk 23 22,Fa 24 0 23,Fo [0] [] (.ld 25 1 false false 24),Mv 26 0,Nk 27 26,Fa 28 1 27,Fo [0] [] (.ld 29 1 false false 28),Bc 30 .sub 29 1,Ix 31 .u8 25 30,Lq 32 31,Pp (.cvi 33 .i64 32),Mv 34 1,Bi 35 .rem 33 34,Mv 4 35] [[],[0],[0,1],[0,1,2],[],[4],[4,5],[4,5,6],rg 4 7,rg 0 8,rg 0 9,rg 0 10,[],rg 0 12,rg 0 13]) .ret)))
theorem arL:FnC Tryz.prog at8 [] 1 43 Tryz.f43 arK aR:=fnC Tryz.func43
def ae0(N:Nat)(a:Bs)(b c:Int):Ro:=let g:=(↑(Aa a):Int);let d:=λh i=>(some (vI h,[some [vF .u8 a,vI i]]):Ro);cond (decide (g<=b)) (d 0 b) (let e:=(Ab .i64 (b+1));let f:=(Ab .i64 (e-1));chk (ixl f a) (let j:=(Af a (Ad f) (aI .u8)).toNat;chk (!(c==0)) (let k:=(AQ (Ab .i64 j) c);d k e)))
def ae1(N:Nat)(a:Bs)(b c:Int):Ro:=ae0 N a b c
theorem apA(N:Nat)(a:Bs)(b i:Int)(h:Tot (ae1 N a b i) (λz=>∃c d g rest,z.1.dimR=vI c∧z.2=some [vF .u8 d,vI g]::rest∧abJ a b i (c,d,g))):∃r,br a b i r:=FnC.finO (css:=[[vF .u8 a,vI b]]) arL (N:=N) (by kernel_rfl) h λ_ ⟨c,d,g,_,e,f,q⟩=>⟨(c,d,g),e,⟨_,f⟩,q⟩
def arM:aG:=tb_ [] [] [] []
def apB:IR:=Rs [Mb 2 false] (Sq (.reg [Mv 3 0,Nk 4 3,Fa 5 1 4,Fo [0] [] (.ld 6 1 false false 5),Mv 7 0,Nk 8 7,Fa 9 0 8,Fo [0] [] (.ld 10 1 false false 9),Ll 11 10,Bi 12 .geq 6 11,Mv 2 12] [[],[0],[0,1],[0,1,2],[],[4],[4,5],[4,5,6],rg 4 7,rg 0 8,rg 0 9]) .ret)
theorem apC:FnC Tryz.prog arM [] 1 42 Tryz.f42 apB aF:=fnC Tryz.func42
def adL(N:Nat)(a:Bs)(b:Int):Ro:=let c:=(↑(Aa a):Int);some (vB (decide (c<=b)),[some [vF .u8 a,vI b]])
def adM(N:Nat)(a:Bs)(b:Int):Ro:=adL N a b
theorem anq(N:Nat)(a:Bs)(b:Int)(h:Tot (adM N a b) (λz=>∃c d g rest,z.1.dimR=vB c∧z.2=some [vF .u8 d,vI g]::rest∧aaC a b (c,d,g))):∃r,lO a b r:=FnC.finO (css:=[[vF .u8 a,vI b]]) apC (N:=N) (by kernel_rfl) h λ_ ⟨c,d,g,_,e,f,q⟩=>⟨(c,d,g),e,⟨_,f⟩,q⟩
def arN:aG:=tb_ [] [gp] [] []
def apD:IR:=Rs [Ms 2 []] (Rs [Pp (.bsl 4 .str [kS [105,110,116,51,50],kS [115,116,114,105,110,103],kS [105,110,116,54,52],kS [98,111,111,108],kS [98,121,116,101,115],kS [117,105,110,116,51,50],kS [117,105,110,116,54,52],kS [115,105,110,116,51,50],kS [115,105,110,116,54,52],kS [102,105,120,101,100,51,50],kS [102,105,120,101,100,54,52],kS [115,102,105,120,101,100,51,50],kS [115,102,105,120,101,100,54,52],kS [100,111,117,98,108,101],kS [102,108,111,97,116],kS [69],kS [73],kS [77]] true),Mv 3 4] (Rs [Mv 5 3,Mv 6 0,Mv 7 3,Ll 8 7,Ca 9 43 [6,8],Ix 10 .str 5 9,Lq 11 10,Mv 2 11] .ret))
theorem apE:FnC Tryz.prog arN [43,2000043] 1 132 Tryz.f132 apD aF:=fnC Tryz.func132
def adN(N:Nat)(a:Bs)(b:Int):Ro:=let d:=(↑(Aa ([([105,110,116,51,50]:Bs),([115,116,114,105,110,103]:Bs),([105,110,116,54,52]:Bs),([98,111,111,108]:Bs),([98,121,116,101,115]:Bs),([117,105,110,116,51,50]:Bs),([117,105,110,116,54,52]:Bs),([115,105,110,116,51,50]:Bs),([115,105,110,116,54,52]:Bs),([102,105,120,101,100,51,50]:Bs),([102,105,120,101,100,54,52]:Bs),([115,102,105,120,101,100,51,50]:Bs),([115,102,105,120,101,100,54,52]:Bs),([100,111,117,98,108,101]:Bs),([102,108,111,97,116]:Bs),([69]:Bs),([73]:Bs),([77]:Bs)]:Bss)):Int);aA (br a b d) (λc=>chk (ixl c.1 [([105,110,116,51,50]:Bs),([115,116,114,105,110,103]:Bs),([105,110,116,54,52]:Bs),([98,111,111,108]:Bs),([98,121,116,101,115]:Bs),([117,105,110,116,51,50]:Bs),([117,105,110,116,54,52]:Bs),([115,105,110,116,51,50]:Bs),([115,105,110,116,54,52]:Bs),([102,105,120,101,100,51,50]:Bs),([102,105,120,101,100,54,52]:Bs),([115,102,105,120,101,100,51,50]:Bs),([115,102,105,120,101,100,54,52]:Bs),([100,111,117,98,108,101]:Bs),([102,108,111,97,116]:Bs),([69]:Bs),([73]:Bs),([77]:Bs)]) (let e:=Af [([105,110,116,51,50]:Bs),([115,116,114,105,110,103]:Bs),([105,110,116,54,52]:Bs),([98,111,111,108]:Bs),([98,121,116,101,115]:Bs),([117,105,110,116,51,50]:Bs),([117,105,110,116,54,52]:Bs),([115,105,110,116,51,50]:Bs),([115,105,110,116,54,52]:Bs),([102,105,120,101,100,51,50]:Bs),([102,105,120,101,100,54,52]:Bs),([115,102,105,120,101,100,51,50]:Bs),([115,102,105,120,101,100,54,52]:Bs),([100,111,117,98,108,101]:Bs),([102,108,111,97,116]:Bs),([69]:Bs),([73]:Bs),([77]:Bs)] (Ad c.1) (aI .str);some (vT e,[some [vF .u8 c.2.1,vI c.2.2]])))
def adO(N:Nat)(a:Bs)(b:Int):Ro:=adN N a b
theorem anr(N:Nat)(a:Bs)(b:Int)(h:Tot (adO N a b) (λz=>∃c d g rest,z.1.dimR=vT c∧z.2=some [vF .u8 d,vI g]::rest∧aaD a b (c,d,g))):∃r,iT a b r:=FnC.finO (css:=[[vF .u8 a,vI b]]) apE (N:=N) (by kernel_rfl) h λ_ ⟨c,d,g,_,e,f,q⟩=>⟨(c,d,g),e,⟨_,f⟩,q⟩
def ans:aG:=tb_ [] [gp] [] []
def aln:IR:=Rs [Ms 2 []] (Rs [Pp (.bsl 3 .str [kS [105,110,116,51,50],kS [115,116,114,105,110,103],kS [105,110,116,54,52],kS [98,111,111,108],kS [98,121,116,101,115],kS [100,111,117,98,108,101],kS [102,108,111,97,116],kS [73],kS [77]] true),Mv 4 0,Ca 5 43 [4,kI 9],Ix 6 .str 3 5,Lq 7 6,Mv 2 7] .ret)
theorem alo:FnC Tryz.prog ans [43,2000043] 1 133 Tryz.f133 aln aF:=fnC Tryz.func133
def aaI(N:Nat)(a:Bs)(b:Int):Ro:=aA (br a b 9) (λc=>chk (ixl c.1 [([105,110,116,51,50]:Bs),([115,116,114,105,110,103]:Bs),([105,110,116,54,52]:Bs),([98,111,111,108]:Bs),([98,121,116,101,115]:Bs),([100,111,117,98,108,101]:Bs),([102,108,111,97,116]:Bs),([73]:Bs),([77]:Bs)]) (let d:=Af [([105,110,116,51,50]:Bs),([115,116,114,105,110,103]:Bs),([105,110,116,54,52]:Bs),([98,111,111,108]:Bs),([98,121,116,101,115]:Bs),([100,111,117,98,108,101]:Bs),([102,108,111,97,116]:Bs),([73]:Bs),([77]:Bs)] (Ad c.1) (aI .str);some (vT d,[some [vF .u8 c.2.1,vI c.2.2]])))
def aaJ(N:Nat)(a:Bs)(b:Int):Ro:=aaI N a b
theorem ajJ(N:Nat)(a:Bs)(b:Int)(h:Tot (aaJ N a b) (λz=>∃c d g rest,z.1.dimR=vT c∧z.2=some [vF .u8 d,vI g]::rest∧wW a b (c,d,g))):∃r,gb a b r:=FnC.finO (css:=[[vF .u8 a,vI b]]) alo (N:=N) (by kernel_rfl) h λ_ ⟨c,d,g,_,e,f,q⟩=>⟨(c,d,g),e,⟨_,f⟩,q⟩
def cb:aG:=tb_ [] [gp,aeZ,abL] [] [asE]
def zd:IR:=Rs [Mv 57 7,Pp (.bin 58 .add (kS [114,101,112,101,97,116,101,100,32]) 57),Pp (.bin 59 .add 58 (kS [32])),Mv 60 8,Bi 61 .add 59 60,Mv 62 9,Bi 63 .add 61 62,Mv 64 10,Bi 65 .add 63 64,Pp (.bin 66 .add 65 (kS [59,10])),Mv 6 66] .ret
def w8:IR:=Rs [Mv 75 11,Pp (.bin 76 .add (kS [109,97,112,60]) 75),Pp (.bin 77 .add 76 (kS [44,32])),Mv 78 7,Bi 79 .add 77 78,Pp (.bin 80 .add 79 (kS [62,32])),Mv 81 8,Bi 82 .add 80 81,Mv 83 9,Bi 84 .add 82 83,Pp (.bin 85 .add 84 (kS [59,10])),Mv 6 85] .ret
def ke:IR:=Cn 35 (Rs [Pp (.bsl 38 .str [kS [],kS [],kS [32,91,112,97,99,107,101,100,32,61,32,102,97,108,115,101,93],kS [32,91,112,97,99,107,101,100,32,61,32,116,114,117,101,93]] true),Mv 39 0,Ca 40 43 [39,kI 4],Ix 41 .str 38 40,Lq 42 41,Mv 10 42] (Sq (Rs [Mv 43 7,Pp (.bin 44 .eql 43 (kS [115,116,114,105,110,103])),Mv 45 44,Gf 45 (.mov 46 7),Gf 45 (.bin 47 .eql 46 (kS [98,121,116,101,115])),Po 48 45 47,Mv 49 48,Gf 49 (.mov 50 7),Gf 49 (.bin 51 .eql 50 (kS [73])),Po 52 49 51,Mv 53 52,Gf 53 (.mov 54 7),Gf 53 (.bin 55 .eql 54 (kS [77])),Po 56 53 55] (Cn 56 (Rg [Ms 10 []]) .skip)) (.cut [7,8,9,10,1000000] 1 zd))) (Rs [Bc 68 .eql 24 3,Mv 67 68] (Cn 67 (Rs [Pp (.bsl 69 .str [kS [115,116,114,105,110,103],kS [105,110,116,51,50],kS [98,111,111,108],kS [117,105,110,116,54,52],kS [115,105,110,116,51,50],kS [102,105,120,101,100,51,50]] true),Mv 70 0,Ca 71 43 [70,kI 6],Ix 72 .str 69 71,Lq 73 72,Mv 11 73] (Sq (Rs [Mv 74 2] (Cn 74 (Rg [Ms 11 [115,116,114,105,110,103]]) .skip)) (.cut [7,8,9,11,1000001] 1 w8))) .skip))
def w9:IR:=Rs [Mv 86 7,Pp (.bin 87 .add 86 (kS [32])),Mv 88 8,Bi 89 .add 87 88,Mv 90 9,Bi 91 .add 89 90,Pp (.bin 92 .add 91 (kS [59,10])),Mv 6 92] .ret
def pj:IR:=.cut [7,8,9,1000003] 1 w9
def kf:IR:=Rs [Mv 17 1,Ca 18 134 [17],Pp (.bin 19 .add (kS [102]) 18),Mv 8 19] (Rs [Mv 20 1,Ca 21 134 [20],Pp (.bin 22 .add (kS [32,61,32]) 21),Mv 9 22] (Sq (Rs [Mv 23 0,Ca 24 43 [23,kI 8]] (.block 0 (Rs [Bc 26 .eql 24 0,Mv 25 26] (Cn 25 (Rs [Mv 27 7,Pp (.bin 28 .add (kS [111,112,116,105,111,110,97,108,32]) 27),Pp (.bin 29 .add 28 (kS [32])),Mv 30 8,Bi 31 .add 29 30,Mv 32 9,Bi 33 .add 31 32,Pp (.bin 34 .add 33 (kS [59,10])),Mv 6 34] .ret) (Sq (Rs [Bc 36 .eql 24 1,Mv 35 36] (Cn 35 .skip (Rg [Bc 37 .eql 24 2,Mv 35 37]))) (.cut [0,2,7,8,9,24,35,1000002] 1 ke)))))) pj))
def ant:IR:=Rs [Ms 6 []] (Rs [Mv 12 0,Ca 13 132 [12],Mv 7 13] (Sq (Rs [Mv 14 2] (Cn 14 (Rg [Mv 15 0,Ca 16 133 [15],Mv 7 16]) .skip)) (.cut [0,1,2,7,1000004] 1 kf)))
def aS:List RV:=[.t 6]
theorem anu:FnC Tryz.prog cb [43,132,133,2000043,2000132,2000133] 1 135 Tryz.f135 ant aS:=fnC Tryz.func135
abbrev iC:Type:=(Int×Bool×Bs×Bs×Int)
def gK:iC->St:=λ(a,b,c,d,e)=>{env:=(.ptr 0 0::vI a::vB b::(U 4 (vT c::(U 85 [])))),hp:=[some [vF .u8 d,vI e]]}
abbrev iD:Type:=(Bool×Bs×Bs×Bs×Int×Bool×Bs×Int)
def fw:iD->St:=λ(a,b,c,d,e,f,g,h)=>{env:=(.ptr 0 0::.undef::vB a::(U 4 (vT b::vT c::vT d::(U 14 (vI e::(U 10 (vB f::(U 57 [])))))))),hp:=[some [vF .u8 g,vI h]]}
def iE(R:TR):TE:=(aQ 0 (kseq (R pj) (fin aS)))
abbrev iG:Type:=(Bs×Bs×Bs×Bs×Bs×Int)
def lk:iG->St:=λ(a,b,c,d,e,f)=>{env:=(U 7 (vT a::vT b::vT c::vT d::(U 82 []))),hp:=[some [vF .u8 e,vI f]]}
def rA(N:Nat):TS:=λs=>run cb N zd (iE (run cb N)) s
def iH(N:Nat):iG->Ro:=λ(i,e,g,a,b,c)=>chk (decide (Aa ([114,101,112,101,97,116,101,100,32]:Bs)+Aa i<=9223372036854775807)) (let j:=([114,101,112,101,97,116,101,100,32]++i);chk (decide (Aa j+Aa ([32]:Bs)<=9223372036854775807)) (let f:=(j++([32]:Bs));chk (decide (Aa f+Aa e<=9223372036854775807)) (chk (decide (Aa (f++e)+Aa g<=9223372036854775807)) (chk (decide (Aa ((f++e)++g)+Aa a<=9223372036854775807)) (let d:=(((f++e)++g)++a);chk (decide (Aa d+Aa ([59,10]:Bs)<=9223372036854775807)) (let h:=(d++([59,10]:Bs));some (vT h,[some [vF .u8 b,vI c]])))))))
theorem ajK(N:Nat):LJ (rA N) lk (iH N):=λ_=>by kernel_rfl
def ll:iG->St:=λ(a,b,c,d,e,f)=>{env:=(U 7 (vT a::vT b::vT c::.undef::vT d::(U 81 []))),hp:=[some [vF .u8 e,vI f]]}
def rB(N:Nat):TS:=λs=>run cb N w8 (iE (run cb N)) s
def iI(N:Nat):iG->Ro:=λ(h,g,i,c,d,e)=>chk (decide (Aa ([109,97,112,60]:Bs)+Aa c<=9223372036854775807)) (let f:=([109,97,112,60]++c);chk (decide (Aa f+Aa ([44,32]:Bs)<=9223372036854775807)) (let b:=(f++([44,32]:Bs));chk (decide (Aa b+Aa h<=9223372036854775807)) (chk (decide (Aa (b++h)+Aa ([62,32]:Bs)<=9223372036854775807)) (let a:=((b++h)++([62,32]:Bs));chk (decide (Aa a+Aa g<=9223372036854775807)) (chk (decide (Aa (a++g)+Aa i<=9223372036854775807)) (chk (decide (Aa ((a++g)++i)+Aa ([59,10]:Bs)<=9223372036854775807)) (let j:=(((a++g)++i)++([59,10]:Bs));some (vT j,[some [vF .u8 d,vI e]]))))))))
theorem ajL(N:Nat):LJ (rB N) ll (iI N):=λ_=>by kernel_rfl
abbrev rC:Type:=(Bs×Bs×Bs×Bs×Int)
def lm:rC->St:=λ(a,b,c,d,e)=>{env:=(U 7 (vT a::vT b::vT c::(U 83 []))),hp:=[some [vF .u8 d,vI e]]}
def rD(N:Nat):TS:=λs=>run cb N w9 (fin aS) s
def iJ(N:Nat):rC->Ro:=λ(g,d,e,b,c)=>chk (decide (Aa g+Aa ([32]:Bs)<=9223372036854775807)) (let a:=(g++([32]:Bs));chk (decide (Aa a+Aa d<=9223372036854775807)) (chk (decide (Aa (a++d)+Aa e<=9223372036854775807)) (chk (decide (Aa ((a++d)++e)+Aa ([59,10]:Bs)<=9223372036854775807)) (let f:=(((a++d)++e)++([59,10]:Bs));some (vT f,[some [vF .u8 b,vI c]])))))
theorem ajM(N:Nat):LJ (rD N) lm (iJ N):=λ_=>by kernel_rfl
def mv(N:Nat):TS:=λs=>run cb N ke (iE (run cb N)) s
def ln(N:Nat)(h o:iG->Ro)(p:rC->Ro):iD->Ro:=λ(q,a,e,f,i,j,c,d)=>cond j (aA (br c d 4) (λb=>chk (ixl b.1 [([]:Bs),([]:Bs),([32,91,112,97,99,107,101,100,32,61,32,102,97,108,115,101,93]:Bs),([32,91,112,97,99,107,101,100,32,61,32,116,114,117,101,93]:Bs)]) (let r:=Af [([]:Bs),([]:Bs),([32,91,112,97,99,107,101,100,32,61,32,102,97,108,115,101,93]:Bs),([32,91,112,97,99,107,101,100,32,61,32,116,114,117,101,93]:Bs)] (Ad b.1) (aI .str);let s:=decide (a=[115,116,114,105,110,103]);cond s (h (a,e,f,[],b.2.1,b.2.2)) (let k:=decide (a=[98,121,116,101,115]);cond k (h (a,e,f,[],b.2.1,b.2.2)) (let l:=decide (a=[73]);cond l (h (a,e,f,[],b.2.1,b.2.2)) (let m:=decide (a=[77]);cond m (h (a,e,f,[],b.2.1,b.2.2)) (h (a,e,f,r,b.2.1,b.2.2)))))))) (cond (i==3) (aA (br c d 6) (λg=>chk (ixl g.1 [([115,116,114,105,110,103]:Bs),([105,110,116,51,50]:Bs),([98,111,111,108]:Bs),([117,105,110,116,54,52]:Bs),([115,105,110,116,51,50]:Bs),([102,105,120,101,100,51,50]:Bs)]) (let n:=Af [([115,116,114,105,110,103]:Bs),([105,110,116,51,50]:Bs),([98,111,111,108]:Bs),([117,105,110,116,54,52]:Bs),([115,105,110,116,51,50]:Bs),([102,105,120,101,100,51,50]:Bs)] (Ad g.1) (aI .str);cond q (o (a,e,f,[115,116,114,105,110,103],g.2.1,g.2.2)) (o (a,e,f,n,g.2.1,g.2.2))))) (p (a,e,f,c,d)))
def iK(N:Nat)(x:iD):Ro:=ln N (λz=>iH N z) (λz=>iI N z) (λz=>iJ N z) x
def rE(N:Nat):List (Nat×(TS)):=(cT cb N ke (iE (run cb N))++(cT cb N pj (fin aS)++[]))
theorem ajN(N:Nat):∀(x:iD),mv N (fw x)=iK N x:=by
 intro x;have c:∀C:Nat->TS,c8 C cb N ke (iE (c8 C cb N)) (fw x)=ln N (λz=>C 1000000 (lk z)) (λz=>C 1000001 (ll z)) (λz=>C 1000003 (lm z)) x:=by intro C;kernel_rfl
 have h:mv N (fw x)=ln N (λz=>rA N (lk z)) (λz=>rB N (ll z)) (λz=>rD N (lm z)) x:=(eI (C:=gW (rE N)) (dI (bX (l:=(rE N)) (by kernel_rfl))) (ew (nC (dI (jY (bX (l:=(rE N)) (by kernel_rfl)))) rfl)) _).trans ((c _).trans (by kernel_rfl));have a:(λz=>rA N (lk z))=(λz=>iH N z):=funext λz=>ajK N z
 have b:(λz=>rB N (ll z))=(λz=>iI N z):=funext λz=>ajL N z
 have d:(λz=>rD N (lm z))=(λz=>iJ N z):=funext λz=>ajM N z
 rw[h,a,b,d];rfl
def rF(N:Nat):TS:=λs=>run cb N kf (fin aS) s
def lp(N:Nat)(h:iD->Ro):iC->Ro:=λ(i,j,f,c,d)=>aA (hY i) (λ(k:Bs)=>chk (decide (Aa ([102]:Bs)+Aa k<=9223372036854775807)) (let b:=([102]++k);aA (hY i) (λ(l:Bs)=>chk (decide (Aa ([32,61,32]:Bs)+Aa l<=9223372036854775807)) (let e:=([32,61,32]++l);aA (br c d 8) (λa=>cond (a.1==0) (chk (decide (Aa ([111,112,116,105,111,110,97,108,32]:Bs)+Aa f<=9223372036854775807)) (let m:=([111,112,116,105,111,110,97,108,32]++f);chk (decide (Aa m+Aa ([32]:Bs)<=9223372036854775807)) (let g:=(m++([32]:Bs));chk (decide (Aa g+Aa b<=9223372036854775807)) (chk (decide (Aa (g++b)+Aa e<=9223372036854775807)) (chk (decide (Aa ((g++b)++e)+Aa ([59,10]:Bs)<=9223372036854775807)) (let n:=(((g++b)++e)++([59,10]:Bs));some (vT n,[some [vF .u8 a.2.1,vI a.2.2]]))))))) (cond (a.1==1) (h (j,f,b,e,a.1,true,a.2.1,a.2.2)) (h (j,f,b,e,a.1,(a.1==2),a.2.1,a.2.2))))))))
def mw(N:Nat)(x:iC):Ro:=lp N (λz=>iK N z) x
def aaK(N:Nat):List (Nat×(TS)):=(cT cb N kf (fin aS)++[])
theorem ajO(N:Nat):∀(x:iC),rF N (gK x)=mw N x:=by
 intro x;have b:∀C:Nat->TS,c8 C cb N kf (fin aS) (gK x)=lp N (λz=>C 1000002 (fw z)) x:=by intro C;kernel_rfl
 have h:rF N (gK x)=lp N (λz=>mv N (fw z)) x:=(eI (C:=gW (aaK N)) (dI (bX (l:=(aaK N)) (by kernel_rfl))) rfl _).trans ((b _).trans (by kernel_rfl));have a:(λz=>mv N (fw z))=(λz=>iK N z):=funext λz=>ajN N z
 rw[h,a];rfl
def jv(N:Nat)(a:Bs)(b f:Int)(d:Bool)(g:iC->Ro):Ro:=aA (iT a b) (λc=>cond d (aA (gb c.2.1 c.2.2) (λe=>g (f,d,e.1,e.2.1,e.2.2))) (g (f,d,c.1,c.2.1,c.2.2)))
def abM(N:Nat)(a:Bs)(b c:Int)(d:Bool):Ro:=jv N a b c d (λz=>mw N z)
theorem alp(N:Nat)(a:Bs)(c d:Int)(g:Bool)(h:Tot (abM N a c d g) (λz=>∃i j k rest,z.1.dimR=vT i∧z.2=some [vF .u8 j,vI k]::rest∧zb a c d g (i,j,k))):∃r,kD a c d g r:=FnC.finO (css:=[[vF .u8 a,vI c]]) anu (N:=N) ((bD _ (by kernel_rfl) rfl (λC=>jv N a c d g (λz=>C 1000004 (gK z))) (λC=>by kernel_rfl)).trans (AB (b:=jv N a c d g (λz=>rF N (gK z))) (by kernel_rfl) (congrArg (jv N a c d g) (funext λz=>ajO N z)))) h λ_ ⟨i,j,k,_,e,f,q⟩=>⟨(i,j,k),e,⟨_,f⟩,q⟩
def wm:aG:=tb_ [] [gp,aeZ,abL,apz] [] [asE]
def aaL:IR:=Sq (Rs [Mv 17 9,Mv 18 10,Bi 19 .lss 17 18] (Cn 19 .skip (.exit 0))) (Sq (.block 1 (Rs [Mv 22 9,Bc 23 .add 22 1,Mv 24 0,Ca 25 43 [24,kI 2],Pp (.bin 26 .mul (kI 14) 25),Mv 27 9,Bi 28 .mul 26 27,Bi 29 .add 23 28,Mv 11 29] (Rs [Mv 30 0,Ca 31 43 [30,kI 4],Bc 32 .eql 31 0] (Cn 32 (Rs [Mv 33 0,Ca 34 132 [33],Mv 12 34] (Sq (Rs [Mv 35 2] (Cn 35 (Rg [Mv 36 0,Ca 37 133 [36],Mv 12 37]) .skip)) (Rg [Mv 38 8,Mv 39 12,Bi 40 .add 38 39,Pp (.bin 41 .add 40 (kS [32,111])),Mv 42 11,Bc 43 .add 42 100,Ca 44 134 [43],Bi 45 .add 41 44,Pp (.bin 46 .add 45 (kS [32,61,32])),Mv 47 11,Bc 48 .add 47 100,Ca 49 134 [48],Bi 50 .add 46 49,Pp (.bin 51 .add 50 (kS [59,10])),Mv 8 51]))) (Rg [Mv 52 7,Mv 53 0,Mv 54 11,Mv 55 2,Ca 56 135 [53,54,55],Bi 57 .add 52 56,Mv 7 57]))))) (Rg [Mv 20 9,Bc 21 .add 20 1,Mv 9 21]))
def ze:IR:=Sq (Rs [Mv 58 8,Pp (.bin 59 .neq 58 (kS []))] (Cn 59 (Rg [Mv 60 7,Pp (.bin 61 .add 60 (kS [111,110,101,111,102,32,99,32,123,10])),Mv 62 8,Bi 63 .add 61 62,Pp (.bin 64 .add 63 (kS [125,10])),Mv 7 64]) .skip)) (Rs [Mv 65 7,Mv 6 65] .ret)
def apF:IR:=Rs [Ms 6 []] (Rs [Ms 7 [],Ms 8 []] (Sq (Rs [Mv 13 0,Mv 14 1,Bc 15 .add 14 1,Ca 16 43 [13,15],Mi 9 0,Mv 10 16] (.block 0 (.loop [0,2,7,8,9,10,1000000] 1 aaL))) ze))
theorem apG:FnC Tryz.prog wm [43,132,133,135,2000043,2000132,2000133,2000135] 1 78 Tryz.f78 apF aS:=fnC Tryz.func78
def anv(R:TR)(a:TS):TE:=(bo a [0,2,7,8,9,10,1000000] 1 (aQ 0 (kseq (R ze) (fin aS))))
abbrev jw:Type:=(Bool×Bs×Bs×Int×Int×Bs×Int)
def my:jw->St:=λ(a,b,c,d,e,f,g)=>{env:=(.ptr 0 0::.undef::vB a::(U 4 (vT b::vT c::vI d::vI e::(U 55 [])))),hp:=[some [vF .u8 f,vI g]]}
def tb(N:Nat):TS->TS:=λa s=>run wm N aaL (anv (run wm N) a) s
def nI(N:Nat)(a:jw->Ro):jw->Ro:=λ(m,g,b,l,c,e,f)=>let B:=λC=>(some (vT C,[some [vF .u8 e,vI f]]):Ro);cond (decide (l<c)) (let O:=(Ab .i64 (l+1));aA (br e f 2) (λq=>let I:=(Ab .i64 (14*q.1));let M:=(Ab .i64 (I*l));let n:=(Ab .i64 (O+M));aA (br q.2.1 q.2.2 4) (λo=>cond (o.1==0) (aA (iT o.2.1 o.2.2) (λh=>cond m (aA (gb h.2.1 h.2.2) (λp=>chk (decide (Aa b+Aa p.1<=9223372036854775807)) (chk (decide (Aa (b++p.1)+Aa ([32,111]:Bs)<=9223372036854775807)) (let r:=((b++p.1)++([32,111]:Bs));let L:=(Ab .i64 (n+100));aA (hY L) (λ(s:Bs)=>chk (decide (Aa r+Aa s<=9223372036854775807)) (chk (decide (Aa (r++s)+Aa ([32,61,32]:Bs)<=9223372036854775807)) (let t:=((r++s)++([32,61,32]:Bs));let E:=(Ab .i64 (n+100));aA (hY E) (λ(u:Bs)=>chk (decide (Aa t+Aa u<=9223372036854775807)) (chk (decide (Aa (t++u)+Aa ([59,10]:Bs)<=9223372036854775807)) (let v:=((t++u)++([59,10]:Bs));let w:=(Ab .i64 (l+1));a (m,g,v,w,c,p.2.1,p.2.2))))))))))) (chk (decide (Aa b+Aa h.1<=9223372036854775807)) (chk (decide (Aa (b++h.1)+Aa ([32,111]:Bs)<=9223372036854775807)) (let i:=((b++h.1)++([32,111]:Bs));let x:=(Ab .i64 (n+100));aA (hY x) (λ(y:Bs)=>chk (decide (Aa i+Aa y<=9223372036854775807)) (chk (decide (Aa (i++y)+Aa ([32,61,32]:Bs)<=9223372036854775807)) (let j:=((i++y)++([32,61,32]:Bs));let z:=(Ab .i64 (n+100));aA (hY z) (λ(A:Bs)=>chk (decide (Aa j+Aa A<=9223372036854775807)) (chk (decide (Aa (j++A)+Aa ([59,10]:Bs)<=9223372036854775807)) (let J:=((j++A)++([59,10]:Bs));let D:=(Ab .i64 (l+1));a (m,g,J,D,c,h.2.1,h.2.2)))))))))))) (aA (kD o.2.1 o.2.2 n m) (λd=>chk (decide (Aa g+Aa d.1<=9223372036854775807)) (let G:=(Ab .i64 (l+1));a (m,(g++d.1),b,G,c,d.2.1,d.2.2))))))) (let F:=(!decide (b=[]));cond F (chk (decide (Aa g+Aa ([111,110,101,111,102,32,99,32,123,10]:Bs)<=9223372036854775807)) (let k:=(g++([111,110,101,111,102,32,99,32,123,10]:Bs));chk (decide (Aa k+Aa b<=9223372036854775807)) (chk (decide (Aa (k++b)+Aa ([125,10]:Bs)<=9223372036854775807)) (let H:=((k++b)++([125,10]:Bs));B H)))) (B g))
theorem alq(N:Nat):LB (tb N) my (nI N):=λ_ _=>by kernel_rfl
def kE(N:Nat)(a:Bs)(b d:Int)(e:Bool)(f:jw->Ro):Ro:=let g:=(Ab .i64 (d+1));aA (br a b g) (λc=>f (e,[],[],0,c.1,c.2.1,c.2.2))
def adP(N:Nat)(a:Bs)(b c:Int)(d:Bool):Ro:=kE N a b c d (λz=>aO N (nI N) z)
theorem anw(N:Nat)(a:Bs)(c d:Int)(g:Bool)(h:Tot (adP N a c d g) (λz=>∃i j k rest,z.1.dimR=vT i∧z.2=some [vF .u8 j,vI k]::rest∧aaE a c d g (i,j,k))):∃r,iS a c d g r:=FnC.finO (css:=[[vF .u8 a,vI c]]) apG (N:=N) ((bD _ (by kernel_rfl) rfl (λC=>kE N a c d g (λz=>C 1000000 (my z))) (λC=>by kernel_rfl)).trans (AB (b:=kE N a c d g (λz=>aZ N (tb N) (my z))) (by kernel_rfl) (congrArg (kE N a c d g) (funext λz=>aU (my) (tb N) (nI N) (alq N) N z)))) h λ_ ⟨i,j,k,_,e,f,q⟩=>⟨(i,j,k),e,⟨_,f⟩,q⟩
def arO:aG:=tb_ [] [arJ] [] []
def apH:IR:=Rs [Ms 4 []] (Rs [Mv 5 0,Mv 6 1,Ca 7 78 [5,kI 4,6],Pp (.bin 8 .add (kS [115,121,110,116,97,120,32,61,32,34,112,114,111,116,111,51,34,59,10,112,97,99,107,97,103,101,32,97,59,10,101,110,117,109,32,69,32,123,32,65,32,61,32,48,59,32,66,32,61,32,49,59,32,67,32,61,32,45,49,59,32,125,10,109,101,115,115,97,103,101,32,73,32,123,10]) 7),Pp (.bin 9 .add 8 (kS [125,10,109,101,115,115,97,103,101,32,77,32,123,10])),Mv 10 0,Mv 11 1,Ca 12 78 [10,kI 7,11],Bi 13 .add 9 12,Pp (.bin 14 .add 13 (kS [125,10])),Mv 4 14] .ret)
theorem apI:FnC Tryz.prog arO [78,2000078] 1 40 Tryz.f40 apH aR:=fnC Tryz.func40
def adQ(N:Nat)(a:Bs)(b:Int)(f:Bool):Ro:=aA (iS a b 4 f) (λd=>chk (decide (Aa ([115,121,110,116,97,120,32,61,32,34,112,114,111,116,111,51,34,59,10,112,97,99,107,97,103,101,32,97,59,10,101,110,117,109,32,69,32,123,32,65,32,61,32,48,59,32,66,32,61,32,49,59,32,67,32,61,32,45,49,59,32,125,10,109,101,115,115,97,103,101,32,73,32,123,10]:Bs)+Aa d.1<=9223372036854775807)) (let g:=([115,121,110,116,97,120,32,61,32,34,112,114,111,116,111,51,34,59,10,112,97,99,107,97,103,101,32,97,59,10,101,110,117,109,32,69,32,123,32,65,32,61,32,48,59,32,66,32,61,32,49,59,32,67,32,61,32,45,49,59,32,125,10,109,101,115,115,97,103,101,32,73,32,123,10]++d.1);chk (decide (Aa g+Aa ([125,10,109,101,115,115,97,103,101,32,77,32,123,10]:Bs)<=9223372036854775807)) (let e:=(g++([125,10,109,101,115,115,97,103,101,32,77,32,123,10]:Bs));aA (iS d.2.1 d.2.2 7 f) (λc=>chk (decide (Aa e+Aa c.1<=9223372036854775807)) (chk (decide (Aa (e++c.1)+Aa ([125,10]:Bs)<=9223372036854775807)) (let h:=((e++c.1)++([125,10]:Bs));some (vT h,[some [vF .u8 c.2.1,vI c.2.2]])))))))
def adR(N:Nat)(a:Bs)(b:Int)(c:Bool):Ro:=adQ N a b c
theorem anx(N:Nat)(a:Bs)(b:Int)(i:Bool)(h:Tot (adR N a b i) (λz=>∃c d g rest,z.1.dimR=vT c∧z.2=some [vF .u8 d,vI g]::rest∧aaF a b i (c,d,g))):∃r,lN a b i r:=FnC.finO (css:=[[vF .u8 a,vI b]]) apI (N:=N) (by kernel_rfl) h λ_ ⟨c,d,g,_,e,f,q⟩=>⟨(c,d,g),e,⟨_,f⟩,q⟩
def apJ:aG:=tb_ [] [arG] [] [aIV]
def anz:IR:=Rs [Pp (.new 2 [nl .pms,nl .pen]),Mb 3 false] (Rs [Mv 4 0,Ca 5 40 [4,kB false],Ca 6 39 [5],Ex_ 7 0 6,Ex_ 8 1 6,Sv 2 2 7,Mv 3 8] .ret)
def tc:List RV:=[.cell 2 2 true,.t 3]
theorem anA:FnC Tryz.prog apJ [40,2000040] 1 12 Tryz.f12 anz tc:=fnC Tryz.func12
def abN(N:Nat)(a:Bs)(b:Int):Ro:=aA (lN a b false) (λd=>aA (ahV d.1) (λc=>some (.tup [.agg [vF .pms c.1,vF .pen c.2.1],vB c.2.2],[some [vF .u8 d.2.1,vI d.2.2],some [vF .pms c.1,vF .pen c.2.1]])))
def abO(N:Nat)(a:Bs)(b:Int):Ro:=abN N a b
theorem als(N:Nat)(a:Bs)(b:Int)(h:Tot (abO N a b) (λz=>∃c d g i j rest,z.1.dimR=.tup [.agg [vF .pms c,vF .pen d],vB g]∧z.2=some [vF .u8 i,vI j]::rest∧zc a b (c,d,g,i,j))):∃r,bm a b r:=FnC.finO (css:=[[vF .u8 a,vI b]]) anA (N:=N) (by kernel_rfl) h λ_ ⟨c,d,g,i,j,_,e,f,q⟩=>⟨(c,d,g,i,j),e,⟨_,f⟩,q⟩
def anB:aG:=tb_ [] [gp] [] [asF]
def alt:IR:=Rs [Pp (.mov 4 (kU 0))] (Rs [Pp (.bsl 6 (.num .u64) [kU 0,kU 1,kU 2,kU 5,kU 127,kU 128,kU 300,kU 2147483647,kU 2147483648,kU 4294967295,kU 1099511627776,kU 9223372036854775807,kU 9223372036854775808,kU 18446744073709551615,kU 18446744073709551614,kU 9221120237041090561] true),Mv 5 6] (Rs [Mv 7 1,Mv 8 5,Mv 9 0,Mv 10 5,Ll 11 10,Ca 12 43 [9,11],Ix 13 (.num .u64) 8 12,Lq 14 13,Ca 15 137 [7,14],Mv 4 15] .ret))
theorem alu:FnC Tryz.prog anB [43,2000043] 1 80 Tryz.f80 alt aR:=fnC Tryz.func80
def aaM(N:Nat)(a:Bs)(b d:Int):Ro:=let e:=(↑(Aa ([0,1,2,5,127,128,300,2147483647,2147483648,4294967295,1099511627776,9223372036854775807,9223372036854775808,18446744073709551615,18446744073709551614,9221120237041090561]:List Int)):Int);aA (br a b e) (λc=>chk (ixl c.1 [0,1,2,5,127,128,300,2147483647,2147483648,4294967295,1099511627776,9223372036854775807,9223372036854775808,18446744073709551615,18446744073709551614,9221120237041090561]) (let f:=Af [0,1,2,5,127,128,300,2147483647,2147483648,4294967295,1099511627776,9223372036854775807,9223372036854775808,18446744073709551615,18446744073709551614,9221120237041090561] (Ad c.1) (aI (.num .u64));aA (wI d f) (λ(g:Int)=>some (vU g,[some [vF .u8 c.2.1,vI c.2.2]]))))
def aaN(N:Nat)(a:Bs)(b c:Int):Ro:=aaM N a b c
theorem ajP(N:Nat)(a:Bs)(b i:Int)(h:Tot (aaN N a b i) (λz=>∃c d g rest,z.1.dimR=vU c∧z.2=some [vF .u8 d,vI g]::rest∧wX a b i (c,d,g))):∃r,ju a b i r:=FnC.finO (css:=[[vF .u8 a,vI b]]) alu (N:=N) (by kernel_rfl) h λ_ ⟨c,d,g,_,e,f,q⟩=>⟨(c,d,g),e,⟨_,f⟩,q⟩
def at9:aG:=tb_ [] [at3,gp,anp] [] []
def arP:IR:=Rs [Bx 6 1,Pp (.new 10 [vU 0,vS,nl .pfd,vS])] (Sq (Rs [Mv 11 2] (.block 0 (Rs [Bc 13 .eql 11 16,Mv 12 13] (Cn 12 (Rs [Mv 14 0,Ld 15 2 true 6,Mv 16 3,Mv 17 4,Bc 18 .add 17 1,Ca 19 13 [14,15,16,18],Pp (.bld 20 [vU 0,vS,fu .pfd true,vS] [(2,2,19)]),Sv 4 10 20] .ret) (Rs [Bc 22 .eql 11 14,Mv 21 22] (Cn 21 (Rs [Pp (.bsl 23 .str [kS [],kS [97],kS [195,164],kS [116,101,120,116],kS [97,10,98]] true),Mv 24 0,Ca 25 43 [24,kI 5],Ix 26 .str 23 25,Lq 27 26,Pp (.bld 28 [vU 0,vS,fu .pfd true,vS] [(1,1,27)]),Sv 4 10 28] .ret) (Rs [Bc 30 .eql 11 15,Mv 29 30] (Cn 29 (Rs [Pp (.bsl 31 .str [kS [],kS [255],kS [0,1],kS [98]] true),Mv 32 0,Ca 33 43 [32,kI 4],Ix 34 .str 31 33,Lq 35 34,Pp (.bld 36 [vU 0,vS,fu .pfd true,vS] [(1,1,35)]),Sv 4 10 36] .ret) (Rs [Bc 38 .eql 11 17,Mv 37 38] (Cn 37 (Rs [Pp (.bsl 39 (.num .u64) [kU 0,kU 1,kU 18446744073709551615,kU 7] true),Mv 40 0,Ca 41 43 [40,kI 4],Ix 42 (.num .u64) 39 41,Lq 43 42,Pp (.bld 44 [vU 0,vS,fu .pfd true,vS] [(0,1,43)]),Sv 4 10 44] .ret) .skip)))))))))) (Rs [Mv 45 0,Mv 46 2,Ca 47 80 [45,46],Pp (.bld 48 [vU 0,vS,fu .pfd true,vS] [(0,1,47)]),Sv 4 10 48] .ret))
def arQ:List RV:=[.cell 10 4 true]
theorem arR:FnC Tryz.prog at9 [13,43,80,2000013,2000043,2000080] 1 45 Tryz.f45 arP arQ:=fnC Tryz.func45
def ae2(N:Nat)(a:Bs)(b:Int)(c:List PMs)(d:List PEn)(e:Int)(q:Bs)(r:Int):Ro:=let f:=λl m n o p s t=>(some (.agg [vU l,vT m,.sl .pfd (.may n) o,vT p],[some [vF .u8 s,vI t],some [vU l,vT m,.sl .pfd (.may n) o,vT p]]):Ro);cond (e==16) (let u:=(Ab .i64 (r+1));aA (eQ a b c d q u) (λg=>f 0 [] false g.1 g.2.1 g.2.2.1 g.2.2.2)) (cond (e==14) (aA (br a b 5) (λh=>chk (ixl h.1 [([]:Bs),([97]:Bs),([195,164]:Bs),([116,101,120,116]:Bs),([97,10,98]:Bs)]) (let v:=Af [([]:Bs),([97]:Bs),([195,164]:Bs),([116,101,120,116]:Bs),([97,10,98]:Bs)] (Ad h.1) (aI .str);f 0 v true ([]:List (Int×List aC)) [] h.2.1 h.2.2))) (cond (e==15) (aA (br a b 4) (λi=>chk (ixl i.1 [([]:Bs),([255]:Bs),([0,1]:Bs),([98]:Bs)]) (let w:=Af [([]:Bs),([255]:Bs),([0,1]:Bs),([98]:Bs)] (Ad i.1) (aI .str);f 0 w true ([]:List (Int×List aC)) [] i.2.1 i.2.2))) (cond (e==17) (aA (br a b 4) (λj=>chk (ixl j.1 [0,1,18446744073709551615,7]) (let x:=Af [0,1,18446744073709551615,7] (Ad j.1) (aI (.num .u64));f x [] true ([]:List (Int×List aC)) [] j.2.1 j.2.2))) (aA (ju a b e) (λk=>f k.1 [] true ([]:List (Int×List aC)) [] k.2.1 k.2.2)))))
def ae3(N:Nat)(a:Bs)(b:Int)(c:List PMs)(d:List PEn)(e:Int)(f:Bs)(g:Int):Ro:=ae2 N a b c d e f g
theorem apK(N:Nat)(a:Bs)(b:Int)(c:List PMs)(d:List PEn)(k:Int)(l:Bs)(m:Int)(h:Tot (ae3 N a b c d k l m) (λz=>∃g i j rest,z.1.dimR=.agg (enc .pval g)∧z.2=some [vF .u8 i,vI j]::rest∧abK a b c d k l m (g,i,j))):∃r,d6 a b c d k l m r:=FnC.finO (css:=[[vF .u8 a,vI b]]) arR (N:=N) (by kernel_rfl) h λ_ ⟨g,i,j,_,e,f,q⟩=>⟨(g,i,j),e,⟨_,f⟩,q⟩
def iU:List RV:=[.cell 8 2 true]
abbrev dW:Type:=(Int×List PMs×List PEn×PMs×Int×Bs×Int×List (Int×List aC)×Bs×List (Int×List aC)×Bs)
abbrev gL:Type:=(Int×List PMs×List PEn×PMs×Int×PFl×Int×List aC×Int×Bs×Int×List (Int×List aC)×Bs×List (Int×List aC)×Bs)⊕(Int×List PMs×List PEn×PMs×Int×PFl×Int×List aC×Int×Bs×Int×List (Int×List aC)×Bs×List (Int×List aC)×Bs)
abbrev kF:Type:=(Int×Bs×Int×List (Int×List aC)×Bs×List (Int×List aC)×Bs)
def asX:aG:=tb_ [] [] [] []
def apL:IR:=Rs [Pp (.mov 2 (.c .nilp))] (Rs [Mv 3 0,Pp (.bld 4 [nl .u8,vI 0] [(0,1,3)]),Pp (.box 5 4),Mv 2 5] .ret)
theorem aDH:FnC Tryz.prog asX [] 0 11 Tryz.f11 apL aF:=fnC Tryz.func11
def apM(N:Nat)(a:Bs):Ro:=some (.ptr 0 0,[some [vF .u8 a,vI 0]])
def agE(N:Nat)(a:Bs):Ro:=apM N a
theorem aA5(N:Nat)(a:Bs):callF asX N 6 aF apL [.sl .u8 (.may false) a] []=agE N a:=by kernel_rfl
theorem aA6(N:Nat)(a:Bs)(h:Tot (agE N a) (λz=>∃(b c:_)(rest:List aK),z=(.ptr 0 0,[some [vF .u8 b,vI c]])∧ajB a (b,c))):∃r,ph a r:=by obtain⟨z,d,b,c,rest,rfl,e⟩:=h;exact⟨(b,c),aDH.newFn (aA5 N a) d,e⟩
def aIW:aG:=tb_ [] [] [] [aFn,aAv]
def av5:IR:=Rs [Pp (.new 2 [nl .pms,nl .pen]),Mb 3 false] (Rs [Mv 12 0,Pp (.bld 13 [vS,vS] [(0,1,kS [120]),(1,1,12)]),Pp (.bsl 14 .src [13] true),Ca 15 76 [14],Mv 11 15,Ex_ 16 0 11,Ex_ 17 1 11,Ex_ 18 2 11,Ex_ 19 3 11,Mv 4 16,Mv 5 17,Mv 6 18,Mv 7 19] (Sq (Rs [Mv 20 5,Bc 21 .neq 20 0] (Cn 21 (Rs [Pp (.bld 22 [fu .pms true,fu .pen true] []),Sv 2 2 22,Mb 3 false] .ret) .skip)) (Rs [Mv 24 4,Ca 25 77 [24],Mv 23 25,Ex_ 26 0 23,Ex_ 27 1 23,Ex_ 28 2 23,Pp (.alr 8 2),Fz 8 2 26,Mv 9 27,Mv 10 28] (Rs [Ld 29 2 true 8,Mv 30 9,Bc 31 .eql 30 0,Sv 2 2 29,Mv 3 31] .ret))))
theorem aHz:FnC Tryz.prog aIW [] 0 39 Tryz.f39 av5 tc:=fnC Tryz.func39
def av6(N:Nat)(g:Bs):Ro:=let c:=λa d e h=>(some (.tup [.agg [.sl .pms (.may a) d,.sl .pen (.may a) e],vB h],[some [.sl .pms (.may a) d,.sl .pen (.may a) e]]):Ro);aA (acX ([⟨([120]:Bs),g⟩]:List eS)) (λf=>cond (!(f.2.1==0)) (c true [] [] false) (aA (xz f.1) (λb=>c false b.1 b.2.1 (b.2.2.1==0))))
def av7(N:Nat)(a:Bs):Ro:=av6 N a
theorem aFO(N:Nat)(d:Bs)(h:Tot (av7 N d) (λz=>∃a b c rest,z.1.dimR=.tup [.agg [vF .pms a,vF .pen b],vB c]∧z.2=rest∧apw d (a,b,c))):∃r,ahV d r:=aHz.finP (N:=N) (by kernel_rfl) h λ_ ⟨a,b,c,_,e,_,q⟩=>⟨(a,b,c),e,q⟩
abbrev dO:List Nat:=[126,176,178,205,206,207,208,209,210,211,212,213,214,215,227,228,229,230,231,232,233,235,242,243,245,247,248,249,2000126,2000176,2000178,2000205,2000206,2000207,2000208,2000209,2000210,2000211,2000212,2000213,2000214,2000215,2000227,2000228,2000229,2000230,2000231,2000232,2000233,2000235,2000242,2000243,2000245,2000247,2000248,2000249]
def arS:bP Tryz.prog dO:={id:=243,k:=1,fn:=Tryz.f243,ir:=adm,rs:=adn,func:=Tryz.func243}
def anC:bP Tryz.prog dO:={id:=242,k:=1,fn:=Tryz.f242,ir:=z7,rs:=aR,func:=Tryz.func242}
def arT:bP Tryz.prog dO:={id:=245,k:=1,fn:=Tryz.f245,ir:=adq,rs:=aR,func:=Tryz.func245}
def apN:bP Tryz.prog dO:={id:=227,k:=1,fn:=Tryz.f227,ir:=aba,rs:=bp,func:=Tryz.func227}
def anD:bP Tryz.prog dO:={id:=247,k:=1,fn:=Tryz.f247,ir:=aab,rs:=cL,func:=Tryz.func247}
def arU:bP Tryz.prog dO:={id:=248,k:=1,fn:=Tryz.f248,ir:=adt,rs:=cL,func:=Tryz.func248}
def cC:bP Tryz.prog dO:={id:=228,k:=1,fn:=Tryz.f228,ir:=adv,rs:=cL,func:=Tryz.func228}
def aA7:bP Tryz.prog dO:={id:=244,k:=0,fn:=Tryz.f244,ir:=ai2,rs:=aF,func:=Tryz.func244}
def aDI:bP Tryz.prog dO:={id:=246,k:=0,fn:=Tryz.f246,ir:=ama,rs:=aF,func:=Tryz.func246}
def aDJ:bP Tryz.prog dO:={id:=252,k:=0,fn:=Tryz.f252,ir:=amd,rs:=aF,func:=Tryz.func252}
def arV:bP Tryz.prog dO:={id:=208,k:=1,fn:=Tryz.f208,ir:=adx,rs:=cL,func:=Tryz.func208}
def apO:bP Tryz.prog dO:={id:=206,k:=1,fn:=Tryz.f206,ir:=abc,rs:=bp,func:=Tryz.func206}
def apP:bP Tryz.prog dO:={id:=210,k:=1,fn:=Tryz.f210,ir:=abf,rs:=aR,func:=Tryz.func210}
def apQ:bP Tryz.prog dO:={id:=211,k:=1,fn:=Tryz.f211,ir:=abi,rs:=aR,func:=Tryz.func211}
def apR:bP Tryz.prog dO:={id:=207,k:=1,fn:=Tryz.f207,ir:=abl,rs:=bp,func:=Tryz.func207}
def apS:bP Tryz.prog dO:={id:=205,k:=1,fn:=Tryz.f205,ir:=abo,rs:=aR,func:=Tryz.func205}
def anE:bP Tryz.prog dO:={id:=229,k:=1,fn:=Tryz.f229,ir:=aaf,rs:=aF,func:=Tryz.func229}
def apT:bP Tryz.prog dO:={id:=212,k:=1,fn:=Tryz.f212,ir:=abr,rs:=aF,func:=Tryz.func212}
def arW:bP Tryz.prog dO:={id:=235,k:=1,fn:=Tryz.f235,ir:=adA,rs:=aF,func:=Tryz.func235}
def apU:bP Tryz.prog dO:={id:=209,k:=1,fn:=Tryz.f209,ir:=abv,rs:=aF,func:=Tryz.func209}
def apV:bP Tryz.prog dO:={id:=213,k:=1,fn:=Tryz.f213,ir:=aby,rs:=aR,func:=Tryz.func213}
def anF:bP Tryz.prog dO:={id:=232,k:=2,fn:=Tryz.f232,ir:=aai,rs:=bp,func:=Tryz.func232}
def apW:bP Tryz.prog dO:={id:=249,k:=2,fn:=Tryz.f249,ir:=abB,rs:=bp,func:=Tryz.func249}
def anG:bP Tryz.prog dO:={id:=233,k:=2,fn:=Tryz.f233,ir:=aal,rs:=bp,func:=Tryz.func233}
def ajQ:bP Tryz.prog dO:={id:=214,k:=1,fn:=Tryz.f214,ir:=wO,rs:=pc,func:=Tryz.func214}
def aDK:bP Tryz.prog dO:={id:=234,k:=0,fn:=Tryz.f234,ir:=amg,rs:=aF,func:=Tryz.func234}
def aFP:bP Tryz.prog dO:={id:=182,k:=0,fn:=Tryz.f182,ir:=ao7,rs:=aF,func:=Tryz.func182}
def apX:bP Tryz.prog dO:={id:=177,k:=0,fn:=Tryz.f177,ir:=ami,rs:=ael,func:=Tryz.func177}
def av8:bP Tryz.prog dO:={id:=204,k:=0,fn:=Tryz.f204,ir:=asI,rs:=eV,func:=Tryz.func204}
def aHA:bP Tryz.prog dO:={id:=179,k:=0,fn:=Tryz.f179,ir:=asK,rs:=aR,func:=Tryz.func179}
def aFQ:bP Tryz.prog dO:={id:=216,k:=0,fn:=Tryz.f216,ir:=apb,rs:=aR,func:=Tryz.func216}
def aA8:bP Tryz.prog dO:={id:=180,k:=0,fn:=Tryz.f180,ir:=ajp,rs:=fT,func:=Tryz.func180}
def aHB:bP Tryz.prog dO:={id:=127,k:=0,fn:=Tryz.f127,ir:=asM,rs:=aF,func:=Tryz.func127}
def arX:bP Tryz.prog dO:={id:=131,k:=0,fn:=Tryz.f131,ir:=adD,rs:=aR,func:=Tryz.func131}
def aHC:bP Tryz.prog dO:={id:=181,k:=0,fn:=Tryz.f181,ir:=asO,rs:=aR,func:=Tryz.func181}
def ayo:bP Tryz.prog dO:={id:=130,k:=0,fn:=Tryz.f130,ir:=ahK,rs:=eE,func:=Tryz.func130}
def aA9:bP Tryz.prog dO:={id:=77,k:=0,fn:=Tryz.f77,ir:=ajt,rs:=qd,func:=Tryz.func77}
def aFR:bP Tryz.prog dO:={id:=76,k:=0,fn:=Tryz.f76,ir:=aph,rs:=aaB,func:=Tryz.func76}
def alv:bP Tryz.prog dO:={id:=176,k:=1,fn:=Tryz.f176,ir:=yY,rs:=gH,func:=Tryz.func176}
def apY:bP Tryz.prog dO:={id:=126,k:=1,fn:=Tryz.f126,ir:=abH,rs:=bp,func:=Tryz.func126}
def aFS:bP Tryz.prog dO:={id:=53,k:=0,fn:=Tryz.f53,ir:=apm,rs:=aF,func:=Tryz.func53}
def aDL:bP Tryz.prog dO:={id:=74,k:=0,fn:=Tryz.f74,ir:=amt,rs:=aF,func:=Tryz.func74}
def aDM:bP Tryz.prog dO:={id:=125,k:=0,fn:=Tryz.f125,ir:=ams,rs:=dB,func:=Tryz.func125}
def azB:bP Tryz.prog dO:={id:=39,k:=0,fn:=Tryz.f39,ir:=av5,rs:=tc,func:=Tryz.func39}
def kG:xk Tryz.prog dO:={n:=[],o:=[arS,anC,arT,apN,anD,arU,cC,arV,apO,apP,apQ,apR,apS,anE,apT,arW,apU,apV,anF,apW,anG,ajQ,alv,apY],ls:=[],g:=[aA7,aDI,aDJ,aDK,aFP,apX,av8,aHA,aFQ,aA8,aHB,arX,aHC,ayo,aA9,aFR,aFS,aDL,aDM,azB]}
end Go.Proofs.YtndccphabnjkhaaGreat
end
