import Derived.KernelRfl
import Derived.Test.YtndccphabnjkhaaGreatZ02
import Derived.Test.YtndccphabnjkhaaGreatZ03
import Derived.Test.YtndccphabnjkhaaGreatZ04
open Eq renaming trans→AE
open Go.IntKind renaming wrap→Ab
open Int renaming toNat→Ad,tmod→Bd
open List renaming length→Aa,getD→Ai
set_option linter.all false
set_option maxRecDepth 100000
noncomputable section
namespace Go.Proofs.YtndccphabnjkhaaGreat
open Go.AM
def asl:aI:=tb_ [] [] [] []
def ap5:IR:=Rs [Mi 4 0] (Sq (Sq (.reg [Mv 5 0,Nk 6 5,Fa 7 1 6,Fo [0] [] (.ld 8 1 false false 7),Mv 9 0,Nk 10 9,Fa 11 0 10,Fo [0] [] (.ld 12 1 false false 11),Ll 13 12,Bi 14 .geq 8 13] [[],[0],[0,1],[0,1,2],[],[4],[4,5],[4,5,6],rg 4 7,rg 0 8]) (Cn 14 (Rs [Mi 4 0] .ret) .skip)) (Rs [Mv 15 0,Nk 16 15,Fa 17 1 16,Lo 18 17,Bc 19 .add 18 1,Nk 20 15,Fa 21 1 20,Sv 1 21 19] (Sq (.reg [Mv 22 0,Nk 23 22,Fa 24 0 23,Fo [0] [] (.ld 25 1 false false 24),Mv 26 0,Nk 27 26,Fa 28 1 27,Fo [0] [] (.ld 29 1 false false 28),Bc 30 .sub 29 1,Ix 31 .u8 25 30,Lq 32 31,Pp (.cvi 33 .i64 32),Mv 34 1,Bi 35 .rem 33 34,Mv 4 35] [[],[0],[0,1],[0,1,2],[],[4],[4,5],[4,5,6],rg 4 7,rg 0 8,rg 0 9,rg 0 10,[],rg 0 12,rg 0 13]) .ret)))
theorem ap6:FnC Tryz.prog asl [] 1 43 Tryz.f43 ap5 aR:=fnC Tryz.func43
def adX(N:Nat)(a:Bs)(b c:Int):Ro:=let g:=(↑(Aa a):Int);let d:=λh i=>(some (vI h,[some [vF .u8 a,vI i]]):Ro);cond (decide (g<=b)) (d 0 b) (let e:=(Ab .i64 (b+1));let f:=(Ab .i64 (e-1));chk (ixl f a) (let j:=(Ai a (Ad f) (aK .u8)).toNat;chk (!(c==0)) (let k:=(Bd (Ab .i64 j) c);d k e)))
def adY(N:Nat)(a:Bs)(b c:Int):Ro:=adX N a b c
theorem an3(N:Nat)(a:Bs)(b i:Int)(h:Tot (adY N a b i) (λz=>∃c d g rest,z.1.dimR=vI c∧z.2=some [vF .u8 d,vI g]::rest∧aa4 a b i (c,d,g))):∃r,bo a b i r:=FnC.finO (css:=[[vF .u8 a,vI b]]) ap6 (N:=N) (by kernel_rfl) h λ_ ⟨c,d,g,_,e,f,q⟩=>⟨(c,d,g),e,⟨_,f⟩,q⟩
def ap7:aI:=tb_ [] [] [] []
def an4:IR:=Rs [Mb 2 false] (Sq (.reg [Mv 3 0,Nk 4 3,Fa 5 1 4,Fo [0] [] (.ld 6 1 false false 5),Mv 7 0,Nk 8 7,Fa 9 0 8,Fo [0] [] (.ld 10 1 false false 9),Ll 11 10,Bi 12 .geq 6 11,Mv 2 12] [[],[0],[0,1],[0,1,2],[],[4],[4,5],[4,5,6],rg 4 7,rg 0 8,rg 0 9]) .ret)
theorem an5:FnC Tryz.prog ap7 [] 1 42 Tryz.f42 an4 aE:=fnC Tryz.func42
def acM(N:Nat)(a:Bs)(b:Int):Ro:=let c:=(↑(Aa a):Int);some (vB (decide (c<=b)),[some [vF .u8 a,vI b]])
def acN(N:Nat)(a:Bs)(b:Int):Ro:=acM N a b
theorem al0(N:Nat)(a:Bs)(b:Int)(h:Tot (acN N a b) (λz=>∃c d g rest,z.1.dimR=vB c∧z.2=some [vF .u8 d,vI g]::rest∧zQ a b (c,d,g))):∃r,lH a b r:=FnC.finO (css:=[[vF .u8 a,vI b]]) an5 (N:=N) (by kernel_rfl) h λ_ ⟨c,d,g,_,e,f,q⟩=>⟨(c,d,g),e,⟨_,f⟩,q⟩
def ap8:aI:=tb_ [] [gt] [] []
def an6:IR:=Rs [Ms 2 []] (Rs [Pp (.bsl 4 .str [kS [105,110,116,51,50],kS [115,116,114,105,110,103],kS [105,110,116,54,52],kS [98,111,111,108],kS [98,121,116,101,115],kS [117,105,110,116,51,50],kS [117,105,110,116,54,52],kS [115,105,110,116,51,50],kS [115,105,110,116,54,52],kS [102,105,120,101,100,51,50],kS [102,105,120,101,100,54,52],kS [115,102,105,120,101,100,51,50],kS [115,102,105,120,101,100,54,52],kS [100,111,117,98,108,101],kS [102,108,111,97,116],kS [69],kS [73],kS [77]] true),Mv 3 4] (Rs [Mv 5 3,Mv 6 0,Mv 7 3,Ll 8 7,Ca 9 43 [6,8],Ix 10 .str 5 9,Lq 11 10,Mv 2 11] .ret))
theorem an7:FnC Tryz.prog ap8 [43,2000043] 1 132 Tryz.f132 an6 aE:=fnC Tryz.func132
def acO(N:Nat)(a:Bs)(b:Int):Ro:=let d:=(↑(Aa ([([105,110,116,51,50]:Bs),([115,116,114,105,110,103]:Bs),([105,110,116,54,52]:Bs),([98,111,111,108]:Bs),([98,121,116,101,115]:Bs),([117,105,110,116,51,50]:Bs),([117,105,110,116,54,52]:Bs),([115,105,110,116,51,50]:Bs),([115,105,110,116,54,52]:Bs),([102,105,120,101,100,51,50]:Bs),([102,105,120,101,100,54,52]:Bs),([115,102,105,120,101,100,51,50]:Bs),([115,102,105,120,101,100,54,52]:Bs),([100,111,117,98,108,101]:Bs),([102,108,111,97,116]:Bs),([69]:Bs),([73]:Bs),([77]:Bs)]:Bss)):Int);aA (bo a b d) (λc=>chk (ixl c.1 [([105,110,116,51,50]:Bs),([115,116,114,105,110,103]:Bs),([105,110,116,54,52]:Bs),([98,111,111,108]:Bs),([98,121,116,101,115]:Bs),([117,105,110,116,51,50]:Bs),([117,105,110,116,54,52]:Bs),([115,105,110,116,51,50]:Bs),([115,105,110,116,54,52]:Bs),([102,105,120,101,100,51,50]:Bs),([102,105,120,101,100,54,52]:Bs),([115,102,105,120,101,100,51,50]:Bs),([115,102,105,120,101,100,54,52]:Bs),([100,111,117,98,108,101]:Bs),([102,108,111,97,116]:Bs),([69]:Bs),([73]:Bs),([77]:Bs)]) (let e:=Ai [([105,110,116,51,50]:Bs),([115,116,114,105,110,103]:Bs),([105,110,116,54,52]:Bs),([98,111,111,108]:Bs),([98,121,116,101,115]:Bs),([117,105,110,116,51,50]:Bs),([117,105,110,116,54,52]:Bs),([115,105,110,116,51,50]:Bs),([115,105,110,116,54,52]:Bs),([102,105,120,101,100,51,50]:Bs),([102,105,120,101,100,54,52]:Bs),([115,102,105,120,101,100,51,50]:Bs),([115,102,105,120,101,100,54,52]:Bs),([100,111,117,98,108,101]:Bs),([102,108,111,97,116]:Bs),([69]:Bs),([73]:Bs),([77]:Bs)] (Ad c.1) (aK .str);some (vT e,[some [vF .u8 c.2.1,vI c.2.2]])))
def acP(N:Nat)(a:Bs)(b:Int):Ro:=acO N a b
theorem al1(N:Nat)(a:Bs)(b:Int)(h:Tot (acP N a b) (λz=>∃c d g rest,z.1.dimR=vT c∧z.2=some [vF .u8 d,vI g]::rest∧zR a b (c,d,g))):∃r,iZ a b r:=FnC.finO (css:=[[vF .u8 a,vI b]]) an7 (N:=N) (by kernel_rfl) h λ_ ⟨c,d,g,_,e,f,q⟩=>⟨(c,d,g),e,⟨_,f⟩,q⟩
def al2:aI:=tb_ [] [gt] [] []
def ajV:IR:=Rs [Ms 2 []] (Rs [Pp (.bsl 3 .str [kS [105,110,116,51,50],kS [115,116,114,105,110,103],kS [105,110,116,54,52],kS [98,111,111,108],kS [98,121,116,101,115],kS [100,111,117,98,108,101],kS [102,108,111,97,116],kS [73],kS [77]] true),Mv 4 0,Ca 5 43 [4,kI 9],Ix 6 .str 3 5,Lq 7 6,Mv 2 7] .ret)
theorem ajW:FnC Tryz.prog al2 [43,2000043] 1 133 Tryz.f133 ajV aE:=fnC Tryz.func133
def zW(N:Nat)(a:Bs)(b:Int):Ro:=aA (bo a b 9) (λc=>chk (ixl c.1 [([105,110,116,51,50]:Bs),([115,116,114,105,110,103]:Bs),([105,110,116,54,52]:Bs),([98,111,111,108]:Bs),([98,121,116,101,115]:Bs),([100,111,117,98,108,101]:Bs),([102,108,111,97,116]:Bs),([73]:Bs),([77]:Bs)]) (let d:=Ai [([105,110,116,51,50]:Bs),([115,116,114,105,110,103]:Bs),([105,110,116,54,52]:Bs),([98,111,111,108]:Bs),([98,121,116,101,115]:Bs),([100,111,117,98,108,101]:Bs),([102,108,111,97,116]:Bs),([73]:Bs),([77]:Bs)] (Ad c.1) (aK .str);some (vT d,[some [vF .u8 c.2.1,vI c.2.2]])))
def zX(N:Nat)(a:Bs)(b:Int):Ro:=zW N a b
theorem aik(N:Nat)(a:Bs)(b:Int)(h:Tot (zX N a b) (λz=>∃c d g rest,z.1.dimR=vT c∧z.2=some [vF .u8 d,vI g]::rest∧wq a b (c,d,g))):∃r,f9 a b r:=FnC.finO (css:=[[vF .u8 a,vI b]]) ajW (N:=N) (by kernel_rfl) h λ_ ⟨c,d,g,_,e,f,q⟩=>⟨(c,d,g),e,⟨_,f⟩,q⟩
def b8:aI:=tb_ [] [gt,adW,aa7] [] [aqT]
def yj:IR:=Rs [Mv 57 7,Pp (.bin 58 .add (kS [114,101,112,101,97,116,101,100,32]) 57),Pp (.bin 59 .add 58 (kS [32])),Mv 60 8,Bi 61 .add 59 60,Mv 62 9,Bi 63 .add 61 62,Mv 64 10,Bi 65 .add 63 64,Pp (.bin 66 .add 65 (kS [59,10])),Mv 6 66] .ret
def wv:IR:=Rs [Mv 75 11,Pp (.bin 76 .add (kS [109,97,112,60]) 75),Pp (.bin 77 .add 76 (kS [44,32])),Mv 78 7,Bi 79 .add 77 78,Pp (.bin 80 .add 79 (kS [62,32])),Mv 81 8,Bi 82 .add 80 81,Mv 83 9,Bi 84 .add 82 83,Pp (.bin 85 .add 84 (kS [59,10])),Mv 6 85] .ret
def ke:IR:=Cn 35 (Rs [Pp (.bsl 38 .str [kS [],kS [],kS [32,91,112,97,99,107,101,100,32,61,32,102,97,108,115,101,93],kS [32,91,112,97,99,107,101,100,32,61,32,116,114,117,101,93]] true),Mv 39 0,Ca 40 43 [39,kI 4],Ix 41 .str 38 40,Lq 42 41,Mv 10 42] (Sq (Rs [Mv 43 7,Pp (.bin 44 .eql 43 (kS [115,116,114,105,110,103])),Mv 45 44,Gf 45 (.mov 46 7),Gf 45 (.bin 47 .eql 46 (kS [98,121,116,101,115])),Po 48 45 47,Mv 49 48,Gf 49 (.mov 50 7),Gf 49 (.bin 51 .eql 50 (kS [73])),Po 52 49 51,Mv 53 52,Gf 53 (.mov 54 7),Gf 53 (.bin 55 .eql 54 (kS [77])),Po 56 53 55] (Cn 56 (Rg [Ms 10 []]) .skip)) (.cut [7,8,9,10,1000000] 1 yj))) (Rs [Bc 68 .eql 24 3,Mv 67 68] (Cn 67 (Rs [Pp (.bsl 69 .str [kS [115,116,114,105,110,103],kS [105,110,116,51,50],kS [98,111,111,108],kS [117,105,110,116,54,52],kS [115,105,110,116,51,50],kS [102,105,120,101,100,51,50]] true),Mv 70 0,Ca 71 43 [70,kI 6],Ix 72 .str 69 71,Lq 73 72,Mv 11 73] (Sq (Rs [Mv 74 2] (Cn 74 (Rg [Ms 11 [115,116,114,105,110,103]]) .skip)) (.cut [7,8,9,11,1000001] 1 wv))) .skip))
def ww:IR:=Rs [Mv 86 7,Pp (.bin 87 .add 86 (kS [32])),Mv 88 8,Bi 89 .add 87 88,Mv 90 9,Bi 91 .add 89 90,Pp (.bin 92 .add 91 (kS [59,10])),Mv 6 92] .ret
def pa:IR:=.cut [7,8,9,1000003] 1 ww
def kf:IR:=Rs [Mv 17 1,Ca 18 134 [17],Pp (.bin 19 .add (kS [102]) 18),Mv 8 19] (Rs [Mv 20 1,Ca 21 134 [20],Pp (.bin 22 .add (kS [32,61,32]) 21),Mv 9 22] (Sq (Rs [Mv 23 0,Ca 24 43 [23,kI 8]] (.block 0 (Rs [Bc 26 .eql 24 0,Mv 25 26] (Cn 25 (Rs [Mv 27 7,Pp (.bin 28 .add (kS [111,112,116,105,111,110,97,108,32]) 27),Pp (.bin 29 .add 28 (kS [32])),Mv 30 8,Bi 31 .add 29 30,Mv 32 9,Bi 33 .add 31 32,Pp (.bin 34 .add 33 (kS [59,10])),Mv 6 34] .ret) (Sq (Rs [Bc 36 .eql 24 1,Mv 35 36] (Cn 35 .skip (Rg [Bc 37 .eql 24 2,Mv 35 37]))) (.cut [0,2,7,8,9,24,35,1000002] 1 ke)))))) pa))
def al3:IR:=Rs [Ms 6 []] (Rs [Mv 12 0,Ca 13 132 [12],Mv 7 13] (Sq (Rs [Mv 14 2] (Cn 14 (Rg [Mv 15 0,Ca 16 133 [15],Mv 7 16]) .skip)) (.cut [0,1,2,7,1000004] 1 kf)))
def br:List RV:=[.t 6]
theorem al4:FnC Tryz.prog b8 [43,132,133,2000043,2000132,2000133] 1 135 Tryz.f135 al3 br:=fnC Tryz.func135
abbrev iL:Type:=(Int×Bool×Bs×Bs×Int)
def gW:iL->St:=λ(a,b,c,d,e)=>{env:=(.ptr 0 0::vI a::vB b::(U 4 (vT c::(U 85 [])))),hp:=[some [vF .u8 d,vI e]]}
abbrev iM:Type:=(Bool×Bs×Bs×Bs×Int×Bool×Bs×Int)
def fo:iM->St:=λ(a,b,c,d,e,f,g,h)=>{env:=(.ptr 0 0::.undef::vB a::(U 4 (vT b::vT c::vT d::(U 14 (vI e::(U 10 (vB f::(U 57 [])))))))),hp:=[some [vF .u8 g,vI h]]}
def iN(R:TRr):TE:=(aP 0 (kseq (R pa) (fin br)))
abbrev iO:Type:=(Bs×Bs×Bs×Bs×Bs×Int)
def k9:iO->St:=λ(a,b,c,d,e,f)=>{env:=(U 7 (vT a::vT b::vT c::vT d::(U 82 []))),hp:=[some [vF .u8 e,vI f]]}
def qV(N:Nat):TS:=λs=>run b8 N yj (iN (run b8 N)) s
def iP(N:Nat):iO->Ro:=λ(i,e,g,a,b,c)=>chk (decide (Aa ([114,101,112,101,97,116,101,100,32]:Bs)+Aa i<=9223372036854775807)) (let j:=([114,101,112,101,97,116,101,100,32]++i);chk (decide (Aa j+Aa ([32]:Bs)<=9223372036854775807)) (let f:=(j++([32]:Bs));chk (decide (Aa f+Aa e<=9223372036854775807)) (chk (decide (Aa (f++e)+Aa g<=9223372036854775807)) (chk (decide (Aa ((f++e)++g)+Aa a<=9223372036854775807)) (let d:=(((f++e)++g)++a);chk (decide (Aa d+Aa ([59,10]:Bs)<=9223372036854775807)) (let h:=(d++([59,10]:Bs));some (vT h,[some [vF .u8 b,vI c]])))))))
theorem ail(N:Nat):LJ (qV N) k9 (iP N):=λ_=>by kernel_rfl
def lc:iO->St:=λ(a,b,c,d,e,f)=>{env:=(U 7 (vT a::vT b::vT c::.undef::vT d::(U 81 []))),hp:=[some [vF .u8 e,vI f]]}
def qW(N:Nat):TS:=λs=>run b8 N wv (iN (run b8 N)) s
def iQ(N:Nat):iO->Ro:=λ(h,g,i,c,d,e)=>chk (decide (Aa ([109,97,112,60]:Bs)+Aa c<=9223372036854775807)) (let f:=([109,97,112,60]++c);chk (decide (Aa f+Aa ([44,32]:Bs)<=9223372036854775807)) (let b:=(f++([44,32]:Bs));chk (decide (Aa b+Aa h<=9223372036854775807)) (chk (decide (Aa (b++h)+Aa ([62,32]:Bs)<=9223372036854775807)) (let a:=((b++h)++([62,32]:Bs));chk (decide (Aa a+Aa g<=9223372036854775807)) (chk (decide (Aa (a++g)+Aa i<=9223372036854775807)) (chk (decide (Aa ((a++g)++i)+Aa ([59,10]:Bs)<=9223372036854775807)) (let j:=(((a++g)++i)++([59,10]:Bs));some (vT j,[some [vF .u8 d,vI e]]))))))))
theorem aim(N:Nat):LJ (qW N) lc (iQ N):=λ_=>by kernel_rfl
abbrev qX:Type:=(Bs×Bs×Bs×Bs×Int)
def lf:qX->St:=λ(a,b,c,d,e)=>{env:=(U 7 (vT a::vT b::vT c::(U 83 []))),hp:=[some [vF .u8 d,vI e]]}
def qY(N:Nat):TS:=λs=>run b8 N ww (fin br) s
def iR(N:Nat):qX->Ro:=λ(g,d,e,b,c)=>chk (decide (Aa g+Aa ([32]:Bs)<=9223372036854775807)) (let a:=(g++([32]:Bs));chk (decide (Aa a+Aa d<=9223372036854775807)) (chk (decide (Aa (a++d)+Aa e<=9223372036854775807)) (chk (decide (Aa ((a++d)++e)+Aa ([59,10]:Bs)<=9223372036854775807)) (let f:=(((a++d)++e)++([59,10]:Bs));some (vT f,[some [vF .u8 b,vI c]])))))
theorem ain(N:Nat):LJ (qY N) lf (iR N):=λ_=>by kernel_rfl
def mh(N:Nat):TS:=λs=>run b8 N ke (iN (run b8 N)) s
def lg(N:Nat)(h o:iO->Ro)(p:qX->Ro):iM->Ro:=λ(q,a,e,f,i,j,c,d)=>cond j (aA (bo c d 4) (λb=>chk (ixl b.1 [([]:Bs),([]:Bs),([32,91,112,97,99,107,101,100,32,61,32,102,97,108,115,101,93]:Bs),([32,91,112,97,99,107,101,100,32,61,32,116,114,117,101,93]:Bs)]) (let r:=Ai [([]:Bs),([]:Bs),([32,91,112,97,99,107,101,100,32,61,32,102,97,108,115,101,93]:Bs),([32,91,112,97,99,107,101,100,32,61,32,116,114,117,101,93]:Bs)] (Ad b.1) (aK .str);let s:=decide (a=[115,116,114,105,110,103]);cond s (h (a,e,f,[],b.2.1,b.2.2)) (let k:=decide (a=[98,121,116,101,115]);cond k (h (a,e,f,[],b.2.1,b.2.2)) (let l:=decide (a=[73]);cond l (h (a,e,f,[],b.2.1,b.2.2)) (let m:=decide (a=[77]);cond m (h (a,e,f,[],b.2.1,b.2.2)) (h (a,e,f,r,b.2.1,b.2.2)))))))) (cond (i==3) (aA (bo c d 6) (λg=>chk (ixl g.1 [([115,116,114,105,110,103]:Bs),([105,110,116,51,50]:Bs),([98,111,111,108]:Bs),([117,105,110,116,54,52]:Bs),([115,105,110,116,51,50]:Bs),([102,105,120,101,100,51,50]:Bs)]) (let n:=Ai [([115,116,114,105,110,103]:Bs),([105,110,116,51,50]:Bs),([98,111,111,108]:Bs),([117,105,110,116,54,52]:Bs),([115,105,110,116,51,50]:Bs),([102,105,120,101,100,51,50]:Bs)] (Ad g.1) (aK .str);cond q (o (a,e,f,[115,116,114,105,110,103],g.2.1,g.2.2)) (o (a,e,f,n,g.2.1,g.2.2))))) (p (a,e,f,c,d)))
def iS(N:Nat)(x:iM):Ro:=lg N (λz=>iP N z) (λz=>iQ N z) (λz=>iR N z) x
def qZ(N:Nat):List (Nat×(TS)):=(cU b8 N ke (iN (run b8 N))++(cU b8 N pa (fin br)++[]))
theorem aio(N:Nat):∀(x:iM),mh N (fo x)=iS N x:=by
 intro x;have c:∀C:Nat->TS,cY C b8 N ke (iN (cY C b8 N)) (fo x)=lg N (λz=>C 1000000 (k9 z)) (λz=>C 1000001 (lc z)) (λz=>C 1000003 (lf z)) x:=by intro C;kernel_rfl
 have h:mh N (fo x)=lg N (λz=>qV N (k9 z)) (λz=>qW N (lc z)) (λz=>qY N (lf z)) x:=(ff (C:=iw (qZ N)) (dU (cb (l:=(qZ N)) (by kernel_rfl))) (eK (nP (dU (kL (cb (l:=(qZ N)) (by kernel_rfl)))) rfl)) _).trans ((c _).trans (by kernel_rfl));have b:(λz=>qV N (k9 z))=(λz=>iP N z):=funext λz=>ail N z
 have a:(λz=>qW N (lc z))=(λz=>iQ N z):=funext λz=>aim N z
 have d:(λz=>qY N (lf z))=(λz=>iR N z):=funext λz=>ain N z
 rw[h,b,a,d];rfl
def q8(N:Nat):TS:=λs=>run b8 N kf (fin br) s
def lh(N:Nat)(h:iM->Ro):iL->Ro:=λ(i,j,f,c,d)=>aA (fL i) (λ(k:Bs)=>chk (decide (Aa ([102]:Bs)+Aa k<=9223372036854775807)) (let b:=([102]++k);aA (fL i) (λ(l:Bs)=>chk (decide (Aa ([32,61,32]:Bs)+Aa l<=9223372036854775807)) (let e:=([32,61,32]++l);aA (bo c d 8) (λa=>cond (a.1==0) (chk (decide (Aa ([111,112,116,105,111,110,97,108,32]:Bs)+Aa f<=9223372036854775807)) (let m:=([111,112,116,105,111,110,97,108,32]++f);chk (decide (Aa m+Aa ([32]:Bs)<=9223372036854775807)) (let g:=(m++([32]:Bs));chk (decide (Aa g+Aa b<=9223372036854775807)) (chk (decide (Aa (g++b)+Aa e<=9223372036854775807)) (chk (decide (Aa ((g++b)++e)+Aa ([59,10]:Bs)<=9223372036854775807)) (let n:=(((g++b)++e)++([59,10]:Bs));some (vT n,[some [vF .u8 a.2.1,vI a.2.2]]))))))) (cond (a.1==1) (h (j,f,b,e,a.1,true,a.2.1,a.2.2)) (h (j,f,b,e,a.1,(a.1==2),a.2.1,a.2.2))))))))
def mi(N:Nat)(x:iL):Ro:=lh N (λz=>iS N z) x
def zY(N:Nat):List (Nat×(TS)):=(cU b8 N kf (fin br)++[])
theorem aip(N:Nat):∀(x:iL),q8 N (gW x)=mi N x:=by
 intro x;have a:∀C:Nat->TS,cY C b8 N kf (fin br) (gW x)=lh N (λz=>C 1000002 (fo z)) x:=by intro C;kernel_rfl
 have h:q8 N (gW x)=lh N (λz=>mh N (fo z)) x:=(ff (C:=iw (zY N)) (dU (cb (l:=(zY N)) (by kernel_rfl))) rfl _).trans ((a _).trans (by kernel_rfl));have b:(λz=>mh N (fo z))=(λz=>iS N z):=funext λz=>aio N z
 rw[h,b];rfl
def jA(N:Nat)(a:Bs)(b f:Int)(d:Bool)(g:iL->Ro):Ro:=aA (iZ a b) (λc=>cond d (aA (f9 c.2.1 c.2.2) (λe=>g (f,d,e.1,e.2.1,e.2.2))) (g (f,d,c.1,c.2.1,c.2.2)))
def aa8(N:Nat)(a:Bs)(b c:Int)(d:Bool):Ro:=jA N a b c d (λz=>mi N z)
theorem ajX(N:Nat)(a:Bs)(c d:Int)(g:Bool)(h:Tot (aa8 N a c d g) (λz=>∃i j k rest,z.1.dimR=vT i∧z.2=some [vF .u8 j,vI k]::rest∧yh a c d g (i,j,k))):∃r,kw a c d g r:=FnC.finO (css:=[[vF .u8 a,vI c]]) al4 (N:=N) ((bK _ (by kernel_rfl) rfl (λC=>jA N a c d g (λz=>C 1000004 (gW z))) (λC=>by kernel_rfl)).trans (AE (b:=jA N a c d g (λz=>q8 N (gW z))) (by kernel_rfl) (congrArg (jA N a c d g) (funext λz=>aip N z)))) h λ_ ⟨i,j,k,_,e,f,q⟩=>⟨(i,j,k),e,⟨_,f⟩,q⟩
def vH:aI:=tb_ [] [gt,adW,aa7,an2] [] [aqT]
def zZ:IR:=Sq (Rs [Mv 17 9,Mv 18 10,Bi 19 .lss 17 18] (Cn 19 .skip (.exit 0))) (Sq (.block 1 (Rs [Mv 22 9,Bc 23 .add 22 1,Mv 24 0,Ca 25 43 [24,kI 2],Pp (.bin 26 .mul (kI 14) 25),Mv 27 9,Bi 28 .mul 26 27,Bi 29 .add 23 28,Mv 11 29] (Rs [Mv 30 0,Ca 31 43 [30,kI 4],Bc 32 .eql 31 0] (Cn 32 (Rs [Mv 33 0,Ca 34 132 [33],Mv 12 34] (Sq (Rs [Mv 35 2] (Cn 35 (Rg [Mv 36 0,Ca 37 133 [36],Mv 12 37]) .skip)) (Rg [Mv 38 8,Mv 39 12,Bi 40 .add 38 39,Pp (.bin 41 .add 40 (kS [32,111])),Mv 42 11,Bc 43 .add 42 100,Ca 44 134 [43],Bi 45 .add 41 44,Pp (.bin 46 .add 45 (kS [32,61,32])),Mv 47 11,Bc 48 .add 47 100,Ca 49 134 [48],Bi 50 .add 46 49,Pp (.bin 51 .add 50 (kS [59,10])),Mv 8 51]))) (Rg [Mv 52 7,Mv 53 0,Mv 54 11,Mv 55 2,Ca 56 135 [53,54,55],Bi 57 .add 52 56,Mv 7 57]))))) (Rg [Mv 20 9,Bc 21 .add 20 1,Mv 9 21]))
def yk:IR:=Sq (Rs [Mv 58 8,Pp (.bin 59 .neq 58 (kS []))] (Cn 59 (Rg [Mv 60 7,Pp (.bin 61 .add 60 (kS [111,110,101,111,102,32,99,32,123,10])),Mv 62 8,Bi 63 .add 61 62,Pp (.bin 64 .add 63 (kS [125,10])),Mv 7 64]) .skip)) (Rs [Mv 65 7,Mv 6 65] .ret)
def an8:IR:=Rs [Ms 6 []] (Rs [Ms 7 [],Ms 8 []] (Sq (Rs [Mv 13 0,Mv 14 1,Bc 15 .add 14 1,Ca 16 43 [13,15],Mi 9 0,Mv 10 16] (.block 0 (.loop [0,2,7,8,9,10,1000000] 1 zZ))) yk))
theorem an9:FnC Tryz.prog vH [43,132,133,135,2000043,2000132,2000133,2000135] 1 78 Tryz.f78 an8 br:=fnC Tryz.func78
def al5(R:TRr)(a:TS):TE:=(bu a [0,2,7,8,9,10,1000000] 1 (aP 0 (kseq (R yk) (fin br))))
abbrev jB:Type:=(Bool×Bs×Bs×Int×Int×Bs×Int)
def mj:jB->St:=λ(a,b,c,d,e,f,g)=>{env:=(.ptr 0 0::.undef::vB a::(U 4 (vT b::vT c::vI d::vI e::(U 55 [])))),hp:=[some [vF .u8 f,vI g]]}
def sF(N:Nat):TS->TS:=λa s=>run vH N zZ (al5 (run vH N) a) s
def nr(N:Nat)(a:jB->Ro):jB->Ro:=λ(m,g,b,l,c,e,f)=>let B:=λJ=>(some (vT J,[some [vF .u8 e,vI f]]):Ro);cond (decide (l<c)) (let C:=(Ab .i64 (l+1));aA (bo e f 2) (λq=>let L:=(Ab .i64 (14*q.1));let D:=(Ab .i64 (L*l));let n:=(Ab .i64 (C+D));aA (bo q.2.1 q.2.2 4) (λo=>cond (o.1==0) (aA (iZ o.2.1 o.2.2) (λh=>cond m (aA (f9 h.2.1 h.2.2) (λp=>chk (decide (Aa b+Aa p.1<=9223372036854775807)) (chk (decide (Aa (b++p.1)+Aa ([32,111]:Bs)<=9223372036854775807)) (let r:=((b++p.1)++([32,111]:Bs));let F:=(Ab .i64 (n+100));aA (fL F) (λ(s:Bs)=>chk (decide (Aa r+Aa s<=9223372036854775807)) (chk (decide (Aa (r++s)+Aa ([32,61,32]:Bs)<=9223372036854775807)) (let t:=((r++s)++([32,61,32]:Bs));let G:=(Ab .i64 (n+100));aA (fL G) (λ(u:Bs)=>chk (decide (Aa t+Aa u<=9223372036854775807)) (chk (decide (Aa (t++u)+Aa ([59,10]:Bs)<=9223372036854775807)) (let v:=((t++u)++([59,10]:Bs));let w:=(Ab .i64 (l+1));a (m,g,v,w,c,p.2.1,p.2.2))))))))))) (chk (decide (Aa b+Aa h.1<=9223372036854775807)) (chk (decide (Aa (b++h.1)+Aa ([32,111]:Bs)<=9223372036854775807)) (let i:=((b++h.1)++([32,111]:Bs));let x:=(Ab .i64 (n+100));aA (fL x) (λ(y:Bs)=>chk (decide (Aa i+Aa y<=9223372036854775807)) (chk (decide (Aa (i++y)+Aa ([32,61,32]:Bs)<=9223372036854775807)) (let j:=((i++y)++([32,61,32]:Bs));let z:=(Ab .i64 (n+100));aA (fL z) (λ(A:Bs)=>chk (decide (Aa j+Aa A<=9223372036854775807)) (chk (decide (Aa (j++A)+Aa ([59,10]:Bs)<=9223372036854775807)) (let I:=((j++A)++([59,10]:Bs));let M:=(Ab .i64 (l+1));a (m,g,I,M,c,h.2.1,h.2.2)))))))))))) (aA (kw o.2.1 o.2.2 n m) (λd=>chk (decide (Aa g+Aa d.1<=9223372036854775807)) (let E:=(Ab .i64 (l+1));a (m,(g++d.1),b,E,c,d.2.1,d.2.2))))))) (let H:=(!decide (b=[]));cond H (chk (decide (Aa g+Aa ([111,110,101,111,102,32,99,32,123,10]:Bs)<=9223372036854775807)) (let k:=(g++([111,110,101,111,102,32,99,32,123,10]:Bs));chk (decide (Aa k+Aa b<=9223372036854775807)) (chk (decide (Aa (k++b)+Aa ([125,10]:Bs)<=9223372036854775807)) (let O:=((k++b)++([125,10]:Bs));B O)))) (B g))
theorem ajY(N:Nat):LB (sF N) mj (nr N):=λ_ _=>by kernel_rfl
def kz(N:Nat)(a:Bs)(b d:Int)(e:Bool)(f:jB->Ro):Ro:=let g:=(Ab .i64 (d+1));aA (bo a b g) (λc=>f (e,[],[],0,c.1,c.2.1,c.2.2))
def acQ(N:Nat)(a:Bs)(b c:Int)(d:Bool):Ro:=kz N a b c d (λz=>aN N (nr N) z)
theorem al6(N:Nat)(a:Bs)(c d:Int)(g:Bool)(h:Tot (acQ N a c d g) (λz=>∃i j k rest,z.1.dimR=vT i∧z.2=some [vF .u8 j,vI k]::rest∧zS a c d g (i,j,k))):∃r,iY a c d g r:=FnC.finO (css:=[[vF .u8 a,vI c]]) an9 (N:=N) ((bK _ (by kernel_rfl) rfl (λC=>kz N a c d g (λz=>C 1000000 (mj z))) (λC=>by kernel_rfl)).trans (AE (b:=kz N a c d g (λz=>aZ N (sF N) (mj z))) (by kernel_rfl) (congrArg (kz N a c d g) (funext λz=>aW (mj) (sF N) (nr N) (ajY N) N z)))) h λ_ ⟨i,j,k,_,e,f,q⟩=>⟨(i,j,k),e,⟨_,f⟩,q⟩
def ap9:aI:=tb_ [] [ap4] [] []
def aoa:IR:=Rs [Ms 4 []] (Rs [Mv 5 0,Mv 6 1,Ca 7 78 [5,kI 4,6],Pp (.bin 8 .add (kS [115,121,110,116,97,120,32,61,32,34,112,114,111,116,111,51,34,59,10,112,97,99,107,97,103,101,32,97,59,10,101,110,117,109,32,69,32,123,32,65,32,61,32,48,59,32,66,32,61,32,49,59,32,67,32,61,32,45,49,59,32,125,10,109,101,115,115,97,103,101,32,73,32,123,10]) 7),Pp (.bin 9 .add 8 (kS [125,10,109,101,115,115,97,103,101,32,77,32,123,10])),Mv 10 0,Mv 11 1,Ca 12 78 [10,kI 7,11],Bi 13 .add 9 12,Pp (.bin 14 .add 13 (kS [125,10])),Mv 4 14] .ret)
theorem aob:FnC Tryz.prog ap9 [78,2000078] 1 40 Tryz.f40 aoa aR:=fnC Tryz.func40
def acR(N:Nat)(a:Bs)(b:Int)(f:Bool):Ro:=aA (iY a b 4 f) (λd=>chk (decide (Aa ([115,121,110,116,97,120,32,61,32,34,112,114,111,116,111,51,34,59,10,112,97,99,107,97,103,101,32,97,59,10,101,110,117,109,32,69,32,123,32,65,32,61,32,48,59,32,66,32,61,32,49,59,32,67,32,61,32,45,49,59,32,125,10,109,101,115,115,97,103,101,32,73,32,123,10]:Bs)+Aa d.1<=9223372036854775807)) (let g:=([115,121,110,116,97,120,32,61,32,34,112,114,111,116,111,51,34,59,10,112,97,99,107,97,103,101,32,97,59,10,101,110,117,109,32,69,32,123,32,65,32,61,32,48,59,32,66,32,61,32,49,59,32,67,32,61,32,45,49,59,32,125,10,109,101,115,115,97,103,101,32,73,32,123,10]++d.1);chk (decide (Aa g+Aa ([125,10,109,101,115,115,97,103,101,32,77,32,123,10]:Bs)<=9223372036854775807)) (let e:=(g++([125,10,109,101,115,115,97,103,101,32,77,32,123,10]:Bs));aA (iY d.2.1 d.2.2 7 f) (λc=>chk (decide (Aa e+Aa c.1<=9223372036854775807)) (chk (decide (Aa (e++c.1)+Aa ([125,10]:Bs)<=9223372036854775807)) (let h:=((e++c.1)++([125,10]:Bs));some (vT h,[some [vF .u8 c.2.1,vI c.2.2]])))))))
def acS(N:Nat)(a:Bs)(b:Int)(c:Bool):Ro:=acR N a b c
theorem al7(N:Nat)(a:Bs)(b:Int)(i:Bool)(h:Tot (acS N a b i) (λz=>∃c d g rest,z.1.dimR=vT c∧z.2=some [vF .u8 d,vI g]::rest∧zT a b i (c,d,g))):∃r,lG a b i r:=FnC.finO (css:=[[vF .u8 a,vI b]]) aob (N:=N) (by kernel_rfl) h λ_ ⟨c,d,g,_,e,f,q⟩=>⟨(c,d,g),e,⟨_,f⟩,q⟩
def aoc:aI:=tb_ [] [ap1] [] [aGY]
def al8:IR:=Rs [Pp (.new 2 [nl .pms,nl .pen]),Mb 3 false] (Rs [Mv 4 0,Ca 5 40 [4,kB false],Ca 6 39 [5],Ex_ 7 0 6,Ex_ 8 1 6,Sv 2 2 7,Mv 3 8] .ret)
def sG:List RV:=[.cell 2 2 true,.t 3]
theorem al9:FnC Tryz.prog aoc [40,2000040] 1 12 Tryz.f12 al8 sG:=fnC Tryz.func12
def aa9(N:Nat)(a:Bs)(b:Int):Ro:=aA (lG a b false) (λd=>aA (agC d.1) (λc=>some (.tup [.agg [vF .pms c.1,vF .pen c.2.1],vB c.2.2],[some [vF .u8 d.2.1,vI d.2.2],some [vF .pms c.1,vF .pen c.2.1]])))
def aba(N:Nat)(a:Bs)(b:Int):Ro:=aa9 N a b
theorem ajZ(N:Nat)(a:Bs)(b:Int)(h:Tot (aba N a b) (λz=>∃c d g i j rest,z.1.dimR=.tup [.agg [vF .pms c,vF .pen d],vB g]∧z.2=some [vF .u8 i,vI j]::rest∧pY a b (c,d,g,i,j))):∃r,ot a b r:=FnC.finO (css:=[[vF .u8 a,vI b]]) al9 (N:=N) (by kernel_rfl) h λ_ ⟨c,d,g,i,j,_,e,f,q⟩=>⟨(c,d,g,i,j),e,⟨_,f⟩,q⟩
def ama:aI:=tb_ [] [gt] [] [aDp]
def aj0:IR:=Rs [Pp (.mov 4 (kU 0))] (Rs [Pp (.bsl 6 (.num .u64) [kU 0,kU 1,kU 2,kU 5,kU 127,kU 128,kU 300,kU 2147483647,kU 2147483648,kU 4294967295,kU 1099511627776,kU 9223372036854775807,kU 9223372036854775808,kU 18446744073709551615,kU 18446744073709551614,kU 9221120237041090561] true),Mv 5 6] (Rs [Mv 7 1,Mv 8 5,Mv 9 0,Mv 10 5,Ll 11 10,Ca 12 43 [9,11],Ix 13 (.num .u64) 8 12,Lq 14 13,Ca 15 137 [7,14],Mv 4 15] .ret))
theorem aj1:FnC Tryz.prog ama [43,2000043] 1 80 Tryz.f80 aj0 aR:=fnC Tryz.func80
def z5(N:Nat)(a:Bs)(b d:Int):Ro:=let e:=(↑(Aa ([0,1,2,5,127,128,300,2147483647,2147483648,4294967295,1099511627776,9223372036854775807,9223372036854775808,18446744073709551615,18446744073709551614,9221120237041090561]:List Int)):Int);aA (bo a b e) (λc=>chk (ixl c.1 [0,1,2,5,127,128,300,2147483647,2147483648,4294967295,1099511627776,9223372036854775807,9223372036854775808,18446744073709551615,18446744073709551614,9221120237041090561]) (let f:=Ai [0,1,2,5,127,128,300,2147483647,2147483648,4294967295,1099511627776,9223372036854775807,9223372036854775808,18446744073709551615,18446744073709551614,9221120237041090561] (Ad c.1) (aK (.num .u64));aA (aca d f) (λ(g:Int)=>some (vU g,[some [vF .u8 c.2.1,vI c.2.2]]))))
def z6(N:Nat)(a:Bs)(b c:Int):Ro:=z5 N a b c
theorem aiq(N:Nat)(a:Bs)(b i:Int)(h:Tot (z6 N a b i) (λz=>∃c d g rest,z.1.dimR=vU c∧z.2=some [vF .u8 d,vI g]::rest∧wt a b i (c,d,g))):∃r,jz a b i r:=FnC.finO (css:=[[vF .u8 a,vI b]]) aj1 (N:=N) (by kernel_rfl) h λ_ ⟨c,d,g,_,e,f,q⟩=>⟨(c,d,g),e,⟨_,f⟩,q⟩
def asm:aI:=tb_ [] [afn,gt,alZ] [] []
def aqa:IR:=Rs [Bx 6 1,Pp (.new 10 [vU 0,vS,nl .pfd,vS])] (Sq (Rs [Mv 11 2] (.block 0 (Rs [Bc 13 .eql 11 16,Mv 12 13] (Cn 12 (Rs [Mv 14 0,Ld 15 2 true 6,Mv 16 3,Mv 17 4,Bc 18 .add 17 1,Ca 19 13 [14,15,16,18],Pp (.bld 20 [vU 0,vS,fu .pfd true,vS] [(2,2,19)]),Sv 4 10 20] .ret) (Rs [Bc 22 .eql 11 14,Mv 21 22] (Cn 21 (Rs [Pp (.bsl 23 .str [kS [],kS [97],kS [195,164],kS [116,101,120,116],kS [97,10,98]] true),Mv 24 0,Ca 25 43 [24,kI 5],Ix 26 .str 23 25,Lq 27 26,Pp (.bld 28 [vU 0,vS,fu .pfd true,vS] [(1,1,27)]),Sv 4 10 28] .ret) (Rs [Bc 30 .eql 11 15,Mv 29 30] (Cn 29 (Rs [Pp (.bsl 31 .str [kS [],kS [255],kS [0,1],kS [98]] true),Mv 32 0,Ca 33 43 [32,kI 4],Ix 34 .str 31 33,Lq 35 34,Pp (.bld 36 [vU 0,vS,fu .pfd true,vS] [(1,1,35)]),Sv 4 10 36] .ret) (Rs [Bc 38 .eql 11 17,Mv 37 38] (Cn 37 (Rs [Pp (.bsl 39 (.num .u64) [kU 0,kU 1,kU 18446744073709551615,kU 7] true),Mv 40 0,Ca 41 43 [40,kI 4],Ix 42 (.num .u64) 39 41,Lq 43 42,Pp (.bld 44 [vU 0,vS,fu .pfd true,vS] [(0,1,43)]),Sv 4 10 44] .ret) .skip)))))))))) (Rs [Mv 45 0,Mv 46 2,Ca 47 80 [45,46],Pp (.bld 48 [vU 0,vS,fu .pfd true,vS] [(0,1,47)]),Sv 4 10 48] .ret))
def aqb:List RV:=[.cell 10 4 true]
theorem aqc:FnC Tryz.prog asm [13,43,80,2000013,2000043,2000080] 1 45 Tryz.f45 aqa aqb:=fnC Tryz.func45
def adZ(N:Nat)(a:Bs)(b:Int)(c:List PMs)(d:List PEn)(e:Int)(q:Bs)(r:Int):Ro:=let f:=λl m n o p s t=>(some (.agg [vU l,vT m,.sl .pfd (.may n) o,vT p],[some [vF .u8 s,vI t],some [vU l,vT m,.sl .pfd (.may n) o,vT p]]):Ro);cond (e==16) (let u:=(Ab .i64 (r+1));aA (fG a b c d q u) (λg=>f 0 [] false g.1 g.2.1 g.2.2.1 g.2.2.2)) (cond (e==14) (aA (bo a b 5) (λh=>chk (ixl h.1 [([]:Bs),([97]:Bs),([195,164]:Bs),([116,101,120,116]:Bs),([97,10,98]:Bs)]) (let v:=Ai [([]:Bs),([97]:Bs),([195,164]:Bs),([116,101,120,116]:Bs),([97,10,98]:Bs)] (Ad h.1) (aK .str);f 0 v true ([]:List (Int×List aC)) [] h.2.1 h.2.2))) (cond (e==15) (aA (bo a b 4) (λi=>chk (ixl i.1 [([]:Bs),([255]:Bs),([0,1]:Bs),([98]:Bs)]) (let w:=Ai [([]:Bs),([255]:Bs),([0,1]:Bs),([98]:Bs)] (Ad i.1) (aK .str);f 0 w true ([]:List (Int×List aC)) [] i.2.1 i.2.2))) (cond (e==17) (aA (bo a b 4) (λj=>chk (ixl j.1 [0,1,18446744073709551615,7]) (let x:=Ai [0,1,18446744073709551615,7] (Ad j.1) (aK (.num .u64));f x [] true ([]:List (Int×List aC)) [] j.2.1 j.2.2))) (aA (jz a b e) (λk=>f k.1 [] true ([]:List (Int×List aC)) [] k.2.1 k.2.2)))))
def ad0(N:Nat)(a:Bs)(b:Int)(c:List PMs)(d:List PEn)(e:Int)(f:Bs)(g:Int):Ro:=adZ N a b c d e f g
theorem aod(N:Nat)(a:Bs)(b:Int)(c:List PMs)(d:List PEn)(k:Int)(l:Bs)(m:Int)(h:Tot (ad0 N a b c d k l m) (λz=>∃g i j rest,z.1.dimR=.agg (enc .pval g)∧z.2=some [vF .u8 i,vI j]::rest∧aa5 a b c d k l m (g,i,j))):∃r,d4 a b c d k l m r:=FnC.finO (css:=[[vF .u8 a,vI b]]) aqc (N:=N) (by kernel_rfl) h λ_ ⟨g,i,j,_,e,f,q⟩=>⟨(g,i,j),e,⟨_,f⟩,q⟩
def du:aI:=tb_ [] [ap3,gt,asj] [] [atX,avS,aq8,aBy]
def abb:IR:=Sq (Rs [Mv 58 16,Mv 59 14,Bi 60 .lss 58 59] (Cn 60 .skip (.exit 2))) (Sq (.block 3 (Rs [Fa 63 2 13,Lq 64 63,Bc 65 .eql 64 3] (Cn 65 (.reg [Fa 66 5 13,Lq 67 66,Mv 68 15,Mv 69 0,Ld 70 2 true 5,Fa 71 5 13,Lq 72 71,Mv 73 3,Fo [] [0] (.call 74 45 [69,70,72,kS [],73]),Mv 75 0,Ld 76 2 true 5,Fa 77 3 13,Lq 78 77,Fa 79 4 13,Lq 80 79,Mv 81 3,Fo [] [0] (.call 82 45 [75,76,78,80,81]),Ca 83 44 [67,68,74,82],Pp (.mov 15 (.tk 83))] [[],[0],[],[],[],[],[5],[],rg 3 7,[],[],[],[11],[],[13],[],rg 3 15,rg 0 16,rg 0 17]) (Rg [Pp (.mov 84 (.tk 15)),Mv 85 0,Ld 86 2 true 5,Fa 87 3 13,Lq 88 87,Fa 89 4 13,Lq 90 89,Mv 91 3,Ca 92 45 [85,86,88,90,91],Pp (.bsl 93 .pval [92] true),Pp (.app 94 .pval (.tk 84) 93),Pp (.mov 15 (.tk 94))])))) (Rg [Mv 61 16,Bc 62 .add 61 1,Mv 16 62]))
def z7:IR:=Sq (Rs [Mv 95 15,Ll 96 95,Bc 97 .eql 96 0,Mv 98 97,Gf 98 (.fad 99 2 13),Gf 98 (.lde 100 1 false 99),Gf 98 (.bin 101 .eql 100 (kI 0)),Gf 98 (.mov 102 101),Gt 102 (.fad 103 7 13),Gt 102 (.lde 104 1 false 103),Gt 102 (.bin 105 .eql 104 (kI 0)),Gf 98 (.pick 106 102 105 (kB false)),Gf 98 (.mov 107 106),Gt 107 (.fad 108 3 13),Gt 107 (.lde 109 1 false 108),Gt 107 (.bin 110 .neq 109 (kI 16)),Gf 98 (.pick 111 107 110 (kB false)),Gf 98 (.mov 112 111),Gt 112 (.mov 113 15),Gt 112 (.ixa 114 .pval 113 (kI 0)),Gt 112 (.fad 115 0 114),Gt 112 (.ld 116 1 false false 115),Gt 112 (.bin 117 .eql 116 (kU 0)),Gf 98 (.pick 118 112 117 (kB false)),Gf 98 (.mov 119 118),Gt 119 (.mov 120 15),Gt 119 (.ixa 121 .pval 120 (kI 0)),Gt 119 (.fad 122 1 121),Gt 119 (.ld 123 1 false false 122),Gt 119 (.bin 124 .eql 123 (kS [])),Gf 98 (.pick 125 119 124 (kB false)),Po 126 98 125] (Cn 126 (.exit 1) .skip)) (Rg [Ld 127 2 true 5,Ld 128 3 true 10,Ld 129 8 true 13,Pp (.ld 130 2 true false 9),Mv 131 15,Ca 132 46 [127,128,129,130,131],Sv 2 9 132])
def z8:IR:=Rg [Mv 38 12,Bc 39 .add 38 1,Mv 12 39]
def ml:IR:=Sq (Rs [Mv 28 12,Fa 29 1 10,Lq 30 29,Ll 31 30,Bi 32 .lss 28 31,Mv 33 32,Gt 33 (.mov 34 0),Gt 33 (.call 35 42 [34]),Gt 33 (.un 36 .not 35),Pa 37 33 36] (Cn 37 .skip (.exit 0))) (Sq (.block 1 (Rs [Fa 40 1 10,Lq 41 40,Mv 42 12,Ix 43 .pfl 41 42,Ld 44 8 true 43,Pp (.alr 13 8),Fz 13 8 44] (Sq (Rs [Mv 45 0,Ca 46 43 [45,kI 3],Bc 47 .eql 46 0] (Cn 47 (.exit 1) .skip)) (Rs [Mi 14 1] (Sq (Rs [Fa 48 2 13,Lq 49 48,Bc 50 .eql 49 2,Mv 51 50,Gf 51 (.fad 52 2 13),Gf 51 (.lde 53 1 false 52),Gf 51 (.bin 54 .eql 53 (kI 3)),Po 55 51 54] (Cn 55 (Rg [Mv 56 0,Ca 57 43 [56,kI 4],Mv 14 57]) .skip)) (Rs [Pp (.mov 15 (.c (nl .pval)))] (Sq (Rs [Mi 16 0] (.block 2 (.loop [0,3,5,8,9,10,12,13,14,15,16,1000000] 3 abb))) z7))))))) z8)
def z9:IR:=Sq (Rs [Mv 138 17,Bc 139 .gtr 138 0] (Cn 139 .skip (.exit 4))) (Sq (.block 5 (.reg [Fa 142 1 9,Fo [2] [] (.ld 143 1 false false 142),Mv 144 0,Fo [] [0] (.call 145 43 [144,kI 3]),Pp (.bin 146 .add (kI 900) 145),Pp (.bsl 147 (.num .i64) [kI 0,kI 1,kI 2,kI 5] true),Mv 148 0,Fo [] [0] (.call 149 43 [148,kI 4]),Ix 150 (.num .i64) 147 149,Lq 151 150,Mv 152 0,Fo [] [0] (.call 153 43 [152,kI 200]),Pp (.cvi 154 .u64 153),Pp (.bld 155 [vI 0,vI 0,vU 0,vS,vS] [(0,1,146),(1,1,151),(2,1,154),(3,1,kS [114])]),Ca 156 20 [155],Bi 157 .add 143 156,Fa 158 1 9,Fo [] [2] (.st none 1 158 157)] [[],[0],[],[2],[2,3],[],[],[2,3,6],[2,3,5,6,7],[2,3,5,6,7,8],[],[2,3,6,7,10],[2,3,6,7,10,11],rg 2 12,rg 2 13,rg 0 14,rg 0 15,rg 0 16])) (Rg [Mv 140 17,Bc 141 .sub 140 1,Mv 17 141]))
def aaa:IR:=Rs [Pp (.ld 159 2 true false 9),Sv 2 8 159] .ret
def q9:IR:=Sq (Rs [Mv 133 0,Ca 134 43 [133,kI 4],Bc 135 .eql 134 0] (Cn 135 (Rs [Mv 136 0,Ca 137 43 [136,kI 3],Mv 17 137] (.block 4 (.loop [0,8,9,17,1000002] 3 z9))) .skip)) aaa
def aqd:IR:=Rs [Bx 5 1,Pp (.new 8 [fu .pfd false,vS])] (Rs [Pp (.bld 18 [fu .pfd false,vS] []),Pp (.new 9 [fu .pfd false,vS]),Sv 2 9 18] (Rs [Ld 20 2 true 5,Mv 21 2,Ca 22 41 [20,21],Mv 19 22,Ex_ 23 0 19,Ex_ 24 1 19,Pp (.alr 10 3),Fz 10 3 23,Mv 11 24] (Sq (Rs [Mv 25 3,Bc 26 .gtr 25 4] (Cn 26 (Rs [Pp (.ld 27 2 true false 9),Sv 2 8 27] .ret) .skip)) (Sq (Rs [Mi 12 0] (.block 0 (.loop [0,3,5,8,9,10,12,1000001] 3 ml))) q9))))
def pA:List RV:=[.cell 8 2 true]
theorem aqe:FnC Tryz.prog du [42,43,45,2000042,2000043,2000045] 1 13 Tryz.f13 aqd pA:=fnC Tryz.func13
def ou(R:TRr)(a:TS):TE:=(bu a [0,3,5,8,9,10,12,1000001] 3 (aP 0 (kseq (R q9) (fin pA))))
abbrev dX:Type:=(Int×List PMs×List PEn×PMs×Int×Bs×Int×List (Int×List aC)×Bs×List (Int×List aC)×Bs)
def cN:dX->St:=λ(b,c,d,e,f,g,h,i,j,k,a)=>{env:=(.ptr 0 0::.undef::.undef::vI b::.undef::.ea [vF .pms c,vF .pen d]::.undef::.undef::.ptr 1 0::.ptr 2 0::.ea (enc .pms e)::.undef::vI f::(U 147 [])),hp:=[some [vF .u8 g,vI h],some [vF .pfd i,vT j],some [vF .pfd k,vT a]]}
def aoe(R:TRr)(a b:TS):TE:=(bu b [0,3,5,8,9,10,12,13,14,15,16,1000000] 3 (aP 2 (kseq (R z7) (aP 1 (kseq (R z8) (ou R a))))))
abbrev gX:Type:=(Int×List PMs×List PEn×PMs×Int×PFl×Int×List aC×Int×Bs×Int×List (Int×List aC)×Bs×List (Int×List aC)×Bs)⊕(Int×List PMs×List PEn×PMs×Int×PFl×Int×List aC×Int×Bs×Int×List (Int×List aC)×Bs×List (Int×List aC)×Bs)
def air:(Int×List PMs×List PEn×PMs×Int×PFl×Int×List aC×Int×Bs×Int×List (Int×List aC)×Bs×List (Int×List aC)×Bs)->St:=λ(f,g,h,i,j,k,l,m,n,o,a,b,c,d,e)=>{env:=(.ptr 0 0::.undef::.undef::vI f::.undef::.ea [vF .pms g,vF .pen h]::.undef::.undef::.ptr 1 0::.ptr 2 0::.ea (enc .pms i)::.undef::vI j::.ea (enc .pfl k)::vI l::vO .pval m::vI n::(U 143 [])),hp:=[some [vF .u8 o,vI a],some [vF .pfd b,vT c],some [vF .pfd d,vT e]]}
def ais:(Int×List PMs×List PEn×PMs×Int×PFl×Int×List aC×Int×Bs×Int×List (Int×List aC)×Bs×List (Int×List aC)×Bs)->St:=λ(f,g,h,i,j,k,l,m,n,o,a,b,c,d,e)=>{env:=(.ptr 0 0::.undef::.undef::vI f::.undef::.ea [vF .pms g,vF .pen h]::.undef::.undef::.ptr 1 0::.ptr 2 0::.ea (enc .pms i)::.undef::vI j::.ea (enc .pfl k)::vI l::vF .pval m::vI n::(U 143 [])),hp:=[some [vF .u8 o,vI a],some [vF .pfd b,vT c],some [vF .pfd d,vT e]]}
def ga:gX->St
 |(Sum.inl x)=>air x
 |(Sum.inr x)=>ais x
def oz(N:Nat)(a:TS):TS->TS:=λb s=>run du N abb (aoe (run du N) a b) s
def gY(N:Nat)(p:dX->Ro)(m:gX->Ro)(x:gX):Ro:=
 match x with
 |(Sum.inl (t,b,c,h,g,a,q,f,r,i,j,k,l,d,e))=>
  let o:=λE D B=>p (t,b,c,h,E,i,j,k,l,D,B)
  cond (decide (r<q)) (
   cond (a.label==3) (
    aA (d4 i j b c a.key [] t) (λC=>
     aA (d4 C.2.1 C.2.2 b c a.kind a.typ t) (λF=>
      aA (oZ a.key f (reP C.1) (reP F.1)) (λ(r7:List aC)=>
       let W:=(Ab .i64 (r+1))
       m (Sum.inr (t,b,c,h,g,a,q,r7,W,F.2.1,F.2.2,k,l,d,e)))))) (
    aA (d4 i j b c a.kind a.typ t) (λA=>
     chk (decide ((Aa f+Aa ([(reP A.1)]:List aC))*64<=140737488355328)) (
      let Q:=(f++([(reP A.1)]:List aC))
      let x6:=(Ab .i64 (r+1))
      m (Sum.inl (t,b,c,h,g,a,q,Q,x6,A.2.1,A.2.2,k,l,d,e)))))) (
   let x7:=(↑(Aa f):Int)
   cond (x7==0) (
    let x8:=(Ab .i64 (g+1))
    o x8 d e) (
    cond (a.label==0) (
     cond (a.oneof==0) (
      cond (!(a.kind==16)) (
       chk (decide ((0:Int)<↑(Aa f))) (
        let x9:=(Ai f (Ad 0) (aK .pval))
        cond (x9.n==0) (
         chk (decide ((0:Int)<↑(Aa f))) (
          let Y:=(Ai f (Ad 0) (aK .pval))
          let X:=decide (Y.s=[])
          cond X (
           let ao:=(Ab .i64 (g+1))
           o ao d e) (
           aA (cI b c h a d e f) (λL=>
            let ap:=(Ab .i64 (g+1))
            o ap L.1 L.2)))) (
         aA (cI b c h a d e f) (λw=>
          let aq:=(Ab .i64 (g+1))
          o aq w.1 w.2)))) (
       aA (cI b c h a d e f) (λy=>
        let ar:=(Ab .i64 (g+1))
        o ar y.1 y.2))) (
      aA (cI b c h a d e f) (λz=>
       let R:=(Ab .i64 (g+1))
       o R z.1 z.2))) (
     aA (cI b c h a d e f) (λH=>
      let av:=(Ab .i64 (g+1))
      o av H.1 H.2))))
 |(Sum.inr (t,b,c,h,g,a,q,f,r,i,j,k,l,d,e))=>
  let o:=λE D B=>p (t,b,c,h,E,i,j,k,l,D,B)
  cond (decide (r<q)) (
   cond (a.label==3) (
    aA (d4 i j b c a.key [] t) (λu=>
     aA (d4 u.2.1 u.2.2 b c a.kind a.typ t) (λv=>
      aA (oZ a.key f (reP u.1) (reP v.1)) (λ(aw:List aC)=>
       let S:=(Ab .i64 (r+1))
       m (Sum.inr (t,b,c,h,g,a,q,aw,S,v.2.1,v.2.2,k,l,d,e)))))) (
    aA (d4 i j b c a.kind a.typ t) (λbh=>
     none))) (
   let Z:=(↑(Aa f):Int)
   cond (Z==0) (
    let az:=(Ab .i64 (g+1))
    o az d e) (
    cond (a.label==0) (
     cond (a.oneof==0) (
      cond (!(a.kind==16)) (
       chk (decide ((0:Int)<↑(Aa f))) (
        let P:=(Ai f (Ad 0) (aK .pval))
        cond (P.n==0) (
         chk (decide ((0:Int)<↑(Aa f))) (
          let a1:=(Ai f (Ad 0) (aK .pval))
          let a2:=decide (a1.s=[])
          cond a2 (
           let a3:=(Ab .i64 (g+1))
           o a3 d e) (
           aA (cI b c h a d e f) (λI=>
            let a4:=(Ab .i64 (g+1))
            o a4 I.1 I.2)))) (
         aA (cI b c h a d e f) (λM=>
          let a5:=(Ab .i64 (g+1))
          o a5 M.1 M.2)))) (
       aA (cI b c h a d e f) (λG=>
        let a6:=(Ab .i64 (g+1))
        o a6 G.1 G.2))) (
      aA (cI b c h a d e f) (λJ=>
       let a7:=(Ab .i64 (g+1))
       o a7 J.1 J.2))) (
     aA (cI b c h a d e f) (λO=>
      let a8:=(Ab .i64 (g+1))
      o a8 O.1 O.2))))
theorem amb(N:Nat)(b:TS):∀(a:TS)(x:gX),oz N b a (ga x)=gY N (λy=>b (cN y)) (λy=>a (ga y)) x:=by intro a x;rcases x with x|x<;>kernel_rfl
def aof(R:TRr)(a:TS):TE:=(bu a [0,8,9,17,1000002] 3 (aP 4 (kseq (R aaa) (fin pA))))
abbrev kA:Type:=(Int×Bs×Int×List (Int×List aC)×Bs×List (Int×List aC)×Bs)
def jC:kA->St:=λ(a,b,c,d,e,f,g)=>{env:=(.ptr 0 0::(U 7 (.ptr 1 0::.ptr 2 0::(U 7 (vI a::(U 142 [])))))),hp:=[some [vF .u8 b,vI c],some [vF .pfd d,vT e],some [vF .pfd f,vT g]]}
def oA(N:Nat):TS->TS:=λa s=>run du N z9 (aof (run du N) a) s
def fH(N:Nat)(c:kA->Ro):kA->Ro:=λ(i,e,f,j,k,b,a)=>cond (decide (0<i)) (aA (bo e f 3) (λg=>let m:=(Ab .i64 (900+g.1));aA (bo g.2.1 g.2.2 4) (λd=>chk (ixl d.1 [0,1,2,5]) (let n:=Ai [0,1,2,5] (Ad d.1) (aK (.num .i64));aA (bo d.2.1 d.2.2 200) (λh=>let o:=(Ab .u64 h.1);aA (aek ⟨m,n,o,[114],[]⟩) (λ(l:Bs)=>chk (decide (Aa a+Aa l<=9223372036854775807)) (let p:=(Ab .i64 (i-1));c (p,h.2.1,h.2.2,j,k,b,(a++l))))))))) (some (.agg [vF .pfd b,vT a],[some [vF .u8 e,vI f],some [vF .pfd b,vT a],some [vF .pfd b,vT a]]))
theorem amc(N:Nat):LB (oA N) jC (fH N):=λ_ _=>by kernel_rfl
def oB(N:Nat):TS->TS:=λa s=>run du N ml (ou (run du N) a) s
def nt(N:Nat)(i:dX->Ro)(E:gX->Ro)(x:kA->Ro):dX->Ro:=λ(y,k,l,e,f,m,n,c,d,a,b)=>let D:=(↑(Aa e.fields):Int);let t:=λu v A B=>E (Sum.inl (y,k,l,e,f,u,v,[],0,A,B,c,d,a,b));let z:=λu v=>(some (.agg [vF .pfd a,vT b],[some [vF .u8 u,vI v],some [vF .pfd a,vT b],some [vF .pfd a,vT b]]):Ro);cond (decide (f<D)) (aA (lH m n) (λr=>cond (!r.1) (chk (ixl f e.fields) (let s:=(Ai e.fields (Ad f) (aK .pfl));aA (bo r.2.1 r.2.2 3) (λj=>cond (j.1==0) (let C:=(Ab .i64 (f+1));i (y,k,l,e,C,j.2.1,j.2.2,c,d,a,b)) (cond (s.label==2) (aA (bo j.2.1 j.2.2 4) (λw=>t s w.1 w.2.1 w.2.2)) (cond (s.label==3) (aA (bo j.2.1 j.2.2 4) (λo=>t s o.1 o.2.1 o.2.2)) (t s 1 j.2.1 j.2.2)))))) (aA (bo r.2.1 r.2.2 4) (λg=>cond (g.1==0) (aA (bo g.2.1 g.2.2 3) (λp=>x (p.1,p.2.1,p.2.2,c,d,a,b))) (z g.2.1 g.2.2))))) (aA (bo m n 4) (λh=>cond (h.1==0) (aA (bo h.2.1 h.2.2 3) (λq=>x (q.1,q.2.1,q.2.2,c,d,a,b))) (z h.2.1 h.2.2)))
def oC(N:Nat)(a:dX->Ro)(x:dX):Ro:=nt N a (λz=>aN N (gY N a) z) (λz=>aN N (fH N) z) x
def uk(N:Nat)(a:TS):List (Nat×(TS)):=(cU du N ml (ou (run du N) a)++(cU du N q9 (fin pA)++[]))
theorem amd(N:Nat):∀(a:TS)(x:dX),oB N a (cN x)=oC N (λy=>a (cN y)) x:=by
 intro a x;have d:∀C:Nat->TS,cY C du N ml (ou (cY C du N) a) (cN x)=nt N (λy=>a (cN y)) (λz=>C 1000000 (ga z)) (λz=>C 1000002 (jC z)) x:=by intro C;kernel_rfl
 have h:oB N a (cN x)=nt N (λy=>a (cN y)) (λz=>aZ N (oz N a) (ga z)) (λz=>aZ N (oA N) (jC z)) x:=(ff (C:=iw (uk N a)) (dU (cb (l:=(uk N a)) (by kernel_rfl))) (jm (eK (nP (dU (kL (cb (l:=(uk N a)) (by kernel_rfl)))) rfl))) _).trans ((d _).trans (by kernel_rfl));have c:(λz=>aZ N (oz N a) (ga z))=(λz=>aN N (gY N (λy=>a (cN y))) z):=funext λz=>aW (ga) (oz N a) (gY N (λy=>a (cN y))) (amb N a) N z
 have b:(λz=>aZ N (oA N) (jC z))=(λz=>aN N (fH N) z):=funext λz=>aW (jC) (oA N) (fH N) (amc N) N z
 rw[h,c,b];rfl
def i9(N:Nat)(a:Bs)(b:Int)(c:List PMs)(d:List PEn)(f:Bs)(e:Int)(g:dX->Ro):Ro:=aA (pK c d f) (λh=>cond (decide (4<e)) (some (.agg [vF .pfd ([]:List (Int×List aC)),vT []],[some [vF .u8 a,vI b],some [vF .pfd ([]:List (Int×List aC)),vT []],some [vF .pfd ([]:List (Int×List aC)),vT []]])) (g (e,c,d,h.1,0,a,b,([]:List (Int×List aC)),[],([]:List (Int×List aC)),[])))
def vJ(N:Nat)(a:Bs)(b:Int)(c:List PMs)(d:List PEn)(e:Bs)(f:Int):Ro:=i9 N a b c d e f (λz=>aN N (oC N) z)
theorem acT(N:Nat)(a:Bs)(c:Int)(d:List PMs)(g:List PEn)(i:Bs)(j:Int)(h:Tot (vJ N a c d g i j) (λz=>∃k l m n rest,z.1.dimR=.agg [vF .pfd k,vT l]∧z.2=some [vF .u8 m,vI n]::rest∧aa6 a c d g i j (k,l,m,n))):∃r,fG a c d g i j r:=FnC.finO (css:=[[vF .u8 a,vI c]]) aqe (N:=N) ((bK _ (by kernel_rfl) rfl (λC=>i9 N a c d g i j (λz=>C 1000001 (cN z))) (λC=>by kernel_rfl)).trans (AE (b:=i9 N a c d g i j (λz=>aZ N (oB N) (cN z))) (by kernel_rfl) (congrArg (i9 N a c d g i j) (funext λz=>aW (cN) (oB N) (oC N) (amd N) N z)))) h λ_ ⟨k,l,m,n,_,e,f,q⟩=>⟨(k,l,m,n),e,⟨_,f⟩,q⟩
def ara:aI:=tb_ [] [] [] []
def aog:IR:=Rs [Pp (.mov 2 (.c .nilp))] (Rs [Mv 3 0,Pp (.bld 4 [nl .u8,vI 0] [(0,1,3)]),Pp (.box 5 4),Mv 2 5] .ret)
theorem aBz:FnC Tryz.prog ara [] 0 11 Tryz.f11 aog aE:=fnC Tryz.func11
def aoh(N:Nat)(a:Bs):Ro:=some (.ptr 0 0,[some [vF .u8 a,vI 0]])
def afp(N:Nat)(a:Bs):Ro:=aoh N a
theorem ayZ(N:Nat)(a:Bs):callF ara N 6 aE aog [.sl .u8 (.may false) a] []=afp N a:=by kernel_rfl
theorem ay0(N:Nat)(a:Bs)(h:Tot (afp N a) (λz=>∃(b c:_)(rest:List aJ),z=(.ptr 0 0,[some [vF .u8 b,vI c]])∧aif a (b,c))):∃r,wu a r:=by obtain⟨z,d,b,c,rest,rfl,e⟩:=h;exact⟨(b,c),aBz.newFn (ayZ N a) d,e⟩
def aGZ:aI:=tb_ [] [] [] [aDm,ayr]
def aui:IR:=Rs [Pp (.new 2 [nl .pms,nl .pen]),Mb 3 false] (Rs [Mv 12 0,Pp (.bld 13 [vS,vS] [(0,1,kS [120]),(1,1,12)]),Pp (.bsl 14 .src [13] true),Ca 15 76 [14],Mv 11 15,Ex_ 16 0 11,Ex_ 17 1 11,Ex_ 18 2 11,Ex_ 19 3 11,Mv 4 16,Mv 5 17,Mv 6 18,Mv 7 19] (Sq (Rs [Mv 20 5,Bc 21 .neq 20 0] (Cn 21 (Rs [Pp (.bld 22 [fu .pms true,fu .pen true] []),Sv 2 2 22,Mb 3 false] .ret) .skip)) (Rs [Mv 24 4,Ca 25 77 [24],Mv 23 25,Ex_ 26 0 23,Ex_ 27 1 23,Ex_ 28 2 23,Pp (.alr 8 2),Fz 8 2 26,Mv 9 27,Mv 10 28] (Rs [Ld 29 2 true 8,Mv 30 9,Bc 31 .eql 30 0,Sv 2 2 29,Mv 3 31] .ret))))
theorem aFz:FnC Tryz.prog aGZ [] 0 39 Tryz.f39 aui sG:=fnC Tryz.func39
def auj(N:Nat)(g:Bs):Ro:=let c:=λa d e h=>(some (.tup [.agg [.sl .pms (.may a) d,.sl .pen (.may a) e],vB h],[some [.sl .pms (.may a) d,.sl .pen (.may a) e]]):Ro);aA (ab8 ([⟨([120]:Bs),g⟩]:List et)) (λf=>cond (!(f.2.1==0)) (c true [] [] false) (aA (wN f.1) (λb=>c false b.1 b.2.1 (b.2.2.1==0))))
def auk(N:Nat)(a:Bs):Ro:=auj N a
theorem aDI(N:Nat)(d:Bs)(h:Tot (auk N d) (λz=>∃a b c rest,z.1.dimR=.tup [.agg [vF .pms a,vF .pen b],vB c]∧z.2=rest∧anZ d (a,b,c))):∃r,agC d r:=aFz.finP (N:=N) (by kernel_rfl) h λ_ ⟨a,b,c,_,e,_,q⟩=>⟨(a,b,c),e,q⟩
abbrev dQ:List Nat:=[126,176,178,205,206,207,208,209,210,211,212,213,214,215,227,228,229,230,231,232,233,235,242,243,245,247,248,249,2000126,2000176,2000178,2000205,2000206,2000207,2000208,2000209,2000210,2000211,2000212,2000213,2000214,2000215,2000227,2000228,2000229,2000230,2000231,2000232,2000233,2000235,2000242,2000243,2000245,2000247,2000248,2000249]
def aqf:bO Tryz.prog dQ:={id:=243,k:=1,fn:=Tryz.f243,ir:=anq,rs:=anr,func:=Tryz.func243}
def ame:bO Tryz.prog dQ:={id:=242,k:=1,fn:=Tryz.f242,ir:=zj,rs:=aR,func:=Tryz.func242}
def aqg:bO Tryz.prog dQ:={id:=245,k:=1,fn:=Tryz.f245,ir:=acu,rs:=aR,func:=Tryz.func245}
def aoi:bO Tryz.prog dQ:={id:=227,k:=1,fn:=Tryz.f227,ir:=aav,rs:=bm,func:=Tryz.func227}
def amf:bO Tryz.prog dQ:={id:=247,k:=1,fn:=Tryz.f247,ir:=zo,rs:=cF,func:=Tryz.func247}
def aqh:bO Tryz.prog dQ:={id:=248,k:=1,fn:=Tryz.f248,ir:=acx,rs:=cF,func:=Tryz.func248}
def cz:bO Tryz.prog dQ:={id:=228,k:=1,fn:=Tryz.f228,ir:=acz,rs:=cF,func:=Tryz.func228}
def ay1:bO Tryz.prog dQ:={id:=244,k:=0,fn:=Tryz.f244,ir:=ahG,rs:=aE,func:=Tryz.func244}
def aBA:bO Tryz.prog dQ:={id:=246,k:=0,fn:=Tryz.f246,ir:=akO,rs:=aE,func:=Tryz.func246}
def aBB:bO Tryz.prog dQ:={id:=252,k:=0,fn:=Tryz.f252,ir:=akR,rs:=aE,func:=Tryz.func252}
def aqi:bO Tryz.prog dQ:={id:=208,k:=1,fn:=Tryz.f208,ir:=acA,rs:=cF,func:=Tryz.func208}
def aoj:bO Tryz.prog dQ:={id:=206,k:=1,fn:=Tryz.f206,ir:=aay,rs:=bm,func:=Tryz.func206}
def aok:bO Tryz.prog dQ:={id:=210,k:=1,fn:=Tryz.f210,ir:=aaB,rs:=aR,func:=Tryz.func210}
def aol:bO Tryz.prog dQ:={id:=211,k:=1,fn:=Tryz.f211,ir:=aaE,rs:=aR,func:=Tryz.func211}
def aom:bO Tryz.prog dQ:={id:=207,k:=1,fn:=Tryz.f207,ir:=aaH,rs:=bm,func:=Tryz.func207}
def aon:bO Tryz.prog dQ:={id:=205,k:=1,fn:=Tryz.f205,ir:=aaK,rs:=aR,func:=Tryz.func205}
def amg:bO Tryz.prog dQ:={id:=229,k:=1,fn:=Tryz.f229,ir:=zt,rs:=aE,func:=Tryz.func229}
def aoo:bO Tryz.prog dQ:={id:=212,k:=1,fn:=Tryz.f212,ir:=aaN,rs:=aE,func:=Tryz.func212}
def aqj:bO Tryz.prog dQ:={id:=235,k:=1,fn:=Tryz.f235,ir:=acD,rs:=aE,func:=Tryz.func235}
def aop:bO Tryz.prog dQ:={id:=209,k:=1,fn:=Tryz.f209,ir:=aaQ,rs:=aE,func:=Tryz.func209}
def aoq:bO Tryz.prog dQ:={id:=213,k:=1,fn:=Tryz.f213,ir:=aaT,rs:=aR,func:=Tryz.func213}
def amh:bO Tryz.prog dQ:={id:=232,k:=2,fn:=Tryz.f232,ir:=zw,rs:=bm,func:=Tryz.func232}
def aor:bO Tryz.prog dQ:={id:=249,k:=2,fn:=Tryz.f249,ir:=aaW,rs:=bm,func:=Tryz.func249}
def ami:bO Tryz.prog dQ:={id:=233,k:=2,fn:=Tryz.f233,ir:=zz,rs:=bm,func:=Tryz.func233}
def ait:bO Tryz.prog dQ:={id:=214,k:=1,fn:=Tryz.f214,ir:=we,rs:=oW,func:=Tryz.func214}
def aBC:bO Tryz.prog dQ:={id:=234,k:=0,fn:=Tryz.f234,ir:=akU,rs:=aE,func:=Tryz.func234}
def aDJ:bO Tryz.prog dQ:={id:=182,k:=0,fn:=Tryz.f182,ir:=anF,rs:=aE,func:=Tryz.func182}
def aos:bO Tryz.prog dQ:={id:=177,k:=0,fn:=Tryz.f177,ir:=akW,rs:=adn,func:=Tryz.func177}
def aul:bO Tryz.prog dQ:={id:=204,k:=0,fn:=Tryz.f204,ir:=aqW,rs:=eR,func:=Tryz.func204}
def aFA:bO Tryz.prog dQ:={id:=179,k:=0,fn:=Tryz.f179,ir:=aqY,rs:=aR,func:=Tryz.func179}
def aDK:bO Tryz.prog dQ:={id:=216,k:=0,fn:=Tryz.f216,ir:=anJ,rs:=aR,func:=Tryz.func216}
def ay2:bO Tryz.prog dQ:={id:=180,k:=0,fn:=Tryz.f180,ir:=ah3,rs:=gS,func:=Tryz.func180}
def aFB:bO Tryz.prog dQ:={id:=127,k:=0,fn:=Tryz.f127,ir:=aq0,rs:=aE,func:=Tryz.func127}
def aqk:bO Tryz.prog dQ:={id:=131,k:=0,fn:=Tryz.f131,ir:=acG,rs:=aR,func:=Tryz.func131}
def aFC:bO Tryz.prog dQ:={id:=181,k:=0,fn:=Tryz.f181,ir:=aq2,rs:=aR,func:=Tryz.func181}
def awp:bO Tryz.prog dQ:={id:=130,k:=0,fn:=Tryz.f130,ir:=agt,rs:=eG,func:=Tryz.func130}
def ay3:bO Tryz.prog dQ:={id:=77,k:=0,fn:=Tryz.f77,ir:=ah7,rs:=pV,func:=Tryz.func77}
def aDL:bO Tryz.prog dQ:={id:=76,k:=0,fn:=Tryz.f76,ir:=anP,rs:=zP,func:=Tryz.func76}
def aj2:bO Tryz.prog dQ:={id:=176,k:=1,fn:=Tryz.f176,ir:=ye,rs:=gT,func:=Tryz.func176}
def aot:bO Tryz.prog dQ:={id:=126,k:=1,fn:=Tryz.f126,ir:=aa2,rs:=bm,func:=Tryz.func126}
def aDM:bO Tryz.prog dQ:={id:=53,k:=0,fn:=Tryz.f53,ir:=anU,rs:=aE,func:=Tryz.func53}
def aBD:bO Tryz.prog dQ:={id:=74,k:=0,fn:=Tryz.f74,ir:=ak6,rs:=aE,func:=Tryz.func74}
def aBE:bO Tryz.prog dQ:={id:=125,k:=0,fn:=Tryz.f125,ir:=ak5,rs:=dF,func:=Tryz.func125}
def axu:bO Tryz.prog dQ:={id:=39,k:=0,fn:=Tryz.f39,ir:=aui,rs:=sG,func:=Tryz.func39}
def kC:wC Tryz.prog dQ:={n:=[],o:=[aqf,ame,aqg,aoi,amf,aqh,cz,aqi,aoj,aok,aol,aom,aon,amg,aoo,aqj,aop,aoq,amh,aor,ami,ait,aj2,aot],ls:=[],g:=[ay1,aBA,aBB,aBC,aDJ,aos,aul,aFA,aDK,ay2,aFB,aqk,aFC,awp,ay3,aDL,aDM,aBD,aBE,axu]}
end Go.Proofs.YtndccphabnjkhaaGreat
end
