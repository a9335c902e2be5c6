import Derived.KernelRfl
import Derived.Test.YtdpajabhmmmjoaaGreatChecked
import Derived.ChangeArms
import Derived.ChangeSlices
import Derived.WideShapes
import Derived.WideKeyArgs
import Derived.Test.YtdpajabhmmmjoaaGreatZ02
import Derived.Test.YtdpajabhmmmjoaaGreatZ03
import Derived.Test.YtdpajabhmmmjoaaGreatZ04
import Derived.Test.YtdpajabhmmmjoaaGreatZ06
noncomputable section
namespace Go.Proofs.YtdpajabhmmmjoaaGreat
open Go.AM
set_option autoImplicit false
set_option linter.unusedVariables false
set_option maxRecDepth 100000
noncomputable def acl:aN:=tab (P:=Tryz.prog) [] [] [] []
def acR:IR:=Sq (Rs [Mv 8 6,Bc 9 .lss 8 10] (Cn 9 .skip (.exit 0))) (Sq (.block 1 (Sq (Rs [Mv 12 6,Mv 13 0,Pp (.lens 14 13),Bi 15 .eql 12 14] (Cn 15 (.exit 0) .skip)) (Rs [Mv 16 0,Mv 17 6,Pp (.idx 18 16 17),Pp (.cvi 19 .u64 18),Mv 7 19] (Sq (Rs [Mv 20 6,Bc 21 .eql 20 9,Mv 22 21,Gt 22 (.mov 23 7),Gt 22 (.bin 24 .gtr 23 (kU 1)),Pa 25 22 24] (Cn 25 (.exit 0) .skip)) (Rs [Mv 26 5,Mv 27 7,Pp (.bin 28 .rem 27 (kU 128)),Mv 29 6,Pp (.bin 30 .mul (kI 7) 29),Bi 31 .shl 28 30,Bi 32 .or 26 31,Mv 5 32] (Rs [Mv 33 7,Pp (.bin 34 .lss 33 (kU 128))] (Cn 34 (Rs [Mv 35 5,Mv 36 6,Bc 37 .add 36 1,Mv 2 35,Mv 3 37,Mi 4 0] .ret) .skip))))))) (Rg [Mv 10 6,Bc 11 .add 10 1,Mv 6 11]))
def acS:IR:=Rs [Pp (.mov 2 (kU 0)),Mi 3 0,Mi 4 2] .ret
def atT:IR:=Rs [Pp (.mov 2 (kU 0)),Mi 3 0,Mi 4 0] (Rs [Pp (.mov 5 (kU 0))] (Sq (Rs [Mi 6 0] (.block 0 (.loop [0,5,6,1000000] 0 acR))) acS))
def ahE:List RV:=[.t 2,.t 3,.t 4]
theorem atU:FnC Tryz.prog acl [] 0 ajk Tryz.f73 atT ahE:=fnC Tryz.func73
def arS(R:IR→(Ex→St→Ro)→St→Ro)(a:St→Ro):Ex→St→Ro:=(bF a [0,5,6,1000000] 0 (aQ 0 (bv (R acS) (fin ahE))))
abbrev tO:Type:=(Bs×Int×Int)
def rR:tO→St:=fun(a,b,c)=>{env:=(.str a::(U 4 (.int .u64 b::.int .i64 c::(U 31 [])))),hp:=[]}
def zQ(N:Nat):(St→Ro)→St→Ro:=fun a s=>run acl N acR (arS (run acl N) a) s
def mv(N:Nat)(a:tO→Ro):tO→Ro:=fun(c,l,b)=>
 let d:=fun o p q=>(some (.tup [.int .u64 o,.int .i64 p,.int .i64 q],[]):Ro)
 cond (decide (b<10)) (
 let r:=(↑(List.length c):Int)
 cond (b==r) (
 d 0 0 2) (
 chk (ixl b c) (
 let e:=(↑(UInt8.toNat (List.getD c (Int.toNat b) 0)):Int)
 cond (b==9) (
 let s:=decide (1<(IntKind.wrap .u64 e))
 cond s (
 d 0 0 2) (
 let t:=(Int.tmod (IntKind.wrap .u64 e) 128)
 let m:=(IntKind.wrap .i64 (7*b))
 chk (decide (0≤m)) (
 let n:=(bJ .or .u64 l (eV .u64 t m))
 let u:=decide ((IntKind.wrap .u64 e)<128)
 cond u (
 let v:=(IntKind.wrap .i64 (b+1))
 d n v 0) (
 let w:=(IntKind.wrap .i64 (b+1))
 a (c,n,w))))) (
 let h:=(Int.tmod (IntKind.wrap .u64 e) 128)
 let f:=(IntKind.wrap .i64 (7*b))
 chk (decide (0≤f)) (
 let g:=(bJ .or .u64 l (eV .u64 h f))
 let i:=decide ((IntKind.wrap .u64 e)<128)
 cond i (
 let j:=(IntKind.wrap .i64 (b+1))
 d g j 0) (
 let k:=(IntKind.wrap .i64 (b+1))
 a (c,g,k))))))) (
 d 0 0 2)
theorem apU(N:Nat):LB (zQ N) rR (mv N):=fun _ _=>by kernel_rfl
def vA(N:Nat)(a:Bs)(b:tO→Ro):Ro:=
 b (a,0,0)
def ahF(N:Nat)(a:Bs):Ro:=vA N a (fun z=>aS N (mv N) z)
theorem arT(N:Nat)(a:Bs)(h:Tot (ahF N a) (fun z=>∃(c:Int)(d:Int)(f:Int)(rest:List aJ),z.1.dimR=.tup [.int .u64 c,.int .i64 d,.int .i64 f]∧z.2=rest∧adr a (c,d,f))):∃r,rX a r:=atU.finP (N:=N) ((bM _ (by kernel_rfl) rfl (fun C=>vA N a (fun z=>C 1000000 (rR z))) (fun C=>by kernel_rfl)).trans (Eq.trans (b:=vA N a (fun z=>bo N (zQ N) (rR z))) (by kernel_rfl) (congrArg (vA N a) (funext fun z=>bk (rR) (zQ N) (mv N) (apU N) N z)))) h fun _ ⟨c,d,f,_,e,_,q⟩=>⟨(c,d,f),e,q⟩
noncomputable def aAL:aN:=tab (P:=Tryz.prog) [] [] [] []
def azr:IR:=Rs [Pp (.mov 2 (kU 0))] (Sq (Rs [Mv 3 0,Pp (.bin 4 .rem 3 (kU 2)),Pp (.bin 5 .eql 4 (kU 1))] (Cn 5 (Rs [Mv 6 0,Pp (.bin 7 .quo 6 (kU 2)),Pp (.un 8 .xor 7),Mv 2 8] .ret) .skip)) (Rs [Mv 9 0,Pp (.bin 10 .quo 9 (kU 2)),Mv 2 10] .ret))
def azs:List RV:=[.t 2]
theorem azt:FnC Tryz.prog aAL [] 0 aqm Tryz.f98 azr azs:=fnC Tryz.func98
def aow(N:Nat)(a:Int):Ro:=
 cond ((Int.tmod a 2)==1) (
 let b:=(IntKind.wrap .u64 (Int.tdiv a 2))
 let c:=(bJ .xor .u64 (if IntKind.signed .u64 then -1 else IntKind.max .u64) b)
 some (.int .u64 c,[])) (
 let d:=(IntKind.wrap .u64 (Int.tdiv a 2))
 some (.int .u64 d,[]))
def aox(N:Nat)(a:Int):Ro:=aow N a
theorem ayj(N:Nat)(b:Int)(h:Tot (aox N b) (fun z=>∃(a:Int)(rest:List aJ),z.1.dimR=.int .u64 a∧z.2=rest∧ajj b (a))):∃r,uQ b r:=azt.finP (N:=N) (by kernel_rfl) h fun _ ⟨a,_,e,_,q⟩=>⟨(a),e,q⟩
noncomputable def azu:aN:=tab (P:=Tryz.prog) [] [] [] [ajA,aAk]
def ayk:IR:=Rs [Pp (.mov 4 (kU 0))] (Sq (Rs [Mv 5 0] (.block 0 (Sq (Rs [Bc 7 .eql 5 3,Mv 6 7] (Cn 6 .skip (Rs [Bc 8 .eql 5 17,Mv 6 8] (Cn 6 .skip (Rg [Bc 9 .eql 5 11,Mv 6 9]))))) (Cn 6 (Rs [Mv 10 1,Ca 11 76 [10],Mv 4 11] .ret) (Sq (Rs [Bc 13 .eql 5 5,Mv 12 13] (Cn 12 .skip (Rs [Bc 14 .eql 5 9,Mv 12 14] (Cn 12 .skip (Rg [Bc 15 .eql 5 2,Mv 12 15]))))) (Cn 12 (Rs [Mv 16 1,Pp (.bin 17 .rem 16 (kU 4294967296)),Mv 4 17] .ret) (Rs [Bc 19 .eql 5 13,Mv 18 19] (Cn 18 (Rs [Mv 20 1,Pp (.mx 21 true 20 (kU 1)),Mv 4 21] .ret) (Rs [Bc 23 .eql 5 7,Mv 22 23] (Cn 22 (Rs [Mv 24 1,Pp (.bin 25 .rem 24 (kU 4294967296)),Ca 26 98 [25],Ca 27 76 [26],Mv 4 27] .ret) (Rs [Bc 29 .eql 5 8,Mv 28 29] (Cn 28 (Rs [Mv 30 1,Ca 31 98 [30],Mv 4 31] .ret) .skip)))))))))))) (Rs [Mv 32 1,Mv 4 32] .ret))
def ayl:List RV:=[.t 4]
theorem aym:FnC Tryz.prog azu [] 0 an5 Tryz.f74 ayk ayl:=fnC Tryz.func74
def amV(N:Nat)(a b:Int):Ro:=
 let c:=(some (.int .u64 (Int.tmod b 4294967296),[]):Ro)
 cond (a==3) (
 aE (im b) (fun(d:Int)=>
 some (.int .u64 d,[]))) (
 cond (a==17) (
 aE (im b) (fun(e:Int)=>
 some (.int .u64 e,[]))) (
 cond (a==11) (
 aE (im b) (fun(f:Int)=>
 some (.int .u64 f,[]))) (
 cond (a==5) (
 c) (
 cond (a==9) (
 c) (
 cond (a==2) (
 c) (
 cond (a==13) (
 let g:=(if 1<b then 1 else b)
 some (.int .u64 g,[])) (
 cond (a==7) (
 aE (uQ (Int.tmod b 4294967296)) (fun(h:Int)=>
 aE (im h) (fun(i:Int)=>
 some (.int .u64 i,[])))) (
 cond (a==8) (
 aE (uQ b) (fun(j:Int)=>
 some (.int .u64 j,[]))) (
 some (.int .u64 b,[]))))))))))
def amW(N:Nat)(a b:Int):Ro:=amV N a b
theorem awh(N:Nat)(b c:Int)(h:Tot (amW N b c) (fun z=>∃(a:Int)(rest:List aJ),z.1.dimR=.int .u64 a∧z.2=rest∧agw b c (a))):∃r,ww b c r:=aym.finP (N:=N) (by kernel_rfl) h fun _ ⟨a,_,e,_,q⟩=>⟨(a),e,q⟩
noncomputable def ai5:aN:=tab (P:=Tryz.prog) [] [] [] []
def ahG:IR:=Rs [Mv 4 0,Nk 5 4,Fa 6 4 5,Lo 7 6,Bc 8 .eql 7 0] (Cn 8 (Rg [Mv 9 0,Mv 10 1,Nk 11 9,Fa 12 4 11,Sv 1 12 10]) .skip)
def ahH:List RV:=[]
theorem ahI:FnC Tryz.prog ai5 [] 1 yV Tryz.f42 ahG ahH:=fnC Tryz.func42
def yp(N:Nat)(b:List aA)(c:Bs)(d e a g:Int):Ro:=
 let f:=fun h=>(some (.tup [],[some [.sl .atype (.may false) b,.sl .u8 (.may false) c,.int .i64 d,.int .i64 e,.int .i64 h]]):Ro)
 cond (a==0) (
 f g) (
 f a)
def yq(N:Nat)(a:List aA)(b:Bs)(c d e f:Int):Ro:=yp N a b c d e f
theorem af6(N:Nat)(a:List aA)(b:Bs)(c d g n:Int)(h:Tot (yq N a b c d g n) (fun z=>∃(i:List aA)(j:Bs)(k:Int)(l:Int)(m:Int)(rest:List aJ),z.1.dimR=.tup []∧z.2=some [.sl .atype (.may false) i,.sl .u8 (.may false) j,.int .i64 k,.int .i64 l,.int .i64 m]::rest∧vC a b c d g n (i,j,k,l,m))):∃r,aM a b c d g n r:=FnC.finO (css:=[[.sl .atype (.may false) a,.sl .u8 (.may false) b,.int .i64 c,.int .i64 d,.int .i64 g]]) ahI (N:=N) (by kernel_rfl) h fun _ ⟨i,j,k,l,m,_,e,f,q⟩=>⟨(i,j,k,l,m),e,⟨_,f⟩,q⟩
noncomputable def ai6:aN:=tab (P:=Tryz.prog) [] [iW] [] []
def ahJ:IR:=Rs [Ms 4 []] (Sq (Sq (.reg [Mv 6 0,Nk 7 6,Fa 8 4 7,Fo [0] [] (.ld 9 1 false false 8),Bc 10 .neq 9 0,Mv 11 10,Gf 11 (.mov 12 1),Gf 11 (.mov 13 0),Gf 11 (.nck 14 13),Gf 11 (.fad 15 1 14),⟨some (11,false),.ld 16 1 false false 15,some ([0],[])⟩,Gf 11 (.lenl 17 16),Gf 11 (.mov 18 0),Gf 11 (.nck 19 18),Gf 11 (.fad 20 2 19),⟨some (11,false),.ld 21 1 false false 20,some ([0],[])⟩,Gf 11 (.bin 22 .sub 17 21),Gf 11 (.bin 23 .gtr 12 22),Po 24 11 23] [[],[0],[0,1],[0,1,2],rg 0 3,rg 0 4,rg 0 5,rg 0 5,rg 0 5++[7],rg 0 5++[7,8],rg 0 5++[7,8,9],rg 0 5++rg 7 10,rg 0 5,rg 0 5++[12],rg 0 5++[12,13],rg 0 5++[12,13,14],rg 0 5++rg 7 15,rg 0 16,rg 0 17]) (Cn 24 (Rs [Mv 25 0,Ca 26 42 [25,kI 2]] (Rs [Ms 4 []] .ret)) .skip)) (Sq (.reg [Mv 27 0,Nk 28 27,Fa 29 1 28,Fo [0] [] (.ld 30 1 false false 29),Mv 31 0,Nk 32 31,Fa 33 2 32,Fo [0] [] (.ld 34 1 false false 33),Mv 35 0,Nk 36 35,Fa 37 2 36,Fo [0] [] (.ld 38 1 false false 37),Mv 39 1,Bi 40 .add 38 39,Pp (.subl 41 .u8 30 (some 34) (some 40)),Pp (.b2s 42 41),Mv 5 42] [[],[0],[0,1],[0,1,2],[],[4],[4,5],[4,5,6],[],[8],[8,9],[8,9,10],[],rg 8 12,rg 0 13,rg 0 14,rg 0 15]) (Rs [Mv 43 0,Mv 44 0,Nk 45 44,Fa 46 2 45,Lo 47 46,Mv 48 1,Bi 49 .add 47 48,Nk 50 43,Fa 51 2 50,Sv 1 51 49] (Rs [Mv 52 5,Mv 4 52] .ret))))
def ahK:List RV:=[.t 4]
theorem ahL:FnC Tryz.prog ai6 [42,2000042] 1 yX Tryz.f48 ahJ ahK:=fnC Tryz.func48
def yr(N:Nat)(d:List aA)(b:Bs)(a e c i:Int):Ro:=
 let j:=fun k l m n o p=>(some (.str k,[some [.sl .atype (.may false) l,.sl .u8 (.may false) m,.int .i64 n,.int .i64 o,.int .i64 p]]):Ro)
 cond (!(c==0)) (
 aE (aM d b a e c 2) (fun f=>
 j ([]:Bs) f.1 f.2.1 f.2.2.1 f.2.2.2.1 f.2.2.2.2)) (
 let q:=(↑(List.length b):Int)
 let r:=(IntKind.wrap .i64 (q-a))
 cond (decide (r<i)) (
 aE (aM d b a e c 2) (fun g=>
 j ([]:Bs) g.1 g.2.1 g.2.2.1 g.2.2.2.1 g.2.2.2.2)) (
 let h:=(IntKind.wrap .i64 (a+i))
 chk (decide (0≤h)&&decide (h≤(↑(List.length b):Int))&&(decide (0≤a)&&decide (a≤h))) (
 let s:=(List.drop (Int.toNat a) (List.take (Int.toNat h) b))
 let t:=(IntKind.wrap .i64 (a+i))
 j s d b t e c)))
def yt(N:Nat)(a:List aA)(b:Bs)(c d e f:Int):Ro:=yr N a b c d e f
theorem af7(N:Nat)(a:List aA)(b:Bs)(c d g o:Int)(h:Tot (yt N a b c d g o) (fun z=>∃(i:Bs)(j:List aA)(k:Bs)(l:Int)(m:Int)(n:Int)(rest:List aJ),z.1.dimR=.str i∧z.2=some [.sl .atype (.may false) j,.sl .u8 (.may false) k,.int .i64 l,.int .i64 m,.int .i64 n]::rest∧vD a b c d g o (i,j,k,l,m,n))):∃r,cP a b c d g o r:=FnC.finO (css:=[[.sl .atype (.may false) a,.sl .u8 (.may false) b,.int .i64 c,.int .i64 d,.int .i64 g]]) ahL (N:=N) (by kernel_rfl) h fun _ ⟨i,j,k,l,m,n,_,e,f,q⟩=>⟨(i,j,k,l,m,n),e,⟨_,f⟩,q⟩
noncomputable def ai7:aN:=tab (P:=Tryz.prog) [] [iW] [] [auO,ayN]
def ahM:IR:=Rs [Mi 2 0] (Sq (Rs [Mv 6 0,Nk 7 6,Fa 8 4 7,Lo 9 8,Bc 10 .neq 9 0] (Cn 10 (Rs [Mi 2 0] .ret) .skip)) (Sq (.reg [Mv 12 0,Nk 13 12,Fa 14 1 13,Fo [0] [] (.ld 15 1 false false 14),Mv 16 0,Nk 17 16,Fa 18 2 17,Fo [0] [] (.ld 19 1 false false 18),Mv 20 0,Nk 21 20,Fa 22 1 21,Fo [0] [] (.ld 23 1 false false 22),Ll 24 23,Mv 25 0,Nk 26 25,Fa 27 2 26,Fo [0] [] (.ld 28 1 false false 27),Bc 29 .add 28 10,Pp (.mx 30 true 24 29),Pp (.subl 31 .u8 15 (some 19) (some 30)),Pp (.b2s 32 31),Ca 33 73 [32],Mv 11 33,Ex_ 34 0 11,Ex_ 35 1 11,Ex_ 36 2 11,Mv 3 34,Mv 4 35,Mv 5 36] [[],[0],[0,1],[0,1,2],[],[4],[4,5],[4,5,6],[],[8],[8,9],[8,9,10],rg 8 11,[],[13],[13,14],[13,14,15],rg 13 16,rg 8 17,rg 0 18,rg 0 19,rg 0 20,rg 0 21,rg 0 22,rg 0 22,rg 0 22,rg 0 23,rg 0 24++[26],rg 0 27]) (Sq (Rs [Mv 37 5,Bc 38 .neq 37 0] (Cn 38 (Rs [Mv 39 0,Mv 40 5,Ca 41 42 [39,40]] (Rs [Mi 2 0] .ret)) .skip)) (Rs [Mv 42 0,Mv 43 0,Nk 44 43,Fa 45 2 44,Lo 46 45,Mv 47 4,Bi 48 .add 46 47,Nk 49 42,Fa 50 2 49,Sv 1 50 48] (Rs [Mv 51 3,Ca 52 74 [kI 8,51],Pp (.cvi 53 .i64 52),Mv 2 53] .ret)))))
def ahN:List RV:=[.t 2]
theorem ahO:FnC Tryz.prog ai7 [42,2000042] 1 yW Tryz.f44 ahM ahN:=fnC Tryz.func44
def yu(N:Nat)(d:List aA)(b:Bs)(a e c:Int):Ro:=
 let i:=fun l m n o p q=>(some (.int .i64 l,[some [.sl .atype (.may false) m,.sl .u8 (.may false) n,.int .i64 o,.int .i64 p,.int .i64 q]]):Ro)
 cond (!(c==0)) (
 i 0 d b a e c) (
 let j:=(↑(List.length b):Int)
 let k:=(IntKind.wrap .i64 (a+10))
 let g:=(if k<j then k else j)
 chk (decide (0≤g)&&decide (g≤(↑(List.length b):Int))&&(decide (0≤a)&&decide (a≤g))) (
 let r:=(List.drop (Int.toNat a) (List.take (Int.toNat g) b))
 aE (rX r) (fun h=>
 cond (!(h.2.2==0)) (
 aE (aM d b a e c h.2.2) (fun f=>
 i 0 f.1 f.2.1 f.2.2.1 f.2.2.2.1 f.2.2.2.2)) (
 let s:=(IntKind.wrap .i64 (a+h.2.1))
 aE (ww 8 h.1) (fun(t:Int)=>
 i (IntKind.wrap .i64 t) d b s e c)))))
def yv(N:Nat)(a:List aA)(b:Bs)(c d e:Int):Ro:=yu N a b c d e
theorem af8(N:Nat)(a:List aA)(b:Bs)(c d g:Int)(h:Tot (yv N a b c d g) (fun z=>∃(i:Int)(j:List aA)(k:Bs)(l:Int)(m:Int)(n:Int)(rest:List aJ),z.1.dimR=.int .i64 i∧z.2=some [.sl .atype (.may false) j,.sl .u8 (.may false) k,.int .i64 l,.int .i64 m,.int .i64 n]::rest∧vE a b c d g (i,j,k,l,m,n))):∃r,bD a b c d g r:=FnC.finO (css:=[[.sl .atype (.may false) a,.sl .u8 (.may false) b,.int .i64 c,.int .i64 d,.int .i64 g]]) ahO (N:=N) (by kernel_rfl) h fun _ ⟨i,j,k,l,m,n,_,e,f,q⟩=>⟨(i,j,k,l,m,n),e,⟨_,f⟩,q⟩
noncomputable def ai8:aN:=tab (P:=Tryz.prog) [] [iW,mX,qZ] [] []
def ahP:IR:=Rs [Ms 2 []] (Rs [Mv 4 0,Ca 5 44 [4],Mv 3 5] (Sq (Rs [Mv 6 3,Bc 7 .lss 6 0] (Cn 7 (Rg [Mv 8 0,Ca 9 42 [8,kI 2]]) .skip)) (Sq (Rs [Mv 10 3,Bc 11 .gtr 10 5000] (Cn 11 (Rg [Mv 12 0,Ca 13 42 [12,kI 3]]) .skip)) (Sq (Rs [Mv 14 0,Nk 15 14,Fa 16 4 15,Lo 17 16,Bc 18 .neq 17 0] (Cn 18 (Rs [Ms 2 []] .ret) .skip)) (Rs [Mv 19 0,Mv 20 3,Ca 21 48 [19,20],Mv 2 21] .ret)))))
def ahQ:List RV:=[.t 2]
theorem ahR:FnC Tryz.prog ai8 [42,44,48,2000042,2000044,2000048] 1 yY Tryz.f45 ahP ahQ:=fnC Tryz.func45
def yw(N:Nat)(j:List aA)(k:Bs)(l m n:Int):Ro:=
 let e:=fun o p q r s t=>(some (.str o,[some [.sl .atype (.may false) p,.sl .u8 (.may false) q,.int .i64 r,.int .i64 s,.int .i64 t]]):Ro)
 aE (bD j k l m n) (fun a=>
 cond (decide (a.1<0)) (
 aE (aM a.2.1 a.2.2.1 a.2.2.2.1 a.2.2.2.2.1 a.2.2.2.2.2 2) (fun b=>
 cond (decide (5000<a.1)) (
 aE (aM b.1 b.2.1 b.2.2.1 b.2.2.2.1 b.2.2.2.2 3) (fun c=>
 cond (!(c.2.2.2.2==0)) (
 e ([]:Bs) c.1 c.2.1 c.2.2.1 c.2.2.2.1 c.2.2.2.2) (
 aE (cP c.1 c.2.1 c.2.2.1 c.2.2.2.1 c.2.2.2.2 a.1) (fun f=>
 e f.1 f.2.1 f.2.2.1 f.2.2.2.1 f.2.2.2.2.1 f.2.2.2.2.2)))) (
 cond (!(b.2.2.2.2==0)) (
 e ([]:Bs) b.1 b.2.1 b.2.2.1 b.2.2.2.1 b.2.2.2.2) (
 aE (cP b.1 b.2.1 b.2.2.1 b.2.2.2.1 b.2.2.2.2 a.1) (fun g=>
 e g.1 g.2.1 g.2.2.1 g.2.2.2.1 g.2.2.2.2.1 g.2.2.2.2.2))))) (
 cond (decide (5000<a.1)) (
 aE (aM a.2.1 a.2.2.1 a.2.2.2.1 a.2.2.2.2.1 a.2.2.2.2.2 3) (fun d=>
 cond (!(d.2.2.2.2==0)) (
 e ([]:Bs) d.1 d.2.1 d.2.2.1 d.2.2.2.1 d.2.2.2.2) (
 aE (cP d.1 d.2.1 d.2.2.1 d.2.2.2.1 d.2.2.2.2 a.1) (fun h=>
 e h.1 h.2.1 h.2.2.1 h.2.2.2.1 h.2.2.2.2.1 h.2.2.2.2.2)))) (
 cond (!(a.2.2.2.2.2==0)) (
 e ([]:Bs) a.2.1 a.2.2.1 a.2.2.2.1 a.2.2.2.2.1 a.2.2.2.2.2) (
 aE (cP a.2.1 a.2.2.1 a.2.2.2.1 a.2.2.2.2.1 a.2.2.2.2.2 a.1) (fun i=>
 e i.1 i.2.1 i.2.2.1 i.2.2.2.1 i.2.2.2.2.1 i.2.2.2.2.2)))))
def yx(N:Nat)(a:List aA)(b:Bs)(c d e:Int):Ro:=yw N a b c d e
theorem af9(N:Nat)(a:List aA)(b:Bs)(c d g:Int)(h:Tot (yx N a b c d g) (fun z=>∃(i:Bs)(j:List aA)(k:Bs)(l:Int)(m:Int)(n:Int)(rest:List aJ),z.1.dimR=.str i∧z.2=some [.sl .atype (.may false) j,.sl .u8 (.may false) k,.int .i64 l,.int .i64 m,.int .i64 n]::rest∧vF a b c d g (i,j,k,l,m,n))):∃r,cO a b c d g r:=FnC.finO (css:=[[.sl .atype (.may false) a,.sl .u8 (.may false) b,.int .i64 c,.int .i64 d,.int .i64 g]]) ahR (N:=N) (by kernel_rfl) h fun _ ⟨i,j,k,l,m,n,_,e,f,q⟩=>⟨(i,j,k,l,m,n),e,⟨_,f⟩,q⟩
noncomputable def sT:aN:=tab (P:=Tryz.prog) [] [qZ] [] []
def wT:IR:=Sq (Rs [Mv 14 7,Bc 15 .geq 14 0] (Cn 15 .skip (.exit 0))) (Sq (.block 1 (Rg [Mv 18 6,Pp (.bin 19 .shl 18 (kU 8)),Mv 20 5,Mv 21 7,Pp (.idx 22 20 21),Pp (.cvi 23 .u64 22),Bi 24 .or 19 23,Mv 6 24])) (Rg [Mv 16 7,Bc 17 .sub 16 1,Mv 7 17]))
def wU:IR:=Rs [Mv 25 6,Mv 4 25] .ret
def ai9:IR:=Rs [Pp (.mov 4 (kU 0))] (Rs [Mv 8 0,Mv 9 1,Ca 10 48 [8,9],Mv 5 10] (Rs [Pp (.mov 6 (kU 0))] (Sq (Rs [Mv 11 5,Pp (.lens 12 11),Bc 13 .sub 12 1,Mv 7 13] (.block 0 (.loop [5,6,7,1000000] 1 wT))) wU)))
def zR:List RV:=[.t 4]
theorem aja:FnC Tryz.prog sT [48,2000048] 1 z8 Tryz.f43 ai9 zR:=fnC Tryz.func43
def ahS(R:IR→(Ex→St→Ro)→St→Ro)(a:St→Ro):Ex→St→Ro:=(bF a [5,6,7,1000000] 1 (aQ 0 (bv (R wU) (fin zR))))
abbrev mw:Type:=(Bs×Int×Int×List aA×Bs×Int×Int×Int)
def lC:mw→St:=fun(a,b,c,d,e,f,g,h)=>{env:=(U 5 (.str a::.int .u64 b::.int .i64 c::(U 18 []))),hp:=[some [.sl .atype (.may false) d,.sl .u8 (.may false) e,.int .i64 f,.int .i64 g,.int .i64 h]]}
def qR(N:Nat):(St→Ro)→St→Ro:=fun a s=>run sT N wT (ahS (run sT N) a) s
def my(N:Nat)(a:mw→Ro):mw→Ro:=fun(h,i,g,b,c,d,e,f)=>
 cond (decide (0≤g)) (
 chk (ixl g h) (
 let j:=(↑(UInt8.toNat (List.getD h (Int.toNat g) 0)):Int)
 let k:=(bJ .or .u64 (eV .u64 i 8) (IntKind.wrap .u64 j))
 let l:=(IntKind.wrap .i64 (g-1))
 a (h,k,l,b,c,d,e,f))) (
 some (.int .u64 i,[some [.sl .atype (.may false) b,.sl .u8 (.may false) c,.int .i64 d,.int .i64 e,.int .i64 f]]))
theorem aga(N:Nat):LB (qR N) lC (my N):=fun _ _=>by kernel_rfl
def jE(N:Nat)(b:List aA)(c:Bs)(d e f g:Int)(h:mw→Ro):Ro:=
 aE (cP b c d e f g) (fun a=>
 let i:=(↑(List.length a.1):Int)
 let j:=(IntKind.wrap .i64 (i-1))
 h (a.1,0,j,a.2.1,a.2.2.1,a.2.2.2.1,a.2.2.2.2.1,a.2.2.2.2.2))
def zS(N:Nat)(a:List aA)(b:Bs)(c d e f:Int):Ro:=jE N a b c d e f (fun z=>aS N (my N) z)
theorem ahT(N:Nat)(a:List aA)(c:Bs)(d g i j:Int)(h:Tot (zS N a c d g i j) (fun z=>∃(k:Int)(l:List aA)(m:Bs)(n:Int)(o:Int)(p:Int)(rest:List aJ),z.1.dimR=.int .u64 k∧z.2=some [.sl .atype (.may false) l,.sl .u8 (.may false) m,.int .i64 n,.int .i64 o,.int .i64 p]::rest∧wu a c d g i j (k,l,m,n,o,p))):∃r,cL a c d g i j r:=FnC.finO (css:=[[.sl .atype (.may false) a,.sl .u8 (.may false) c,.int .i64 d,.int .i64 g,.int .i64 i]]) aja (N:=N) ((bM _ (by kernel_rfl) rfl (fun C=>jE N a c d g i j (fun z=>C 1000000 (lC z))) (fun C=>by kernel_rfl)).trans (Eq.trans (b:=jE N a c d g i j (fun z=>bo N (qR N) (lC z))) (by kernel_rfl) (congrArg (jE N a c d g i j) (funext fun z=>bk (lC) (qR N) (my N) (aga N) N z)))) h fun _ ⟨k,l,m,n,o,p,_,e,f,q⟩=>⟨(k,l,m,n,o,p),e,⟨_,f⟩,q⟩
noncomputable def ahU:aN:=tab (P:=Tryz.prog) [] [mX] [] []
def agb:IR:=Rs [Mi 4 0] (Rs [Mv 6 0,Ca 7 44 [6],Mv 5 7] (Sq (Rs [Mv 8 0,Nk 9 8,Fa 10 4 9,Lo 11 10,Bc 12 .eql 11 0,Mv 13 12,Gt 13 (.mov 14 5),Gt 13 (.bin 15 .lss 14 (kI 0)),Gt 13 (.mov 16 15),Gf 16 (.mov 17 5),Gf 16 (.mov 18 1),Gf 16 (.bin 19 .geq 17 18),Gt 13 (.pick 20 16 (kB true) 19),Pa 21 13 20] (Cn 21 (Rg [Mv 22 0,Nk 23 22,Fa 24 4 23,Pp (.st none 1 24 (kI 2))]) .skip)) (Sq (Rs [Mv 25 0,Nk 26 25,Fa 27 4 26,Lo 28 27,Bc 29 .neq 28 0] (Cn 29 (Rs [Mi 4 0] .ret) .skip)) (Rs [Mv 30 5,Mv 4 30] .ret))))
def agc:List RV:=[.t 4]
theorem agd:FnC Tryz.prog ahU [44,2000044] 1 yb Tryz.f47 agb agc:=fnC Tryz.func47
def wW(N:Nat)(c:List aA)(d:Bs)(e f g h:Int):Ro:=
 let b:=fun i j k l m n=>(some (.int .i64 i,[some [.sl .atype (.may false) j,.sl .u8 (.may false) k,.int .i64 l,.int .i64 m,.int .i64 n]]):Ro)
 aE (bD c d e f g) (fun a=>
 cond (a.2.2.2.2.2==0) (
 cond (decide (a.1<0)) (
 cond (!(2==0)) (
 b 0 a.2.1 a.2.2.1 a.2.2.2.1 a.2.2.2.2.1 2) (
 b a.1 a.2.1 a.2.2.1 a.2.2.2.1 a.2.2.2.2.1 2)) (
 cond (decide (h≤a.1)) (
 cond (!(2==0)) (
 b 0 a.2.1 a.2.2.1 a.2.2.2.1 a.2.2.2.2.1 2) (
 b a.1 a.2.1 a.2.2.1 a.2.2.2.1 a.2.2.2.2.1 2)) (
 cond (!(a.2.2.2.2.2==0)) (
 b 0 a.2.1 a.2.2.1 a.2.2.2.1 a.2.2.2.2.1 a.2.2.2.2.2) (
 b a.1 a.2.1 a.2.2.1 a.2.2.2.1 a.2.2.2.2.1 a.2.2.2.2.2)))) (
 cond (!(a.2.2.2.2.2==0)) (
 b 0 a.2.1 a.2.2.1 a.2.2.2.1 a.2.2.2.2.1 a.2.2.2.2.2) (
 b a.1 a.2.1 a.2.2.1 a.2.2.2.1 a.2.2.2.2.1 a.2.2.2.2.2)))
def wX(N:Nat)(a:List aA)(b:Bs)(c d e f:Int):Ro:=wW N a b c d e f
theorem aeC(N:Nat)(a:List aA)(b:Bs)(c d g o:Int)(h:Tot (wX N a b c d g o) (fun z=>∃(i:Int)(j:List aA)(k:Bs)(l:Int)(m:Int)(n:Int)(rest:List aJ),z.1.dimR=.int .i64 i∧z.2=some [.sl .atype (.may false) j,.sl .u8 (.may false) k,.int .i64 l,.int .i64 m,.int .i64 n]::rest∧uf a b c d g o (i,j,k,l,m,n))):∃r,di a b c d g o r:=FnC.finO (css:=[[.sl .atype (.may false) a,.sl .u8 (.may false) b,.int .i64 c,.int .i64 d,.int .i64 g]]) agd (N:=N) (by kernel_rfl) h fun _ ⟨i,j,k,l,m,n,_,e,f,q⟩=>⟨(i,j,k,l,m,n),e,⟨_,f⟩,q⟩
end Go.Proofs.YtdpajabhmmmjoaaGreat
end
noncomputable section
namespace Go.Proofs.YtdpajabhmmmjoaaGreat
open Go.AM
set_option autoImplicit false
set_option linter.unusedSimpArgs false
set_option linter.unusedVariables false
set_option maxRecDepth 100000
def F11(x:List UInt8×Int×Int):V×List aJ:=
 match iN (10-x.2.2.toNat) (x.1.drop x.2.2.toNat) with
 |some (u,m)=>(.tup [.int .u64 ((x.2.1.toNat+128^x.2.2.toNat*u:Nat):Int),.int .i64 ((x.2.2.toNat+m:Nat):Int),.int .i64 0],[])
 |none=>(.tup [.int .u64 0,.int .i64 0,.int .i64 2],[])
theorem aCM(v c n:Nat)(hv:v<128^n)(hc:c<128)(hn:n≤9)(h9:n=9→c≤1):
  bJ .or .u64 (v:Int) (eV .u64 (c:Int) ((7*n:Nat):Int))=((v+128^n*c:Nat):Int)∧v+128^n*c<2^64∧(n<9→v+128^n*c<128^(n+1)):=by
 have hp:128^n=2^(7*n):=by rw[Nat.pow_mul]
 have hle:v+128^n*c<128^(n+1):=by
  rw[Nat.pow_succ]
  calc v+128^n*c<128^n+128^n*c:=by omega
   _=128^n*(c+1):=by rw[Nat.mul_add,Nat.mul_one,Nat.add_comm]
   _≤128^n*128:=Nat.mul_le_mul_left _ (by omega)
 have h64:v+128^n*c<2^64:=by
  by_cases hn9:n=9
  ·subst hn9
   have:=h9 rfl
   have h1:128^9*c≤128^9*1:=Nat.mul_le_mul_left _ this
   have h2:(128:Nat)^9=9223372036854775808:=by decide
   omega
  ·have h1:(128:Nat)^(n+1)≤128^9:=Nat.pow_le_pow_right (by omega) (by omega)
   have h2:(128:Nat)^9=9223372036854775808:=by decide
   omega
 have hcp:c*2^(7*n)=128^n*c:=by rw[hp,Nat.mul_comm]
 refine⟨?_,h64,fun _=>hle⟩
 rw[aoP .u64 rfl _ _ (by show 7*n≤64;omega)]
 have hm:c*2^(7*n)%2^IntKind.u64.bits=c*2^(7*n):=Nat.mod_eq_of_lt (by rw[hcp];show _<2^64;omega)
 rw[hm,ar7 .u64 rfl _ _ (by show _<2^64;omega) (by rw[hcp];show _<2^64;omega)]
 congr 1
 rw[Nat.or_comm,←Nat.shiftLeft_eq,←Nat.shiftLeft_add_eq_or_of_lt (by rw[←hp];exact hv),Nat.shiftLeft_eq,hcp,Nat.add_comm]
theorem aBX(s:List UInt8)(n:Nat)(hn:n<10)(hl:n<s.length):iN (10-n) (s.drop n)=
  if n=9∧1<(s.getD n 0).toNat then none
  else if (s.getD n 0).toNat<128 then some ((s.getD n 0).toNat,1)
  else match iN (10-(n+1)) (s.drop (n+1)) with
   |some (v,m)=>some ((s.getD n 0).toNat%128+128*v,m+1)
   |none=>none:=by
 have h1:s.drop n=s.getD n 0::s.drop (n+1):=by
  rw[List.drop_eq_getElem_cons hl]
  simp[List.getD,hl]
 rw[h1,show 10-n=(10-(n+1))+1 by omega]
 simp only[iN]
 have e:(10-(n+1)=0∧1<(s.getD n 0).toNat)↔(n=9∧1<(s.getD n 0).toNat):=by omega
 by_cases h9:n=9∧1<(s.getD n 0).toNat
 ·rw[if_pos h9,if_pos (e.2 h9)]
 ·rw[if_neg h9,if_neg (fun h=>h9 (e.1 h))]
  rfl
structure aEp(s:List UInt8)(w i:Int):Prop where
 ex:∃n v:Nat,i=(n:Int)∧w=(v:Int)∧n≤10∧n≤s.length∧(n≤9→v<128^n)
theorem anO(N:Nat)(s:List UInt8)(hs:s.length≤eu)(hN:20<N):ahF N s=some (.tup [.int .u64 (aih s).1,.int .i64 (aih s).2.1,.int .i64 (aih s).2.2],[]):=by
 have hm:(s.length:Int)≤9223372036854775807:=by unfold eu at hs;omega
 have key:aS N (mv N) (s,0,0)=some (F11 (s,0,0)):=by
  refine oC (fun x=>x.1=s∧aEp s x.2.1 x.2.2) (fun x=>11-x.2.2.toNat) F11 ?_ N _ ⟨rfl,⟨0,0,rfl,rfl,by omega,by omega,by intro;simp⟩⟩ (by simp;omega)
  rintro rec ⟨v0,v2,v3⟩ ⟨k0,⟨n,v,k3,k2,hn,hl,hv⟩⟩ hrec
  simp only at k0 k2 k3 hrec ⊢
  subst k0 k2 k3
  simp only[mv,F11,Int.toNat_natCast]
  by_cases h10:n<10
  ·have c3:decide ((n:Int)<10)=true:=by simp;omega
   by_cases hlt:n<v0.length
   ·have c1:decide ((n:Int)<(v0.length:Int))=true:=by simpa using hlt
    have c0:((n:Int)==(v0.length:Int))=false:=by simp;omega
    have c2:ixl (n:Int) v0=true:=ixt (by omega)
    rw[aBX v0 n h10 hlt]
    simp only[c0,c1,c2,c3,Bool.and_true,cond_false,cond_true,aeH,List.getD_eq_getElem?_getD,List.getElem?_eq_getElem hlt,Option.getD_some]
    generalize v0[n]=c
    have hc:=c.toNat_lt
    have e1:IntKind.wrap .u64 ((c.toNat:Nat):Int)=(c.toNat:Int):=aaY .u64 rfl _ (by show _<2^64;omega)
    have e2:Int.tmod (c.toNat:Int) 128=((c.toNat%128:Nat):Int):=awG _ _
    have e3:IntKind.wrap .i64 (7*(n:Int))=((7*n:Nat):Int):=by rw[aI _ (by omega)];norm_cast
    have e4:IntKind.wrap .i64 ((n:Int)+1)=((n+1:Nat):Int):=by rw[aI _ (by omega)];rfl
    have e5:decide ((0:Int)≤((7*n:Nat):Int))=true:=decide_eq_true (Int.natCast_nonneg _)
    have e6:(!((128:Int)==0))=true:=rfl
    have c6:decide ((c.toNat:Int)<128)=decide (c.toNat<128):=by
     rw[Bool.eq_iff_iff,decide_eq_true_iff,decide_eq_true_iff];omega
    have c7:decide (1<(c.toNat:Int))=decide (1<c.toNat):=by
     rw[Bool.eq_iff_iff,decide_eq_true_iff,decide_eq_true_iff];omega
    have back:(n=9→c.toNat≤1)→cond (decide (c.toNat<128)) (some (V.tup [.int .u64 (bJ .or .u64 (v:Int) (eV .u64 ((c.toNat%128:Nat):Int) ((7*n:Nat):Int))),.int .i64 ((n+1:Nat):Int),.int .i64 0],([]:List aJ)))
       (rec (v0,bJ .or .u64 (v:Int) (eV .u64 ((c.toNat%128:Nat):Int) ((7*n:Nat):Int)),((n+1:Nat):Int)))=
      some (match (if n=9∧1<c.toNat then none else if c.toNat<128 then some (c.toNat,1) else match iN (10-(n+1)) (v0.drop (n+1)) with|some (v,m)=>some (c.toNat%128+128*v,m+1)|none=>none:Option (Nat×Nat)) with
       |some (u,m)=>(V.tup [.int .u64 ((v+128^n*u:Nat):Int),.int .i64 ((n+m:Nat):Int),.int .i64 0],[])
       |none=>(.tup [.int .u64 0,.int .i64 0,.int .i64 2],[])):=by
     intro h9
     obtain⟨g1,g2,g3⟩:=aCM v (c.toNat%128) n (hv (by omega)) (by omega) (by omega) (fun h=>by have:=h9 h;omega)
     have hno:¬(n=9∧1<c.toNat):=by
      rintro⟨h1,h2⟩
      have:=h9 h1
      omega
     rw[if_neg hno,g1]
     by_cases h128:c.toNat<128
     ·have:c.toNat%128=c.toNat:=Nat.mod_eq_of_lt h128
      simp only[h128,decide_true,cond_true,if_true,this]
     ·simp only[h128,decide_false,cond_false,if_false]
      have hn9:n<9:=by
       rcases Nat.lt_or_ge n 9 with h|h
       ·exact h
       ·have:=h9 (by omega);omega
      rw[hrec (v0,((v+128^n*(c.toNat%128):Nat):Int),((n+1:Nat):Int)) ⟨rfl,⟨n+1,_,rfl,rfl,by omega,by omega,fun _=>g3 hn9⟩⟩ (by simp;omega)]
      simp only[F11,Int.toNat_natCast]
      cases iN (10-(n+1)) (v0.drop (n+1)) with
      |none=>rfl
      |some p=>
       obtain⟨u,m⟩:=p
       simp only[Option.some.injEq,Prod.mk.injEq,and_true]
       rw[Nat.pow_succ,Nat.mul_add,←Nat.mul_assoc,Nat.add_assoc,show n+1+m=n+(m+1) by omega]
    simp only[e1,e2,e3,e4,e5,e6,c6,c7,Bool.not_false,aeH]
    by_cases hn9:n=9
    ·have c4:((n:Int)==9)=true:=by simp[hn9]
     simp only[c4,cond_true]
     by_cases hc1:1<c.toNat
     ·rw[if_pos ⟨hn9,hc1⟩,decide_eq_true hc1]
      rfl
     ·rw[decide_eq_false hc1]
      exact back (fun _=>by omega)
    ·have c4:((n:Int)==9)=false:=by simp;omega
     simp only[c4,cond_false]
     exact back (fun h=>absurd h hn9)
   ·have c0:((n:Int)==(v0.length:Int))=true:=by simp;omega
    simp only[c0,c3,cond_true]
    rw[List.drop_eq_nil_of_le (by omega)]
    cases 10-n<;>rfl
  ·have c3:decide ((n:Int)<10)=false:=by simp;omega
   obtain rfl:n=10:=by omega
   simp only[c3,cond_false]
   rfl
 show aS N (mv N) (s,0,0)=_
 rw[key]
 simp only[F11,aih,Int.toNat_zero,List.drop_zero,Nat.sub_zero]
 cases iN 10 s with
 |none=>rfl
 |some p=>simp
structure aEq(s:List UInt8)(w i:Int):Prop where
 ex:∃j:Nat,i=(j:Int)-1∧j≤s.length∧w=((afp (s.drop j)%2^64:Nat):Int)
theorem aEe(a c:Nat)(ha:a<2^64)(hc:c<256):bJ .or .u64 (eV .u64 (a:Int) 8) (c:Int)=(((a*256+c)%2^64:Nat):Int):=by
 have h1:eV .u64 (a:Int) 8=((a*2^8%2^64:Nat):Int):=aoP .u64 rfl a 8 (by decide)
 have h2:a*2^8%2^64=(a%2^56) <<<8:=by rw[Nat.shiftLeft_eq];omega
 rw[h1,h2,ar7 .u64 rfl _ _ (by rw[Nat.shiftLeft_eq];show _<2^64;omega) (by show _<2^64;omega)]
 congr 1
 rw[←Nat.shiftLeft_add_eq_or_of_lt (by omega),Nat.shiftLeft_eq]
 omega
theorem aCN(s:List UInt8)(j:Nat)(h:j<s.length):afp (s.drop j)=(s.getD j 0).toNat+256*afp (s.drop (j+1)):=by
 rw[List.drop_eq_getElem_cons h,afp]
 simp[List.getD,h]
theorem aAM(s:List UInt8)(hs:s.length≤1000000000000000000):∃r,rX s r:=
 arT 21 s ⟨_,anO 21 s (by unfold eu;omega) (by omega),_,_,_,_,rfl,rfl,rfl⟩
theorem auA:∀(k:Nat)(s:List UInt8)(j:Nat),k≤j→iN k (s.take j)=iN k s
 |0,_,_,_=>rfl
 |k+1,[],j,h=>by simp[iN]
 |k+1,c::s,j+1,h=>by
  rw[List.take_succ_cons]
  simp only[iN]
  rw[auA k s j (by omega)]
theorem ayn:∀(k:Nat)(s:List UInt8)(v n:Nat),iN k s=some (v,n)→1≤n∧n≤s.length∧n≤k
 |0,_,_,_,h=>by simp[iN] at h
 |k+1,[],_,_,h=>by simp[iN] at h
 |k+1,c::s,v,n,h=>by
  simp only[iN] at h
  split at h
  ·simp at h
  ·split at h
   ·simp only[Option.some.injEq,Prod.mk.injEq] at h
    simp only[List.length_cons];omega
   ·split at h
    ·rename_i v' n' hv
     have:=ayn k s v' n' hv
     simp only[Option.some.injEq,Prod.mk.injEq] at h
     simp only[List.length_cons];omega
    ·simp at h
theorem ayo:∀(k:Nat)(s:List UInt8)(v n:Nat),iN (k+1) s=some (v,n)→v<128^k*2
 |_,[],_,_,h=>by simp[iN] at h
 |0,c::s,v,n,h=>by
  simp only[iN] at h
  split at h
  ·simp at h
  ·rename_i h1
   split at h
   ·simp only[Option.some.injEq,Prod.mk.injEq] at h
    have:¬1<c.toNat:=fun h'=>h1 ⟨trivial,h'⟩
    omega
   ·simp at h
 |k+1,c::s,v,n,h=>by
  rw[iN] at h
  split at h
  ·simp at h
  ·split at h
   ·simp only[Option.some.injEq,Prod.mk.injEq] at h
    have:0<128^k:=Nat.pow_pos (by decide)
    rw[Nat.pow_succ];omega
   ·split at h
    ·rename_i v' n' hv
     have:=ayo k s v' n' hv
     simp only[Option.some.injEq,Prod.mk.injEq] at h
     rw[Nat.pow_succ];omega
    ·simp at h
theorem aDq{s:List UInt8}{v n:Nat}(h:iN 10 s=some (v,n)):v<18446744073709551616:=by
 have:=ayo 9 s v n h
 have e:(128:Nat)^9*2=18446744073709551616:=by decide
 omega
theorem aDr(v:Int)(h:0≤v∧v≤18446744073709551615):∃r,uQ v r:=by
 apply ayj 1
 unfold aox aow
 dsimp only
 have e1:Int.tdiv v 2=v / 2:=Int.tdiv_eq_ediv_of_nonneg h.1
 have e2:Int.tmod v 2=v%2:=Int.tmod_eq_emod_of_nonneg h.1
 rw[e1,e2,dN (v / 2) (by omega),aus _ (by omega)]
 refine aD (fun h1=>aG ⟨_,_,rfl,rfl,?_⟩) (fun h1=>aG ⟨_,_,rfl,rfl,?_⟩)
 ·simp only[bnl] at h1
  show _=afq v
  unfold afq;rw[if_neg (by omega)]
 ·simp only[bnl] at h1
  show _=afq v
  unfold afq;rw[if_pos (by omega)]
theorem aBY(v:Int)(h:0≤v∧v≤18446744073709551615):∃r,ww 8 v r:=by
 apply awh 1
 unfold amW amV
 dsimp only
 refine aD (fun h=>by cases h) (fun _=>aD (fun h=>by cases h) (fun _=>aD (fun h=>by cases h) (fun _=>aD (fun h=>by cases h) (fun _=>aD (fun h=>by cases h) (fun _=>aD (fun h=>by cases h) (fun _=>aD (fun h=>by cases h) (fun _=>aD (fun h=>by cases h) (fun _=>aD (fun _=>?_) (fun h=>by cases h)))))))))
 refine aF (aDr v h) ?_
 rintro(r:Int) ⟨-,hr⟩
 exact aG ⟨_,_,rfl,rfl,fun _=>hr⟩
theorem amX(ts:List aA)(b:List UInt8)(n al e x:Int):∃r,aM ts b n al e x r:=by
 apply af6 1
 unfold yq yp
 dsimp only
 refine aD (fun h=>?_) (fun h=>?_)
 ·simp only[bnl] at h
  refine aG ⟨_,_,_,_,_,_,rfl,rfl,?_⟩
  show _=_
  rw[if_pos h]
 ·simp only[bnl] at h
  refine aG ⟨_,_,_,_,_,_,rfl,rfl,?_⟩
  show _=_
  rw[if_neg h]
section
variable{ts:List aA}{b:List UInt8}{n al:Int}(hb:b.length≤1000000000000000)(hn:0≤n∧n≤b.length)
include hb hn
theorem amY(k:Int)(hk:0≤k)(x q:List UInt8)(hx:kO k.toNat (b.drop n.toNat)=some (x,q)):∃r,cP ts b n al 0 k r:=by
 unfold kO at hx
 split at hx
 ·rename_i hle
  rw[List.length_drop] at hle
  simp only[Option.some.injEq,Prod.mk.injEq] at hx
  apply af7 1
  unfold yt yr
  dsimp only
  have e1:IntKind.i64.wrap ((b.length:Int)-n)=(b.length:Int)-n:=aI _ (by omega)
  have e2:IntKind.i64.wrap (n+k)=n+k:=aI _ (by omega)
  rw[e1,e2]
  refine aD (fun h=>by cases h) (fun _=>aD (fun h=>?_) (fun h=>?_))
  ·have h:=of_decide_eq_true h;omega
  ·refine vck (aG ⟨_,_,_,_,_,_,_,rfl,rfl,?_⟩)
   intro x' q' hx'
   unfold kO at hx'
   rw[if_pos (by rw[List.length_drop];exact hle)] at hx'
   simp only[Option.some.injEq,Prod.mk.injEq] at hx'
   obtain⟨rfl,rfl⟩:=hx'
   rw[show (n+k).toNat=n.toNat+k.toNat by omega,List.drop_take,Nat.add_sub_cancel_left]
 ·simp at hx
theorem yy(z:Int)(q:List UInt8)(hz:fL (b.drop n.toNat)=some (z,q)):∃r,bD ts b n al 0 r:=by
 apply af8 1
 unfold yv yu
 dsimp only
 refine aD (fun h=>by cases h) (fun _=>?_)
 have e1:IntKind.i64.wrap (n+10)=n+10:=aI _ (by omega)
 rw[e1]
 generalize hm:(if n+10<(b.length:Int) then n+10 else (b.length:Int))=m
 have hm':n≤m∧m≤b.length∧(n+10≤m∨m=b.length):=by subst hm;split<;>omega
 refine vck ?_
 refine aF (aAM _ (by rw[List.length_drop,List.length_take];omega)) ?_
 rintro r ⟨-,hr⟩
 have hr:r=aih (List.drop n.toNat (List.take m.toNat b)):=hr
 have hv:iN 10 (List.drop n.toNat (List.take m.toNat b))=iN 10 (b.drop n.toNat):=by
  rw[List.drop_take]
  rcases hm'.2.2 with h|h
  ·exact auA 10 _ _ (by omega)
  ·rw[List.take_of_length_le (by rw[List.length_drop];omega)]
 unfold aih at hr
 rw[hv] at hr
 have hz0:=hz
 unfold fL at hz
 cases hd:iN 10 (b.drop n.toNat) with
 |none=>rw[hd] at hz;simp at hz
 |some p=>
  obtain⟨v,c⟩:=p
  rw[hd] at hz hr
  simp only[Option.some.injEq,Prod.mk.injEq] at hz
  obtain⟨hz1,hz2⟩:=hz
  obtain⟨l1,l2,l3⟩:=ayn _ _ _ _ hd
  rw[List.length_drop] at l2
  subst hr
  dsimp only
  refine aD (fun h=>by cases h) (fun _=>?_)
  have hv64:=aDq hd
  refine aF (aBY (v:Int) (by omega)) ?_
  rintro(w:Int) ⟨-,hw⟩
  have hw:w=afq (v:Int):=hw rfl
  subst hw
  have e2:IntKind.i64.wrap (n+(c:Int))=n+c:=aI _ (by omega)
  rw[e2]
  refine aG ⟨_,_,_,_,_,_,_,rfl,rfl,?_⟩
  intro z' q' hz'
  rw[hz0] at hz'
  simp only[Option.some.injEq,Prod.mk.injEq] at hz'
  obtain⟨rfl,rfl⟩:=hz'
  refine⟨n+c,by rw[hz1],?_,by omega,by omega⟩
  rw[←hz2,List.drop_drop]
  congr 1;omega
theorem afl(y:Option (List UInt8×List UInt8))(hy:lP (b.drop n.toNat)=some y):∃r,cO ts b n al 0 r:=by
 have hy0:=hy
 unfold lP at hy
 cases hz:fL (b.drop n.toNat) with
 |none=>rw[hz] at hy;simp at hy
 |some p=>
  obtain⟨z,q⟩:=p
  rw[hz] at hy
  simp only at hy
  apply af9 1
  unfold yx yw
  dsimp only
  refine aF (yy hb hn z q hz) ?_
  rintro r ⟨-,hr⟩
  obtain⟨n',rfl,h1,h2,h3⟩:=hr z q hz
  dsimp only
  by_cases hz0:z<0
  ·rw[if_pos hz0] at hy;simp at hy
  rw[if_neg hz0] at hy
  refine aD (fun h=>absurd (of_decide_eq_true h) hz0) (fun _=>aD (fun h=>?_) (fun h=>?_))
  ·have h:=of_decide_eq_true h
   refine aF (amX _ _ _ _ _ _) ?_
   rintro r ⟨-,hr⟩
   have hr:r=(ts,b,n',al,3):=hr
   subst hr
   dsimp only
   refine aD (fun _=>aG ⟨_,_,_,_,_,_,_,rfl,rfl,fun y' hy'=>.inl ⟨rfl,n',al,rfl⟩⟩) (fun h=>by cases h)
  ·have h:=of_decide_eq_false h
   rw[if_neg h] at hy
   refine aD (fun h=>by cases h) (fun _=>?_)
   cases ht:kO z.toNat q with
   |none=>rw[ht] at hy;simp at hy
   |some p=>
    obtain⟨x,q2⟩:=p
    rw[ht] at hy
    simp only[Option.map_some,Option.some.injEq] at hy
    subst hy
    have ht':kO z.toNat (b.drop n'.toNat)=some (x,q2):=by rw[h1];exact ht
    refine aF (amY hb ⟨by omega,h3⟩ z (by omega) x q2 ht') ?_
    rintro r ⟨-,hr⟩
    obtain rfl:=hr x q2 ht'
    refine aG ⟨_,_,_,_,_,_,_,rfl,rfl,fun y' hy'=>.inr ⟨x,q2,n'+z,?_,rfl,?_,by omega,?_⟩⟩
    ·rw[hy0] at hy';simpa using hy'.symm
    ·unfold kO at ht'
     split at ht'
     ·rename_i hle
      simp only[Option.some.injEq,Prod.mk.injEq] at ht'
      rw[←ht'.2,List.drop_drop];congr 1;omega
     ·simp at ht'
    ·unfold kO at ht'
     split at ht'
     ·rename_i hle;rw[List.length_drop] at hle;omega
     ·simp at ht'
theorem apV(k:Int)(hk:0≤k)(v:Int)(q:List UInt8)(hv:pZ k.toNat (b.drop n.toNat)=some (v,q)):∃r,cL ts b n al 0 k r:=by
 unfold pZ at hv
 cases ht:kO k.toNat (b.drop n.toNat) with
 |none=>rw[ht] at hv;simp at hv
 |some p=>
  obtain⟨x,q2⟩:=p
  rw[ht] at hv
  simp only[Option.some.injEq,Prod.mk.injEq] at hv
  have hxl:x.length≤b.length:=by
   unfold kO at ht
   split at ht
   ·simp only[Option.some.injEq,Prod.mk.injEq] at ht
    rw[←ht.1,List.length_take,List.length_drop];omega
   ·simp at ht
  apply ahT (b.length+2)
  unfold zS jE
  dsimp only
  refine aF (amY hb hn k hk x q2 ht) ?_
  rintro r ⟨-,hr⟩
  obtain rfl:=hr x q2 ht
  dsimp only
  have e0:IntKind.i64.wrap ((x.length:Int)-1)=(x.length:Int)-1:=aI _ (by omega)
  rw[e0]
  refine bm (fun s=>match s with|(x',w,i,o)=>x'=x∧o=(ts,b,n+k,al,(0:Int))∧aEq x w i) (fun s=>(s.2.2.1+1).toNat) ?_ _ _ ⟨rfl,rfl,x.length,rfl,by omega,by simp[afp]⟩ (by simp;omega)
  rintro again ⟨x',w,i,o⟩ ⟨rfl,rfl,j,rfl,hj,rfl⟩ ih
  unfold my
  dsimp only
  refine aD (fun h=>?_) (fun h=>?_)
  ·have h:=of_decide_eq_true h
   obtain⟨i,rfl⟩:∃i,j=i+1:=⟨j-1,by omega⟩
   have e1:((i+1:Nat):Int)-1=(i:Int):=by omega
   rw[e1] at ih ⊢
   have hc:=(x'.getD i 0).toNat_lt
   have e2:IntKind.wrap .u64 (((x'.getD i 0).toNat:Nat):Int)=((x'.getD i 0).toNat:Int):=dN _ (by omega)
   have e3:IntKind.wrap .i64 ((i:Int)-1)=(i:Int)-1:=aI _ (by omega)
   refine aP (ixt (by omega)) ?_
   rw[Int.toNat_natCast,e2,e3,aEe _ _ (Nat.mod_lt _ (by decide)) (by omega)]
   refine ih (x',_,_,_) ⟨rfl,rfl,i,rfl,by omega,?_⟩ (by simp only;omega)
   rw[aCN x' i (by omega)]
   congr 1
   omega
  ·have h:=of_decide_eq_false h
   obtain rfl:j=0:=by omega
   rw[List.drop_zero]
   refine aG ⟨_,_,_,_,_,_,_,rfl,rfl,?_⟩
   intro v' q' hv'
   unfold pZ at hv'
   rw[ht] at hv'
   simp only[Option.some.injEq,Prod.mk.injEq] at hv'
   rw[←hv'.1];rfl
theorem arU(k:Int)(hk:0≤k)(i:Int)(q:List UInt8)(hi:sH k.toNat (b.drop n.toNat)=some (i,q)):∃r,di ts b n al 0 k r:=by
 have hi0:=hi
 unfold sH at hi
 cases hz:fL (b.drop n.toNat) with
 |none=>rw[hz] at hi;simp at hi
 |some p=>
  obtain⟨z,q2⟩:=p
  rw[hz] at hi
  simp only at hi
  split at hi
  ·rename_i hr0
   apply aeC 1
   unfold wX wW
   dsimp only
   refine aF (yy hb hn z q2 hz) ?_
   rintro r ⟨-,hr⟩
   obtain⟨n',rfl,h1,h2,h3⟩:=hr z q2 hz
   dsimp only
   refine aD (fun _=>aD (fun h=>?_) (fun _=>aD (fun h=>?_) (fun _=>aD (fun h=>by cases h) (fun _=>aG ⟨_,_,_,_,_,_,_,rfl,rfl,?_⟩)))) (fun h=>by cases h)
   ·have h:=of_decide_eq_true h;omega
   ·have h:=of_decide_eq_true h;omega
   ·intro i' q' hi'
    rw[hi0] at hi'
    simp only[Option.some.injEq,Prod.mk.injEq] at hi hi'
    obtain⟨rfl,rfl⟩:=hi'
    exact⟨n',by rw[hi.1],by rw[h1];exact hi.2,by omega,h3⟩
  ·simp at hi
end
end Go.Proofs.YtdpajabhmmmjoaaGreat
end
noncomputable section
namespace Go.Proofs.YtdpajabhmmmjoaaGreat
open Go.AM
set_option autoImplicit false
set_option linter.unusedSimpArgs false
set_option linter.unusedVariables false
set_option maxRecDepth 100000
theorem aBZ{s:List UInt8}{z:Int}{q:List UInt8}(h:fL s=some (z,q)):-9223372036854775808≤z∧z≤9223372036854775807:=by
 unfold fL at h
 split at h
 ·simp only[Option.some.injEq,Prod.mk.injEq] at h
  rw[←h.1]
  exact gg .i64 _
 ·cases h
section
variable{α:Type}{D:List UInt8→Got α}
theorem aCO(x:Got (List α)):lJ [] x=x:=by
 unfold lJ;cases x with|none=>rfl|some y=>cases y with|none=>rfl|some z=>rfl
def oe(D:List UInt8→Got α)(g:Nat)(z B:Int):Got (List α)→Got (List α)
 |some (some (l,r))=>if 0≤z∧B-(r.length:Int)≠z then none else lJ l (bO D g r)
 |some none=>some none
 |none=>none
theorem aAN{g:Nat}{s r:List UInt8}{n:Int}(h:fL s=some (n,r))(h0:0<n):bO D (g+1) s=oe D g (-1) r.length (eT D n.toNat r):=by
 rw[bO,h]
 simp only
 rw[if_neg (by omega),if_pos h0]
 unfold oe lJ
 cases eT D n.toNat r with
 |none=>rfl
 |some x=>cases x with
  |none=>rfl
  |some x=>
   simp only
   rw[if_neg (by omega)]
   cases bO D g x.2 with|none=>rfl|some x=>cases x with|none=>rfl|some x=>rfl
theorem aAO{g:Nat}{s r q:List UInt8}{n z:Int}(h:fL s=some (n,r))(h0:n<0)(hz:fL r=some (z,q))(hz0:¬(z<0∨n< -9223372036854775807)):bO D (g+1) s=oe D g z q.length (eT D (-n).toNat q):=by
 rw[bO,h]
 simp only
 rw[if_neg (by omega),if_neg (by omega),hz]
 simp only
 rw[if_neg hz0]
 unfold oe lJ
 cases eT D (-n).toNat q with
 |none=>rfl
 |some x=>cases x with
  |none=>rfl
  |some x=>
   simp only
   by_cases e:(q.length:Int)-x.2.length≠z
   ·rw[if_pos e,if_pos ⟨by omega,e⟩]
   ·rw[if_neg e,if_neg (fun h=>e h.2)]
    cases bO D g x.2 with|none=>rfl|some x=>cases x with|none=>rfl|some x=>rfl
theorem aB0{g j:Nat}{z B:Int}{s:List UInt8}{x:Option (List α×List UInt8)}(h:oe D g z B (eT D (j+1) s)=some x):
  (D s=some none∧x=none)∨∃v r x',D s=some (some (v,r))∧oe D g z B (eT D j r)=some x'∧lJ [v] (some x')=some x:=by
 rw[eT] at h
 cases hD:D s with
 |none=>rw[hD] at h;simp[oe] at h
 |some d=>
  cases d with
  |none=>rw[hD] at h;simp only[oe,Option.some.injEq] at h;exact .inl ⟨rfl,h.symm⟩
  |some d=>
   obtain⟨v,r⟩:=d
   rw[hD] at h
   simp only at h
   refine .inr ⟨v,r,?_⟩
   cases hm:eT D j r with
   |none=>rw[hm] at h;simp[oe] at h
   |some m=>
    cases m with
    |none=>rw[hm] at h;simp only[oe,Option.some.injEq] at h;exact⟨none,rfl,rfl,by rw[←h];rfl⟩
    |some m=>
     obtain⟨l,r'⟩:=m
     rw[hm] at h
     simp only[oe] at h ⊢
     split at h
     ·cases h
     ·rename_i hz
      rw[if_neg hz]
      cases hb:bO D g r' with
      |none=>rw[hb] at h;simp[lJ] at h
      |some b=>cases b with
       |none=>rw[hb] at h;exact⟨none,trivial,rfl,by simpa [lJ] using h⟩
       |some b=>rw[hb] at h;exact⟨_,trivial,rfl,by simpa [lJ] using h⟩
variable(V:α→aB)(K:List α→List (List UInt8))(kd:Int)(x0:Option (List α×List UInt8))
def aEA:Option (List α×List UInt8)→List aB→List (List UInt8)→Prop
 |none,_,_=>x0=none
 |some (m,r),l,ks=>∃L,l=L.map V∧ks=K L∧x0=some (L++m,r)
def BSt(cont:List UInt8→Got (List α))(n0 al0:Int)(b:List UInt8)(n al e:Int)(l:List aB)(ks:List (List UInt8)):Prop:=
 e=3∨(e=0∧n0≤n∧n≤b.length∧al0≤al∧al≤2000∧(l.length:Int)≤al∧(kd=13→ks.length=l.length)∧∃x,cont (b.drop n.toNat)=some x∧aEA V K x0 x l ks)
variable{V K kd x0}
theorem ayp{g j:Nat}{z B n0 al0 n al:Int}{b:List UInt8}{l:List aB}{ks:List (List UInt8)}(h:BSt V K kd x0 (fun s=>oe D g z B (eT D (j+1) s)) n0 al0 b n al 0 l ks):
  ∃d,D (b.drop n.toNat)=some d∧∀n' al' e' l' ks',(e'=3∨(e'=0∧n≤n'∧n'≤b.length∧al+1≤al'∧al'≤2000∧l'.length≤l.length+1∧(kd=13→ks'.length=l'.length)∧∃v r,d=some (v,r)∧b.drop n'.toNat=r∧
   ∀L m r0,x0=some (L++v::m,r0)→l=L.map V→ks=K L→l'=(L++[v]).map V∧ks'=K (L++[v])))→
   BSt V K kd x0 (fun s=>oe D g z B (eT D j s)) n0 al0 b n' al' e' l' ks':=by
 obtain h|⟨-,h1,h2,h3,h4,h5,h6,x,hx,hr⟩:=h
 ·cases h
 obtain⟨hd,rfl⟩|⟨v,r,x',hd,hx',hp⟩:=aB0 hx
 ·refine⟨none,hd,fun n' al' e' l' ks' h'=>?_⟩
  obtain h'|⟨-, -, -, -, -, -, -,v,r,e, -⟩:=h'
  ·exact .inl h'
  ·cases e
 ·refine⟨some (v,r),hd,fun n' al' e' l' ks' h'=>?_⟩
  obtain h'|⟨he,a1,a2,a3,a4,a5,a6,v',r',e,a7,a8⟩:=h'
  ·exact .inl h'
  ·simp only[Option.some.injEq,Prod.mk.injEq] at e
   obtain⟨rfl,rfl⟩:=e
   refine .inr ⟨he,by omega,a2,by omega,a4,by omega,a6,x',by rw[a7];exact hx',?_⟩
   cases x' with
   |none=>
    simp only[lJ,Option.some.injEq] at hp
    subst hp
    exact hr
   |some x'=>
    obtain⟨m,r0⟩:=x'
    simp only[lJ,Option.some.injEq] at hp
    subst hp
    obtain⟨L,e1,e2,e3⟩:=hr
    obtain⟨f1,f2⟩:=a8 L m r0 e3 e1 e2
    exact⟨L++[v],f1,f2,by rw[e3];simp⟩
theorem aDs{g:Nat}{z B n0 n1 al0 n al e:Int}{b:List UInt8}{l:List aB}{ks:List (List UInt8)}(h:BSt V K kd x0 (fun s=>oe D g z B (eT D 0 s)) n1 al0 b n al e l ks)(hn:n0≤n1):BSt V K kd x0 (bO D g) n0 al0 b n al e l ks:=by
 obtain h|⟨h0,h1,h2,h3,h4,h5,h6,x,hx,hr⟩:=h
 ·exact .inl h
 refine .inr ⟨h0,by omega,h2,h3,h4,h5,h6,x,?_,hr⟩
 simp only[eT,oe] at hx
 split at hx
 ·cases hx
 ·rw[←hx,aCO]
end
def atV(ts:List aA)(f:Nat):Prop:=∀(b:List UInt8)(n al e t deep:Int),b.length≤1000000000000000→1≤deep→deep≤21→(21-deep).toNat=f→isT ts t=true→
 (e=3∨(e=0∧(0≤n∧n≤b.length)∧(0≤al∧al≤2000)∧∃y,bY ts f t (b.drop n.toNat)=some y))→∃r,bH ts b n al e t deep r
section
variable{α:Type}{D:List UInt8→Got α}{V:α→aB}{K:List α→List (List UInt8)}{x0:Option (List α×List UInt8)}{ts:List aA}{b:List UInt8}{deep:Int}{k:aA}{Q:Go.AM.V×List aJ→Prop}
variable(D V K x0 ts b deep k)
def aAP(n0 al0:Int)(s:bK):Prop:=match Sum.elim id id s with
 |(d,k',ts',b',n,al,e,_,_,_,_,_,q0,q1,l,ks,q4)=>d=deep∧k'=k∧ts'=ts∧b'=b∧q0=0∧q1=[]∧q4=0∧(k.kind=12→s.isLeft=true)∧∃g,BSt V K k.kind x0 (bO D g) n0 al0 b n al e l ks
def μO(s:bK):Nat:=match Sum.elim id id s with
 |(d,k',ts',b',n,al,e,_)=>if e=0 then (b.length-n).toNat+1 else 0
def aAQ(g:Nat)(z cnt bg al0:Int)(s:dy):Prop:=match Sum.elim id id s with
 |(d,k',c,z',bg',i,ts',b',n,al,e,_,_,_,_,_,q0,q1,l,ks,q4)=>d=deep∧k'=k∧c=cnt∧z'=z∧bg'=bg∧ts'=ts∧b'=b∧q0=0∧q1=[]∧q4=0∧(k.kind=12→s.isLeft=true)∧0≤i∧
  BSt V K k.kind x0 (fun s=>oe D g z (b.length-bg) (eT D (cnt-i).toNat s)) bg al0 b n al e l ks
def μI(s:dy):Nat:=match Sum.elim id id s with
 |(_,_,_,_,_,_,_,_,_,al,e,_)=>if e=0 then (2000-al).toNat+1 else 0
variable(Q)
def aAR(N:Nat):Prop:=∀(g M:Nat)(z cnt bg al0 n0:Int),cnt≤9223372036854775807→0≤n0→n0≤bg→0≤al0→(b.length-bg).toNat+1<M→b.length≤1000000000000000→
 ∀again0:bK→Ro,(∀s,aAP D V K x0 ts b deep k n0 al0 s→μO b s<M→Tot (again0 s) Q)→∀(again1:dy→Ro) s,aAQ D V K x0 ts b deep k g z cnt bg al0 s→
  (∀s',aAQ D V K x0 ts b deep k g z cnt bg al0 s'→μI s'<μI s→Tot (again1 s') Q)→Tot (dZ N again0 again1 s) Q
end
abbrev BT0:Type:=Int×aA×List aA×List UInt8×Int×Int×Int×Int×List UInt8×List aB×List (List UInt8)×Int×Int×List UInt8×List aB×List (List UInt8)×Int
section
variable{α:Type}{D:List UInt8→Got α}{V:α→aB}{K:List α→List (List UInt8)}{x0:Option (List α×List UInt8)}{ts:List aA}{b:List UInt8}{deep:Int}{k:aA}{Q:Go.AM.V×List aJ→Prop}
theorem aeg(C:BT0→bK)(hC:∀x,Sum.elim id id (C x)=x)(hCl:∀x,k.kind=12→(C x).isLeft=true){g M:Nat}{z cnt bg al0 n0 n al e i p0:Int}{p1:List UInt8}{p2:List aB}{p3:List (List UInt8)}{p4:Int}{l:List aB}{ks:List (List UInt8)}
  (h00:0≤n0) (h0:n0≤bg) (hM:(b.length-bg).toNat+1<M) (hb:b.length≤1000000000000000) {again0:bK→Ro} (hout:∀s,aAP D V K x0 ts b deep k n0 al0 s→μO b s<M→Tot (again0 s) Q) (hor:e≠0∨¬i<cnt)
  (hst:BSt V K k.kind x0 (fun s=>oe D g z (b.length-bg) (eT D (cnt-i).toNat s)) bg al0 b n al e l ks):
  Tot (cond (e==0) (cond (decide (0≤z)) (cond (!(IntKind.i64.wrap (n-bg)==z)) (again0 (C (deep,k,ts,b,n,al,2,p0,p1,p2,p3,p4,0,[],l,ks,0))) (again0 (C (deep,k,ts,b,n,al,e,p0,p1,p2,p3,p4,0,[],l,ks,0))))
   (again0 (C (deep,k,ts,b,n,al,e,p0,p1,p2,p3,p4,0,[],l,ks,0)))) (again0 (C (deep,k,ts,b,n,al,e,p0,p1,p2,p3,p4,0,[],l,ks,0)))) Q:=by
 have hc0:e=3∨(cnt-i).toNat=0:=by
  rcases hst with h|⟨h, -⟩
  ·exact .inl h
  ·exact .inr (by omega)
 have hend:Tot (again0 (C (deep,k,ts,b,n,al,e,p0,p1,p2,p3,p4,0,[],l,ks,0))) Q:=by
  refine hout _ ?_ ?_
  ·unfold aAP
   rw[hC]
   refine⟨rfl,rfl,rfl,rfl,rfl,rfl,rfl,hCl _,g,?_⟩
   rcases hc0 with h|h
   ·exact .inl h
   ·rw[h] at hst
    exact aDs hst h0
  ·unfold μO
   rw[hC]
   simp only
   rcases hst with h|⟨h,h1,h2, -⟩
   ·rw[h,if_neg (by decide)];omega
   ·rw[if_pos h];omega
 refine aD (fun he=>aD (fun hz=>aD (fun hne=>?_) (fun _=>hend)) (fun _=>hend)) (fun _=>hend)
 have he:e=0:=by simpa using he
 have hz:=of_decide_eq_true hz
 obtain h|⟨h,h1,h2,h3,h4,h5,h6,x,hx,hr⟩:=hst
 ·omega
 have hcz:(cnt-i).toNat=0:=by omega
 simp only[hcz,eT,oe,List.length_drop] at hx
 rw[aI _ (by omega)] at hne
 have hne:n-bg≠z:=by simpa using hne
 rw[if_pos ⟨hz,by omega⟩] at hx
 cases hx
end
section
variable{ts:List aA}{b:List UInt8}{deep:Int}{k:aA}{Q:Go.AM.V×List aJ→Prop}{f:Nat}(N:Nat)
theorem aDt(x0:Option (List aB×List UInt8))(hd:1≤deep∧deep≤20)(hf:(20-deep).toNat=f)(hk:k.kind=12)(ht:isT ts k.items=true)(hV:atV ts f):
  aAR (bY ts f k.items) id (fun _=>[]) x0 ts b deep k Q N:=by
 intro g M z cnt bg al0 n0 hc h00 h0 ha0 hM hb again0 hout again1 s hs next
 rcases s with x|x
 rotate_left
 ·obtain⟨d,k',c,z',bg',i,ts',b',n,al,e,p0,p1,p2,p3,p4,q0,q1,l,ks,q4⟩:=x
  obtain⟨-, -, -, -, -, -, -, -, -, -,h, -⟩:=hs
  cases h hk
 obtain⟨d,k',c,z',bg',i,ts',b',n,al,e,p0,p1,p2,p3,p4,q0,q1,l,ks,q4⟩:=x
 obtain⟨rfl,rfl,rfl,rfl,rfl,rfl,rfl,rfl,rfl,rfl,hl,hi,hst⟩:=hs
 simp only[Sum.elim_inl,id,μI] at hi hst next
 have ex:=fun hor=>aeg (D:=bY ts' f k'.items) (V:=id) (K:=fun _=>[]) (x0:=x0) (p0:=p0) (p1:=p1) (p2:=p2) (p3:=p3) (p4:=p4) Sum.inl (fun _=>rfl) (fun _ _=>rfl) h00 h0 hM hb hout hor hst
 unfold dZ
 dsimp only
 refine aD (fun h=>aD (fun he=>aD (fun _=>?_) (fun h=>?_)) (fun he=>ex (.inl (by simpa using he)))) (fun h=>ex (.inr (of_decide_eq_false h)))
 ·have he:e=0:=by simpa using he
  have h:=of_decide_eq_true h
  subst he
  obtain⟨j,hj⟩:∃j,(c-i).toNat=j+1:=⟨(c-i).toNat-1,by omega⟩
  have hj':(c-(i+1)).toNat=j:=by omega
  rw[hj] at hst
  obtain⟨y,hy,hgo⟩:=ayp hst
  obtain h3|⟨-,h1,h2,h3,h4,h5, -⟩:=hst
  ·cases h3
  rw[aI (d+1) (by omega),aI (i+1) (by omega)]
  refine aF (hV b' n al 0 _ (d+1) hb (by omega) (by omega) (by omega) ht (.inr ⟨rfl,by omega,by omega,y,hy⟩)) ?_
  rintro⟨v,ts2,b2,n2,al2,e2⟩ ⟨-, -,hr⟩
  have hr:=hr y (by rw[show (21-(d+1)).toNat=f by omega];exact hy)
  dsimp only at hr ⊢
  refine vck ?_
  rw[dX]
  obtain⟨n3,al3,e3⟩|⟨v',q,n3,al3,hyq,e3,r1,r2,r3,r4,r5⟩:=hr
  ·simp only[Prod.mk.injEq] at e3
   obtain⟨rfl,rfl,rfl,rfl,rfl⟩:=e3
   exact next _ ⟨rfl,rfl,rfl,rfl,rfl,rfl,rfl,rfl,rfl,rfl,fun _=>rfl,by omega,.inl rfl⟩ (by simp)
  ·simp only[Prod.mk.injEq] at e3
   obtain⟨rfl,rfl,rfl,rfl,rfl,rfl⟩:=e3
   refine next _ ⟨rfl,rfl,rfl,rfl,rfl,rfl,rfl,rfl,rfl,rfl,fun _=>rfl,by omega,?_⟩ (by simp;omega)
   rw[hj']
   refine hgo _ _ _ _ _ (.inr ⟨rfl,r2,r3,r4,r5,by simp,fun h=>by omega,_,_,hyq,r1,fun L m r0 e1 e2 e3=>⟨by rw[e2];simp,e3⟩⟩)
 ·simp only[bnl] at h;exact absurd hk h
theorem aB1{D:List UInt8→Got aB}{s:List UInt8}{d:Option ((List UInt8×aB)×List UInt8)}(h:lQ D s=some d):
  (lP s=some none∧d=none)∨∃key r d',lP s=some (some (key,r))∧cJ key=true∧D r=some d'∧d=d'.map (fun x=>((key,x.1),x.2)):=by
 unfold lQ at h
 cases ht:lP s with
 |none=>rw[ht] at h;cases h
 |some x=>
  rw[ht] at h
  cases x with
  |none=>simp only[Option.some.injEq] at h;exact .inl ⟨rfl,h.symm⟩
  |some x=>
   obtain⟨key,r⟩:=x
   simp only at h
   split at h
   ·cases h
   ·rename_i hv
    refine .inr ⟨key,r,?_⟩
    cases hd:D r with
    |none=>rw[hd] at h;cases h
    |some y=>
     rw[hd] at h
     refine⟨y,rfl,by simpa using hv,rfl,?_⟩
     cases y with
     |none=>simp only[Option.some.injEq] at h;exact h.symm
     |some y=>simp only[Option.some.injEq] at h;exact h.symm
theorem arV:∀{a b c:List UInt8},Op.bytesLess a b=true→Op.bytesLess b c=true→Op.bytesLess a c=true
 |_,[],_,h,_=>by simp[Op.bytesLess] at h
 |_,_::_,[],_,h=>by simp[Op.bytesLess] at h
 | [],_::_,_::_,_,_=>by simp[Op.bytesLess]
 |a::x,b::y,c::z,h1,h2=>by
  simp only[Op.bytesLess,Bool.or_eq_true,Bool.and_eq_true,decide_eq_true_eq,beq_iff_eq] at h1 h2 ⊢
  rcases h1 with h1|⟨rfl,h1⟩
  ·rcases h2 with h2|⟨rfl,h2⟩
   ·exact .inl (UInt8.lt_trans h1 h2)
   ·exact .inl h1
  ·rcases h2 with h2|⟨rfl,h2⟩
   ·exact .inl h2
   ·exact .inr ⟨rfl,arV h1 h2⟩
theorem arW:∀(p:List UInt8)(l m:List (List UInt8))(key:List UInt8),lN p (l++key::m)=true→Op.bytesLess p key=true∧∀x∈l,Op.bytesLess x key=true
 |p,[],m,key,h=>by
  simp only[List.nil_append,lN,Bool.and_eq_true] at h
  exact⟨h.2.1,fun x hx=>by cases hx⟩
 |p,a::l,m,key,h=>by
  simp only[List.cons_append,lN,Bool.and_eq_true] at h
  obtain⟨h1,h2⟩:=arW a l m key h.2.2
  refine⟨arV h.2.1 h1,fun x hx=>?_⟩
  rcases List.mem_cons.1 hx with e|e
  ·rw[e];exact h1
  ·exact h2 x e
theorem aAS(l m:List (List UInt8))(key:List UInt8)(h:dl (l++key::m)=true):∀x∈l,Op.bytesLess x key=true:=by
 cases l with
 |nil=>intro x hx;cases hx
 |cons a l=>
  simp only[List.cons_append,dl,Bool.and_eq_true] at h
  obtain⟨h1,h2⟩:=arW a l m key h.2
  intro x hx
  rcases List.mem_cons.1 hx with e|e
  ·rw[e];exact h1
  ·exact h2 x e
theorem aDu(x0:Option (List (List UInt8×aB)×List UInt8))(hx0:∀l r,x0=some (l,r)→dl (l.map (·.1))=true)(hd:1≤deep∧deep≤20)(hf:(20-deep).toNat=f)(hk:k.kind=13)(ht:isT ts k.items=true)(hV:atV ts f):
  aAR (lQ (bY ts f k.items)) (·.2) (fun L=>L.map (·.1)) x0 ts b deep k Q N:=by
 intro g M z cnt bg al0 n0 hc h00 h0 ha0 hM hb again0 hout again1 s hs next
 have hk12:k.kind≠12:=by omega
 rcases s with x|x
 all_goals
  obtain⟨d,k',c,z',bg',i,ts',b',n,al,e,p0,p1,p2,p3,p4,q0,q1,l,ks,q4⟩:=x
  obtain⟨rfl,rfl,rfl,rfl,rfl,rfl,rfl,rfl,rfl,rfl, -,hi,hst⟩:=hs
  simp only[Sum.elim_inl,Sum.elim_inr,id,μI] at hi hst next
  unfold dZ
  dsimp only
  refine aD (fun h=>aD (fun he=>aD (fun h=>absurd (by simpa using h) hk12) (fun _=>?_)) (fun he=>?_)) (fun h=>?_)
  rotate_left
  ·first
    |exact aeg (D:=lQ (bY ts' f k'.items)) (V:=(·.2)) (K:=fun L=>L.map (·.1)) (x0:=x0) Sum.inl (fun _=>rfl) (fun _ h=>absurd h hk12) h00 h0 hM hb hout (.inl (by simpa using he)) hst
    |exact aeg (D:=lQ (bY ts' f k'.items)) (V:=(·.2)) (K:=fun L=>L.map (·.1)) (x0:=x0) Sum.inr (fun _=>rfl) (fun _ h=>absurd h hk12) h00 h0 hM hb hout (.inl (by simpa using he)) hst
  ·first
    |exact aeg (D:=lQ (bY ts' f k'.items)) (V:=(·.2)) (K:=fun L=>L.map (·.1)) (x0:=x0) Sum.inl (fun _=>rfl) (fun _ h=>absurd h hk12) h00 h0 hM hb hout (.inr (of_decide_eq_false h)) hst
    |exact aeg (D:=lQ (bY ts' f k'.items)) (V:=(·.2)) (K:=fun L=>L.map (·.1)) (x0:=x0) Sum.inr (fun _=>rfl) (fun _ h=>absurd h hk12) h00 h0 hM hb hout (.inr (of_decide_eq_false h)) hst
  have he:e=0:=by simpa using he
  have h:=of_decide_eq_true h
  subst he
  obtain⟨j,hj⟩:∃j,(c-i).toNat=j+1:=⟨(c-i).toNat-1,by omega⟩
  have hj':(c-(i+1)).toNat=j:=by omega
  rw[hj] at hst
  obtain⟨y,hy,hgo⟩:=ayp hst
  rw[←hj'] at hgo
  obtain h3|⟨-,h1,h2,h3,h4,h5,h6, -⟩:=hst
  ·cases h3
  have h6:=h6 hk
  have ed:IntKind.i64.wrap (d+1)=d+1:=aI (d+1) (by omega)
  have ei:IntKind.i64.wrap (i+1)=i+1:=aI (i+1) (by omega)
  have hfd:(21-(d+1)).toNat=f:=by omega
  rw[ed,ei]
  have hlim:∀(ts2:List aA)(b2:List UInt8)(n2 al2:Int),ts2=ts'→b2=b'→∃r:aB×List aA×List UInt8×Int×Int×Int,bH ts2 b2 n2 al2 3 k'.items (d+1) r:=fun ts2 b2 n2 al2 e1 e2=>by
   subst e1 e2
   exact hV _ n2 al2 3 _ (d+1) hb (by omega) (by omega) hfd ht (.inl rfl)
  obtain⟨ht0,rfl⟩|⟨key,q,d',ht0,hkv,hd',rfl⟩:=aB1 hy
  ·refine aF (afl hb (by omega) _ ht0) ?_
   rintro⟨tx,ts2,b2,n2,al2,e2⟩ ⟨-,hr⟩
   obtain⟨rfl,n3,al3,e3⟩|⟨x,q,n3,e3, -⟩:=hr _ ht0
   rotate_left
   ·cases e3
   simp only[Prod.mk.injEq] at e3
   obtain⟨rfl,rfl,rfl,rfl,rfl⟩:=e3
   refine aF (yg _) ?_
   rintro(r7:Bool) ⟨-,hv⟩
   have hv:r7=cJ []:=hv
   subst hv
   refine aD (fun hv=>by cases hv) (fun _=>?_)
   refine aF (hlim _ _ _ _ rfl rfl) ?_
   rintro⟨v,ts3,b3,n3,al3,e3⟩ ⟨-,hr2, -⟩
   obtain⟨n4,al4,e4⟩:=hr2 rfl
   simp only[Prod.mk.injEq] at e4
   obtain⟨rfl,rfl,rfl,rfl,rfl⟩:=e4
   refine aD (fun h=>by cases h) (fun _=>?_)
   exact next _ ⟨rfl,rfl,rfl,rfl,rfl,rfl,rfl,rfl,rfl,rfl,fun h=>absurd h hk12,by omega,.inl rfl⟩ (by simp)
  ·refine aF (afl hb (by omega) _ ht0) ?_
   rintro⟨tx,ts2,b2,n2,al2,e2⟩ ⟨-,hr⟩
   obtain⟨rfl,n3,al3,e3⟩|⟨x,q2,n3,e3,e4,g1,g2,g3⟩:=hr _ ht0
   ·simp only[Prod.mk.injEq] at e3
    obtain⟨rfl,rfl,rfl,rfl,rfl⟩:=e3
    refine aF (yg _) ?_
    rintro(r7:Bool) ⟨-,hv⟩
    have hv:r7=cJ []:=hv
    subst hv
    refine aD (fun hv=>by cases hv) (fun _=>?_)
    refine aF (hlim _ _ _ _ rfl rfl) ?_
    rintro⟨v,ts3,b3,n3,al3,e3⟩ ⟨-,hr2, -⟩
    obtain⟨n4,al4,e4⟩:=hr2 rfl
    simp only[Prod.mk.injEq] at e4
    obtain⟨rfl,rfl,rfl,rfl,rfl⟩:=e4
    refine aD (fun h=>by cases h) (fun _=>?_)
    exact next _ ⟨rfl,rfl,rfl,rfl,rfl,rfl,rfl,rfl,rfl,rfl,fun h=>absurd h hk12,by omega,.inl rfl⟩ (by simp)
   simp only[Option.some.injEq,Prod.mk.injEq] at e3 e4
   obtain⟨rfl,rfl⟩:=e3
   obtain⟨rfl,rfl,rfl,rfl,rfl,rfl⟩:=e4
   refine aF (yg _) ?_
   rintro(r7:Bool) ⟨-,hv⟩
   have hv:r7=cJ tx:=hv
   subst hv
   refine aD (fun hv=>by rw[hkv] at hv;cases hv) (fun _=>?_)
   have hd2:bY ts2 f k'.items (b2.drop n2.toNat)=some d':=by rw[g1];exact hd'
   refine aF (hV b2 n2 al2 0 k'.items (d+1) hb (by omega) (by omega) hfd ht (.inr ⟨rfl,by omega,by omega,d',hd2⟩)) ?_
   rintro⟨v,ts3,b3,n3,al3,e3⟩ ⟨-, -,hr2⟩
   have hr2:=hr2 d' (by rw[hfd];exact hd2)
   obtain⟨n4,al4,e4⟩|⟨v',q3,n4,al4,hyq,e4,r1,r2,r3,r4,r5⟩:=hr2
   ·simp only[Prod.mk.injEq] at e4
    obtain⟨rfl,rfl,rfl,rfl,rfl⟩:=e4
    refine aD (fun h=>by cases h) (fun _=>?_)
    exact next _ ⟨rfl,rfl,rfl,rfl,rfl,rfl,rfl,rfl,rfl,rfl,fun h=>absurd h hk12,by omega,.inl rfl⟩ (by simp)
   ·simp only[Prod.mk.injEq] at e4
    obtain⟨rfl,rfl,rfl,rfl,rfl,rfl⟩:=e4
    subst hyq
    dsimp only at r1 r2 r3 r4 r5 g2 g3
    refine aD (fun _=>?_) (fun h=>by cases h)
    refine aF (agZ _ _ _ _ _ _ _ _ _ _ _ h6 (by omega)) ?_
    rintro⟨w0,w1,w2,w3,w4⟩ ⟨-,s1,s2,s3,s4,s5, -, -, -, -,s6⟩
    dsimp only at s1 s2 s3 s4 s5 s6 ⊢
    subst s3 s4 s5
    refine next _ ⟨rfl,rfl,rfl,rfl,rfl,rfl,rfl,rfl,rfl,rfl,fun h=>absurd h hk12,by omega,?_⟩ (by simp;omega)
    refine hgo _ _ _ _ _ (.inr ⟨rfl,by omega,r3,by omega,r5,s2,fun _=>s1,_,_,rfl,r1,fun L m r0 e1 e2 e3=>?_⟩)
    have hk0:=hx0 _ _ e1
    rw[List.map_append,List.map_cons] at hk0
    have hk1:=aAS _ _ _ hk0
    obtain⟨f1,f2⟩:=s6 (fun x hx=>hk1 x (by rw[e3] at hx;exact hx)) h6
    have hrv:(aB.mk v.n v.s v.l v.keys v.branch)=v:=dX v
    rw[hrv] at f1
    exact⟨by rw[f1,e2];simp,by rw[f2,e3];simp⟩
theorem arX{α:Type}{D:List UInt8→Got α}{V:α→aB}{K:List α→List (List UInt8)}{x0:Option (List α×List UInt8)}{y:Option (aB×List UInt8)}{n al:Int}(hK:K []=[])(hb:b.length≤1000000000000000)(hn:0≤n∧n≤b.length)(hal:0≤al∧al≤2000)
  (hx:bO D ((b.drop n.toNat).length+1) (b.drop n.toNat)=some x0) (hy:∀l r,x0=some (l,r)→y=some (.mk 0 [] (l.map V) (K l) 0,r)) (hpost:∀r,Rd ts b n al y r→iK ts b n al 0 k deep r)
  (hin:∀(Q:Go.AM.V×List aJ→Prop) N,aAR D V K x0 ts b deep k Q N):∃r,cN ts b n al 0 k deep r:=by
 apply aef (b.length+3000)
 unfold vR gD
 refine bm (aAP D V K x0 ts b deep k n al) (μO b) ?_ _ _ ⟨rfl,rfl,rfl,rfl,rfl,rfl,rfl,fun _=>rfl,_,.inr ⟨rfl,by omega,hn.2,by omega,hal.2,by simpa using hal.1,fun _=>rfl,x0,hx,?_⟩⟩ (by simp only[μO,Sum.elim_inl,id];rw[if_pos trivial];omega)
 rotate_left
 ·cases x0 with
  |none=>rfl
  |some x=>exact⟨[],rfl,hK.symm,rfl⟩
 intro again0 s hs ih
 rcases s with x|x
 all_goals
  obtain⟨d,k',ts',b',n',al',e,p0,p1,p2,p3,p4,q0,q1,l,ks,q4⟩:=x
  obtain⟨rfl,rfl,rfl,rfl,rfl,rfl,rfl,hl,g,hst⟩:=hs
  simp only[Sum.elim_inl,Sum.elim_inr,id,μO] at hst ih
  unfold jD iM
  dsimp only
  obtain rfl|⟨rfl,h1,h2,h3,h4,h5,h6,x,hx',hr⟩:=hst
  ·refine aD (fun h=>by cases h) (fun _=>aG ⟨.mk 0 [] l ks 0,_,_,_,_,_,_,rfl,rfl,?_⟩)
   exact hpost _ (.inl ⟨_,_,rfl⟩)
  refine aD (fun _=>?_) (fun h=>by cases h)
  have hg:∃g',g=g'+1:=by cases g with|zero=>cases hx'|succ g=>exact⟨g,rfl⟩
  obtain⟨g,rfl⟩:=hg
  have hz:∃z q,fL (b'.drop n'.toNat)=some (z,q):=by
   cases hz:fL (b'.drop n'.toNat) with
   |none=>rw[bO,hz] at hx';cases hx'
   |some p=>exact⟨p.1,p.2,rfl⟩
  obtain⟨z,q,hz⟩:=hz
  have hzr:=aBZ hz
  refine aF (yy hb (by omega) z q hz) ?_
  rintro⟨zz,ts2,b2,n2,al2,e2⟩ ⟨-,hr2⟩
  obtain⟨n3,e3,g1,g2,g3⟩:=hr2 z q hz
  simp only[Prod.mk.injEq] at e3
  obtain⟨rfl,rfl,rfl,rfl,rfl,rfl⟩:=e3
  dsimp only
  refine aD (fun h=>by cases h) (fun _=>aD (fun h=>?_) (fun h=>aD (fun hneg=>?_) (fun hneg=>?_)))
  ·have h:zz=0:=by simpa using h
   rw[bO,hz] at hx'
   simp only at hx'
   rw[if_pos h] at hx'
   simp only[Option.some.injEq] at hx'
   subst hx'
   obtain⟨L,e1,e2,e3⟩:=hr
   refine aG ⟨.mk 0 [] l ks 0,_,_,_,_,_,_,rfl,rfl,?_⟩
   refine hpost _ (.inr ⟨_,_,_,_,?_,rfl,g1,by omega,g3,h3,h4⟩)
   rw[List.append_nil] at e3
   rw[hy L q e3,e1,e2]
  ·have hneg:=of_decide_eq_true hneg
   have hz0:zz≠0:=by simpa using h
   have hb2:∃z2 q2,fL q=some (z2,q2)∧¬(z2<0∨zz< -9223372036854775807):=by
    rw[bO,hz] at hx'
    simp only at hx'
    rw[if_neg (by omega),if_neg (by omega)] at hx'
    cases hz2:fL q with
    |none=>rw[hz2] at hx';cases hx'
    |some p=>
     rw[hz2] at hx'
     refine⟨p.1,p.2,rfl,fun hh=>?_⟩
     simp only at hx'
     rw[if_pos hh] at hx'
     cases hx'
   obtain⟨z2,q2,hq2,hnz⟩:=hb2
   rw[aAO hz hneg hq2 hnz] at hx'
   rw[aI (0-zz) (by omega)]
   refine aD (fun h=>by have:=of_decide_eq_true h;omega) (fun _=>?_)
   have hq3:fL (b2.drop n2.toNat)=some (z2,q2):=by rw[g1];exact hq2
   refine aF (yy hb (by omega) z2 q2 hq3) ?_
   rintro⟨z3,ts3,b3,n3,al3,e3⟩ ⟨-,hr3⟩
   obtain⟨n4,e4,i1,i2,i3⟩:=hr3 z2 q2 hq3
   simp only[Prod.mk.injEq] at e4
   obtain⟨rfl,rfl,rfl,rfl,rfl,rfl⟩:=e4
   dsimp only
   refine aD (fun h=>by have:=of_decide_eq_true h;omega) (fun _=>?_)
   refine bm (aAQ D V K x0 ts3 b3 d k' g z3 (0-zz) n3 al) μI ?_ _ _ ⟨rfl,rfl,rfl,rfl,rfl,rfl,rfl,rfl,rfl,rfl,hl,by omega,?_⟩ (by simp only[μI,Sum.elim_inl,Sum.elim_inr,id];rw[if_pos trivial];omega)
   ·intro again1 s hs next
    exact hin _ _ g ((b3.length-n').toNat+1) z3 (0-zz) n3 al n (by omega) (by omega) (by omega) (by omega) (by omega) hb again0 (fun s hs hm=>ih s hs (by simp only[if_true];exact hm)) again1 s hs next
   ·refine .inr ⟨rfl,by omega,i3,h3,h4,h5,h6,x,?_,hr⟩
    rw[show ((0:Int)-zz-0).toNat=(-zz).toNat by omega,i1]
    have:(q2.length:Int)=b3.length-n3:=by rw[←i1,List.length_drop];omega
    rw[←this]
    exact hx'
  ·have hneg:=of_decide_eq_false hneg
   have hz0:zz≠0:=by simpa using h
   rw[aAN hz (by omega)] at hx'
   refine bm (aAQ D V K x0 ts2 b2 d k' g (-1) zz n2 al) μI ?_ _ _ ⟨rfl,rfl,rfl,rfl,rfl,rfl,rfl,rfl,rfl,rfl,hl,by omega,?_⟩ (by simp only[μI,Sum.elim_inl,Sum.elim_inr,id];rw[if_pos trivial];omega)
   ·intro again1 s hs next
    exact hin _ _ g ((b2.length-n').toNat+1) (-1) zz n2 al n (by omega) (by omega) (by omega) (by omega) (by omega) hb again0 (fun s hs hm=>ih s hs (by simp only[if_true];exact hm)) again1 s hs next
   ·refine .inr ⟨rfl,by omega,g3,h3,h4,h5,h6,x,?_,hr⟩
    rw[show (zz-0).toNat=zz.toNat by omega,g1]
    have:(q.length:Int)=b2.length-n2:=by rw[←g1,List.length_drop];omega
    rw[←this]
    exact hx'
end
end Go.Proofs.YtdpajabhmmmjoaaGreat
end
noncomputable section
namespace Go.Proofs.YtdpajabhmmmjoaaGreat
open Go.AM
set_option autoImplicit false
set_option linter.unusedSimpArgs false
set_option linter.unusedVariables false
set_option maxRecDepth 100000
section
variable{ts:List aA}{b:List UInt8}{deep:Int}{k:aA}{f:Nat}{n al:Int}
theorem aoy(hd:1≤deep∧deep≤20)(hf:(20-deep).toNat=f)(hk:k.kind=12∨k.kind=13)(ht:isT ts k.items=true)(hV:atV ts f)(hb:b.length≤1000000000000000)(hn:0≤n∧n≤b.length)(hal:0≤al∧al≤2000)
  (y:Option (aB×List UInt8)) (hy:decK (bY ts f) k k.kind (b.drop n.toNat)=some y):∃r,cN ts b n al 0 k deep r:=by
 have hpost:∀r,Rd ts b n al y r→iK ts b n al 0 k deep r:=fun r hr y' hy'=>by
  rw[hf,hy] at hy'
  simp only[Option.some.injEq] at hy'
  rw[←hy'];exact hr
 rcases hk with hk|hk
 ·rw[hk] at hy
  have hy:(match bO (bY ts f k.items) ((b.drop n.toNat).length+1) (b.drop n.toNat) with|some (some (l,r))=>some (some (.mk 0 [] l [] 0,r))|some none=>some none|none=>none)=some y:=hy
  cases hx:bO (bY ts f k.items) ((b.drop n.toNat).length+1) (b.drop n.toNat) with
  |none=>rw[hx] at hy;cases hy
  |some x0=>
   rw[hx] at hy
   refine arX (V:=id) (K:=fun _=>[]) rfl hb hn hal hx (fun l r e=>?_) hpost fun Q N=>aDt N x0 hd hf hk ht hV
   subst e
   simpa using hy.symm
 ·rw[hk] at hy
  have hy:(match bO (lQ (bY ts f k.items)) ((b.drop n.toNat).length+1) (b.drop n.toNat) with
   |some (some (l,r))=>if dl (l.map (·.1)) then some (some (.mk 0 [] (l.map (·.2)) (l.map (·.1)) 0,r)) else none|some none=>some none|none=>none)=some y:=hy
  cases hx:bO (lQ (bY ts f k.items)) ((b.drop n.toNat).length+1) (b.drop n.toNat) with
  |none=>rw[hx] at hy;cases hy
  |some x0=>
   rw[hx] at hy
   have hx0:∀l r,x0=some (l,r)→dl (l.map (·.1))=true∧y=some (.mk 0 [] (l.map (·.2)) (l.map (·.1)) 0,r):=fun l r e=>by
    subst e
    simp only at hy
    split at hy
    ·rename_i h;exact⟨h,by simpa using hy.symm⟩
    ·cases hy
   exact arX (V:=(·.2)) (K:=fun L=>L.map (·.1)) rfl hb hn hal hx (fun l r e=>(hx0 l r e).2) hpost fun Q N=>aDu N x0 (fun l r e=>(hx0 l r e).1) hd hf hk ht hV
theorem arY{j:Int}{x q:List UInt8}(hn:0≤n∧n≤b.length)(hj:0≤j)(h:kO j.toNat (b.drop n.toNat)=some (x,q)):b.drop (n+j).toNat=q∧n+j≤b.length:=by
 unfold kO at h
 split at h
 ·rename_i hle
  rw[List.length_drop] at hle
  simp only[Option.some.injEq,Prod.mk.injEq] at h
  rw[←h.2,List.drop_drop]
  exact⟨by congr 1;omega,by omega⟩
 ·cases h
theorem amZ{j v:Int}{q:List UInt8}(hn:0≤n∧n≤b.length)(hj:0≤j)(h:pZ j.toNat (b.drop n.toNat)=some (v,q)):b.drop (n+j).toNat=q∧n+j≤b.length:=by
 unfold pZ at h
 cases ht:kO j.toNat (b.drop n.toNat) with
 |none=>rw[ht] at h;cases h
 |some p=>
  rw[ht] at h
  simp only[Option.some.injEq,Prod.mk.injEq] at h
  exact h.2▸arY (x:=p.1) hn hj ht
theorem azU{j:Nat}{s q:List UInt8}{i:Int}(h:sH j s=some (i,q)):0≤i∧i<j:=by
 unfold sH at h
 split at h
 ·split at h
  ·rename_i h'
   simp only[Option.some.injEq,Prod.mk.injEq] at h
   rw[←h.1];exact h'
  ·cases h
 ·cases h
theorem aoz{D:Int→List UInt8→Got aB}{a:aO}{fs:List aO}{s:List UInt8}{x:Option (List aB×List UInt8)}(h:dv D (a::fs) s=some x):
  (D a.typ s=some none∧x=none)∨∃v r x',D a.typ s=some (some (v,r))∧dv D fs r=some x'∧x=x'.map (fun p=>(v::p.1,p.2)):=by
 rw[dv] at h
 cases hD:D a.typ s with
 |none=>rw[hD] at h;cases h
 |some d=>
  rw[hD] at h
  cases d with
  |none=>simp only[Option.some.injEq] at h;exact .inl ⟨rfl,h.symm⟩
  |some d=>
   obtain⟨v,r⟩:=d
   simp only at h
   refine .inr ⟨v,r,?_⟩
   cases hm:dv D fs r with
   |none=>rw[hm] at h;cases h
   |some m=>
    rw[hm] at h
    cases m with
    |none=>simp only[Option.some.injEq] at h;exact⟨none,rfl,rfl,h.symm⟩
    |some m=>simp only[Option.some.injEq] at h;exact⟨some m,rfl,rfl,h.symm⟩
def aEB(D:Int→List UInt8→Got aB)(x0:Option (List aB×List UInt8))(ts:List aA)(b:List UInt8)(deep:Int)(k:aA)(n0 al0:Int)(s:gB):Prop:=match s with
 |(d,k',i,ts',b',n,al,e,_,_,_,_,_,q0,q1,l,ks,q4)=>d=deep∧k'=k∧ts'=ts∧b'=b∧q0=0∧q1=[]∧ks=[]∧q4=0∧0≤i∧i≤k.fields.length∧(l.length:Int)=i∧
  (e=3∨(e=0∧n0≤n∧n≤b.length∧al0≤al∧al≤2000∧∃x,dv D (k.fields.drop i.toNat) (b.drop n.toNat)=some x∧x0=x.map (fun p=>(l++p.1,p.2))))
theorem aCP(hs:dJ ts)(g:Nat)(hV:atV ts g):atV ts (g+1):=by
 intro b n al e t deep hb hd1 hd2 hf ht he
 have hd20:deep≤20:=by omega
 apply vQ 100
 unfold pz fD
 dsimp only
 refine aD (fun h=>by have:=of_decide_eq_true h;omega) (fun _=>aD (fun h=>?_) (fun hal=>?_))
 ·refine aF (amX _ _ _ _ _ _) ?_
  rintro r ⟨-,hr⟩
  have hr:r=(ts,b,n,IntKind.i64.wrap (al+1),3):=by
   rw[show r=(ts,b,n,IntKind.i64.wrap (al+1),if e=0 then 3 else e) from hr]
   rcases he with rfl|⟨rfl, -⟩<;>rfl
  subst hr
  dsimp only
  exact aD (fun _=>aG ⟨.mk _ _ _ _ _,_,_,_,_,_,_,rfl,rfl,fun _=>⟨_,_,rfl⟩,fun _ _=>.inl ⟨_,_,rfl⟩⟩) (fun h=>by cases h)
 obtain rfl|⟨rfl,hn,hal0,y,hy⟩:=he
 ·exact aD (fun _=>aG ⟨.mk _ _ _ _ _,_,_,_,_,_,_,rfl,rfl,fun _=>⟨_,_,rfl⟩,fun _ _=>.inl ⟨_,_,rfl⟩⟩) (fun h=>by cases h)
 rw[aI (al+1) (by omega)] at hal ⊢
 have hal:=of_decide_eq_false hal
 have hpost:∀r,Rd ts b n (al+1) y r→nM ts b n al 0 t deep r:=fun r hr=>⟨fun h=>(by cases h),fun y' hy'=>by
  rw[hf,hy] at hy'
  simp only[Option.some.injEq] at hy'
  rw[←hy'];exact hr⟩
 have hT:=ht
 simp only[isT,Bool.and_eq_true,decide_eq_true_eq] at hT
 refine aD (fun h=>by cases h) (fun _=>aP (ixt (by omega)) ?_)
 rw[bY] at hy
 have hok:iR ts.length (ts.getD t.toNat (aC .atype)):=hs.2 _ (by
  rw[List.getD_eq_getElem?_getD,List.getElem?_eq_getElem (by omega)]
  exact List.getElem_mem _)
 generalize List.getD ts t.toNat (aC .atype)=k at hy hok ⊢
 have hdd:IntKind.i64.wrap (deep+1)=deep+1:=aI _ (by omega)
 have hfd:(21-(deep+1)).toNat=g:=by omega
 have hf20:(20-deep).toNat=g:=by omega
 have hle:n≤b.length:=hn.2
 rw[hdd]
 generalize hs0:b.drop n.toNat=s at hy
 refine aD (fun hc=>?_) (fun c2=>aD (fun hc=>?_) (fun c3=>aD (fun hc=>?_) (fun c4=>aD (fun hc=>?_) (fun c5=>aD (fun hc=>?_) (fun c6=>aD (fun hc=>?_) (fun c7=>aD (fun hc=>?_) (fun c8=>aD (fun hc=>?_) (fun c10=>aD (fun hc=>?_) (fun c11=>aD (fun hc=>?_) (fun c14=>aD (fun hc=>?_) (fun c9=>
  aD (fun hc=>?_) (fun c12=>aD (fun hc=>?_) (fun c13=>?_)))))))))))))
 ·have hc:k.kind=2:=by simpa using hc
  rw[hc] at hy
  replace hy:(match pZ 1 s with|some (n,r)=>if n≤1 then some (some (.mk n [] [] [] 0,r)) else none|none=>none)=some y:=hy
  cases hl:pZ 1 s with
  |none=>rw[hl] at hy;cases hy
  |some p=>
   obtain⟨v,q⟩:=p
   rw[hl] at hy
   simp only at hy
   split at hy
   ·rename_i hv
    simp only[Option.some.injEq] at hy
    subst hy
    subst hs0
    obtain⟨g1,g2⟩:=amZ (j:=1) hn (by decide) hl
    refine aF (apV hb hn 1 (by decide) v q hl) ?_
    rintro r ⟨-,hr⟩
    obtain rfl:=hr v q hl
    dsimp only
    refine aD (fun h=>by have:=of_decide_eq_true h;omega) (fun _=>aG ⟨.mk _ _ _ _ _,_,_,_,_,_,_,rfl,rfl,hpost _ (.inr ⟨_,_,_,_,rfl,rfl,g1,by omega,g2,by omega,by omega⟩)⟩)
   ·cases hy
 ·have hc:k.kind=3:=by simpa using hc
  rw[hc] at hy
  replace hy:(match fL s with|some (n,r)=>if -2147483648≤n∧n<2147483648 then some (some (.mk (IntKind.wrap .u64 n) [] [] [] 0,r)) else none|none=>none)=some y:=hy
  cases hl:fL s with
  |none=>rw[hl] at hy;cases hy
  |some p=>
   obtain⟨v,q⟩:=p
   rw[hl] at hy
   simp only at hy
   split at hy
   ·rename_i hv
    simp only[Option.some.injEq] at hy
    subst hy
    subst hs0
    refine aF (yy hb hn v q hl) ?_
    rintro r ⟨-,hr⟩
    obtain⟨n',rfl,g1,g2,g3⟩:=hr v q hl
    dsimp only
    refine aD (fun _=>aD (fun h=>by have:=of_decide_eq_true h;omega) (fun _=>aD (fun h=>by have:=of_decide_eq_true h;omega) (fun _=>?_))) (fun h=>by simp[hc] at h)
    exact aG ⟨.mk _ _ _ _ _,_,_,_,_,_,_,rfl,rfl,hpost _ (.inr ⟨_,_,_,_,rfl,rfl,g1,by omega,g3,by omega,by omega⟩)⟩
   ·cases hy
 ·have hc:k.kind=4:=by simpa using hc
  rw[hc] at hy
  replace hy:(match fL s with|some (n,r)=>some (some (.mk (IntKind.wrap .u64 n) [] [] [] 0,r))|none=>none)=some y:=hy
  cases hl:fL s with
  |none=>rw[hl] at hy;cases hy
  |some p=>
   obtain⟨v,q⟩:=p
   rw[hl] at hy
   simp only[Option.some.injEq] at hy
   subst hy
   subst hs0
   refine aF (yy hb hn v q hl) ?_
   rintro r ⟨-,hr⟩
   obtain⟨n',rfl,g1,g2,g3⟩:=hr v q hl
   dsimp only
   refine aD (fun h=>by simp[hc] at h) (fun _=>?_)
   exact aG ⟨.mk _ _ _ _ _,_,_,_,_,_,_,rfl,rfl,hpost _ (.inr ⟨_,_,_,_,rfl,rfl,g1,by omega,g3,by omega,by omega⟩)⟩
 ·have hc:k.kind=5:=by simpa using hc
  rw[hc] at hy
  replace hy:(match pZ 4 s with|some (n,r)=>some (some (.mk n [] [] [] 0,r))|none=>none)=some y:=hy
  cases hl:pZ 4 s with
  |none=>rw[hl] at hy;cases hy
  |some p=>
   obtain⟨v,q⟩:=p
   rw[hl] at hy
   simp only[Option.some.injEq] at hy
   subst hy
   subst hs0
   obtain⟨g1,g2⟩:=amZ (j:=4) hn (by decide) hl
   refine aF (apV hb hn 4 (by decide) v q hl) ?_
   rintro r ⟨-,hr⟩
   obtain rfl:=hr v q hl
   dsimp only
   exact aG ⟨.mk _ _ _ _ _,_,_,_,_,_,_,rfl,rfl,hpost _ (.inr ⟨_,_,_,_,rfl,rfl,g1,by omega,g2,by omega,by omega⟩)⟩
 ·have hc:k.kind=6:=by simpa using hc
  rw[hc] at hy
  replace hy:(match pZ 8 s with|some (n,r)=>some (some (.mk n [] [] [] 0,r))|none=>none)=some y:=hy
  cases hl:pZ 8 s with
  |none=>rw[hl] at hy;cases hy
  |some p=>
   obtain⟨v,q⟩:=p
   rw[hl] at hy
   simp only[Option.some.injEq] at hy
   subst hy
   subst hs0
   obtain⟨g1,g2⟩:=amZ (j:=8) hn (by decide) hl
   refine aF (apV hb hn 8 (by decide) v q hl) ?_
   rintro r ⟨-,hr⟩
   obtain rfl:=hr v q hl
   dsimp only
   exact aG ⟨.mk _ _ _ _ _,_,_,_,_,_,_,rfl,rfl,hpost _ (.inr ⟨_,_,_,_,rfl,rfl,g1,by omega,g2,by omega,by omega⟩)⟩
 ·have hc:k.kind=7:=by simpa using hc
  rw[hc] at hy
  replace hy:(match lP s with|some (some (x,r))=>some (some (.mk 0 x [] [] 0,r))|some none=>some none|none=>none)=some y:=hy
  cases hl:lP s with
  |none=>rw[hl] at hy;cases hy
  |some p=>
   rw[hl] at hy
   subst hs0
   refine aF (afl hb hn p hl) ?_
   rintro⟨tx,ts2,b2,n2,al2,e2⟩ ⟨-,hr⟩
   dsimp only
   refine aD (fun h=>by simp[hc] at h) (fun _=>?_)
   obtain⟨rfl,n3,al3,e3⟩|⟨x,q,n3,rfl,e4,g1,g2,g3⟩:=hr p hl
   ·simp only[Prod.mk.injEq] at e3
    obtain⟨rfl,rfl,rfl,rfl,rfl⟩:=e3
    exact aG ⟨.mk _ _ _ _ _,_,_,_,_,_,_,rfl,rfl,hpost _ (.inl ⟨_,_,rfl⟩)⟩
   ·simp only[Prod.mk.injEq] at e4
    obtain⟨rfl,rfl,rfl,rfl,rfl,rfl⟩:=e4
    simp only[Option.some.injEq] at hy
    subst hy
    exact aG ⟨.mk _ _ _ _ _,_,_,_,_,_,_,rfl,rfl,hpost _ (.inr ⟨_,_,_,_,rfl,rfl,g1,g2,g3,by omega,by omega⟩)⟩
 ·have hc:k.kind=8:=by simpa using hc
  rw[hc] at hy
  replace hy:(match lP s with|some (some (x,r))=>if cJ x then some (some (.mk 0 x [] [] 0,r)) else none|some none=>some none|none=>none)=some y:=hy
  cases hl:lP s with
  |none=>rw[hl] at hy;cases hy
  |some p=>
   rw[hl] at hy
   subst hs0
   refine aF (afl hb hn p hl) ?_
   rintro⟨tx,ts2,b2,n2,al2,e2⟩ ⟨-,hr⟩
   dsimp only
   refine aD (fun _=>?_) (fun h=>by simp[hc] at h)
   refine aF (yg _) ?_
   rintro(r7:Bool) ⟨-,hv⟩
   have hv:r7=cJ tx:=hv
   obtain⟨rfl,n3,al3,e3⟩|⟨x,q,n3,rfl,e4,g1,g2,g3⟩:=hr p hl
   ·simp only[Prod.mk.injEq] at e3
    obtain⟨rfl,rfl,rfl,rfl,rfl⟩:=e3
    subst hv
    refine aD (fun hv=>by cases hv) (fun _=>?_)
    exact aG ⟨.mk _ _ _ _ _,_,_,_,_,_,_,rfl,rfl,hpost _ (.inl ⟨_,_,rfl⟩)⟩
   ·simp only[Prod.mk.injEq] at e4
    obtain⟨rfl,rfl,rfl,rfl,rfl,rfl⟩:=e4
    simp only at hy
    split at hy
    ·rename_i hvx
     simp only[Option.some.injEq] at hy
     subst hy
     refine aD (fun h=>by rw[hv,hvx] at h;cases h) (fun _=>?_)
     exact aG ⟨.mk _ _ _ _ _,_,_,_,_,_,_,rfl,rfl,hpost _ (.inr ⟨_,_,_,_,rfl,rfl,g1,g2,g3,by omega,by omega⟩)⟩
    ·cases hy
 ·have hc:k.kind=10:=by simpa using hc
  rw[hc] at hy
  replace hy:(match sH k.syms.length s with|some (i,r)=>some (some (.mk i [] [] [] 0,r))|none=>none)=some y:=hy
  cases hl:sH k.syms.length s with
  |none=>rw[hl] at hy;cases hy
  |some p=>
   obtain⟨v,q⟩:=p
   rw[hl] at hy
   simp only[Option.some.injEq] at hy
   subst hy
   subst hs0
   have hr0:=azU hl
   have hns:=hok.ns
   refine aF (arU hb hn (k.syms.length:Int) (by omega) v q hl) ?_
   rintro r ⟨-,hr⟩
   obtain⟨n',rfl,g1,g2,g3⟩:=hr v q hl
   dsimp only
   rw[dN v (by omega)]
   exact aG ⟨.mk _ _ _ _ _,_,_,_,_,_,_,rfl,rfl,hpost _ (.inr ⟨_,_,_,_,rfl,rfl,g1,by omega,g3,by omega,by omega⟩)⟩
 ·have hc:k.kind=11:=by simpa using hc
  rw[hc] at hy
  replace hy:(match kO k.size.toNat s with|some (x,r)=>some (some (.mk 0 x [] [] 0,r))|none=>none)=some y:=hy
  cases hl:kO k.size.toNat s with
  |none=>rw[hl] at hy;cases hy
  |some p=>
   obtain⟨x,q⟩:=p
   rw[hl] at hy
   simp only[Option.some.injEq] at hy
   subst hy
   subst hs0
   have hsz:=hok.size
   obtain⟨g1,g2⟩:=arY hn hsz.1 hl
   refine aF (amY hb hn k.size hsz.1 x q hl) ?_
   rintro r ⟨-,hr⟩
   obtain rfl:=hr x q hl
   dsimp only
   exact aG ⟨.mk _ _ _ _ _,_,_,_,_,_,_,rfl,rfl,hpost _ (.inr ⟨_,_,_,_,rfl,rfl,g1,by omega,g2,by omega,by omega⟩)⟩
 ·have hc:k.kind=14:=by simpa using hc
  rw[hc] at hy
  replace hy:(match sH k.branches.length s with
   |some (b,r)=>(match bY ts g (k.branches.getD b.toNat 0) r with|some (some (v,r'))=>some (some (.mk 0 [] [v] [] b,r'))|some none=>some none|none=>none)
   |none=>none)=some y:=hy
  cases hl:sH k.branches.length s with
  |none=>rw[hl] at hy;cases hy
  |some p=>
   obtain⟨v,q⟩:=p
   rw[hl] at hy
   simp only at hy
   subst hs0
   have hr0:=azU hl
   have hnb:=hok.nb
   refine aF (arU hb hn (k.branches.length:Int) (by omega) v q hl) ?_
   rintro r ⟨-,hr⟩
   obtain⟨n',rfl,g1,g2,g3⟩:=hr v q hl
   dsimp only
   refine aD (fun _=>aP (ixt (by omega)) ?_) (fun h=>by cases h)
   have hbr:=hok.branches (k.branches.getD v.toNat (aC (.num .i64))) (by
    rw[List.getD_eq_getElem?_getD,List.getElem?_eq_getElem (by omega)]
    exact List.getElem_mem _)
   have hdf:(aC (.num .i64):Int)=0:=rfl
   rw[hdf] at hbr ⊢
   generalize k.branches.getD v.toNat 0=t2 at hy hbr ⊢
   cases hd:bY ts g t2 q with
   |none=>rw[hd] at hy;cases hy
   |some d=>
    rw[hd] at hy
    have hd':bY ts g t2 (b.drop n'.toNat)=some d:=by rw[g1];exact hd
    refine aF (hV b n' (al+1) 0 t2 (deep+1) hb (by omega) (by omega) hfd (by simp[isT,hbr.1,hbr.2]) (.inr ⟨rfl,by omega,by omega,d,hd'⟩)) ?_
    rintro⟨w,ts3,b3,n3,al3,e3⟩ ⟨-, -,hr2⟩
    have hr2:=hr2 d (by rw[hfd];exact hd')
    rw[dX]
    refine aG ⟨.mk 0 [] [w] [] v,_,_,_,_,_,_,rfl,rfl,hpost _ ?_⟩
    obtain⟨n4,al4,e4⟩|⟨v',q3,n4,al4,hyq,e4,r1,r2,r3,r4,r5⟩:=hr2
    ·simp only at e4
     exact .inl ⟨_,_,e4⟩
    ·simp only[Prod.mk.injEq] at e4
     obtain⟨rfl,rfl,rfl,rfl,rfl,rfl⟩:=e4
     subst hyq
     simp only[Option.some.injEq] at hy
     subst hy
     exact .inr ⟨_,_,n3,al3,rfl,rfl,r1,by omega,r3,by omega,by omega⟩
 ·have hc:k.kind=9:=by simpa using hc
  rw[hc] at hy
  replace hy:(match dv (bY ts g) k.fields s with|some (some (l,r))=>some (some (.mk 0 [] l [] 0,r))|some none=>some none|none=>none)=some y:=hy
  cases hl:dv (bY ts g) k.fields s with
  |none=>rw[hl] at hy;cases hy
  |some x0=>
   rw[hl] at hy
   subst hs0
   have hnf:=hok.nf
   refine bm (aEB (bY ts g) x0 ts b deep k n (al+1)) (fun s=>(k.fields.length-s.2.2.1:Int).toNat) ?_ _ _ ⟨rfl,rfl,rfl,rfl,rfl,rfl,rfl,rfl,by omega,by omega,rfl,.inr ⟨rfl,by omega,hle,by omega,by omega,x0,hl,by cases x0<;>rfl⟩⟩ (by simp only;omega)
   rintro again ⟨d,k',i,ts',b',n',al',e,p0,p1,p2,p3,p4,q0,q1,l,ks,q4⟩ ⟨rfl,rfl,rfl,rfl,rfl,rfl,rfl,rfl,i1,i2,i3,hst⟩ next
   dsimp only at next
   unfold kh
   dsimp only
   rw[hdd]
   have fin:(e=3∨¬i<k'.fields.length)→Rd ts' b' n (al+1) y (aB.mk 0 [] l [] 0,ts',b',n',al',e):=fun hor=>by
    obtain rfl|⟨rfl,h1,h2,h3,h4,x,hx,hx0⟩:=hst
    ·exact .inl ⟨_,_,rfl⟩
    ·rw[List.drop_eq_nil_of_le (by omega)] at hx
     simp only[dv,Option.some.injEq] at hx
     subst hx
     simp only[Option.map_some,List.append_nil] at hx0
     subst hx0
     simp only[Option.some.injEq] at hy
     subst hy
     exact .inr ⟨_,_,_,_,rfl,rfl,rfl,h1,h2,h3,h4⟩
   refine aD (fun h=>aD (fun he=>aP (ixt (by have:=of_decide_eq_true h;omega)) ?_) (fun he=>?_)) (fun h=>?_)
   rotate_left
   ·refine aG ⟨.mk _ _ _ _ _,_,_,_,_,_,_,rfl,rfl,hpost _ (fin ?_)⟩
    rcases hst with h|⟨h, -⟩
    ·exact .inl h
    ·rw[h] at he;cases he
   ·exact aG ⟨.mk _ _ _ _ _,_,_,_,_,_,_,rfl,rfl,hpost _ (fin (.inr (of_decide_eq_false h)))⟩
   have h:=of_decide_eq_true h
   have he:e=0:=by simpa using he
   subst he
   obtain h0|⟨-,h1,h2,h3,h4,x,hx,hx0⟩:=hst
   ·cases h0
   have hget:k'.fields.drop i.toNat=k'.fields.getD i.toNat (aC .afield)::k'.fields.drop (i+1).toNat:=by
    rw[List.drop_eq_getElem_cons (by omega),List.getD_eq_getElem?_getD,List.getElem?_eq_getElem (by omega),show (i+1).toNat=i.toNat+1 by omega]
    rfl
   have hfo:=hok.fields (k'.fields.getD i.toNat (aC .afield)) (by
    rw[List.getD_eq_getElem?_getD,List.getElem?_eq_getElem (by omega)]
    exact List.getElem_mem _)
   rw[hget] at hx
   generalize k'.fields.getD i.toNat (aC .afield)=a at hx hfo ⊢
   have hty:isT ts' a.typ=true:=by simp[isT,hfo.1,hfo.2.1]
   have ei:IntKind.i64.wrap (i+1)=i+1:=aI _ (by omega)
   rw[ei]
   have hD:∃y',bY ts' g a.typ (b'.drop n'.toNat)=some y':=by
    obtain⟨h, -⟩|⟨v,r,x',h, -⟩:=aoz hx
    ·exact⟨_,h⟩
    ·exact⟨_,h⟩
   obtain⟨y',hy'⟩:=hD
   refine aF (hV b' n' al' 0 a.typ (d+1) hb (by omega) (by omega) hfd hty (.inr ⟨rfl,by omega,by omega,y',hy'⟩)) ?_
   rintro⟨w,ts3,b3,n3,al3,e3⟩ ⟨-, -,hr2⟩
   have hr2:=hr2 y' (by rw[hfd];exact hy')
   dsimp only
   rw[dX]
   refine vck ?_
   obtain⟨n4,al4,e4⟩|⟨v',q3,n4,al4,hyq,e4,r1,r2,r3,r4,r5⟩:=hr2
   ·simp only[Prod.mk.injEq] at e4
    obtain⟨rfl,rfl,rfl,rfl,rfl⟩:=e4
    exact next _ ⟨rfl,rfl,rfl,rfl,rfl,rfl,rfl,rfl,by omega,by omega,by simp;omega,.inl rfl⟩ (by simp only;omega)
   ·simp only[Prod.mk.injEq] at e4
    obtain⟨rfl,rfl,rfl,rfl,rfl,rfl⟩:=e4
    subst hyq
    refine next _ ⟨rfl,rfl,rfl,rfl,rfl,rfl,rfl,rfl,by omega,by omega,by simp;omega,.inr ⟨rfl,by omega,r3,by omega,r5,?_⟩⟩ (by simp only;omega)
    obtain⟨h, -⟩|⟨v,r,x',h,hx',rfl⟩:=aoz hx
    ·rw[hy'] at h;cases h
    ·rw[hy'] at h
     simp only[Option.some.injEq,Prod.mk.injEq] at h
     obtain⟨rfl,rfl⟩:=h
     refine⟨x',by rw[r1];exact hx',?_⟩
     rw[hx0]
     cases x'<;>simp
 ·have hc:k.kind=12:=by simpa using hc
  have hit:=hok.items
  subst hs0
  refine aF (aoy ⟨hd1,hd20⟩ hf20 (.inl hc) (by simp[isT,hit.1,hit.2]) hV hb hn ⟨by omega,by omega⟩ y hy) ?_
  rintro⟨⟨w0,w1,w2,w3,w4⟩,ts3,b3,n3,al3,e3⟩ ⟨-,hr⟩
  have hr:=hr y (by rw[hf20];exact hy)
  exact aG ⟨.mk _ _ _ _ _,_,_,_,_,_,_,rfl,rfl,hpost _ hr⟩
 ·have hc:k.kind=13:=by simpa using hc
  have hit:=hok.items
  subst hs0
  refine aF (aoy ⟨hd1,hd20⟩ hf20 (.inr hc) (by simp[isT,hit.1,hit.2]) hV hb hn ⟨by omega,by omega⟩ y hy) ?_
  rintro⟨⟨w0,w1,w2,w3,w4⟩,ts3,b3,n3,al3,e3⟩ ⟨-,hr⟩
  have hr:=hr y (by rw[hf20];exact hy)
  exact aG ⟨.mk _ _ _ _ _,_,_,_,_,_,_,rfl,rfl,hpost _ hr⟩
 ·have hk1:k.kind=1:=by
   have:=hok.kind
   simp only[beq_eq_false_iff_ne,ne_eq] at c2 c3 c4 c5 c6 c7 c8 c9 c10 c11 c12 c13 c14
   omega
  rw[hk1] at hy
  replace hy:some (some (aB.mk 0 [] [] [] 0,s))=some y:=hy
  simp only[Option.some.injEq] at hy
  subst hy
  subst hs0
  exact aG ⟨.mk _ _ _ _ _,_,_,_,_,_,_,rfl,rfl,hpost _ (.inr ⟨_,_,_,_,rfl,rfl,rfl,by omega,hle,by omega,by omega⟩)⟩
theorem azV(hs:dJ ts):∀f,atV ts f
 |0=>by
  intro b n al e t deep hb hd1 hd2 hf ht he
  obtain rfl:deep=21:=by omega
  apply vQ 100
  unfold pz fD
  dsimp only
  refine aD (fun h=>?_) (fun h=>by cases h)
  refine aF (amX _ _ _ _ _ _) ?_
  rintro r ⟨-,hr⟩
  have hr:r=(ts,b,n,IntKind.i64.wrap (al+1),3):=by
   rw[show r=(ts,b,n,IntKind.i64.wrap (al+1),if e=0 then 3 else e) from hr]
   rcases he with rfl|⟨rfl, -⟩<;>rfl
  subst hr
  dsimp only
  exact aD (fun _=>aG ⟨.mk _ _ _ _ _,_,_,_,_,_,_,rfl,rfl,fun _=>⟨_,_,rfl⟩,fun _ _=>.inl ⟨_,_,rfl⟩⟩) (fun h=>by cases h)
 |g+1=>aCP hs g (azV hs g)
theorem arZ(hs:dJ ts)(t:Int)(b:List UInt8)(hb:b.length≤1000000000000000)(ht:isT ts t=true)(v:aB)(hv:bY ts 20 t b=some none∨bY ts 20 t b=some (some (v,[]))):∃r,nA ts t b r:=by
 apply apT 1
 unfold afk afj
 dsimp only
 refine aF (amt ts t) ?_
 rintro(r:Bool) ⟨-,hr⟩
 have hr:r=isT ts t:=hr
 rw[ht] at hr
 subst hr
 refine aD (fun h=>by cases h) (fun _=>?_)
 have hy:∃y,bY ts 20 t (b.drop (0:Int).toNat)=some y∧(y=none∨y=some (v,[])):=by
  rcases hv with h|h
  ·exact⟨_,h,.inl rfl⟩
  ·exact⟨_,h,.inr rfl⟩
 obtain⟨y,hy,hyv⟩:=hy
 refine aF (azV hs 20 b 0 0 0 t 1 hb (by decide) (by decide) rfl ht (.inr ⟨rfl,by omega,by decide,y,hy⟩)) ?_
 rintro⟨⟨w0,w1,w2,w3,w4⟩,ts3,b3,n3,al3,e3⟩ ⟨-, -,hr2⟩
 obtain⟨n4,al4,e4⟩|⟨v',q3,n4,al4,hyq,e4,r1,r2,r3,r4,r5⟩:=hr2 y hy
 ·simp only[Prod.mk.injEq] at e4
  obtain⟨rfl,rfl,rfl,rfl,rfl⟩:=e4
  exact aD (fun _=>aG ⟨.mk _ _ _ _ _,_,_,_,rfl,rfl,fun _ _ _=>.inl rfl⟩) (fun h=>by cases h)
 ·simp only[Prod.mk.injEq] at e4
  obtain⟨rfl,rfl,rfl,rfl,rfl,rfl⟩:=e4
  refine aD (fun h=>by cases h) (fun _=>aG ⟨.mk _ _ _ _ _,_,_,_,rfl,rfl,fun _ v2 hv2=>.inr ?_⟩)
  subst hyq
  rcases hyv with h|h
  ·cases h
  simp only[Option.some.injEq,Prod.mk.injEq] at h
  obtain⟨rfl,rfl⟩:=h
  rcases hv2 with h|h
  ·rw[show bY ts3 20 t b3=_ from hy] at h;cases h
  ·rw[show bY ts3 20 t b3=_ from hy] at h
   simp only[Option.some.injEq,Prod.mk.injEq,and_true] at h
   subst h
   have h0:=congrArg List.length r1
   rw[List.length_drop] at h0
   simp only[List.length_nil] at h0
   simp only[Prod.mk.injEq]
   exact⟨trivial,by omega,trivial⟩
end
end Go.Proofs.YtdpajabhmmmjoaaGreat
end
noncomputable section
namespace Go.Proofs.YtdpajabhmmmjoaaGreat
open Go.AM
set_option autoImplicit false
set_option linter.unusedSimpArgs false
set_option linter.unusedVariables false
set_option maxRecDepth 100000
mutual
theorem ar0:∀v:aB,acV v v=true
 | .mk n s l ks b=>by
   have:=ar1 l
   simp only[acV]
   simp[this,aB.n,aB.s,aB.l,aB.keys,aB.branch]
theorem ar1:∀l:List aB,oF l l=true
 | []=>by simp[oF]
 |v::l=>by
  have h1:=ar0 v
  have h2:=ar1 l
  simp[oF,h1,h2]
end
theorem ayq(p q x:List UInt8):∃r,ads p q x r:=by
 apply alV 1
 unfold acB acA
 dsimp only
 refine aF azq ?_
 rintro(r:Bool) ⟨-,hr⟩
 have hr:r=true:=hr
 refine aD (fun h=>by rw[hr] at h;cases h) (fun _=>?_)
 refine aD (fun _=>aG ⟨_,_,rfl,rfl,rfl⟩) (fun h1=>?_)
 have h1:=of_decide_eq_false h1
 refine aD (fun _=>aG ⟨_,_,rfl,rfl,rfl⟩) (fun h2=>?_)
 have h2:=of_decide_eq_false h2
 refine aD (fun _=>aG ⟨_,_,rfl,rfl,rfl⟩) (fun h3=>?_)
 have h3:=of_decide_eq_false h3
 refine aF (apD _) ?_
 rintro _ ⟨-,rfl⟩
 refine aF (aCD _ _ ⟨by simp,by simp,by dsimp only;omega⟩) ?_
 rintro⟨ts,is,a',n'⟩ ⟨-,g1,g2,g3⟩
 dsimp only at g1 g2 g3 ⊢
 refine aD (fun _=>aG ⟨_,_,rfl,rfl,rfl⟩) (fun his=>?_)
 simp only[bnl] at his
 have hs:=g1 his
 refine aF (apD _) ?_
 rintro _ ⟨-,rfl⟩
 refine aF (aCu ts hs _ _ 0 ⟨by simp,by simp,by dsimp only;omega⟩) ?_
 rintro⟨v,is2,p',n2⟩ ⟨-,q1,q2,q3,q4⟩
 dsimp only at q1 q2 q3 q4 ⊢
 refine aD (fun _=>aG ⟨_,_,rfl,rfl,rfl⟩) (fun hy=>?_)
 simp only[bnl] at hy
 obtain⟨q5,q6⟩:=q2 hy
 have hb:bW (6-(0:Int).toNat)≤10000000000000:=by decide
 have hT:=aec q5
 have hiT:isT ts 0=true:=by simp[isT];omega
 have henc:vW ts 0 v=if 5000<(aV ts 0 v).length then ([],3) else (aV ts 0 v,0):=by
  unfold vW
  rw[if_neg (by rw[hiT];decide),if_neg (by rw[q5];decide)]
 rw[dX]
 refine aF (aa7 ts hs 0 v (by omega)) ?_
 rintro x1 ⟨-,e1⟩
 have e1:x1=vW ts 0 v:=e1
 rw[henc] at e1
 by_cases hlen:5000<(aV ts 0 v).length
 ·rw[if_pos hlen] at e1
  subst e1
  exact aD (fun _=>aG ⟨_,_,rfl,rfl,rfl⟩) (fun h=>by cases h)
 rw[if_neg hlen] at e1 henc
 subst e1
 refine aD (fun h=>by cases h) (fun _=>?_)
 have hd1:bY ts 20 0 (aV ts 0 v)=some none∨bY ts 20 0 (aV ts 0 v)=some (some (v,[])):=by
  have:=atQ ts hs (wV v+1) v (by omega) (by omega) 0 q5 20 []
  rw[List.append_nil] at this
  exact this
 refine aF (arZ hs 0 _ (by dsimp only;omega) hiT v hd1) ?_
 rintro⟨v1,n1,f1⟩ ⟨-,hr1⟩
 have hr1:=hr1 hiT v hd1
 refine aF (apD _) ?_
 rintro _ ⟨-,rfl⟩
 refine aF (arO hs (wV v+1) _ _ 0 v ⟨by simp,by simp,by dsimp only;omega⟩ (by omega) (by omega) q5 (by omega)) ?_
 rintro⟨s,l2,n3⟩ ⟨-,b1,b2,b3,b4⟩
 have hd2:bY ts 20 0 s=some none∨bY ts 20 0 s=some (some (v,[])):=by
  have:=b1 20 []
  rw[List.append_nil] at this
  exact this
 refine aF (arZ hs 0 _ (by dsimp only at b2 ⊢;omega) hiT v hd2) ?_
 rintro⟨v2,n4,f2⟩ ⟨-,hr2⟩
 have hr2:=hr2 hiT v hd2
 dsimp only at hr1 hr2 ⊢
 refine aD (fun _=>aG ⟨_,_,rfl,rfl,rfl⟩) (fun hf1=>?_)
 refine aD (fun _=>aG ⟨_,_,rfl,rfl,rfl⟩) (fun hf2=>?_)
 simp only[beq_eq_false_iff_ne,ne_eq] at hf1 hf2
 rcases hr1 with h|hr1
 ·exact absurd h hf1
 rcases hr2 with h|hr2
 ·exact absurd h hf2
 simp only[Prod.mk.injEq] at hr1 hr2
 obtain⟨rfl,rfl,rfl⟩:=hr1
 obtain⟨rfl,rfl,rfl⟩:=hr2
 rw[dX]
 refine aF (aa7 ts hs 0 v2 (by omega)) ?_
 rintro x2 ⟨-,e2⟩
 have e2:x2=vW ts 0 v2:=e2
 rw[henc] at e2
 subst e2
 dsimp only
 refine aD (fun _=>aD (fun _=>?_) (fun h=>by simp at h)) (fun h=>by cases h)
 refine aF (aBI _ _ _ _ _ _ _ _ _ _) ?_
 rintro(r12:Bool) ⟨-,hs12⟩
 have hs12:r12=acV (.mk v2.n v2.s v2.l v2.keys v2.branch) (.mk v2.n v2.s v2.l v2.keys v2.branch):=hs12
 rw[ar0] at hs12
 subst hs12
 refine aD (fun _=>aD (fun _=>aD (fun _=>aG ⟨_,_,rfl,rfl,?_⟩) (fun h=>by cases h)) (fun h=>by cases h)) (fun h=>by cases h)
 show decide _=true
 simp
theorem awi(p q x:List UInt8):aL Tryz.prog xG [.sl .u8 (.may false) p,.sl .u8 (.may false) q,.sl .u8 (.may false) x] (.bool true):=by
 obtain⟨r,h,rfl⟩:=ayq p q x
 exact h
end Go.Proofs.YtdpajabhmmmjoaaGreat
end
noncomputable section
namespace Go.Proofs.YtdpajabhmmmjoaaGreat
open Go.ChangeShapes Go.WideShapes Go.AM
set_option autoImplicit false
set_option linter.unusedVariables false
set_option maxRecDepth 100000
theorem azW{α:Type}{p:Nat→α→Prop}:∀n,(∀i,i<n→∃x,p i x)→∃l:List α,l.length=n∧∀i x,l[i]? =some x→p i x
 |0,_=>⟨[],rfl,by simp⟩
 |n+1,h=>by
  obtain⟨l,h1,h2⟩:=azW n fun i hi=>h i (by omega)
  obtain⟨x,hx⟩:=h n (by omega)
  refine⟨l++[x],by simp[h1],fun i y hy=>?_⟩
  rcases Nat.lt_or_ge i l.length with hi|hi
  ·rw[List.getElem?_append_left hi] at hy
   exact h2 i y hy
  ·rw[List.getElem?_append_right hi] at hy
   have h3:i=n:=by
    have:=(List.getElem?_eq_some_iff.1 hy).1
    simp at this
    omega
   subst h3
   have:x=y:=by simpa [h1] using hy
   exact this▸hx
section
variable{H:Type}{enc:TypeId×Value→H}{w:World}{base:Nat}{held:Bool}
theorem aDv(k:EK){t e:TypeId}(ht:Tryz.prog.underlying t=some (.slice e))(hc:Tryz.prog.cellsOf e=k.sz){n:Nat}{cs:List Value}{x:DataW H×List MemPlace}
  (elem:∀m,m+1=n→∀es y,DataW.trod enc Tryz.prog w base (fun _=>true) held m e es=some y→∃x:Ty k,∀(j:Nat) v u,(AM.enc k x)[j]? =some v→es[j]? =some u→VRel (pV w).I id 0 w v u)
  (h:DataW.trod enc Tryz.prog w base (fun _=>true) held n t cs=some x):∃(xs:List (Ty k))(cv:Value),cs=[cv]∧VRel (pV w).I id 0 w (.sl k (.may false) xs) cv:=by
 have hk0:0<k.sz:=by cases k<;>simp[EK.sz]
 rcases DataW.trod_slice ht h with⟨rfl, -⟩|⟨a,len,cap,elems,rest,m,rfl,rfl, -,hb,hl,hm,hlen,hel,hsp, -⟩
 ·exact⟨[],_,rfl,.sln _ _⟩
 obtain⟨hrl,hr⟩:=hsp rfl
 rw[hc] at hel hr
 by_cases h0:cap=0
 ·subst h0
  obtain rfl:len=0:=by omega
  exact⟨[],_,rfl,.sle _ _ a (by simp)⟩
 have first:∃es y,w.cells? base (a.add (0*k.sz)) k.sz=some es∧DataW.trod enc Tryz.prog w base (fun _=>true) held m e es=some y:=by
  by_cases hl0:len=0
  ·have h1:=hr 0 (by omega)
   rw[hl0] at h1
   have h2:0<rest.length:=by omega
   rw[List.getElem?_eq_getElem h2,Option.bind_eq_some_iff] at h1
   obtain⟨es,h3,h4⟩:=h1
   exact⟨es,_,h3,h4⟩
  ·have h1:=hel 0 (by omega)
   have h2:0<elems.length:=by omega
   rw[List.getElem?_eq_getElem h2,Option.bind_eq_some_iff] at h1
   obtain⟨es,h3,h4⟩:=h1
   exact⟨es,_,h3,h4⟩
 have hspot:a.spot=none:=by
  obtain⟨es,y,h1, -⟩:=first
  obtain⟨h2,h3,h4⟩:=World.cells?_some h1
  have h5:=h4 0 hk0
  rw[List.getElem?_eq_getElem (by omega)] at h5
  simp only[Nat.zero_mul,Addr.add,if_true,World.cell?] at h5
  split at h5
  ·cases hs:a.spot with
   |none=>rfl
   |some s=>simp[hs] at h5
  ·cases h5
 obtain⟨b,off,spot⟩:=a
 simp only at hspot
 subst hspot
 obtain⟨xs,hxl,hxs⟩:=azW (α:=Ty k) (p:=fun i x=>∀j v,(AM.enc k x)[j]? =some v→∃u,w.cell? ⟨b,off+i*k.sz+j,none⟩=some u∧VRel (pV w).I id 0 w v u) len (by
  intro i hi
  have h1:=hel i hi
  rw[List.getElem?_eq_getElem (by omega),Option.bind_eq_some_iff] at h1
  obtain⟨es,h2,h3⟩:=h1
  obtain⟨x,hx⟩:=elem m rfl es _ h3
  obtain⟨h4,h5,h6⟩:=World.cells?_some h2
  refine⟨x,fun j v hv=>?_⟩
  have hj:j<k.sz:=by
   have:=(List.getElem?_eq_some_iff.1 hv).1
   rwa [dk] at this
  have h7:=h6 j hj
  rw[List.getElem?_eq_getElem (by omega),add_plain,add_plain] at h7
  exact⟨_,h7,hx j v _ hv (List.getElem?_eq_getElem (by omega))⟩)
 refine⟨xs,_,rfl,.sl k (.may false) xs b off len cap hxl (by omega) (by unfold maxLen at hm;unfold eu;exact hm) (by simp) (fun i j=>(w.cell? ⟨b,off+i*k.sz+j,none⟩).getD undef) ?_ ?_ ?_⟩
 ·intro i x j h1 h2
  obtain⟨u,h3, -⟩:=hxs i x h1 j _ (List.getElem?_eq_getElem h2)
  show (w.cell? _).isSome=true
  rw[h3];rfl
 ·intro i x j h1 h2
  obtain⟨u,h3, -⟩:=hxs i x h1 j _ (List.getElem?_eq_getElem h2)
  rw[h3];rfl
 ·intro i x j v h1 h2
  obtain⟨u,h3,h4⟩:=hxs i x h1 j v h2
  rw[h3];exact h4
theorem aAT{n:Nat}{cs:List Value}{x:DataW H×List MemPlace}(h:DataW.trod enc Tryz.prog w base (fun _=>true) held n 22 cs=some x):
  ∃(xs:List UInt8)(cv:Value),cs=[cv]∧VRel (pV w).I id 0 w (.sl .u8 (.may false) xs) cv:=
 aDv .u8 Tryz.underlying22 (by kernel_rfl) (fun m hm es y hy=>by
  obtain⟨c,rfl, -,hw⟩:=DataW.trod_int Tryz.underlying5 hy
  have hr:0≤c∧c≤255:=by simpa [Lit.wf,IntKind.min,IntKind.max,IntKind.signed,IntKind.bits] using hw
  refine⟨UInt8.ofNat c.toNat,fun j v u h1 h2=>?_⟩
  obtain rfl:j=0:=by
   have:=(List.getElem?_eq_some_iff.1 h2).1
   simpa using this
  simp only[AM.enc,List.getElem?_cons_zero,Option.some.injEq] at h1 h2
  subst h1 h2
  have:((UInt8.ofNat c.toNat).toNat:Int)=c:=by
   rw[UInt8.toNat_ofNat']
   omega
  rw[this]
  exact .int _ _ (by simpa [Lit.wf] using hw)) h
theorem ajb{r:Reach}{b0:Nat}{v:Value}{d:DataW H}{p:List MemPlace}(hv:Value.okWide Tryz.prog w r b0 22 v)(h:DataW.Trod enc Tryz.prog w base (fun _=>true) held 22 v d p):
  ∃xs:List UInt8,VRel (pV w).I id 0 w (.sl .u8 (.may false) xs) v:=by
 obtain⟨a,len,cap,rfl⟩:=okWide_slice Tryz.underlying22 hv
 obtain⟨fuel,hf⟩:=h
 obtain⟨xs,cv,e,hr⟩:=aAT hf
 have e:[Value.slice a len cap]=[cv]:=e
 cases e
 exact⟨xs,hr⟩
end
end Go.Proofs.YtdpajabhmmmjoaaGreat
end
