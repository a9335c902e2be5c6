import Derived.KernelRfl
import Derived.Test.YtkinflmjagfapaaDoorZ02
noncomputable section
namespace Go.Proofs.YtkinflmjagfapaaDoor
open Go.AM
set_option autoImplicit false
set_option linter.unusedVariables false
set_option maxRecDepth 100000
noncomputable def qW:az:=tab (P:=Tryd.prog) [] [] [] []
def sm:IR:=Sq (Rs [Mv 7 3,Bc 8 .geq 7 0] (Cn 8 .skip (.exit 0))) (Sq (.block 1 (Rs [Mv 11 0,Mv 12 3,Pp (.idx 13 11 12),Pp (.bin 14 .eql 13 (.c (.int .u8 46)))] (Cn 14 (Rs [Mv 15 0,Mv 16 3,Pp (.subs 17 15 none (some 16)),Mv 2 17] .ret) .skip))) (Rg [Mv 9 3,Bc 10 .sub 9 1,Mv 3 10]))
def sq:IR:=Rs [Ms 2 []] .ret
def acY:IR:=Rs [Ms 2 []] (Sq (Rs [Mv 4 0,Pp (.lens 5 4),Bc 6 .sub 5 1,Mv 3 6] (.block 0 (.loop [0,3,1000000] 0 sm))) sq)
def uh:List RV:=[.t 2]
theorem acZ:FnC Tryd.prog qW [] 0 vh Tryd.f79 acY uh:=fnC Tryd.func79
def ace(R:IR→(Ex→St→Ro)→St→Ro)(a:St→Ro):Ex→St→Ro:=(bG a [0,3,1000000] 0 (aJ 0 (kseq (R sq) (fin uh))))
abbrev kO:Type:=(Bs×Int)
def jX:kO→St:=fun(a,b)=>{env:=(.str a::.undef::.undef::.int .i64 b::(U 14 [])),hp:=[]}
def oM(N:Nat):(St→Ro)→St→Ro:=fun a s=>run qW N sm (ace (run qW N) a) s
def kP(N:Nat)(a:kO→Ro):kO→Ro:=fun(c,b)=>
 cond (decide (0≤b)) (
 chk (ixl b c) (
 let d:=(↑(UInt8.toNat (List.getD c (Int.toNat b) 0)):Int)
 cond (d==46) (
 chk (decide (0≤b)&&decide (b≤(↑(List.length c):Int))) (
 let e:=(List.drop 0 (List.take (Int.toNat b) c))
 some (.str e,[]))) (
 let f:=(IntKind.wrap .i64 (b-1))
 a (c,f)))) (
 some (.str ([]:Bs),[]))
theorem abf(N:Nat):LB (oM N) jX (kP N):=fun _ _=>by kernel_rfl
def jy(N:Nat)(a:Bs)(b:kO→Ro):Ro:=
 let c:=(↑(List.length a):Int)
 let d:=(IntKind.wrap .i64 (c-1))
 b (a,d)
def ui(N:Nat)(a:Bs):Ro:=jy N a (fun z=>aP N (kP N) z)
theorem acf(N:Nat)(a:Bs)(h:Tot (ui N a) (fun z=>∃(c:Bs)(rest:List aq),z.1.dimR=.str c∧z.2=rest∧hC a (c))):∃r,kc a r:=acZ.finP (N:=N) ((cd _ (by kernel_rfl) rfl (fun C=>jy N a (fun z=>C 1000000 (jX z))) (fun C=>by kernel_rfl)).trans (Eq.trans (b:=jy N a (fun z=>bd N (oM N) (jX z))) (by kernel_rfl) (congrArg (jy N a) (funext fun z=>be (jX) (oM N) (kP N) (abf N) N z)))) h fun _ ⟨c,_,e,_,q⟩=>⟨(c),e,q⟩
noncomputable def ahU:az:=tab (P:=Tryd.prog) [] [] [] [zV]
def agM:IR:=Rs [Bx 2 0,Ms 4 []] (Sq (Rs [Mv 5 1,Bc 6 .lss 5 0,Mv 7 6,Gf 7 (.mov 8 1),Gf 7 (.fad 9 0 2),Gf 7 (.lde 10 1 false 9),Gf 7 (.lenl 11 10),Gf 7 (.bin 12 .geq 8 11),Po 13 7 12] (Cn 13 (Rs [Ms 4 []] .ret) .skip)) (Sq (Rs [Fa 14 0 2,Lq 15 14,Mv 16 1,Ix 17 .atype 15 16,Fa 18 1 17,Lo 19 18,Pp (.bin 20 .neq 19 (kS []))] (Cn 20 (Rs [Fa 21 0 2,Lq 22 21,Mv 23 1,Ix 24 .atype 22 23,Fa 25 1 24,Lo 26 25,Mv 4 26] .ret) .skip)) (Rs [Fa 27 0 2,Lq 28 27,Mv 29 1,Ix 30 .atype 28 29,Fa 31 0 30,Lo 32 31,Ca 33 50 [32],Mv 4 33] .ret)))
def agN:List RV:=[.t 4]
theorem agO:FnC Tryd.prog ahU [] 0 abA Tryd.f76 agM agN:=fnC Tryd.func76
def aam(N:Nat)(a:List am)(b:Int):Ro:=
 cond (decide (b<0)) (
 some (.str ([]:Bs),[])) (
 let c:=(↑(List.length a):Int)
 cond (decide (c≤b)) (
 some (.str ([]:Bs),[])) (
 chk (ixl b a) (
 let d:=(List.getD a (Int.toNat b) (av .atype))
 let e:=(!decide (d.name=([]:Bs)))
 cond e (
 chk (ixl b a) (
 let f:=(List.getD a (Int.toNat b) (av .atype))
 some (.str f.name,[]))) (
 chk (ixl b a) (
 let g:=(List.getD a (Int.toNat b) (av .atype))
 an (ee g.kind) (fun(h:Bs)=>
 some (.str h,[])))))))
def aan(N:Nat)(a:List am)(b:Int):Ro:=aam N a b
theorem ae6(N:Nat)(a:List am)(c:Int)(h:Tot (aan N a c) (fun z=>∃(b:Bs)(rest:List aq),z.1.dimR=.str b∧z.2=rest)):∃r,lA a c r:=agO.finP0 (N:=N) (by kernel_rfl) h fun _ ⟨b,_,e,_⟩=>⟨(b),e⟩
noncomputable def lM:az:=tab (P:=Tryd.prog) [] [bP] [] [ahJ,agx]
def nW:IR:=Sq (Rs [Mv 12 8,Mv 13 1,Pp (.lens 14 13),Bi 15 .lss 12 14] (Cn 15 .skip (.exit 0))) (Sq (.block 1 (Rs [Mv 18 1,Mv 19 8,Pp (.idx 20 18 19),Pp (.bin 21 .eql 20 (.c (.int .u8 46)))] (Cn 21 (Rg [Mv 22 1,Mv 7 22]) .skip))) (Rg [Mv 16 8,Bc 17 .add 16 1,Mv 8 17]))
def nX:IR:=Sq (Rs [Mv 23 1,Pp (.bin 24 .eql 23 (kS [])),Mv 25 24,Gf 25 (.mov 26 7),Gf 25 (.call 27 103 [26]),Gf 25 (.un 28 .not 27),Po 29 25 28] (Cn 29 (Rg [Mv 30 0,Ca 31 38 [30,kI 6]]) .skip)) (Rs [Mv 32 7,Mv 6 32] .ret)
def wZ:IR:=Rs [Ms 6 []] (Rs [Mv 9 2,Mv 10 1,Ca 11 102 [9,10],Mv 7 11] (Sq (Rs [Mi 8 0] (.block 0 (.loop [0,1,7,8,1000000] 1 nW))) nX))
def pR:List RV:=[.t 6]
theorem w5:FnC Tryd.prog lM [38,2000038] 1 qr Tryd.f78 wZ pR:=fnC Tryd.func78
def vv(R:IR→(Ex→St→Ro)→St→Ro)(a:St→Ro):Ex→St→Ro:=(bG a [0,1,7,8,1000000] 1 (aJ 0 (kseq (R nX) (fin pR))))
abbrev gA:Type:=(Bs×Bs×Int×List am×Int)
def fV:gA→St:=fun(a,b,c,d,e)=>{env:=(.ptr 0 0::.str a::(U 5 (.str b::.int .i64 c::(U 24 [])))),hp:=[some [.ul .atype d,.int .i64 e]]}
def km(N:Nat):(St→Ro)→St→Ro:=fun a s=>run lM N nW (vv (run lM N) a) s
def gB(N:Nat)(c:gA→Ro):gA→Ro:=fun(d,f,e,a,b)=>
 let j:=(↑(List.length d):Int)
 let g:=fun k l=>(some (.str f,[some [.ul .atype k,.int .i64 l]]):Ro)
 cond (decide (e<j)) (
 chk (ixl e d) (
 let m:=(↑(UInt8.toNat (List.getD d (Int.toNat e) 0)):Int)
 cond (m==46) (
 let n:=(IntKind.wrap .i64 (e+1))
 c (d,d,n,a,b)) (
 let o:=(IntKind.wrap .i64 (e+1))
 c (d,f,o,a,b)))) (
 let p:=decide (d=([]:Bs))
 cond p (
 an (ap a b 6) (fun h=>
 g h.2.1 h.2.2)) (
 an (my f) (fun(q:Bool)=>
 cond (!q) (
 an (ap a b 6) (fun i=>
 g i.2.1 i.2.2)) (
 g a b))))
theorem uJ(N:Nat):LB (km N) fV (gB N):=fun _ _=>by kernel_rfl
def eA(N:Nat)(a:List am)(b:Int)(c d:Bs)(e:gA→Ro):Ro:=
 an (nR d c) (fun(f:Bs)=>
 e (c,f,0,a,b))
def pS(N:Nat)(a:List am)(b:Int)(c d:Bs):Ro:=eA N a b c d (fun z=>aP N (gB N) z)
theorem vw(N:Nat)(a:List am)(c:Int)(d g:Bs)(h:Tot (pS N a c d g) (fun z=>∃(i:Bs)(j:List am)(k:Int)(rest:List aq),z.1.dimR=.str i∧z.2=some [.ul .atype j,.int .i64 k]::rest∧nO a c d g (i,j,k))):∃r,dy a c d g r:=FnC.finO (css:=[[.ul .atype a,.int .i64 c]]) w5 (N:=N) ((cd _ (by kernel_rfl) rfl (fun C=>eA N a c d g (fun z=>C 1000000 (fV z))) (fun C=>by kernel_rfl)).trans (Eq.trans (b:=eA N a c d g (fun z=>bd N (km N) (fV z))) (by kernel_rfl) (congrArg (eA N a c d g) (funext fun z=>be (fV) (km N) (gB N) (uJ N) N z)))) h fun _ ⟨i,j,k,_,e,f,q⟩=>⟨(i,j,k),e,⟨_,f⟩,q⟩
noncomputable def aao:az:=tab (P:=Tryd.prog) [] [bP] [] [mU]
def yV:IR:=Rs [Bx 5 1,Ms 8 []] (Rs [Ld 12 5 true 5,Mv 13 2,Ca 14 41 [12,13],Mv 11 14,Ex_ 15 0 11,Ex_ 16 1 11,Pp (.alr 9 5),Fz 9 5 15,Mv 10 16] (Sq (Rs [Mv 17 10,Un 18 17,Mv 19 18,Gt 19 (.mov 20 3),Gt 19 (.un 21 .not 20),Pa 22 19 21] (Cn 22 (Rs [Ms 8 []] .ret) .skip)) (Sq (Rs [Mv 23 10,Un 24 23,Mv 25 24,Gf 25 (.fad 26 0 9),Gf 25 (.lde 27 1 false 26),Gf 25 (.bin 28 .neq 27 (kI 4)),Po 29 25 28] (Cn 29 (Rs [Mv 30 0,Ca 31 38 [30,kI 2]] (Rs [Ms 8 []] .ret)) .skip)) (Rs [Fa 32 2 9,Lq 33 32,Mv 8 33] .ret))))
def yW:List RV:=[.t 8]
theorem yX:FnC Tryd.prog aao [38,2000038] 1 rC Tryd.f77 yV yW:=fnC Tryd.func77
def qC(N:Nat)(a:List am)(b d e:Int)(f:Bs)(g:List ak)(h:Bss)(p:Bs)(q:Bool):Ro:=
 let i:=fun j r=>(some (.str ([]:Bs),[some [.ul .atype j,.int .i64 r]]):Ro)
 let k:=fun j=>(some (.str j,[some [.ul .atype a,.int .i64 b]]):Ro)
 an (cf d e f g h p) (fun c=>
 cond (!c.2.2.2.2.2) (
 cond (!q) (
 i a b) (
 cond (!c.2.2.2.2.2) (
 an (ap a b 2) (fun l=>
 i l.2.1 l.2.2)) (
 cond (!(c.1==4)) (
 an (ap a b 2) (fun m=>
 i m.2.1 m.2.2)) (
 k c.2.2.1)))) (
 cond (!c.2.2.2.2.2) (
 an (ap a b 2) (fun n=>
 i n.2.1 n.2.2)) (
 cond (!(c.1==4)) (
 an (ap a b 2) (fun o=>
 i o.2.1 o.2.2)) (
 k c.2.2.1))))
def qD(N:Nat)(a:List am)(b c d:Int)(e:Bs)(f:List ak)(g:Bss)(h:Bs)(i:Bool):Ro:=qC N a b c d e f g h i
theorem w6(N:Nat)(a:List am)(b c d:Int)(g:Bs)(i:List ak)(j:Bss)(n:Bs)(o:Bool)(h:Tot (qD N a b c d g i j n o) (fun z=>∃(k:Bs)(l:List am)(m:Int)(rest:List aq),z.1.dimR=.str k∧z.2=some [.ul .atype l,.int .i64 m]::rest∧oT a b c d g i j n o (k,l,m))):∃r,cE a b c d g i j n o r:=FnC.finO (css:=[[.ul .atype a,.int .i64 b]]) yX (N:=N) (by kernel_rfl) h fun _ ⟨k,l,m,_,e,f,q⟩=>⟨(k,l,m),e,⟨_,f⟩,q⟩
noncomputable def lN:az:=tab (P:=Tryd.prog) [] [bP] [] [mU]
def nY:IR:=Sq (Rs [Mv 25 11,Fa 26 3 8,Lq 27 26,Ll 28 27,Bi 29 .lss 25 28,Mv 30 29,Gt 30 (.mov 31 0),Gt 30 (.nck 32 31),Gt 30 (.fad 33 1 32),Gt 30 (.ld 34 1 false false 33),Gt 30 (.bin 35 .eql 34 (kI 0)),Pa 36 30 35] (Cn 36 .skip (.exit 0))) (Sq (.block 1 (Sq (Rs [Fa 39 3 8,Lq 40 39,Mv 41 11,Ix 42 .jnode 40 41,Fa 43 0 42,Lo 44 43,Bc 45 .neq 44 4] (Cn 45 (Rg [Mv 46 0,Ca 47 38 [46,kI 2]]) .skip)) (Rg [Pp (.mov 48 (.tk 10)),Fa 49 3 8,Lq 50 49,Mv 51 11,Ix 52 .jnode 50 51,Fa 53 2 52,Lo 54 53,Pp (.bsl 55 .str [54] true),Pp (.app 56 .str (.tk 48) 55),Pp (.mov 10 (.tk 56))]))) (Rg [Mv 37 11,Bc 38 .add 37 1,Mv 11 38]))
def nv:IR:=Rs [Mv 57 10,Mv 6 57,Mb 7 true] .ret
def w7:IR:=Rs [Bx 4 1,Pp (.mov 6 (.c (nl .str))),Mb 7 false] (Rs [Ld 13 5 true 4,Mv 14 2,Ca 15 41 [13,14],Mv 12 15,Ex_ 16 0 12,Ex_ 17 1 12,Pp (.alr 8 5),Fz 8 5 16,Mv 9 17] (Sq (Rs [Mv 18 9,Un 19 18] (Cn 19 (Rs [Pp (.mov 6 (.c (nl .str))),Mb 7 false] .ret) .skip)) (Sq (Rs [Fa 20 0 8,Lq 21 20,Bc 22 .neq 21 5] (Cn 22 (Rg [Mv 23 0,Ca 24 38 [23,kI 2]]) .skip)) (Rs [Pp (.mov 10 (.c (nl .str)))] (Sq (Rs [Mi 11 0] (.block 0 (.loop [0,8,10,11,1000000] 1 nY))) nv)))))
def pT:List RV:=[.t 6,.t 7]
theorem w9:FnC Tryd.prog lN [38,2000038] 1 qp Tryd.f80 w7 pT:=fnC Tryd.func80
def vx(R:IR→(Ex→St→Ro)→St→Ro)(a:St→Ro):Ex→St→Ro:=(bG a [0,8,10,11,1000000] 1 (aJ 0 (kseq (R nv) (fin pT))))
abbrev gD:Type:=(Int×Int×Bs×List ak×Bss×Bss×Int×List am×Int)
def fW:gD→St:=fun(a,b,c,d,e,f,g,h,i)=>{env:=(.ptr 0 0::(U 7 (.ea [.int .i64 a,.int .i64 b,.str c,.sl .jnode (.may false) d,.sl .str (.may false) e]::.undef::.sl .str .own f::.int .i64 g::(U 46 [])))),hp:=[some [.ul .atype h,.int .i64 i]]}
def kn(N:Nat):(St→Ro)→St→Ro:=fun a s=>run lN N nY (vx (run lN N) a) s
def dS(N:Nat)(c:gD→Ro):gD→Ro:=fun(g,h,i,a,j,e,b,f,d)=>
 let o:=(↑(List.length a):Int)
 let k:=(some (.tup [.sl .str (.may false) e,.bool true],[some [.ul .atype f,.int .i64 d]]):Ro)
 cond (decide (b<o)) (
 cond (d==0) (
 chk (ixl b a) (
 let p:=(List.getD a (Int.toNat b) (av .jnode))
 cond (!(p.kind==4)) (
 an (ap f d 2) (fun l=>
 chk (ixl b a) (
 let m:=(List.getD a (Int.toNat b) (av .jnode))
 chk (decide ((List.length e+List.length ([m.s]:Bss))*16≤140737488355328)) (
 let q:=(e++([m.s]:Bss))
 let r:=(IntKind.wrap .i64 (b+1))
 c (g,h,i,a,j,q,r,l.2.1,l.2.2))))) (
 chk (ixl b a) (
 let n:=(List.getD a (Int.toNat b) (av .jnode))
 chk (decide ((List.length e+List.length ([n.s]:Bss))*16≤140737488355328)) (
 let t:=(e++([n.s]:Bss))
 let u:=(IntKind.wrap .i64 (b+1))
 c (g,h,i,a,j,t,u,f,d)))))) (
 k)) (
 k)
theorem uK(N:Nat):LB (kn N) fW (dS N):=fun _ _=>by kernel_rfl
def eB(N:Nat)(b:List am)(c d e:Int)(f:Bs)(g:List ak)(h:Bss)(k:Bs)(i:gD→Ro):Ro:=
 an (cf d e f g h k) (fun a=>
 cond (!a.2.2.2.2.2) (
 some (.tup [.sl .str (.may false) ([]:Bss),.bool false],[some [.ul .atype b,.int .i64 c]])) (
 cond (!(a.1==5)) (
 an (ap b c 2) (fun j=>
 i (a.1,a.2.1,a.2.2.1,a.2.2.2.1,a.2.2.2.2.1,([]:Bss),0,j.2.1,j.2.2))) (
 i (a.1,a.2.1,a.2.2.1,a.2.2.2.1,a.2.2.2.2.1,([]:Bss),0,b,c))))
def pU(N:Nat)(a:List am)(b c d:Int)(e:Bs)(f:List ak)(g:Bss)(h:Bs):Ro:=eB N a b c d e f g h (fun z=>aP N (dS N) z)
theorem vy(N:Nat)(a:List am)(c d g:Int)(i:Bs)(j:List ak)(k:Bss)(l:Bs)(h:Tot (pU N a c d g i j k l) (fun z=>∃(m:Bss)(n:Bool)(o:List am)(p:Int)(rest:List aq),z.1.dimR=.tup [.sl .str (.may false) m,.bool n]∧z.2=some [.ul .atype o,.int .i64 p]::rest∧jG a c d g i j k l (m,n,o,p))):∃r,bW a c d g i j k l r:=FnC.finO (css:=[[.ul .atype a,.int .i64 c]]) w9 (N:=N) ((cd _ (by kernel_rfl) rfl (fun C=>eB N a c d g i j k l (fun z=>C 1000000 (fW z))) (fun C=>by kernel_rfl)).trans (Eq.trans (b:=eB N a c d g i j k l (fun z=>bd N (kn N) (fW z))) (by kernel_rfl) (congrArg (eB N a c d g i j k l) (funext fun z=>be (fW) (kn N) (dS N) (uK N) N z)))) h fun _ ⟨m,n,o,p,_,e,f,q⟩=>⟨(m,n,o,p),e,⟨_,f⟩,q⟩
noncomputable def aZ:az:=tab (P:=Tryd.prog) [] [bP,mw,lE] [] [mU,uD]
def mC:IR:=Sq (Rs [Mv 56 9,Mv 57 8,Bi 58 .lss 56 57] (Cn 58 .skip (.exit 2))) (Sq (.block 3 (Sq (.reg [Mv 61 6,Mv 62 9,Ix 63 .str 61 62,Lq 64 63,Mv 65 6,Mv 66 8,Ix 67 .str 65 66,Lq 68 67,Bi 69 .eql 64 68] [[],[],[0,1],[0,1,2],[],[],[4,5],[4,5,6],rg 0 7]) (Cn 69 (Rg [Mv 70 0,Ca 71 38 [70,kI 5]]) .skip))) (Rg [Mv 59 9,Bc 60 .add 59 1,Mv 9 60]))
def lR:IR:=Rg [Mv 46 8,Bc 47 .add 46 1,Mv 8 47]
def dY:IR:=Sq (Rs [Mv 35 8,Mv 36 6,Ll 37 36,Bi 38 .lss 35 37,Mv 39 38,Gt 39 (.mov 40 0),Gt 39 (.nck 41 40),Gt 39 (.fad 42 1 41),Gt 39 (.ld 43 1 false false 42),Gt 39 (.bin 44 .eql 43 (kI 0)),Pa 45 39 44] (Cn 45 .skip (.exit 0))) (Sq (.block 1 (Sq (Rs [Mv 48 6,Mv 49 8,Ix 50 .str 48 49,Lq 51 50,Ca 52 104 [51],Un 53 52] (Cn 53 (Rg [Mv 54 0,Ca 55 38 [54,kI 6]]) .skip)) (Rs [Mi 9 0] (.block 2 (.loop [0,2,4,6,8,9,1000000] 1 mC))))) lR)
def lS:IR:=Sq (Rs [Mv 80 14,Mv 81 6,Ll 82 81,Bi 83 .lss 80 82] (Cn 83 .skip (.exit 4))) (Sq (.block 5 (Rg [Mv 86 13,Mv 87 86,Gf 87 (.mov 88 6),Gf 87 (.mov 89 14),Gf 87 (.ixa 90 .str 88 89),Gf 87 (.lde 91 1 false 90),Gf 87 (.mov 92 12),Gf 87 (.bin 93 .eql 91 92),Po 94 87 93,Mv 13 94])) (Rg [Mv 84 14,Bc 85 .add 84 1,Mv 14 85]))
def lT:IR:=Sq (Rs [Mv 95 11,Mv 96 95,Gt 96 (.mov 97 13),Gt 96 (.un 98 .not 97),Pa 99 96 98] (Cn 99 (Rg [Mv 100 0,Ca 101 38 [100,kI 6]]) .skip)) (Rs [Mv 102 0,Nk 103 102,Fa 104 1 103,Lo 105 104,Bc 106 .eql 105 0] (Cn 106 (.gh (.opn (.cell 0 0)) (.ghp (.cls (.cell 0 0)) (.reg [Mv 107 0,Nk 108 107,Fa 109 0 108,Fa 110 0 109,Fo [0] [] (.ld 111 1 false false 110),Mv 112 2,Mv 113 0,Nk 114 113,Fa 115 0 114,Fa 116 0 115,Fo [0] [] (.ld 117 1 false false 116),Mv 118 2,Mv 119 0,Nk 120 119,Fa 121 0 120,Fa 122 0 121,Fo [0] [] (.ld 123 1 false false 122),Mv 124 2,Mv 125 6,Mv 126 11,Mv 127 12,Pp (.ixw 128 .atype 111 112),Pp (.fdw 129 4 128),Fo [] [1] (.stw none 1 129 125),Pp (.ixw 130 .atype 117 118),Pp (.fdw 131 5 130),Fo [] [1] (.stw none 1 131 126),Pp (.ixw 132 .atype 123 124),Pp (.fdw 133 6 132),Fo [] [1] (.stw none 1 133 127)] [[],[0],[0,1],[0,1,2],rg 0 3,[],[],[6],[6,7],[6,7,8],rg 6 9,[],[],[12],[12,13],[12,13,14],rg 12 15,[],[],[],[],rg 0 10++rg 12 16++[18],rg 0 10++rg 12 16++[18]++[21],rg 0 10++rg 12 16++[18]++[21,22],rg 0 16++[18,19]++[21,22,23],rg 0 16++[18,19]++rg 21 24,rg 0 16++[18,19]++rg 21 25,rg 0 26,rg 0 27,rg 0 28]))) .skip))
def ij:IR:=Rs [Ld 73 5 true 4,Ca 74 41 [73,kS [100,101,102,97,117,108,116]],Mv 72 74,Ex_ 75 0 72,Ex_ 76 1 72,Pp (.alr 10 5),Fz 10 5 75,Mv 11 76] (Rs [Mv 77 0,Ld 78 5 true 4,Ca 79 77 [77,78,kS [100,101,102,97,117,108,116],kB false],Mv 12 79] (Rs [Mb 13 false] (Sq (Rs [Mi 14 0] (.block 4 (.loop [0,2,6,11,12,13,14,1000002] 1 lS))) lT)))
def uL:IR:=Rs [Bx 4 1] (Rs [Mv 16 0,Ld 17 5 true 4,Ca 18 80 [16,17,kS [115,121,109,98,111,108,115]],Mv 15 18,Ex_ 19 0 15,Ex_ 20 1 15,Mv 6 19,Mv 7 20] (Sq (Rs [Mv 21 7,Un 22 21] (Cn 22 (Rg [Mv 23 0,Ca 24 38 [23,kI 2]]) .skip)) (Sq (Rs [Mv 25 6,Ll 26 25,Bc 27 .eql 26 0] (Cn 27 (Rg [Mv 28 0,Ca 29 38 [28,kI 6]]) .skip)) (Sq (Rs [Mv 30 6,Ll 31 30,Bc 32 .gtr 31 30] (Cn 32 (Rg [Mv 33 0,Ca 34 38 [33,kI 3]]) .skip)) (Sq (Rs [Mi 8 0] (.block 0 (.loop [0,2,4,6,8,1000001] 1 dY))) ij)))))
def fX:List RV:=[]
theorem uM:FnC Tryd.prog aZ [38,77,80,2000038,2000077,2000080] 1 oV Tryd.f82 uL fX:=fnC Tryd.func82
def eZ(R:IR→(Ex→St→Ro)→St→Ro)(a:St→Ro):Ex→St→Ro:=(bG a [0,2,4,6,8,1000001] 1 (aJ 0 (kseq (R ij) (fin fX))))
abbrev bF:Type:=(Int×Int×Int×Bs×List ak×Bss×Bss×Int×List am×Int)
def aQ:bF→St:=fun(a,b,c,d,e,f,g,h,i,j)=>{env:=(.ptr 0 0::.undef::.int .i64 a::.undef::.ea [.int .i64 b,.int .i64 c,.str d,.sl .jnode (.may false) e,.sl .str (.may false) f]::.undef::.sl .str (.may false) g::.undef::.int .i64 h::(U 125 [])),hp:=[some [.ul .atype i,.int .i64 j]]}
def tI(R:IR→(Ex→St→Ro)→St→Ro)(a b:St→Ro):Ex→St→Ro:=(bG b [0,2,4,6,8,9,1000000] 1 (aJ 2 (aJ 1 (kseq (R lR) (eZ R a)))))
abbrev e8:Type:=(Int×Int×Int×Bs×List ak×Bss×Bss×Int×Int×List am×Int)
def c8:e8→St:=fun(b,c,d,e,f,g,h,i,j,k,a)=>{env:=(.ptr 0 0::.undef::.int .i64 b::.undef::.ea [.int .i64 c,.int .i64 d,.str e,.sl .jnode (.may false) f,.sl .str (.may false) g]::.undef::.sl .str (.may false) h::.undef::.int .i64 i::.int .i64 j::(U 124 [])),hp:=[some [.ul .atype k,.int .i64 a]]}
def e9(N:Nat)(a:St→Ro):(St→Ro)→St→Ro:=fun b s=>run aZ N mC (tI (run aZ N) a b) s
def cG(N:Nat)(i:bF→Ro)(a:e8→Ro):e8→Ro:=fun(m,b,c,d,e,f,j,k,l,g,h)=>
 cond (decide (l<k)) (
 chk (ixl l j) (
 let o:=List.getD j (Int.toNat l) (av .str)
 chk (ixl k j) (
 let p:=List.getD j (Int.toNat k) (av .str)
 cond (decide (o=p)) (
 an (ap g h 5) (fun n=>
 let q:=(IntKind.wrap .i64 (l+1))
 a (m,b,c,d,e,f,j,k,q,n.2.1,n.2.2))) (
 let r:=(IntKind.wrap .i64 (l+1))
 a (m,b,c,d,e,f,j,k,r,g,h))))) (
 let s:=(IntKind.wrap .i64 (k+1))
 i (m,b,c,d,e,f,j,s,g,h))
theorem s9(N:Nat)(a:St→Ro):LB (e9 N a) c8 (cG N (fun y=>a (aQ y))):=fun _ _=>by kernel_rfl
def tJ(R:IR→(Ex→St→Ro)→St→Ro)(a:St→Ro):Ex→St→Ro:=(bG a [0,2,6,11,12,13,14,1000002] 1 (aJ 4 (kseq (R lT) (fin fX))))
abbrev fa:Type:=(Int×Bss×Bool×Bs×Bool×Int×List am×Int)
def c9:fa→St:=fun(a,b,c,d,e,f,g,h)=>{env:=(.ptr 0 0::.undef::.int .i64 a::(U 3 (.sl .str (.may false) b::(U 4 (.bool c::.str d::.bool e::.int .i64 f::(U 119 [])))))),hp:=[some [.ul .atype g,.int .i64 h]]}
def fb(N:Nat):(St→Ro)→St→Ro:=fun a s=>run aZ N lS (tJ (run aZ N) a) s
def cH(N:Nat)(f:fa→Ro):fa→Ro:=fun(c,j,g,h,q,i,b,d)=>
 let u:=(↑(List.length j):Int)
 let v:=fun w x=>(some (.tup [],[some [.ul .atype w,.int .i64 x],none,none]):Ro)
 let y:=fun w x=>(some (.tup [],[some [.ul .atype w,.int .i64 x]]):Ro)
 cond (decide (i<u)) (
 cond q (
 let z:=(IntKind.wrap .i64 (i+1))
 f (c,j,g,h,true,z,b,d)) (
 chk (ixl i j) (
 let aa:=List.getD j (Int.toNat i) (av .str)
 let ab:=(IntKind.wrap .i64 (i+1))
 f (c,j,g,h,decide (aa=h),ab,b,d)))) (
 cond g (
 cond (!q) (
 an (ap b d 6) (fun e=>
 cond (e.2.2==0) (
 chk (decide (0<List.length e.2.1)) (
 chk (decide (0≤c)&&decide (c<↑(List.length e.2.1))) (
 chk (decide ((Int.toNat c)<List.length e.2.1)) (
 let k:=(List.set e.2.1 (Int.toNat c) (let a:=List.getD e.2.1 (Int.toNat c) (av .atype);⟨a.kind,a.name,a.aliases,a.items,j,a.hasdef,a.df,a.size,a.fields,a.branches⟩))
 chk (decide (0≤c)&&decide (c<↑(List.length e.2.1))) (
 chk (decide ((Int.toNat c)<List.length k)) (
 let l:=(List.set k (Int.toNat c) (let a:=List.getD k (Int.toNat c) (av .atype);⟨a.kind,a.name,a.aliases,a.items,a.syms,g,a.df,a.size,a.fields,a.branches⟩))
 chk (decide (0≤c)&&decide (c<↑(List.length e.2.1))) (
 chk (decide ((Int.toNat c)<List.length l)) (
 let r:=(List.set l (Int.toNat c) (let a:=List.getD l (Int.toNat c) (av .atype);⟨a.kind,a.name,a.aliases,a.items,a.syms,a.hasdef,h,a.size,a.fields,a.branches⟩))
 chk (Nat.beq (List.length e.2.1) (List.length r)) (
 v r e.2.2))))))))) (
 y e.2.1 e.2.2))) (
 cond (d==0) (
 chk (decide (0<List.length b)) (
 chk (decide (0≤c)&&decide (c<↑(List.length b))) (
 chk (decide ((Int.toNat c)<List.length b)) (
 let m:=(List.set b (Int.toNat c) (let a:=List.getD b (Int.toNat c) (av .atype);⟨a.kind,a.name,a.aliases,a.items,j,a.hasdef,a.df,a.size,a.fields,a.branches⟩))
 chk (decide (0≤c)&&decide (c<↑(List.length b))) (
 chk (decide ((Int.toNat c)<List.length m)) (
 let n:=(List.set m (Int.toNat c) (let a:=List.getD m (Int.toNat c) (av .atype);⟨a.kind,a.name,a.aliases,a.items,a.syms,g,a.df,a.size,a.fields,a.branches⟩))
 chk (decide (0≤c)&&decide (c<↑(List.length b))) (
 chk (decide ((Int.toNat c)<List.length n)) (
 let s:=(List.set n (Int.toNat c) (let a:=List.getD n (Int.toNat c) (av .atype);⟨a.kind,a.name,a.aliases,a.items,a.syms,a.hasdef,h,a.size,a.fields,a.branches⟩))
 chk (Nat.beq (List.length b) (List.length s)) (
 v s d))))))))) (
 y b d))) (
 cond (d==0) (
 chk (decide (0<List.length b)) (
 chk (decide (0≤c)&&decide (c<↑(List.length b))) (
 chk (decide ((Int.toNat c)<List.length b)) (
 let o:=(List.set b (Int.toNat c) (let a:=List.getD b (Int.toNat c) (av .atype);⟨a.kind,a.name,a.aliases,a.items,j,a.hasdef,a.df,a.size,a.fields,a.branches⟩))
 chk (decide (0≤c)&&decide (c<↑(List.length b))) (
 chk (decide ((Int.toNat c)<List.length o)) (
 let p:=(List.set o (Int.toNat c) (let a:=List.getD o (Int.toNat c) (av .atype);⟨a.kind,a.name,a.aliases,a.items,a.syms,g,a.df,a.size,a.fields,a.branches⟩))
 chk (decide (0≤c)&&decide (c<↑(List.length b))) (
 chk (decide ((Int.toNat c)<List.length p)) (
 let t:=(List.set p (Int.toNat c) (let a:=List.getD p (Int.toNat c) (av .atype);⟨a.kind,a.name,a.aliases,a.items,a.syms,a.hasdef,h,a.size,a.fields,a.branches⟩))
 chk (Nat.beq (List.length b) (List.length t)) (
 v t d))))))))) (
 y b d)))
theorem ta(N:Nat):LB (fb N) c9 (cH N):=fun _ _=>by kernel_rfl
def fc(N:Nat):(St→Ro)→St→Ro:=fun a s=>run aZ N dY (eZ (run aZ N) a) s
def eC(N:Nat)(k:bF→Ro)(o:e8→Ro)(p:fa→Ro):bF→Ro:=fun(l,a,b,c,d,e,h,j,g,f)=>
 let r:=(↑(List.length h):Int)
 cond (decide (j<r)) (
 cond (f==0) (
 chk (ixl j h) (
 let s:=List.getD h (Int.toNat j) (av .str)
 an (fR s) (fun(t:Bool)=>
 cond (!t) (
 an (ap g f 6) (fun q=>
 o (l,a,b,c,d,e,h,j,0,q.2.1,q.2.2))) (
 o (l,a,b,c,d,e,h,j,0,g,f))))) (
 an (cf a b c d e ([100,101,102,97,117,108,116]:Bs)) (fun u=>
 an (cE g f a b c d e ([100,101,102,97,117,108,116]:Bs) false) (fun m=>
 p (l,h,u.2.2.2.2.2,m.1,false,0,m.2.1,m.2.2))))) (
 an (cf a b c d e ([100,101,102,97,117,108,116]:Bs)) (fun n=>
 an (cE g f a b c d e ([100,101,102,97,117,108,116]:Bs) false) (fun i=>
 p (l,h,n.2.2.2.2.2,i.1,false,0,i.2.1,i.2.2))))
def dk(N:Nat)(a:bF→Ro)(x:bF):Ro:=eC N a (fun z=>aP N (cG N a) z) (fun z=>aP N (cH N) z) x
def je(N:Nat)(a:St→Ro):List (Nat×(St→Ro)):=(cC aZ N dY (eZ (run aZ N) a)++(cC aZ N ij (fin fX)++[]))
theorem tb(N:Nat):∀(a:St→Ro)(x:bF),fc N a (aQ x)=dk N (fun y=>a (aQ y)) x:=by
 intro a x
 have hX:∀C:Nat→St→Ro,cp C aZ N dY (eZ (cp C aZ N) a) (aQ x)=eC N (fun y=>a (aQ y)) (fun z=>C 1000000 (c8 z)) (fun z=>C 1000002 (c9 z)) x:=by
  intro C
  kernel_rfl
 have h:fc N a (aQ x)=eC N (fun y=>a (aQ y)) (fun z=>bd N (e9 N a) (c8 z)) (fun z=>bd N (fb N) (c9 z)) x:=(fJ (C:=iX (je N a)) (cX (bi (l:=(je N a)) (by kernel_rfl))) (rv (fI (kL (cX (gt (bi (l:=(je N a)) (by kernel_rfl)))) rfl))) _).trans ((hX _).trans (by kernel_rfl))
 have e1:(fun z=>bd N (e9 N a) (c8 z))=(fun z=>aP N (cG N (fun y=>a (aQ y))) z):=funext fun z=>be (c8) (e9 N a) (cG N (fun y=>a (aQ y))) (s9 N a) N z
 have e2:(fun z=>bd N (fb N) (c9 z))=(fun z=>aP N (cH N) z):=funext fun z=>be (c9) (fb N) (cH N) (ta N) N z
 rw[h,e1,e2]
 rfl
def dE(N:Nat)(k:List am)(l a b:Int)(c:Bs)(d:List ak)(e:Bss)(h:Int)(i:bF→Ro):Ro:=
 an (bW k l a b c d e ([115,121,109,98,111,108,115]:Bs)) (fun f=>
 cond (!f.2.1) (
 an (ap f.2.2.1 f.2.2.2 2) (fun j=>
 let v:=(↑(List.length f.1):Int)
 cond (v==0) (
 an (ap j.2.1 j.2.2 6) (fun p=>
 let w:=(↑(List.length f.1):Int)
 cond (decide (30<w)) (
 an (ap p.2.1 p.2.2 3) (fun u=>
 i (h,a,b,c,d,e,f.1,0,u.2.1,u.2.2))) (
 i (h,a,b,c,d,e,f.1,0,p.2.1,p.2.2)))) (
 let q:=(↑(List.length f.1):Int)
 cond (decide (30<q)) (
 an (ap j.2.1 j.2.2 3) (fun m=>
 i (h,a,b,c,d,e,f.1,0,m.2.1,m.2.2))) (
 i (h,a,b,c,d,e,f.1,0,j.2.1,j.2.2))))) (
 let r:=(↑(List.length f.1):Int)
 cond (r==0) (
 an (ap f.2.2.1 f.2.2.2 6) (fun g=>
 let s:=(↑(List.length f.1):Int)
 cond (decide (30<s)) (
 an (ap g.2.1 g.2.2 3) (fun n=>
 i (h,a,b,c,d,e,f.1,0,n.2.1,n.2.2))) (
 i (h,a,b,c,d,e,f.1,0,g.2.1,g.2.2)))) (
 let t:=(↑(List.length f.1):Int)
 cond (decide (30<t)) (
 an (ap f.2.2.1 f.2.2.2 3) (fun o=>
 i (h,a,b,c,d,e,f.1,0,o.2.1,o.2.2))) (
 i (h,a,b,c,d,e,f.1,0,f.2.2.1,f.2.2.2)))))
def nZ(N:Nat)(a:List am)(b c d:Int)(e:Bs)(f:List ak)(g:Bss)(h:Int):Ro:=dE N a b c d e f g h (fun z=>aP N (dk N) z)
theorem tK(N:Nat)(a:List am)(c d g:Int)(i:Bs)(j:List ak)(k:Bss)(l:Int)(h:Tot (nZ N a c d g i j k l) (fun z=>∃(m:List am)(n:Int)(rest:List aq),z.1.dimR=.tup []∧z.2=some [.ul .atype m,.int .i64 n]::rest∧ct a c d g i j k l (m,n))):∃r,dP a c d g i j k l r:=FnC.finO (css:=[[.ul .atype a,.int .i64 c]]) uM (N:=N) ((cd _ (by kernel_rfl) rfl (fun C=>dE N a c d g i j k l (fun z=>C 1000001 (aQ z))) (fun C=>by kernel_rfl)).trans (Eq.trans (b:=dE N a c d g i j k l (fun z=>bd N (fc N) (aQ z))) (by kernel_rfl) (congrArg (dE N a c d g i j k l) (funext fun z=>be (aQ) (fc N) (dk N) (tb N) N z)))) h fun _ ⟨m,n,_,e,f,q⟩=>⟨(m,n),e,⟨_,f⟩,q⟩
noncomputable def mD:az:=tab (P:=Tryd.prog) [] [bP,jW,rD] [] [zT]
def oZ:IR:=Sq (Rs [Mv 26 9,Mv 27 1,Pp (.lens 28 27),Bi 29 .lss 26 28] (Cn 29 .skip (.exit 0))) (Sq (.block 1 (Rg [Mv 32 8,Mv 33 32,Gf 33 (.mov 34 1),Gf 33 (.mov 35 9),Gf 33 (.idx 36 34 35),Gf 33 (.bin 37 .eql 36 (.c (.int .u8 46))),Po 38 33 37,Mv 8 38])) (Rg [Mv 30 9,Bc 31 .add 30 1,Mv 9 31]))
def n7:IR:=Sq (Rs [Mv 39 8,Un 40 39,Mv 41 40,Gt 41 (.mov 42 2),Gt 41 (.bin 43 .neq 42 (kS [])),Pa 44 41 43] (Cn 44 (Rs [Mv 46 0,Mv 47 2,Pp (.bin 48 .add 47 (kS [46])),Mv 49 1,Bi 50 .add 48 49,Ca 51 75 [46,50],Mv 45 51,Ex_ 52 0 45,Ex_ 53 1 45,Mv 10 52,Mv 11 53] (Rs [Mv 54 11] (Cn 54 (Rs [Mv 55 10,Mv 6 55] .ret) .skip))) .skip)) (Rs [Mv 57 0,Mv 58 1,Ca 59 75 [57,58],Mv 56 59,Ex_ 60 0 56,Ex_ 61 1 56,Mv 12 60,Mv 13 61] (Sq (Rs [Mv 62 13,Un 63 62] (Cn 63 (Rs [Mv 64 0,Ca 65 38 [64,kI 4],Mv 6 65] .ret) .skip)) (Rs [Mv 66 12,Mv 6 66] .ret)))
def yY:IR:=Rs [Mi 6 0] (Rs [Mv 14 1,Ca 15 43 [14],Mv 7 15] (Sq (Rs [Mv 16 7,Bc 17 .geq 16 1,Mv 18 17,Gt 18 (.mov 19 7),Gt 18 (.bin 20 .leq 19 (kI 8)),Pa 21 18 20] (Cn 21 (Rs [Mv 22 0,Mv 23 7,Pp (.bld 24 [vI 0,vS,fu .str true,vI 0,fu .str true,.bool false,vS,vI 0,fu .afield true,fu (.num .i64) true] [(0,1,23)]),Ca 25 44 [22,24],Mv 6 25] .ret) .skip)) (Rs [Mb 8 false] (Sq (Rs [Mi 9 0] (.block 0 (.loop [0,1,2,8,9,1000000] 1 oZ))) n7))))
def qE:List RV:=[.t 6]
theorem yZ:FnC Tryd.prog mD [38,44,75,2000038,2000044,2000075] 1 rA Tryd.f39 yY qE:=fnC Tryd.func39
def xc(R:IR→(Ex→St→Ro)→St→Ro)(a:St→Ro):Ex→St→Ro:=(bG a [0,1,2,8,9,1000000] 1 (aJ 0 (kseq (R n7) (fin qE))))
abbrev ik:Type:=(Bs×Bs×Bool×Int×List am×Int)
def gE:ik→St:=fun(a,b,c,d,e,f)=>{env:=(.ptr 0 0::.str a::.str b::(U 5 (.bool c::.int .i64 d::(U 57 [])))),hp:=[some [.ul .atype e,.int .i64 f]]}
def kQ(N:Nat):(St→Ro)→St→Ro:=fun a s=>run mD N oZ (xc (run mD N) a) s
def eD(N:Nat)(c:ik→Ro):ik→Ro:=fun(d,i,n,j,a,b)=>
 let p:=(↑(List.length d):Int)
 cond (decide (j<p)) (
 cond n (
 let q:=(IntKind.wrap .i64 (j+1))
 c (d,i,true,q,a,b)) (
 chk (ixl j d) (
 let r:=(↑(UInt8.toNat (List.getD d (Int.toNat j) 0)):Int)
 let s:=(IntKind.wrap .i64 (j+1))
 c (d,i,(r==46),s,a,b)))) (
 cond (!n) (
 let t:=(!decide (i=([]:Bs)))
 cond t (
 chk (decide (List.length i+List.length ([46]:Bs)≤9223372036854775807)) (
 let o:=(i++([46]:Bs))
 chk (decide (List.length o+List.length d≤9223372036854775807)) (
 an (bQ a b (o++d)) (fun e=>
 cond e.2.1 (
 some (.int .i64 e.1,[some [.ul .atype e.2.2.1,.int .i64 e.2.2.2]])) (
 an (bQ e.2.2.1 e.2.2.2 d) (fun f=>
 cond (!f.2.1) (
 an (ap f.2.2.1 f.2.2.2 4) (fun k=>
 some (.int .i64 k.1,[some [.ul .atype k.2.1,.int .i64 k.2.2]]))) (
 some (.int .i64 f.1,[some [.ul .atype f.2.2.1,.int .i64 f.2.2.2]])))))))) (
 an (bQ a b d) (fun g=>
 cond (!g.2.1) (
 an (ap g.2.2.1 g.2.2.2 4) (fun l=>
 some (.int .i64 l.1,[some [.ul .atype l.2.1,.int .i64 l.2.2]]))) (
 some (.int .i64 g.1,[some [.ul .atype g.2.2.1,.int .i64 g.2.2.2]]))))) (
 an (bQ a b d) (fun h=>
 cond (!h.2.1) (
 an (ap h.2.2.1 h.2.2.2 4) (fun m=>
 some (.int .i64 m.1,[some [.ul .atype m.2.1,.int .i64 m.2.2]]))) (
 some (.int .i64 h.1,[some [.ul .atype h.2.2.1,.int .i64 h.2.2.2]])))))
theorem vz(N:Nat):LB (kQ N) gE (eD N):=fun _ _=>by kernel_rfl
def fy(N:Nat)(a:List am)(b:Int)(c f:Bs)(g:ik→Ro):Ro:=
 an (iL c) (fun(d:Int)=>
 cond (decide (1≤d)) (
 cond (decide (d≤8)) (
 an (cQ a b d ([]:Bs) ([]:Bss) 0 ([]:Bss) false ([]:Bs) 0 ([]:List bo) ([]:List Int)) (fun e=>
 some (.int .i64 e.1,[some [.ul .atype e.2.1,.int .i64 e.2.2]]))) (
 g (c,f,false,0,a,b))) (
 g (c,f,false,0,a,b)))
def qF(N:Nat)(a:List am)(b:Int)(c d:Bs):Ro:=fy N a b c d (fun z=>aP N (eD N) z)
theorem xd(N:Nat)(a:List am)(c:Int)(d g:Bs)(h:Tot (qF N a c d g) (fun z=>∃(i:Int)(j:List am)(k:Int)(rest:List aq),z.1.dimR=.int .i64 i∧z.2=some [.ul .atype j,.int .i64 k]::rest∧ka a c d g (i,j,k))):∃r,dO a c d g r:=FnC.finO (css:=[[.ul .atype a,.int .i64 c]]) yZ (N:=N) ((cd _ (by kernel_rfl) rfl (fun C=>fy N a c d g (fun z=>C 1000000 (gE z))) (fun C=>by kernel_rfl)).trans (Eq.trans (b:=fy N a c d g (fun z=>bd N (kQ N) (gE z))) (by kernel_rfl) (congrArg (fy N a c d g) (funext fun z=>be (gE) (kQ N) (eD N) (vz N) N z)))) h fun _ ⟨i,j,k,_,e,f,q⟩=>⟨(i,j,k),e,⟨_,f⟩,q⟩
noncomputable def bD:az:=tab (P:=Tryd.prog) [] [jr,bP,jW] [76] [ahH]
def nw:IR:=Sq (Rs [Mv 70 13,Mv 71 10,Ll 72 71,Bi 73 .lss 70 72] (Cn 73 .skip (.exit 2))) (Sq (.block 3 (Sq (.gh (.opn (.cell 0 0)) (.ghp (.cls (.cell 0 0)) (.reg [Mv 76 0,Nk 77 76,Fa 78 0 77,Fo [0] [] (.ld 79 1 true false 78),Mv 80 10,Mv 81 13,Ix 82 (.num .i64) 80 81,Lq 83 82,Fo [0,1] [] (.call 84 76 [79,83]),Mv 85 0,Nk 86 85,Fa 87 0 86,Fo [0] [] (.ld 88 1 true false 87),Mv 89 12,Fo [0,1] [] (.call 90 76 [88,89]),Bi 91 .eql 84 90] [[],[0],[0,1],[0,1,2],[],[],[4,5],[4,5,6],rg 0 7,[],[9],[9,10],[9,10,11],[],rg 0 13,rg 0 14]))) (Cn 91 (Rs [Mv 92 0,Ca 93 38 [92,kI 6],Mv 8 93] .ret) .skip))) (Rg [Mv 74 13,Bc 75 .add 74 1,Mv 13 75]))
def nx:IR:=Rg [Pp (.mov 94 (.tk 10)),Mv 95 12,Pp (.bsl 96 (.num .i64) [95] true),Pp (.app 97 (.num .i64) (.tk 94) 96),Pp (.mov 10 (.tk 97))]
def ny:IR:=Rg [Mv 41 11,Bc 42 .add 41 1,Mv 11 42]
def fe:IR:=Sq (Rs [Mv 29 11,Fa 30 3 5,Lq 31 30,Ll 32 31,Bi 33 .lss 29 32,Mv 34 33,Gt 34 (.mov 35 0),Gt 34 (.nck 36 35),Gt 34 (.fad 37 1 36),Gt 34 (.ld 38 1 false false 37),Gt 34 (.bin 39 .eql 38 (kI 0)),Pa 40 34 39] (Cn 40 .skip (.exit 0))) (Sq (.block 1 (Rs [Mv 43 0,Fa 44 3 5,Lq 45 44,Mv 46 11,Ix 47 .jnode 45 46,Ld 48 5 true 47,Mv 49 2,Mv 50 3,Bc 51 .add 50 1,Ca 52 23 [43,48,49,51],Mv 12 52] (Sq (Rs [Mv 53 0,Nk 54 53,Fa 55 1 54,Lo 56 55,Bc 57 .neq 56 0] (Cn 57 (Rs [Mi 8 0] .ret) .skip)) (Sq (Sq (.gh (.opn (.cell 0 0)) (.ghp (.cls (.cell 0 0)) (Rg [Mv 58 0,Nk 59 58,Fa 60 0 59,Fa 61 0 60,Lo 62 61,Mv 63 12,Pp (.ixw 64 .atype 62 63),Pp (.fdw 65 0 64),Pp (.ldw 66 1 false 65),Bc 67 .eql 66 14]))) (Cn 67 (Rs [Mv 68 0,Ca 69 38 [68,kI 6],Mv 8 69] .ret) .skip)) (Sq (Rs [Mi 13 0] (.block 2 (.loop [0,2,3,5,9,10,11,12,13,1000000] 1 nw))) nx))))) ny)
def jf:IR:=Sq (Rs [Mv 98 0,Nk 99 98,Fa 100 1 99,Lo 101 100,Bc 102 .eql 101 0] (Cn 102 (.gh (.opn (.cell 0 0)) (.ghp (.cls (.cell 0 0)) (Rg [Mv 103 0,Nk 104 103,Fa 105 0 104,Fa 106 0 105,Lo 107 106,Mv 108 9,Mv 109 10,Pp (.ixw 110 .atype 107 108),Pp (.fdw 111 9 110),Pp (.stw none 1 111 109)]))) .skip)) (Rs [Mv 112 9,Mv 8 112] .ret)
def xf:IR:=Rs [Bx 5 1,Mi 8 0] (Rs [Mv 14 0,Pp (.bld 15 [vI 0,vS,fu .str true,vI 0,fu .str true,.bool false,vS,vI 0,fu .afield true,fu (.num .i64) true] [(0,1,kI 14)]),Ca 16 44 [14,15],Mv 9 16] (Sq (Rs [Fa 17 3 5,Lq 18 17,Ll 19 18,Bc 20 .eql 19 0] (Cn 20 (Rs [Mv 21 0,Ca 22 38 [21,kI 6],Mv 8 22] .ret) .skip)) (Sq (Rs [Fa 23 3 5,Lq 24 23,Ll 25 24,Bc 26 .gtr 25 30] (Cn 26 (Rs [Mv 27 0,Ca 28 38 [27,kI 3],Mv 8 28] .ret) .skip)) (Rs [Pp (.mov 10 (.c (nl (.num .i64))))] (Sq (Rs [Mi 11 0] (.block 0 (.loop [0,2,3,5,9,10,11,1000001] 1 fe))) jf)))))
def kR:List RV:=[.t 8]
theorem xg:FnC Tryd.prog bD [23,38,44,76,2000023,2000038,2000044,2000076] 1 qq Tryd.f40 xf kR:=fnC Tryd.func40
def gF(R:IR→(Ex→St→Ro)→St→Ro)(a:St→Ro):Ex→St→Ro:=(bG a [0,2,3,5,9,10,11,1000001] 1 (aJ 0 (kseq (R jf) (fin kR))))
abbrev bX:Type:=(Bs×Int×Int×Int×Bs×List ak×Bss×Int×List Int×Int×List am×Int)
def aW:bX→St:=fun(c,d,e,f,g,h,i,j,k,l,a,b)=>{env:=(.ptr 0 0::.undef::.str c::.int .i64 d::.undef::.ea [.int .i64 e,.int .i64 f,.str g,.sl .jnode (.may false) h,.sl .str (.may false) i]::(U 3 (.int .i64 j::.sl (.num .i64) .own k::.int .i64 l::(U 101 [])))),hp:=[some [.ul .atype a,.int .i64 b]]}
def vA(R:IR→(Ex→St→Ro)→St→Ro)(a b:St→Ro):Ex→St→Ro:=(bG b [0,2,3,5,9,10,11,12,13,1000000] 1 (aJ 2 (kseq (R nx) (aJ 1 (kseq (R ny) (gF R a))))))
abbrev gG:Type:=(Bs×Int×Int×Int×Bs×List ak×Bss×Int×List Int×Int×Int×Int×List am×Int)
def dF:gG→St:=fun(e,f,g,h,i,j,k,l,m,n,a,b,c,d)=>{env:=(.ptr 0 0::.undef::.str e::.int .i64 f::.undef::.ea [.int .i64 g,.int .i64 h,.str i,.sl .jnode (.may false) j,.sl .str (.may false) k]::(U 3 (.int .i64 l::.sl (.num .i64) .own m::.int .i64 n::.int .i64 a::.int .i64 b::(U 99 [])))),hp:=[some [.ul .atype c,.int .i64 d]]}
def gH(N:Nat)(a:St→Ro):(St→Ro)→St→Ro:=fun b s=>run bD N nw (vA (run bD N) a b) s
def dT(N:Nat)(d:bX→Ro)(e:gG→Ro):gG→Ro:=fun(q,r,h,i,j,k,l,s,b,m,f,g,a,c)=>
 let t:=(↑(List.length b):Int)
 cond (decide (g<t)) (
 chk (decide (0<List.length a)) (
 chk (ixl g b) (
 let u:=List.getD b (Int.toNat g) (av (.num .i64))
 afW (lA a u) (Nat.beq (List.length a) (List.length a)&&true) (fun(v:Bs)=>
 afW (lA a f) (Nat.beq (List.length a) (List.length a)&&true) (fun(w:Bs)=>
 chk (Nat.beq (List.length a) (List.length a)) (
 cond (decide (v=w)) (
 an (ap a c 6) (fun n=>
 some (.int .i64 n.1,[some [.ul .atype n.2.1,.int .i64 n.2.2],none,none]))) (
 let x:=(IntKind.wrap .i64 (g+1))
 e (q,r,h,i,j,k,l,s,b,m,f,x,a,c)))))))) (
 chk (decide ((List.length b+List.length ([f]:List Int))*8≤140737488355328)) (
 let o:=(b++([f]:List Int))
 let p:=(IntKind.wrap .i64 (m+1))
 d (q,r,h,i,j,k,l,s,o,p,a,c)))
theorem uN(N:Nat)(a:St→Ro):LB (gH N a) dF (dT N (fun y=>a (aW y))):=fun _ _=>by kernel_rfl
def gI(N:Nat):(St→Ro)→St→Ro:=fun a s=>run bD N fe (gF (run bD N) a) s
def fY(N:Nat)(r:bX→Ro)(y:gG→Ro):bX→Ro:=fun(v,w,i,j,k,e,m,f,h,g,a,b)=>
 let z:=(↑(List.length e):Int)
 let t:=fun g0 g1 g2=>(some (.int .i64 g0,[some [.ul .atype g1,.int .i64 g2],none,none]):Ro)
 let x:=(some (.int .i64 f,[some [.ul .atype a,.int .i64 b]]):Ro)
 cond (decide (g<z)) (
 cond (b==0) (
 chk (ixl g e) (
 let o:=(List.getD e (Int.toNat g) (av .jnode))
 let x5:=(IntKind.wrap .i64 (w+1))
 an (bA a b o.kind o.n o.s o.l o.names v x5) (fun d=>
 cond (!(d.2.2==0)) (
 some (.int .i64 0,[some [.ul .atype d.2.1,.int .i64 d.2.2]])) (
 chk (decide (0<List.length d.2.1)) (
 chk (decide (0≤d.1)&&decide (d.1<↑(List.length d.2.1))) (
 chk (decide ((Int.toNat d.1)<List.length d.2.1)) (
 let x6:=(List.getD d.2.1 (Int.toNat d.1) (av .atype)).kind
 chk (Nat.beq (List.length d.2.1) (List.length d.2.1)) (
 cond (x6==14) (
 an (ap d.2.1 d.2.2 6) (fun u=>
 t u.1 u.2.1 u.2.2)) (
 y (v,w,i,j,k,e,m,f,h,g,d.1,0,d.2.1,d.2.2)))))))))) (
 cond (b==0) (
 chk (decide (0<List.length a)) (
 chk (decide (0≤f)&&decide (f<↑(List.length a))) (
 chk (decide ((Int.toNat f)<List.length a)) (
 let p:=(List.set a (Int.toNat f) (let c:=List.getD a (Int.toNat f) (av .atype);⟨c.kind,c.name,c.aliases,c.items,c.syms,c.hasdef,c.df,c.size,c.fields,h⟩))
 chk (Nat.beq (List.length a) (List.length p)) (
 t f p b))))) (
 x))) (
 cond (b==0) (
 chk (decide (0<List.length a)) (
 chk (decide (0≤f)&&decide (f<↑(List.length a))) (
 chk (decide ((Int.toNat f)<List.length a)) (
 let q:=(List.set a (Int.toNat f) (let c:=List.getD a (Int.toNat f) (av .atype);⟨c.kind,c.name,c.aliases,c.items,c.syms,c.hasdef,c.df,c.size,c.fields,h⟩))
 chk (Nat.beq (List.length a) (List.length q)) (
 t f q b))))) (
 x))
def gJ(N:Nat)(a:bX→Ro)(x:bX):Ro:=fY N a (fun z=>aP N (dT N a) z) x
def ko(N:Nat)(a:St→Ro):List (Nat×(St→Ro)):=(cC bD N fe (gF (run bD N) a)++(cC bD N jf (fin kR)++[]))
theorem uO(N:Nat):∀(a:St→Ro)(x:bX),gI N a (aW x)=gJ N (fun y=>a (aW y)) x:=by
 intro a x
 have hX:∀C:Nat→St→Ro,cp C bD N fe (gF (cp C bD N) a) (aW x)=fY N (fun y=>a (aW y)) (fun z=>C 1000000 (dF z)) x:=by
  intro C
  kernel_rfl
 have h:gI N a (aW x)=fY N (fun y=>a (aW y)) (fun z=>bd N (gH N a) (dF z)) x:=(fJ (C:=iX (ko N a)) (cX (bi (l:=(ko N a)) (by kernel_rfl))) (rv (fI (kL (cX (gt (bi (l:=(ko N a)) (by kernel_rfl)))) rfl))) _).trans ((hX _).trans (by kernel_rfl))
 have e1:(fun z=>bd N (gH N a) (dF z))=(fun z=>aP N (dT N (fun y=>a (aW y))) z):=funext fun z=>be (dF) (gH N a) (dT N (fun y=>a (aW y))) (uN N a) N z
 rw[h,e1]
 rfl
def eE(N:Nat)(c:List am)(d e f:Int)(g:Bs)(a:List ak)(h:Bss)(k:Bs)(l:Int)(m:bX→Ro):Ro:=
 an (cQ c d 14 ([]:Bs) ([]:Bss) 0 ([]:Bss) false ([]:Bs) 0 ([]:List bo) ([]:List Int)) (fun b=>
 let n:=(↑(List.length a):Int)
 cond (n==0) (
 an (ap b.2.1 b.2.2 6) (fun i=>
 some (.int .i64 i.1,[some [.ul .atype i.2.1,.int .i64 i.2.2]]))) (
 let o:=(↑(List.length a):Int)
 cond (decide (30<o)) (
 an (ap b.2.1 b.2.2 3) (fun j=>
 some (.int .i64 j.1,[some [.ul .atype j.2.1,.int .i64 j.2.2]]))) (
 m (k,l,e,f,g,a,h,b.1,([]:List Int),0,b.2.1,b.2.2))))
def pV(N:Nat)(a:List am)(b c d:Int)(e:Bs)(f:List ak)(g:Bss)(h:Bs)(i:Int):Ro:=eE N a b c d e f g h i (fun z=>aP N (gJ N) z)
theorem vB(N:Nat)(a:List am)(c d g:Int)(i:Bs)(j:List ak)(k:Bss)(l:Bs)(m:Int)(h:Tot (pV N a c d g i j k l m) (fun z=>∃(n:Int)(o:List am)(p:Int)(rest:List aq),z.1.dimR=.int .i64 n∧z.2=some [.ul .atype o,.int .i64 p]::rest∧nN a c d g i j k l m (n,o,p))):∃r,fp a c d g i j k l m r:=FnC.finO (css:=[[.ul .atype a,.int .i64 c]]) xg (N:=N) ((cd _ (by kernel_rfl) rfl (fun C=>eE N a c d g i j k l m (fun z=>C 1000001 (aW z))) (fun C=>by kernel_rfl)).trans (Eq.trans (b:=eE N a c d g i j k l m (fun z=>bd N (gI N) (aW z))) (by kernel_rfl) (congrArg (eE N a c d g i j k l m) (funext fun z=>be (aW) (gI N) (gJ N) (uO N) N z)))) h fun _ ⟨n,o,p,_,e,f,q⟩=>⟨(n,o,p),e,⟨_,f⟩,q⟩
noncomputable def aC:az:=tab (P:=Tryd.prog) [] [jr,bP,mw,lE] [] [mU,uD]
def eF:IR:=Sq (Rs [Mv 81 16,Mv 82 12,Ll 83 82,Bi 84 .lss 81 83] (Cn 84 .skip (.exit 2))) (Sq (.block 3 (Sq (.reg [Mv 87 12,Mv 88 16,Ix 89 .afield 87 88,Fa 90 0 89,Fo [] [] (.ld 91 1 false false 90),Fa 92 0 15,Fo [1] [] (.ld 93 1 false false 92),Bi 94 .eql 91 93] [[],[],[0,1],[0,1,2],rg 0 3,[],[5],rg 0 6]) (Cn 94 (Rg [Mv 95 0,Ca 96 38 [95,kI 5]]) .skip))) (Rg [Mv 85 16,Bc 86 .add 85 1,Mv 16 86]))
def mE:IR:=Sq (Rs [Mv 127 19,Fa 128 1 15,Lo 129 128,Ll 130 129,Bi 131 .lss 127 130,Mv 132 131,Gt 132 (.mov 133 0),Gt 132 (.nck 134 133),Gt 132 (.fad 135 1 134),Gt 132 (.ld 136 1 false false 135),Gt 132 (.bin 137 .eql 136 (kI 0)),Pa 138 132 137] (Cn 138 .skip (.exit 4))) (Sq (.block 5 (Rs [Fa 141 1 15,Lo 142 141,Mv 143 19,Ix 144 .str 142 143,Lq 145 144,Ca 146 104 [145],Un 147 146] (Cn 147 (Rg [Mv 148 0,Ca 149 38 [148,kI 6]]) .skip))) (Rg [Mv 139 19,Bc 140 .add 139 1,Mv 19 140]))
def mF:IR:=Rg [Pp (.mov 150 (.tk 12)),Pp (.ld 151 9 true false 15),Pp (.bsl 152 .afield [151] true),Pp (.app 153 .afield (.tk 150) 152),Pp (.mov 12 (.tk 153))]
def iU:IR:=Rs [Ld 98 5 true 14,Ca 99 41 [98,kS [116,121,112,101]],Mv 97 99,Ex_ 100 0 97,Ex_ 101 1 97,Pp (.alr 17 5),Fz 17 5 100,Mv 18 101] (Sq (Rs [Mv 102 18,Un 103 102] (Cn 103 (Rg [Mv 104 0,Ca 105 38 [104,kI 2]]) .skip)) (Rs [Mv 106 0,Ld 107 5 true 17,Mv 108 3,Mv 109 4,Bc 110 .add 109 1,Ca 111 23 [106,107,108,110],Fa 112 2 15,Sv 1 112 111] (Rs [Ld 114 5 true 14,Ca 115 41 [114,kS [100,101,102,97,117,108,116]],Mv 113 115,Ex_ 116 0 113,Ex_ 117 1 113,Fa 118 4 15,Sv 5 118 116,Fa 119 3 15,Sv 1 119 117] (Rs [Mv 121 0,Ld 122 5 true 14,Ca 123 80 [121,122,kS [97,108,105,97,115,101,115]],Mv 120 123,Ex_ 124 0 120,Ex_ 125 1 120,Fa 126 1 15,Sk 1 126 124] (Sq (Rs [Mi 19 0] (.block 4 (.loop [0,2,3,4,10,12,13,15,19,1000001] 2 mE))) mF)))))
def da:IR:=Rg [Mv 52 13,Bc 53 .add 52 1,Mv 13 53]
def eG:IR:=Sq (Rs [Mv 40 13,Fa 41 3 10,Lq 42 41,Ll 43 42,Bi 44 .lss 40 43,Mv 45 44,Gt 45 (.mov 46 0),Gt 45 (.nck 47 46),Gt 45 (.fad 48 1 47),Gt 45 (.ld 49 1 false false 48),Gt 45 (.bin 50 .eql 49 (kI 0)),Pa 51 45 50] (Cn 51 .skip (.exit 0))) (Sq (.block 1 (Rs [Fa 54 3 10,Lq 55 54,Mv 56 13,Ix 57 .jnode 55 56,Ld 58 5 true 57,Pp (.alr 14 5),Fz 14 5 58] (Sq (Rs [Fa 59 0 14,Lq 60 59,Bc 61 .neq 60 6] (Cn 61 (Rs [Mv 62 0,Ca 63 38 [62,kI 2]] .ret) .skip)) (Rs [Mv 64 0,Ld 65 5 true 14,Ca 66 77 [64,65,kS [110,97,109,101],kB true],Pp (.bld 67 [vS,nl .str,vI 0,.bool false,vI 0,vI 0,vS,nl .jnode,nl .str] [(0,1,66)]),Pp (.new 15 [vS,nl .str,vI 0,.bool false,vI 0,vI 0,vS,nl .jnode,nl .str]),Sv 9 15 67] (Sq (Rs [Mv 68 0,Nk 69 68,Fa 70 1 69,Lo 71 70,Bc 72 .eql 71 0,Mv 73 72,Gt 73 (.fad 74 0 15),Gt 73 (.ld 75 1 false false 74),Gt 73 (.call 76 104 [75]),Gt 73 (.un 77 .not 76),Pa 78 73 77] (Cn 78 (Rg [Mv 79 0,Ca 80 38 [79,kI 6]]) .skip)) (Sq (Rs [Mi 16 0] (.block 2 (.loop [0,2,3,4,10,12,13,14,15,16,1000000] 2 eF))) iU)))))) da)
def eH:IR:=Rs [Mv 154 0,Nk 155 154,Fa 156 1 155,Lo 157 156,Bc 158 .eql 157 0] (Cn 158 (.gh (.opn (.cell 0 0)) (.ghp (.cls (.cell 0 0)) (Rg [Mv 159 0,Nk 160 159,Fa 161 0 160,Fa 162 0 161,Lo 163 162,Mv 164 2,Mv 165 12,Pp (.ixw 166 .atype 163 164),Pp (.fdw 167 8 166),Pp (.stw none 1 167 165)]))) .skip)
def vC:IR:=Rs [Bx 6 1] (Rs [Ld 21 5 true 6,Ca 22 41 [21,kS [102,105,101,108,100,115]],Mv 20 22,Ex_ 23 0 20,Ex_ 24 1 20,Pp (.alr 10 5),Fz 10 5 23,Mv 11 24] (Sq (Rs [Mv 25 11,Un 26 25,Mv 27 26,Gf 27 (.fad 28 0 10),Gf 27 (.lde 29 1 false 28),Gf 27 (.bin 30 .neq 29 (kI 5)),Po 31 27 30] (Cn 31 (Rs [Mv 32 0,Ca 33 38 [32,kI 2]] .ret) .skip)) (Sq (Rs [Fa 34 3 10,Lq 35 34,Ll 36 35,Bc 37 .gtr 36 30] (Cn 37 (Rs [Mv 38 0,Ca 39 38 [38,kI 3]] .ret) .skip)) (Rs [Pp (.mov 12 (.c (nl .afield)))] (Sq (Rs [Mi 13 0] (.block 0 (.loop [0,2,3,4,10,12,13,1000002] 1 eG))) eH)))))
def gK:List RV:=[]
theorem vD:FnC Tryd.prog aC [23,38,77,80,2000023,2000038,2000077,2000080] 1 pG Tryd.f81 vC gK:=fnC Tryd.func81
def cg(R:IR→(Ex→St→Ro)→St→Ro)(a:St→Ro):Ex→St→Ro:=(bG a [0,2,3,4,10,12,13,1000002] 1 (aJ 0 (kseq (R eH) (fin gK))))
abbrev bk:Type:=(Int×Bs×Int×Int×Int×Bs×List ak×Bss×List bo×Int×List am×Int)
def aG:bk→St:=fun(c,d,e,f,g,h,i,j,k,l,a,b)=>{env:=(.ptr 0 0::.undef::.int .i64 c::.str d::.int .i64 e::(U 5 (.ea [.int .i64 f,.int .i64 g,.str h,.sl .jnode (.may false) i,.sl .str (.may false) j]::.undef::.sl .afield .own k::.int .i64 l::(U 154 [])))),hp:=[some [.ul .atype a,.int .i64 b]]}
def jN(R:IR→(Ex→St→Ro)→St→Ro)(a b:St→Ro):Ex→St→Ro:=(bG b [0,2,3,4,10,12,13,14,15,16,1000000] 2 (aJ 2 (kseq (R iU) (aJ 1 (kseq (R da) (cg R a))))))
abbrev ch:Type:=(Int×Bs×Int×Int×Int×Bs×List ak×Bss×List bo×Int×Int×Int×Bs×List ak×Bss×Int×List am×Int×Bs×Bss×Int×Bool×Int×Int×Bs×List ak×Bss)
def bg:ch→St:=fun(r,s,t,u,v,w,x,y,z,x9,a,b,c,d,e,f,g,h,i,j,k,l,m,n,o,p,q)=>{env:=(.ptr 0 0::.undef::.int .i64 r::.str s::.int .i64 t::(U 5 (.ea [.int .i64 u,.int .i64 v,.str w,.sl .jnode (.may false) x,.sl .str (.may false) y]::.undef::.sl .afield .own z::.int .i64 x9::.ea [.int .i64 a,.int .i64 b,.str c,.sl .jnode (.may false) d,.sl .str (.may false) e]::.ptr 1 0::.int .i64 f::(U 151 [])))),hp:=[some [.ul .atype g,.int .i64 h],some [.str i,.sl .str .own j,.int .i64 k,.bool l,.int .i64 m,.int .i64 n,.str o,.sl .jnode .own p,.sl .str .own q]]}
def uP(R:IR→(Ex→St→Ro)→St→Ro)(a b:St→Ro):Ex→St→Ro:=(bG b [0,2,3,4,10,12,13,15,19,1000001] 2 (aJ 4 (kseq (R mF) (aJ 1 (kseq (R da) (cg R a))))))
abbrev fZ:Type:=(Int×Bs×Int×Int×Int×Bs×List ak×Bss×List bo×Int×Int×List am×Int×Bs×Bss×Int×Bool×Int×Int×Bs×List ak×Bss)
def dl:fZ→St:=fun(m,n,o,p,q,r,s,t,u,v,a,b,c,d,e,f,g,h,i,j,k,l)=>{env:=(.ptr 0 0::.undef::.int .i64 m::.str n::.int .i64 o::(U 5 (.ea [.int .i64 p,.int .i64 q,.str r,.sl .jnode (.may false) s,.sl .str (.may false) t]::.undef::.sl .afield .own u::.int .i64 v::.undef::.ptr 1 0::(U 3 (.int .i64 a::(U 148 [])))))),hp:=[some [.ul .atype b,.int .i64 c],some [.str d,.sl .str (.may false) e,.int .i64 f,.bool g,.int .i64 h,.int .i64 i,.str j,.sl .jnode (.may false) k,.sl .str (.may false) l]]}
def f6(N:Nat)(a:St→Ro):(St→Ro)→St→Ro:=fun b s=>run aC N mE (uP (run aC N) a b) s
def cj(N:Nat)(s:bk→Ro)(t:fZ→Ro):fZ→Ro:=fun(v2,v3,v4,k,l,m,n,o,p,u,q,r,j,b,a,c,d,e,f,g,h,i)=>
 let x9:=(↑(List.length a):Int)
 let z0:=fun w x g2=>t (v2,v3,v4,k,l,m,n,o,p,u,w,x,g2,b,a,c,d,e,f,g,h,i)
 let z1:=fun w x=>s (v2,v3,v4,k,l,m,n,o,w,x,r,j)
 cond (decide (q<x9)) (
 cond (j==0) (
 chk (ixl q a) (
 let y:=List.getD a (Int.toNat q) (av .str)
 an (fR y) (fun(z:Bool)=>
 cond (!z) (
 an (ap r j 6) (fun v=>
 let aa:=(IntKind.wrap .i64 (q+1))
 z0 aa v.2.1 v.2.2)) (
 let ab:=(IntKind.wrap .i64 (q+1))
 z0 ab r j)))) (
 chk (decide ((List.length p+List.length ([⟨b,a,c,d,⟨e,f,g,h,i⟩⟩]:List bo))*136≤140737488355328)) (
 let ac:=(p++([⟨b,a,c,d,⟨e,f,g,h,i⟩⟩]:List bo))
 let ad:=(IntKind.wrap .i64 (u+1))
 z1 ac ad))) (
 chk (decide ((List.length p+List.length ([⟨b,a,c,d,⟨e,f,g,h,i⟩⟩]:List bo))*136≤140737488355328)) (
 let ae:=(p++([⟨b,a,c,d,⟨e,f,g,h,i⟩⟩]:List bo))
 let af:=(IntKind.wrap .i64 (u+1))
 z1 ae af))
theorem tL(N:Nat)(a:St→Ro):LB (f6 N a) dl (cj N (fun y=>a (aG y))):=fun _ _=>by kernel_rfl
def dG(N:Nat)(a:St→Ro):(St→Ro)→St→Ro:=fun b s=>run aC N eF (jN (run aC N) a b) s
def ff(N:Nat)(aj:bk→Ro)(s:ch→Ro)(q2:fZ→Ro):ch→Ro:=fun(v2,y,z,g,h,i,j,k,o,t,a,b,c,d,e,r,l,m,n,aa,ab,ac,ad,ae,af,ag,ah)=>
 let x4:=(↑(List.length o):Int)
 let z0:=fun g0 g1 g2=>s (v2,y,z,g,h,i,j,k,o,t,a,b,c,d,e,g0,g1,g2,n,aa,ab,ac,ad,ae,af,ag,ah)
 cond (decide (r<x4)) (
 chk (ixl r o) (
 let x5:=(List.getD o (Int.toNat r) (av .afield))
 cond (decide (x5.name=n)) (
 an (ap l m 5) (fun r9=>
 let x6:=(IntKind.wrap .i64 (r+1))
 z0 x6 r9.2.1 r9.2.2)) (
 let x7:=(IntKind.wrap .i64 (r+1))
 z0 x7 l m))) (
 an (cf a b c d e ([116,121,112,101]:Bs)) (fun f=>
 cond (!f.2.2.2.2.2) (
 an (ap l m 2) (fun ai=>
 let x8:=(IntKind.wrap .i64 (z+1))
 an (bA ai.2.1 ai.2.2 f.1 f.2.1 f.2.2.1 f.2.2.2.1 f.2.2.2.2.1 y x8) (fun u=>
 an (cf a b c d e ([100,101,102,97,117,108,116]:Bs)) (fun p=>
 an (bW u.2.1 u.2.2 a b c d e ([97,108,105,97,115,101,115]:Bs)) (fun v=>
 q2 (v2,y,z,g,h,i,j,k,o,t,0,v.2.2.1,v.2.2.2,n,v.1,u.1,p.2.2.2.2.2,p.1,p.2.1,p.2.2.1,p.2.2.2.1,p.2.2.2.2.1)))))) (
 let al:=(IntKind.wrap .i64 (z+1))
 an (bA l m f.1 f.2.1 f.2.2.1 f.2.2.2.1 f.2.2.2.2.1 y al) (fun w=>
 an (cf a b c d e ([100,101,102,97,117,108,116]:Bs)) (fun q=>
 an (bW w.2.1 w.2.2 a b c d e ([97,108,105,97,115,101,115]:Bs)) (fun x=>
 q2 (v2,y,z,g,h,i,j,k,o,t,0,x.2.2.1,x.2.2.2,n,x.1,w.1,q.2.2.2.2.2,q.1,q.2.1,q.2.2.1,q.2.2.2.1,q.2.2.2.2.1)))))))
def cO(N:Nat)(a:bk→Ro)(b:ch→Ro)(x:ch):Ro:=ff N a b (fun z=>aP N (cj N a) z) x
def dH(N:Nat)(a b:St→Ro):List (Nat×(St→Ro)):=(cC aC N eF (jN (run aC N) a b)++(cC aC N iU (aJ 1 (kseq (run aC N da) (cg (run aC N) a)))++(cC aC N da (cg (run aC N) a)++(cC aC N eH (fin gK)++[]))))
theorem tM(N:Nat)(a:St→Ro):∀(b:St→Ro)(x:ch),dG N a b (bg x)=cO N (fun y=>a (aG y)) (fun y=>b (bg y)) x:=by
 intro b x
 have hX:∀C:Nat→St→Ro,cp C aC N eF (jN (cp C aC N) a b) (bg x)=ff N (fun y=>a (aG y)) (fun y=>b (bg y)) (fun z=>C 1000001 (dl z)) x:=by
  intro C
  kernel_rfl
 have h:dG N a b (bg x)=ff N (fun y=>a (aG y)) (fun y=>b (bg y)) (fun z=>bd N (f6 N a) (dl z)) x:=(fJ (C:=iX (dH N a b)) (cX (bi (l:=(dH N a b)) (by kernel_rfl))) (rv (fI (kL (cX (gt (bi (l:=(dH N a b)) (by kernel_rfl)))) (fI (kL (cX (gt (gt (bi (l:=(dH N a b)) (by kernel_rfl))))) (rv (fI (kL (cX (gt (gt (gt (bi (l:=(dH N a b)) (by kernel_rfl)))))) rfl)))))))) _).trans ((hX _).trans (by kernel_rfl))
 have e2:(fun z=>bd N (f6 N a) (dl z))=(fun z=>aP N (cj N (fun y=>a (aG y))) z):=funext fun z=>be (dl) (f6 N a) (cj N (fun y=>a (aG y))) (tL N a) N z
 rw[h,e2]
 rfl
def f7(N:Nat):(St→Ro)→St→Ro:=fun a s=>run aC N eG (cg (run aC N) a) s
def fg(N:Nat)(t:bk→Ro)(q1:ch→Ro):bk→Ro:=fun(f,v3,v4,i,j,k,d,m,o,h,a,b)=>
 let x2:=(↑(List.length d):Int)
 let u:=fun p v=>(some (.tup [],[some [.ul .atype p,.int .i64 v]]):Ro)
 let x:=fun p=>(some (.tup [],[some [.ul .atype p,.int .i64 b],none,none]):Ro)
 let w:=fun p v g2 g3 g4 g5 g6 g7=>q1 (f,v3,v4,i,j,k,d,m,o,h,p,v,g2,g3,g4,0,g5,g6,g7,([]:Bss),0,false,0,0,([]:Bs),([]:List ak),([]:Bss))
 cond (decide (h<x2)) (
 cond (b==0) (
 chk (ixl h d) (
 let c:=(List.getD d (Int.toNat h) (av .jnode))
 cond (!(c.kind==6)) (
 an (ap a b 2) (fun y=>
 u y.2.1 y.2.2)) (
 an (cE a b c.kind c.n c.s c.l c.names ([110,97,109,101]:Bs) true) (fun g=>
 cond (g.2.2==0) (
 an (fR g.1) (fun(r7:Bool)=>
 cond (!r7) (
 an (ap g.2.1 g.2.2 6) (fun z=>
 w c.kind c.n c.s c.l c.names z.2.1 z.2.2 g.1)) (
 w c.kind c.n c.s c.l c.names g.2.1 g.2.2 g.1))) (
 w c.kind c.n c.s c.l c.names g.2.1 g.2.2 g.1))))) (
 cond (b==0) (
 chk (decide (0<List.length a)) (
 chk (decide (0≤f)&&decide (f<↑(List.length a))) (
 chk (decide ((Int.toNat f)<List.length a)) (
 let q:=(List.set a (Int.toNat f) (let e:=List.getD a (Int.toNat f) (av .atype);⟨e.kind,e.name,e.aliases,e.items,e.syms,e.hasdef,e.df,e.size,o,e.branches⟩))
 chk (Nat.beq (List.length a) (List.length q)) (
 x q))))) (
 u a b))) (
 cond (b==0) (
 chk (decide (0<List.length a)) (
 chk (decide (0≤f)&&decide (f<↑(List.length a))) (
 chk (decide ((Int.toNat f)<List.length a)) (
 let r:=(List.set a (Int.toNat f) (let e:=List.getD a (Int.toNat f) (av .atype);⟨e.kind,e.name,e.aliases,e.items,e.syms,e.hasdef,e.df,e.size,o,e.branches⟩))
 chk (Nat.beq (List.length a) (List.length r)) (
 x r))))) (
 u a b))
def f8(N:Nat)(a:bk→Ro)(x:bk):Ro:=fg N a (fun z=>aP N (cO N a) z) x
def jO(N:Nat)(a:St→Ro):List (Nat×(St→Ro)):=(cC aC N eG (cg (run aC N) a)++(cC aC N eH (fin gK)++[]))
theorem tN(N:Nat):∀(a:St→Ro)(x:bk),f7 N a (aG x)=f8 N (fun y=>a (aG y)) x:=by
 intro a x
 have hX:∀C:Nat→St→Ro,cp C aC N eG (cg (cp C aC N) a) (aG x)=fg N (fun y=>a (aG y)) (fun z=>C 1000000 (bg z)) x:=by
  intro C
  kernel_rfl
 have h:f7 N a (aG x)=fg N (fun y=>a (aG y)) (fun z=>bd N (dG N a) (bg z)) x:=(fJ (C:=iX (jO N a)) (cX (bi (l:=(jO N a)) (by kernel_rfl))) (rv (fI (kL (cX (gt (bi (l:=(jO N a)) (by kernel_rfl)))) rfl))) _).trans ((hX _).trans (by kernel_rfl))
 have e1:(fun z=>bd N (dG N a) (bg z))=(fun z=>aP N (cO N (fun y=>a (aG y))) z):=funext fun z=>be (bg) (dG N a) (cO N (fun y=>a (aG y))) (tM N a) N z
 rw[h,e1]
 rfl
def dU(N:Nat)(a:List am)(b d e:Int)(f:Bs)(g:List ak)(h:Bss)(m:Int)(n:Bs)(o:Int)(p:bk→Ro):Ro:=
 let i:=fun q r=>(some (.tup [],[some [.ul .atype q,.int .i64 r]]):Ro)
 an (cf d e f g h ([102,105,101,108,100,115]:Bs)) (fun c=>
 cond (!c.2.2.2.2.2) (
 an (ap a b 2) (fun j=>
 i j.2.1 j.2.2)) (
 cond (!(c.1==5)) (
 an (ap a b 2) (fun k=>
 i k.2.1 k.2.2)) (
 let s:=(↑(List.length c.2.2.2.1):Int)
 cond (decide (30<s)) (
 an (ap a b 3) (fun l=>
 i l.2.1 l.2.2)) (
 p (m,n,o,c.1,c.2.1,c.2.2.1,c.2.2.2.1,c.2.2.2.2.1,([]:List bo),0,a,b)))))
def pa(N:Nat)(a:List am)(b c d:Int)(e:Bs)(f:List ak)(g:Bss)(h:Int)(i:Bs)(j:Int):Ro:=dU N a b c d e f g h i j (fun z=>aP N (f8 N) z)
theorem uQ(N:Nat)(a:List am)(c d g:Int)(i:Bs)(j:List ak)(k:Bss)(l:Int)(m:Bs)(n:Int)(h:Tot (pa N a c d g i j k l m n) (fun z=>∃(o:List am)(p:Int)(rest:List aq),z.1.dimR=.tup []∧z.2=some [.ul .atype o,.int .i64 p]::rest∧cF a c d g i j k l m n (o,p))):∃r,ef a c d g i j k l m n r:=FnC.finO (css:=[[.ul .atype a,.int .i64 c]]) vD (N:=N) ((cd _ (by kernel_rfl) rfl (fun C=>dU N a c d g i j k l m n (fun z=>C 1000002 (aG z))) (fun C=>by kernel_rfl)).trans (Eq.trans (b:=dU N a c d g i j k l m n (fun z=>bd N (f7 N) (aG z))) (by kernel_rfl) (congrArg (dU N a c d g i j k l m n) (funext fun z=>be (aG) (f7 N) (f8 N) (tN N) N z)))) h fun _ ⟨o,p,_,e,f,q⟩=>⟨(o,p),e,⟨_,f⟩,q⟩
noncomputable def bj:az:=tab (P:=Tryd.prog) [] [bP,jW,rD,mw,yK,lE,wM,vj] [] [mU,adD]
def ga:IR:=Sq (Rs [Mv 59 17,Mv 60 15,Ll 61 60,Bi 62 .lss 59 61,Mv 63 62,Gt 63 (.mov 64 0),Gt 63 (.nck 65 64),Gt 63 (.fad 66 1 65),Gt 63 (.ld 67 1 false false 66),Gt 63 (.bin 68 .eql 67 (kI 0)),Pa 69 63 68] (Cn 69 .skip (.exit 0))) (Sq (.block 1 (.reg [Fa 72 2 14,Fo [] [1] (.ld 73 1 false true 72),Mv 74 0,Mv 75 15,Mv 76 17,Ix 77 .str 75 76,Lq 78 77,Mv 79 3,Fo [] [0] (.call 80 78 [74,78,79]),Pp (.bsl 81 .str [80] true),Pp (.app 82 .str (.tk 73) 81),Fa 83 2 14,Fo [] [1] (.st none 1 83 (.tk 82))] [[],[0],[],[],[],[3,4],[3,4,5],[],rg 2 7,rg 2 8,rg 0 9,rg 0 10,rg 0 11])) (Rg [Mv 70 17,Bc 71 .add 70 1,Mv 17 71]))
def nA:IR:=Sq (Rs [Mv 101 0,Nk 102 101,Fa 103 1 102,Lo 104 103,Bc 105 .neq 104 0] (Cn 105 (Rs [Mi 10 0] .ret) .skip)) (Rs [Mv 106 0,Pp (.ld 107 10 true false 14),Ca 108 44 [106,107],Mv 20 108] (Sq (Rs [Mv 109 2] (.block 2 (Rs [Bc 150 .eql 109 9,Mv 149 150] (Cn 149 (Rg [Mv 151 0,Ld 152 5 true 6,Mv 153 20,Mv 154 3,Mv 155 4,Ca 156 81 [151,152,153,154,155]]) (Rs [Bc 158 .eql 109 10,Mv 157 158] (Cn 157 (Rg [Mv 159 0,Ld 160 5 true 6,Mv 161 20,Ca 162 82 [159,160,161]]) (Rs [Ld 111 5 true 6,Ca 112 41 [111,kS [115,105,122,101]],Mv 110 112,Ex_ 113 0 110,Ex_ 114 1 110,Pp (.alr 21 5),Fz 21 5 113,Mv 22 114] (Sq (Rs [Mv 115 22,Un 116 115,Mv 117 116,Gf 117 (.fad 118 0 21),Gf 117 (.lde 119 1 false 118),Gf 117 (.bin 120 .neq 119 (kI 3)),Po 121 117 120] (Cn 121 (Rs [Mv 122 0,Ca 123 38 [122,kI 2],Mv 10 123] .ret) .skip)) (Sq (Rs [Fa 124 1 21,Lq 125 124,Bc 126 .lss 125 0,Mv 127 126,Gf 127 (.fad 128 1 21),Gf 127 (.lde 129 1 false 128),Gf 127 (.bin 130 .gtr 129 (kI 5000)),Po 131 127 130] (Cn 131 (Rs [Mv 132 0,Ca 133 38 [132,kI 6],Mv 10 133] .ret) .skip)) (Rs [Mv 134 0,Nk 135 134,Fa 136 1 135,Lo 137 136,Bc 138 .eql 137 0] (Cn 138 (.gh (.opn (.cell 0 0)) (.ghp (.cls (.cell 0 0)) (.reg [Mv 139 0,Nk 140 139,Fa 141 0 140,Fa 142 0 141,Fo [0] [] (.ld 143 1 false false 142),Mv 144 20,Fa 145 1 21,Lq 146 145,Pp (.ixw 147 .atype 143 144),Pp (.fdw 148 7 147),Fo [] [2] (.stw none 1 148 146)] [[],[0],[0,1],[0,1,2],rg 0 3,[],[],[6],rg 0 7,rg 0 8,rg 0 9]))) .skip))))))))))) (Rs [Mv 163 20,Mv 10 163] .ret)))
def jg:IR:=Rs [Mv 85 0,Fa 86 1 14,Lo 87 86,Ca 88 75 [85,87],Mv 84 88,Ex_ 89 0 84,Ex_ 90 1 84,Mv 18 89,Mv 19 90] (Sq (Rs [Mv 91 0,Nk 92 91,Fa 93 1 92,Lo 94 93,Bc 95 .eql 94 0,Mv 96 95,Gt 96 (.mov 97 19),Pa 98 96 97] (Cn 98 (Rg [Mv 99 0,Ca 100 38 [99,kI 5]]) .skip)) (.cut [0,2,3,4,6,14,1000001] 2 nA))
def fh:IR:=Sq (Rs [Mv 39 0,Nk 40 39,Fa 41 1 40,Lo 42 41,Bc 43 .neq 42 0] (Cn 43 (Rs [Mi 10 0] .ret) .skip)) (Rs [Mv 44 2,Mv 45 0,Mv 46 11,Mv 47 3,Ca 48 78 [45,46,47],Pp (.bld 49 [vI 0,vS,nl .str,vI 0,nl .str,.bool false,vS,vI 0,nl .afield,nl (.num .i64)] [(0,1,44),(1,1,48)]),Pp (.new 14 [vI 0,vS,nl .str,vI 0,nl .str,.bool false,vS,vI 0,nl .afield,nl (.num .i64)]),Sv 10 14 49] (Rs [Fa 50 1 14,Lo 51 50,Ca 52 79 [51],Mv 3 52] (Rs [Mv 54 0,Ld 55 5 true 6,Ca 56 80 [54,55,kS [97,108,105,97,115,101,115]],Mv 53 56,Ex_ 57 0 53,Ex_ 58 1 53,Mv 15 57,Mv 16 58] (Sq (Rs [Mi 17 0] (.block 0 (.loop [0,2,3,4,6,14,15,17,1000000] 2 ga))) jg))))
def xh:IR:=Rs [Bx 6 1,Mi 10 0] (Rs [Mv 23 0,Ld 24 5 true 6,Ca 25 77 [23,24,kS [110,97,109,101],kB true],Mv 11 25] (Rs [Ld 27 5 true 6,Ca 28 41 [27,kS [110,97,109,101,115,112,97,99,101]],Mv 26 28,Ex_ 29 0 26,Ex_ 30 1 26,Pp (.alr 12 5),Fz 12 5 29,Mv 13 30] (Sq (Rs [Mv 31 13] (Cn 31 (Sq (Rs [Fa 32 0 12,Lq 33 32,Bc 34 .neq 33 4] (Cn 34 (Rg [Mv 35 0,Ca 36 38 [35,kI 2]]) .skip)) (Rg [Fa 37 2 12,Lq 38 37,Mv 3 38])) .skip)) (.cut [0,2,3,4,6,11,1000002] 1 fh))))
def cI:List RV:=[.t 10]
theorem xj:FnC Tryd.prog bj [38,44,75,77,78,80,81,82,2000038,2000044,2000075,2000077,2000078,2000080,2000081,2000082] 1 qo Tryd.f42 xh cI:=fnC Tryd.func42
abbrev dV:Type:=(Int×Bs×Int×Int×Int×Bs×List ak×Bss×Bs×List am×Int)
def dI:dV→St:=fun(b,c,d,e,f,g,h,i,j,k,a)=>{env:=(.ptr 0 0::.undef::.int .i64 b::.str c::.int .i64 d::.undef::.ea [.int .i64 e,.int .i64 f,.str g,.sl .jnode (.may false) h,.sl .str (.may false) i]::(U 4 (.str j::(U 152 [])))),hp:=[some [.ul .atype k,.int .i64 a]]}
def kp(R:IR→(Ex→St→Ro)→St→Ro)(a:St→Ro):Ex→St→Ro:=(bG a [0,2,3,4,6,14,15,17,1000000] 2 (aJ 0 (kseq (R jg) (fin cI))))
abbrev cu:Type:=(Int×Bs×Int×Int×Int×Bs×List ak×Bss×Bss×Int×List am×Int×Int×Bs×Bss×Int×Bss×Bool×Bs×Int×List bo×List Int)
def bl:cu→St:=fun(m,n,o,p,q,r,s,t,u,v,a,b,c,d,e,f,g,h,i,j,k,l)=>{env:=(.ptr 0 0::.undef::.int .i64 m::.str n::.int .i64 o::.undef::.ea [.int .i64 p,.int .i64 q,.str r,.sl .jnode (.may false) s,.sl .str (.may false) t]::(U 7 (.ptr 1 0::.sl .str (.may false) u::.undef::.int .i64 v::(U 146 [])))),hp:=[some [.ul .atype a,.int .i64 b],some [.int .i64 c,.str d,.sl .str .own e,.int .i64 f,.sl .str .own g,.bool h,.str i,.int .i64 j,.sl .afield .own k,.sl (.num .i64) .own l]]}
abbrev kq:Type:=(Int×Bs×Int×Int×Int×Bs×List ak×Bss×List am×Int×Int×Bs×Bss×Int×Bss×Bool×Bs×Int×List bo×List Int)
def gb:kq→St:=fun(k,l,m,n,o,p,q,r,s,t,a,b,c,d,e,f,g,h,i,j)=>{env:=(.ptr 0 0::.undef::.int .i64 k::.str l::.int .i64 m::.undef::.ea [.int .i64 n,.int .i64 o,.str p,.sl .jnode (.may false) q,.sl .str (.may false) r]::(U 7 (.ptr 1 0::(U 149 [])))),hp:=[some [.ul .atype s,.int .i64 t],some [.int .i64 a,.str b,.sl .str .own c,.int .i64 d,.sl .str .own e,.bool f,.str g,.int .i64 h,.sl .afield .own i,.sl (.num .i64) .own j]]}
def kr(N:Nat):St→Ro:=fun s=>run bj N nA (fin cI) s
def cU(N:Nat):kq→Ro:=fun(v2,v3,v4,b,c,d,e,f,t,g,h,i,j,k,l,m,n,o,p,q)=>
 let u:=fun g0 g1 g2=>(some (.int .i64 g0,[some [.ul .atype g1,.int .i64 g2],some [.int .i64 h,.str i,.sl .str .own j,.int .i64 k,.sl .str .own l,.bool m,.str n,.int .i64 o,.sl .afield .own p,.sl (.num .i64) .own q]]):Ro)
 cond (!(g==0)) (
 u 0 t g) (
 an (cQ t g h i j k l m n o p q) (fun a=>
 cond (v2==9) (
 an (ef a.2.1 a.2.2 b c d e f a.1 v3 v4) (fun z=>
 u a.1 z.1 z.2)) (
 cond (v2==10) (
 an (dP a.2.1 a.2.2 b c d e f a.1) (fun aa=>
 u a.1 aa.1 aa.2)) (
 an (cf b c d e f ([115,105,122,101]:Bs)) (fun r=>
 cond (!r.2.2.2.2.2) (
 an (ap a.2.1 a.2.2 2) (fun v=>
 u v.1 v.2.1 v.2.2)) (
 cond (!(r.1==3)) (
 an (ap a.2.1 a.2.2 2) (fun w=>
 u w.1 w.2.1 w.2.2)) (
 cond (decide (r.2.1<0)) (
 an (ap a.2.1 a.2.2 6) (fun x=>
 u x.1 x.2.1 x.2.2)) (
 cond (decide (5000<r.2.1)) (
 an (ap a.2.1 a.2.2 6) (fun y=>
 u y.1 y.2.1 y.2.2)) (
 cond (a.2.2==0) (
 chk (decide (0<List.length a.2.1)) (
 chk (decide (0≤a.1)&&decide (a.1<↑(List.length a.2.1))) (
 chk (decide ((Int.toNat a.1)<List.length a.2.1)) (
 let x5:=(List.set a.2.1 (Int.toNat a.1) (let s:=List.getD a.2.1 (Int.toNat a.1) (av .atype);⟨s.kind,s.name,s.aliases,s.items,s.syms,s.hasdef,s.df,r.2.1,s.fields,s.branches⟩))
 chk (Nat.beq (List.length a.2.1) (List.length x5)) (
 some (.int .i64 a.1,[some [.ul .atype x5,.int .i64 a.2.2],some [.int .i64 h,.str i,.sl .str .own j,.int .i64 k,.sl .str .own l,.bool m,.str n,.int .i64 o,.sl .afield .own p,.sl (.num .i64) .own q],none,none])))))) (
 u a.1 a.2.1 a.2.2))))))))))
theorem uR(N:Nat):LJ (kr N) gb (cU N):=fun _=>by kernel_rfl
def dW(N:Nat):(St→Ro)→St→Ro:=fun a s=>run bj N ga (kp (run bj N) a) s
def gc(N:Nat)(f:cu→Ro)(q2:kq→Ro):cu→Ro:=fun(v2,z,v4,i,j,k,l,m,g,h,d,b,n,c,e,o,p,q,r,s,t,u)=>
 let x1:=(↑(List.length g):Int)
 let w:=fun g0 g1=>q2 (v2,z,v4,i,j,k,l,m,g0,g1,n,c,e,o,p,q,r,s,t,u)
 cond (decide (h<x1)) (
 cond (b==0) (
 chk (ixl h g) (
 let x2:=List.getD g (Int.toNat h) (av .str)
 an (dy d b x2 z) (fun y=>
 chk (decide ((List.length e+List.length ([y.1]:Bss))*16≤140737488355328)) (
 let x3:=(e++([y.1]:Bss))
 let x4:=(IntKind.wrap .i64 (h+1))
 f (v2,z,v4,i,j,k,l,m,g,x4,y.2.1,y.2.2,n,c,x3,o,p,q,r,s,t,u))))) (
 an (bQ d b c) (fun v=>
 cond (v.2.2.2==0) (
 cond v.2.1 (
 an (ap v.2.2.1 v.2.2.2 5) (fun r9=>
 w r9.2.1 r9.2.2)) (
 w v.2.2.1 v.2.2.2)) (
 w v.2.2.1 v.2.2.2)))) (
 an (bQ d b c) (fun a=>
 cond (a.2.2.2==0) (
 cond a.2.1 (
 an (ap a.2.2.1 a.2.2.2 5) (fun x=>
 w x.2.1 x.2.2)) (
 w a.2.2.1 a.2.2.2)) (
 w a.2.2.1 a.2.2.2)))
def cV(N:Nat)(a:cu→Ro)(x:cu):Ro:=gc N a (fun z=>cU N z) x
def ks(N:Nat)(a:St→Ro):List (Nat×(St→Ro)):=(cC bj N ga (kp (run bj N) a)++(cC bj N jg (fin cI)++[]))
theorem uS(N:Nat):∀(a:St→Ro)(x:cu),dW N a (bl x)=cV N (fun y=>a (bl y)) x:=by
 intro a x
 have hX:∀C:Nat→St→Ro,cp C bj N ga (kp (cp C bj N) a) (bl x)=gc N (fun y=>a (bl y)) (fun z=>C 1000001 (gb z)) x:=by
  intro C
  kernel_rfl
 have h:dW N a (bl x)=gc N (fun y=>a (bl y)) (fun z=>kr N (gb z)) x:=(fJ (C:=iX (ks N a)) (cX (bi (l:=(ks N a)) (by kernel_rfl))) (rv (fI (kL (cX (gt (bi (l:=(ks N a)) (by kernel_rfl)))) rfl))) _).trans ((hX _).trans (by kernel_rfl))
 have e2:(fun z=>kr N (gb z))=(fun z=>cU N z):=funext fun z=>uR N z
 rw[h,e2]
 rfl
def ku(N:Nat):St→Ro:=fun s=>run bj N fh (fin cI) s
def ge(N:Nat)(l:cu→Ro):dV→Ro:=fun(k,m,n,b,c,d,e,f,i,g,a)=>
 cond (!(a==0)) (
 some (.int .i64 0,[some [.ul .atype g,.int .i64 a]])) (
 an (dy g a i m) (fun h=>
 an (kc h.1) (fun(o:Bs)=>
 an (bW h.2.1 h.2.2 b c d e f ([97,108,105,97,115,101,115]:Bs)) (fun j=>
 l (k,o,n,b,c,d,e,f,j.1,0,j.2.2.1,j.2.2.2,k,h.1,([]:Bss),0,([]:Bss),false,([]:Bs),0,([]:List bo),([]:List Int))))))
def gL(N:Nat)(x:dV):Ro:=ge N (fun z=>aP N (cV N) z) x
def pc(N:Nat):List (Nat×(St→Ro)):=(cC bj N fh (fin cI)++[])
theorem uT(N:Nat):∀(x:dV),ku N (dI x)=gL N x:=by
 intro x
 have hX:∀C:Nat→St→Ro,cp C bj N fh (fin cI) (dI x)=ge N (fun z=>C 1000000 (bl z)) x:=by
  intro C
  kernel_rfl
 have h:ku N (dI x)=ge N (fun z=>bd N (dW N) (bl z)) x:=(fJ (C:=iX (pc N)) (cX (bi (l:=(pc N)) (by kernel_rfl))) rfl _).trans ((hX _).trans (by kernel_rfl))
 have e1:(fun z=>bd N (dW N) (bl z))=(fun z=>aP N (cV N) z):=funext fun z=>be (bl) (dW N) (cV N) (uS N) N z
 rw[h,e1]
 rfl
def eI(N:Nat)(g:List am)(h a b:Int)(c:Bs)(d:List ak)(e:Bss)(j:Int)(n:Bs)(k:Int)(l:dV→Ro):Ro:=
 an (cE g h a b c d e ([110,97,109,101]:Bs) true) (fun f=>
 an (cf a b c d e ([110,97,109,101,115,112,97,99,101]:Bs)) (fun i=>
 cond i.2.2.2.2.2 (
 cond (!(i.1==4)) (
 an (ap f.2.1 f.2.2 2) (fun m=>
 l (j,i.2.2.1,k,a,b,c,d,e,f.1,m.2.1,m.2.2))) (
 l (j,i.2.2.1,k,a,b,c,d,e,f.1,f.2.1,f.2.2))) (
 l (j,n,k,a,b,c,d,e,f.1,f.2.1,f.2.2))))
def pW(N:Nat)(a:List am)(b c d:Int)(e:Bs)(f:List ak)(g:Bss)(h:Int)(i:Bs)(j:Int):Ro:=eI N a b c d e f g h i j (fun z=>gL N z)
theorem vE(N:Nat)(a:List am)(c d g:Int)(i:Bs)(j:List ak)(k:Bss)(l:Int)(m:Bs)(n:Int)(h:Tot (pW N a c d g i j k l m n) (fun z=>∃(o:Int)(p:List am)(s:Int)(rest:List aq),z.1.dimR=.int .i64 o∧z.2=some [.ul .atype p,.int .i64 s]::rest∧dA a c d g i j k l m n (o,p,s))):∃r,fq a c d g i j k l m n r:=FnC.finO (css:=[[.ul .atype a,.int .i64 c]]) xj (N:=N) ((cd _ (by kernel_rfl) rfl (fun C=>eI N a c d g i j k l m n (fun z=>C 1000002 (dI z))) (fun C=>by kernel_rfl)).trans (Eq.trans (b:=eI N a c d g i j k l m n (fun z=>ku N (dI z))) (by kernel_rfl) (congrArg (eI N a c d g i j k l m n) (funext fun z=>uT N z)))) h fun _ ⟨o,p,s,_,e,f,q⟩=>⟨(o,p,s),e,⟨_,f⟩,q⟩
noncomputable def aE:az:=tab (P:=Tryd.prog) [] [jr,bP,zS,yG,yI,jW] [] [mU,zT]
def n8:IR:=Rs [Ld 88 5 true 5,Mv 89 12,Ca 90 41 [88,89],Mv 87 90,Ex_ 91 0 87,Ex_ 92 1 87,Pp (.alr 13 5),Fz 13 5 91,Mv 14 92] (Sq (Rs [Mv 93 14,Un 94 93] (Cn 94 (Rs [Mv 95 0,Ca 96 38 [95,kI 2],Mv 8 96] .ret) .skip)) (Rs [Mv 97 0,Ld 98 5 true 13,Mv 99 2,Mv 100 3,Bc 101 .add 100 1,Ca 102 23 [97,98,99,101],Mv 15 102] (Sq (Rs [Mv 103 0,Nk 104 103,Fa 105 1 104,Lo 106 105,Bc 107 .eql 106 0] (Cn 107 (.gh (.opn (.cell 0 0)) (.ghp (.cls (.cell 0 0)) (Rg [Mv 108 0,Nk 109 108,Fa 110 0 109,Fa 111 0 110,Lo 112 111,Mv 113 11,Mv 114 15,Pp (.ixw 115 .atype 112 113),Pp (.fdw 116 3 115),Pp (.stw none 1 116 114)]))) .skip)) (Rs [Mv 117 11,Mv 8 117] .ret))))
def gf:IR:=Cn 75 (Rs [Mv 78 0,Fa 79 2 9,Lq 80 79,Ca 81 43 [80],Pp (.bld 82 [vI 0,vS,fu .str true,vI 0,fu .str true,.bool false,vS,vI 0,fu .afield true,fu (.num .i64) true] [(0,1,81)]),Ca 83 44 [78,82],Mv 11 83] (Rs [Ms 12 [105,116,101,109,115]] (Sq (Rs [Fa 84 2 9,Lq 85 84,Pp (.bin 86 .eql 85 (kS [109,97,112]))] (Cn 86 (Rg [Ms 12 [118,97,108,117,101,115]]) .skip)) (.cut [0,2,3,5,11,12,1000000] 1 n8)))) .skip
def gg:IR:=Cn 63 (Sq (.reg [Mv 67 0,Ld 68 5 true 5,Fa 69 2 9,Lq 70 69,Ca 71 43 [70],Mv 72 2,Mv 73 3,Fo [] [0] (.call 74 42 [67,68,71,72,73]),Mv 8 74] [[],[],[],[2],[2,3],[],[],rg 0 6,rg 0 7]) .ret) (Sq (Rs [Pp (.bin 76 .eql 62 (kS [97,114,114,97,121])),Mv 75 76] (Cn 75 .skip (Rg [Pp (.bin 77 .eql 62 (kS [109,97,112])),Mv 75 77]))) (.cut [0,2,3,5,9,75,1000001] 1 gf))
def n9:IR:=Rs [Mv 118 0,Fa 119 2 9,Lq 120 119,Mv 121 2,Ca 122 39 [118,120,121],Mv 8 122] .ret
def gi:IR:=.cut [0,2,9,1000003] 1 n9
def ck:IR:=Rs [Mv 123 0,Ca 124 38 [123,kI 2],Mv 8 124] .ret
def za:IR:=Rs [Bx 5 1,Mi 8 0] (Sq (Rs [Mv 16 0,Nk 17 16,Fa 18 1 17,Lo 19 18,Bc 20 .neq 19 0] (Cn 20 (Rs [Mi 8 0] .ret) .skip)) (Sq (Rs [Mv 21 3,Bc 22 .gtr 21 20] (Cn 22 (Rs [Mv 23 0,Ca 24 38 [23,kI 3],Mv 8 24] .ret) .skip)) (Sq (Rs [Fa 25 0 5,Lq 26 25] (.block 0 (Rs [Bc 28 .eql 26 4,Mv 27 28] (Cn 27 (Rs [Mv 29 0,Fa 30 2 5,Lq 31 30,Mv 32 2,Ca 33 39 [29,31,32],Mv 8 33] .ret) (Rs [Bc 35 .eql 26 5,Mv 34 35] (Cn 34 (Rs [Mv 36 0,Ld 37 5 true 5,Mv 38 2,Mv 39 3,Ca 40 40 [36,37,38,39],Mv 8 40] .ret) (Rs [Bc 42 .eql 26 6,Mv 41 42] (Cn 41 (Rs [Ld 44 5 true 5,Ca 45 41 [44,kS [116,121,112,101]],Mv 43 45,Ex_ 46 0 43,Ex_ 47 1 43,Pp (.alr 9 5),Fz 9 5 46,Mv 10 47] (Sq (Rs [Mv 48 10,Un 49 48] (Cn 49 (Rs [Mv 50 0,Ca 51 38 [50,kI 2],Mv 8 51] .ret) .skip)) (Sq (Rs [Fa 52 0 9,Lq 53 52,Bc 54 .neq 53 4] (Cn 54 (Rs [Mv 55 0,Ld 56 5 true 9,Mv 57 2,Mv 58 3,Bc 59 .add 58 1,Ca 60 23 [55,56,57,59],Mv 8 60] .ret) .skip)) (Sq (Rs [Fa 61 2 9,Lq 62 61] (.block 1 (Sq (Rs [Pp (.bin 64 .eql 62 (kS [114,101,99,111,114,100])),Mv 63 64] (Cn 63 .skip (Rs [Pp (.bin 65 .eql 62 (kS [101,110,117,109])),Mv 63 65] (Cn 63 .skip (Rg [Pp (.bin 66 .eql 62 (kS [102,105,120,101,100])),Mv 63 66]))))) (.cut [0,2,3,5,9,62,63,1000002] 1 gg)))) gi)))) .skip)))))))) ck)))
def cS:List RV:=[.t 8]
theorem zb:FnC Tryd.prog aE [23,38,39,40,42,44,2000023,2000038,2000039,2000040,2000042,2000044] 1 rB Tryd.f23 za cS:=fnC Tryd.func23
abbrev eK:Type:=(Bs×Int×Int×Int×Bs×List ak×Bss×Int×Int×Bs×List ak×Bss×Bs×Bool×List am×Int)
def dX:eK→St:=fun(g,h,i,j,k,l,m,n,o,p,a,b,c,d,e,f)=>{env:=(.ptr 0 0::.undef::.str g::.int .i64 h::.undef::.ea [.int .i64 i,.int .i64 j,.str k,.sl .jnode (.may false) l,.sl .str (.may false) m]::(U 3 (.ea [.int .i64 n,.int .i64 o,.str p,.sl .jnode (.may false) a,.sl .str (.may false) b]::(U 52 (.str c::.bool d::(U 61 [])))))),hp:=[some [.ul .atype e,.int .i64 f]]}
def cJ(R:IR→(Ex→St→Ro)→St→Ro):Ex→St→Ro:=(aJ 1 (kseq (R gi) (aJ 0 (kseq (R ck) (fin cS)))))
abbrev eL:Type:=(Bs×Int×Int×Int×Bs×List ak×Bss×Int×Int×Bs×List ak×Bss×Bool×List am×Int)
def cW:eL→St:=fun(f,g,h,i,j,k,l,m,n,o,a,b,c,d,e)=>{env:=(.ptr 0 0::.undef::.str f::.int .i64 g::.undef::.ea [.int .i64 h,.int .i64 i,.str j,.sl .jnode (.may false) k,.sl .str (.may false) l]::(U 3 (.ea [.int .i64 m,.int .i64 n,.str o,.sl .jnode (.may false) a,.sl .str (.may false) b]::(U 65 (.bool c::(U 49 [])))))),hp:=[some [.ul .atype d,.int .i64 e]]}
abbrev kT:Type:=(Bs×Int×Int×Int×Bs×List ak×Bss×Int×Bs×List am×Int)
def gM:kT→St:=fun(b,c,d,e,f,g,h,i,j,k,a)=>{env:=(.ptr 0 0::.undef::.str b::.int .i64 c::.undef::.ea [.int .i64 d,.int .i64 e,.str f,.sl .jnode (.may false) g,.sl .str (.may false) h]::(U 5 (.int .i64 i::.str j::(U 112 [])))),hp:=[some [.ul .atype k,.int .i64 a]]}
def kV(N:Nat):St→Ro:=fun s=>run aE N n8 (cJ (run aE N)) s
def eM(N:Nat):kT→Ro:=fun(o,p,h,i,j,k,l,b,m,e,f)=>
 an (cf h i j k l m) (fun c=>
 cond (!c.2.2.2.2.2) (
 an (ap e f 2) (fun g=>
 some (.int .i64 g.1,[some [.ul .atype g.2.1,.int .i64 g.2.2]]))) (
 let q:=(IntKind.wrap .i64 (p+1))
 an (bA e f c.1 c.2.1 c.2.2.1 c.2.2.2.1 c.2.2.2.2.1 o q) (fun a=>
 cond (a.2.2==0) (
 chk (decide (0<List.length a.2.1)) (
 chk (decide (0≤b)&&decide (b<↑(List.length a.2.1))) (
 chk (decide ((Int.toNat b)<List.length a.2.1)) (
 let n:=(List.set a.2.1 (Int.toNat b) (let d:=List.getD a.2.1 (Int.toNat b) (av .atype);⟨d.kind,d.name,d.aliases,a.1,d.syms,d.hasdef,d.df,d.size,d.fields,d.branches⟩))
 chk (Nat.beq (List.length a.2.1) (List.length n)) (
 some (.int .i64 b,[some [.ul .atype n,.int .i64 a.2.2],none,none])))))) (
 some (.int .i64 b,[some [.ul .atype a.2.1,.int .i64 a.2.2]])))))
theorem vF(N:Nat):LJ (kV N) gM (eM N):=fun _=>by kernel_rfl
abbrev kW:Type:=(Bs×Int×Int×Bs×List ak×Bss×List am×Int)
def gP:kW→St:=fun(a,b,c,d,e,f,g,h)=>{env:=(.ptr 0 0::.undef::.str a::(U 6 (.ea [.int .i64 b,.int .i64 c,.str d,.sl .jnode (.may false) e,.sl .str (.may false) f]::(U 115 [])))),hp:=[some [.ul .atype g,.int .i64 h]]}
def xk(R:IR→(Ex→St→Ro)→St→Ro):Ex→St→Ro:=(aJ 0 (kseq (R ck) (fin cS)))
def kX(N:Nat):St→Ro:=fun s=>run aE N n9 (xk (run aE N)) s
def eN(N:Nat):kW→Ro:=fun(e,_,_,b,_,_,c,d)=>
 an (dO c d b e) (fun a=>
 some (.int .i64 a.1,[some [.ul .atype a.2.1,.int .i64 a.2.2]]))
theorem vG(N:Nat):LJ (kX N) gP (eN N):=fun _=>by kernel_rfl
def im(N:Nat):St→Ro:=fun s=>run aE N gf (cJ (run aE N)) s
def gQ(N:Nat)(p:kT→Ro)(r:kW→Ro):eL→Ro:=fun(n,q,c,d,e,f,g,j,k,b,l,m,o,h,i)=>
 cond o (
 an (iL b) (fun(s:Int)=>
 an (cQ h i s ([]:Bs) ([]:Bss) 0 ([]:Bss) false ([]:Bs) 0 ([]:List bo) ([]:List Int)) (fun a=>
 let t:=decide (b=([109,97,112]:Bs))
 cond t (
 p (n,q,c,d,e,f,g,a.1,([118,97,108,117,101,115]:Bs),a.2.1,a.2.2)) (
 p (n,q,c,d,e,f,g,a.1,([105,116,101,109,115]:Bs),a.2.1,a.2.2))))) (
 r (n,j,k,b,l,m,h,i))
def eO(N:Nat)(x:eL):Ro:=gQ N (fun z=>eM N z) (fun z=>eN N z) x
def ip(N:Nat):List (Nat×(St→Ro)):=(cC aE N gf (cJ (run aE N))++(cC aE N gi (aJ 0 (kseq (run aE N ck) (fin cS)))++(cC aE N ck (fin cS)++[])))
theorem vH(N:Nat):∀(x:eL),im N (cW x)=eO N x:=by
 intro x
 have hX:∀C:Nat→St→Ro,cp C aE N gf (cJ (cp C aE N)) (cW x)=gQ N (fun z=>C 1000000 (gM z)) (fun z=>C 1000003 (gP z)) x:=by
  intro C
  kernel_rfl
 have h:im N (cW x)=gQ N (fun z=>kV N (gM z)) (fun z=>kX N (gP z)) x:=(fJ (C:=iX (ip N)) (cX (bi (l:=(ip N)) (by kernel_rfl))) (fI (kL (cX (gt (bi (l:=(ip N)) (by kernel_rfl)))) (fI (kL (cX (gt (gt (bi (l:=(ip N)) (by kernel_rfl))))) rfl)))) _).trans ((hX _).trans (by kernel_rfl))
 have e2:(fun z=>kV N (gM z))=(fun z=>eM N z):=funext fun z=>vF N z
 have e3:(fun z=>kX N (gP z))=(fun z=>eN N z):=funext fun z=>vG N z
 rw[h,e2,e3]
 rfl
def kY(N:Nat):St→Ro:=fun s=>run aE N gg (cJ (run aE N)) s
def gR(N:Nat)(s:eL→Ro):eK→Ro:=fun(p,q,a,b,c,d,e,i,j,f,k,l,m,n,g,h)=>
 let r:=fun t=>s (p,q,a,b,c,d,e,i,j,f,k,l,t,g,h)
 cond n (
 an (iL f) (fun(u:Int)=>
 an (fq g h a b c d e u p q) (fun o=>
 some (.int .i64 o.1,[some [.ul .atype o.2.1,.int .i64 o.2.2]])))) (
 let v:=decide (m=([97,114,114,97,121]:Bs))
 cond v (
 r true) (
 let w:=decide (m=([109,97,112]:Bs))
 r w))
def iq(N:Nat)(x:eK):Ro:=gR N (fun z=>eO N z) x
def iu(N:Nat):List (Nat×(St→Ro)):=(cC aE N gg (cJ (run aE N))++(cC aE N gi (aJ 0 (kseq (run aE N ck) (fin cS)))++(cC aE N ck (fin cS)++[])))
theorem vJ(N:Nat):∀(x:eK),kY N (dX x)=iq N x:=by
 intro x
 have hX:∀C:Nat→St→Ro,cp C aE N gg (cJ (cp C aE N)) (dX x)=gR N (fun z=>C 1000001 (cW z)) x:=by
  intro C
  kernel_rfl
 have h:kY N (dX x)=gR N (fun z=>im N (cW z)) x:=(fJ (C:=iX (iu N)) (cX (bi (l:=(iu N)) (by kernel_rfl))) (fI (kL (cX (gt (bi (l:=(iu N)) (by kernel_rfl)))) (fI (kL (cX (gt (gt (bi (l:=(iu N)) (by kernel_rfl))))) rfl)))) _).trans ((hX _).trans (by kernel_rfl))
 have e1:(fun z=>im N (cW z))=(fun z=>eO N z):=funext fun z=>vH N z
 rw[h,e1]
 rfl
def fA(N:Nat)(b:List am)(a d f:Int)(e:Bs)(g:List ak)(h:Bss)(j:Bs)(k:Int)(s:eK→Ro):Ro:=
 let l:=fun t u r v w x=>s (j,k,d,f,e,g,h,t,u,r,v,w,r,x,b,a)
 cond (!(a==0)) (
 some (.int .i64 0,[some [.ul .atype b,.int .i64 a]])) (
 cond (decide (20<k)) (
 an (ap b a 3) (fun m=>
 some (.int .i64 m.1,[some [.ul .atype m.2.1,.int .i64 m.2.2]]))) (
 cond (d==4) (
 an (dO b a e j) (fun n=>
 some (.int .i64 n.1,[some [.ul .atype n.2.1,.int .i64 n.2.2]]))) (
 cond (d==5) (
 an (fp b a d f e g h j k) (fun o=>
 some (.int .i64 o.1,[some [.ul .atype o.2.1,.int .i64 o.2.2]]))) (
 cond (d==6) (
 an (cf d f e g h ([116,121,112,101]:Bs)) (fun c=>
 cond (!c.2.2.2.2.2) (
 an (ap b a 2) (fun p=>
 some (.int .i64 p.1,[some [.ul .atype p.2.1,.int .i64 p.2.2]]))) (
 cond (!(c.1==4)) (
 let y:=(IntKind.wrap .i64 (k+1))
 an (bA b a c.1 c.2.1 c.2.2.1 c.2.2.2.1 c.2.2.2.2.1 j y) (fun q=>
 some (.int .i64 q.1,[some [.ul .atype q.2.1,.int .i64 q.2.2]]))) (
 let z:=decide (c.2.2.1=([114,101,99,111,114,100]:Bs))
 cond z (
 l c.1 c.2.1 c.2.2.1 c.2.2.2.1 c.2.2.2.2.1 true) (
 let x8:=decide (c.2.2.1=([101,110,117,109]:Bs))
 cond x8 (
 l c.1 c.2.1 c.2.2.1 c.2.2.2.1 c.2.2.2.2.1 true) (
 let x9:=decide (c.2.2.1=([102,105,120,101,100]:Bs))
 l c.1 c.2.1 c.2.2.1 c.2.2.2.1 c.2.2.2.2.1 x9)))))) (
 an (ap b a 2) (fun i=>
 some (.int .i64 i.1,[some [.ul .atype i.2.1,.int .i64 i.2.2]])))))))
def qG(N:Nat)(a:List am)(b c d:Int)(e:Bs)(f:List ak)(g:Bss)(h:Bs)(i:Int):Ro:=fA N a b c d e f g h i (fun z=>iq N z)
theorem xl(N:Nat)(a:List am)(c d g:Int)(i:Bs)(j:List ak)(k:Bss)(l:Bs)(m:Int)(h:Tot (qG N a c d g i j k l m) (fun z=>∃(n:Int)(o:List am)(p:Int)(rest:List aq),z.1.dimR=.int .i64 n∧z.2=some [.ul .atype o,.int .i64 p]::rest∧cT a c d g i j k l m (n,o,p))):∃r,bA a c d g i j k l m r:=FnC.finO (css:=[[.ul .atype a,.int .i64 c]]) zb (N:=N) ((cd _ (by kernel_rfl) rfl (fun C=>fA N a c d g i j k l m (fun z=>C 1000002 (dX z))) (fun C=>by kernel_rfl)).trans (Eq.trans (b:=fA N a c d g i j k l m (fun z=>kY N (dX z))) (by kernel_rfl) (congrArg (fA N a c d g i j k l m) (funext fun z=>vJ N z)))) h fun _ ⟨n,o,p,_,e,f,q⟩=>⟨(n,o,p),e,⟨_,f⟩,q⟩
noncomputable def agP:az:=tab (P:=Tryd.prog) [] [jr] [] []
def ae7:IR:=Rs [Bx 1 0,Pp (.new 2 [nl .atype]),Mi 3 0] (Rs [Pp (.bld 5 [.ul .atype ([]:List am),vI 0] []),Pp (.box 6 5),Mv 4 6] (Rs [Mv 7 4,Ld 8 5 true 1,Ca 9 23 [7,8,kS [],kI 1]] (Sq (Rs [Mv 10 4,Nk 11 10,Fa 12 1 11,Lo 13 12,Bc 14 .neq 13 0] (Cn 14 (Sq (.reg [Pp (.bld 15 [nl .atype] []),Mv 16 4,Nk 17 16,Fa 18 1 17,Fo [1] [] (.ld 19 1 false false 18),Fo [] [0] (.st none 1 2 15),Mv 3 19] [[],[],[1],[1,2],[1,2,3],[0],rg 0 5]) .ret) .skip)) (Sq (.gh (.fz (.cell 1 0)) (Rg [Mv 20 4,Nk 21 20,Fa 22 0 21,Pp (.ld 23 1 true false 22),Sv 1 2 23,Mi 3 0])) .ret))))
def ae8:List RV:=[.cell 2 1 true,.t 3]
theorem ae9:FnC Tryd.prog agP [23,2000023] 0 zK Tryd.f10 ae7 ae8:=fnC Tryd.func10
def xW(N:Nat)(b c:Int)(d:Bs)(e:List ak)(f:Bss):Ro:=
 let g:=fun h i j k l=>(some (.tup [.agg [.sl .atype (.may false) h],.int .i64 i],[some [j],some [k,.int .i64 l]]):Ro)
 an (bA ([]:List am) 0 b c d e f ([]:Bs) 1) (fun a=>
 cond (!(a.2.2==0)) (
 g ([]:List am) a.2.2 (.sl .atype .own ([]:List am)) (.ul .atype a.2.1) a.2.2) (
 g a.2.1 0 (.sl .atype (.may false) a.2.1) (.sl .atype .own a.2.1) a.2.2))
def xX(N:Nat)(a b:Int)(c:Bs)(d:List ak)(e:Bss):Ro:=xW N a b c d e
theorem adM(N:Nat)(a b:Int)(c:Bs)(d:List ak)(f:Bss)(h:Tot (xX N a b c d f) (fun z=>∃(g:List am)(i:Int)(rest:List aq),z.1.dimR=.tup [.agg [.sl .atype (.may false) g],.int .i64 i]∧z.2=rest∧ub a b c d f (g,i))):∃r,mv a b c d f r:=ae9.finP (N:=N) (by kernel_rfl) h fun _ ⟨g,i,_,e,_,q⟩=>⟨(g,i),e,q⟩
end Go.Proofs.YtkinflmjagfapaaDoor
end
noncomputable section
namespace Go.Proofs.YtkinflmjagfapaaDoor
open Go.AM
set_option autoImplicit false
set_option linter.unusedVariables false
set_option maxRecDepth 100000
noncomputable def acg:az:=tab (P:=Tryd.prog) [] [] [] []
def abg:IR:=Rs [Mi 4 0] (Sq (Sq (.reg [Mv 5 0,Nk 6 5,Fa 7 1 6,Fo [0] [] (.ld 8 1 false false 7),Mv 9 0,Nk 10 9,Fa 11 0 10,Fo [0] [] (.ld 12 1 false false 11),Ll 13 12,Bi 14 .geq 8 13] [[],[0],[0,1],[0,1,2],[],[4],[4,5],[4,5,6],rg 4 7,rg 0 8]) (Cn 14 (Rs [Mi 4 0] .ret) .skip)) (Rs [Mv 15 0,Nk 16 15,Fa 17 1 16,Lo 18 17,Bc 19 .add 18 1,Nk 20 15,Fa 21 1 20,Sv 1 21 19] (Sq (.reg [Mv 22 0,Nk 23 22,Fa 24 0 23,Fo [0] [] (.ld 25 1 false false 24),Mv 26 0,Nk 27 26,Fa 28 1 27,Fo [0] [] (.ld 29 1 false false 28),Bc 30 .sub 29 1,Ix 31 .u8 25 30,Lq 32 31,Pp (.cvi 33 .i64 32),Mv 34 1,Bi 35 .rem 33 34,Mv 4 35] [[],[0],[0,1],[0,1,2],[],[4],[4,5],[4,5,6],rg 4 7,rg 0 8,rg 0 9,rg 0 10,[],rg 0 12,rg 0 13]) .ret)))
def abh:List RV:=[.t 4]
theorem abi:FnC Tryd.prog acg [] 1 s5 Tryd.f45 abg abh:=fnC Tryd.func45
def ss(N:Nat)(a:Bs)(b c:Int):Ro:=
 let g:=(↑(List.length a):Int)
 let d:=fun h i=>(some (.int .i64 h,[some [.sl .u8 (.may false) a,.int .i64 i]]):Ro)
 cond (decide (g≤b)) (
 d 0 b) (
 let e:=(IntKind.wrap .i64 (b+1))
 let f:=(IntKind.wrap .i64 (e-1))
 chk (ixl f a) (
 let j:=(List.getD a (Int.toNat f) (av .u8)).toNat
 chk (!(c==0)) (
 let k:=(Int.tmod (IntKind.wrap .i64 j) c)
 d k e)))
def su(N:Nat)(a:Bs)(b c:Int):Ro:=ss N a b c
theorem aap(N:Nat)(a:Bs)(b i:Int)(h:Tot (su N a b i) (fun z=>∃(c:Int)(d:Bs)(g:Int)(rest:List aq),z.1.dimR=.int .i64 c∧z.2=some [.sl .u8 (.may false) d,.int .i64 g]::rest∧ql a b i (c,d,g))):∃r,aO a b i r:=FnC.finO (css:=[[.sl .u8 (.may false) a,.int .i64 b]]) abi (N:=N) (by kernel_rfl) h fun _ ⟨c,d,g,_,e,f,q⟩=>⟨(c,d,g),e,⟨_,f⟩,q⟩
noncomputable def abj:az:=tab (P:=Tryd.prog) [] [] [] []
def aaq:IR:=Rs [Mb 2 false] (Sq (.reg [Mv 3 0,Nk 4 3,Fa 5 1 4,Fo [0] [] (.ld 6 1 false false 5),Mv 7 0,Nk 8 7,Fa 9 0 8,Fo [0] [] (.ld 10 1 false false 9),Ll 11 10,Bi 12 .geq 6 11,Mv 2 12] [[],[0],[0,1],[0,1,2],[],[4],[4,5],[4,5,6],rg 4 7,rg 0 8,rg 0 9]) .ret)
def aar:List RV:=[.t 2]
theorem aas:FnC Tryd.prog abj [] 1 sc Tryd.f83 aaq aar:=fnC Tryd.func83
def rH(N:Nat)(a:Bs)(b:Int):Ro:=
 let c:=(↑(List.length a):Int)
 some (.bool (decide (c≤b)),[some [.sl .u8 (.may false) a,.int .i64 b]])
def rI(N:Nat)(a:Bs)(b:Int):Ro:=rH N a b
theorem zc(N:Nat)(a:Bs)(b:Int)(h:Tot (rI N a b) (fun z=>∃(c:Bool)(d:Bs)(g:Int)(rest:List aq),z.1.dimR=.bool c∧z.2=some [.sl .u8 (.may false) d,.int .i64 g]::rest∧pB a b (c,d,g))):∃r,hF a b r:=FnC.finO (css:=[[.sl .u8 (.may false) a,.int .i64 b]]) aas (N:=N) (by kernel_rfl) h fun _ ⟨c,d,g,_,e,f,q⟩=>⟨(c,d,g),e,⟨_,f⟩,q⟩
noncomputable def abH:az:=tab (P:=Tryd.prog) [] [] [] []
def aat:IR:=Rs [Pp (.mov 2 (.c .nilp))] (Rs [Mv 3 0,Pp (.bld 4 [fu .u8 true,vI 0] [(0,1,3)]),Pp (.box 5 4),Mv 2 5] .ret)
def aau:List RV:=[.t 2]
theorem agQ:FnC Tryd.prog abH [] 0 aby Tryd.f12 aat aau:=fnC Tryd.func12
def aav(N:Nat)(a:Bs):Ro:=
 some (.ptr 0 0,[some [.sl .u8 (.may false) a,.int .i64 0]])
def tc(N:Nat)(a:Bs):Ro:=aav N a
theorem afa(N:Nat)(a:Bs):callF abH N 6 aau aat [.sl .u8 (.may false) a] []=tc N a:=by kernel_rfl
theorem afb(N:Nat)(a:Bs)(h:Tot (tc N a) (fun z=>∃(b:Bs)(c:Int)(rest:List aq),z=(.ptr 0 0,[some [.sl .u8 (.may false) b,.int .i64 c]])∧ve a (b,c))):∃r,nQ a r:=by
 obtain⟨z,hz,b,c,rest,rfl,hq⟩:=h
 exact⟨(b,c),agQ.newFn (afa N a) hz,hq⟩
noncomputable def ahV:az:=tab (P:=Tryd.prog) [] [] [] []
def agR:IR:=Rs [Pp (.new 2 [vI 0,vI 0,vS,nl .jnode,nl .str])] (Rs [Mv 3 0,Pp (.bld 4 [vI 0,vI 0,vS,nl .jnode,nl .str] [(0,1,kI 4),(2,1,3)]),Sv 5 2 4] .ret)
def agS:List RV:=[.cell 2 5 true]
theorem agT:FnC Tryd.prog ahV [] 0 abz Tryd.f48 agR agS:=fnC Tryd.func48
def aaw(N:Nat)(a:Bs):Ro:=
 some (.agg [.int .i64 4,.int .i64 0,.str a,.sl .jnode (.may false) ([]:List ak),.sl .str (.may false) ([]:Bss)],[some [.int .i64 4,.int .i64 0,.str a,.sl .jnode .own ([]:List ak),.sl .str .own ([]:Bss)]])
def aax(N:Nat)(a:Bs):Ro:=aaw N a
theorem afc(N:Nat)(g:Bs)(h:Tot (aax N g) (fun z=>∃(a:Int)(b:Int)(c:Bs)(d:List ak)(f:Bss)(rest:List aq),z.1.dimR=.agg [.int .i64 a,.int .i64 b,.str c,.sl .jnode (.may false) d,.sl .str (.may false) f]∧z.2=rest∧vf g (a,b,c,d,f))):∃r,aR g r:=agT.finP (N:=N) (by kernel_rfl) h fun _ ⟨a,b,c,d,f,_,e,_,q⟩=>⟨(a,b,c,d,f),e,q⟩
noncomputable def aay:az:=tab (P:=Tryd.prog) [] [] [] []
def xY:IR:=Rs [Pp (.new 4 [vI 0,vI 0,vS,nl .jnode,nl .str])] (Rs [Mv 5 0,Mv 6 1,Pp (.bld 7 [vI 0,vI 0,vS,nl .jnode,nl .str] [(0,1,kI 6),(4,1,5),(3,1,6)]),Sv 5 4 7] .ret)
def xZ:List RV:=[.cell 4 5 true]
theorem afd:FnC Tryd.prog aay [] 0 zJ Tryd.f47 xY xZ:=fnC Tryd.func47
def ya(N:Nat)(a:Bool)(c:Bss)(b:Bool)(d:List ak):Ro:=
 some (.agg [.int .i64 6,.int .i64 0,.str ([]:Bs),.sl .jnode (.may b) d,.sl .str (.may a) c],[some [.int .i64 6,.int .i64 0,.str ([]:Bs),.sl .jnode (.may b) d,.sl .str (.may a) c]])
def rT(N:Nat)(a:Bool)(c:Bss)(b:Bool)(d:List ak):Ro:=ya N a c b d
theorem adN(N:Nat)(a:Bool)(c:Bss)(b:Bool)(d:List ak):callF aay N 8 xZ xY [.sl .str (.may a) c,.sl .jnode (.may b) d] []=rT N a c b d:=by kernel_rfl
theorem adO(N:Nat)(a:Bool)(c:Bss)(b:Bool)(d:List ak)(h:Tot (rT N a c b d) (fun z=>∃(e:Int)(f:Int)(g:Bs)(i:Bool)(j:List ak)(k:Bool)(l:Bss)(rest:List aq),z.1=.agg [.int .i64 e,.int .i64 f,.str g,.sl .jnode (.may i) j,.sl .str (.may k) l]∧z.2=rest∧t7 a c b d (e,f,g,i,j,k,l))):∃r,c6 a c b d r:=by
 obtain⟨⟨v,hp⟩,hz,e,f,g,i,j,k,l,rest,e1,e2,hq⟩:=h
 simp only at e1 e2
 subst e2
 subst e1
 exact⟨(e,f,g,i,j,k,l),afd.pure (adN N a c b d) hz,hq⟩
noncomputable def xm:az:=tab (P:=Tryd.prog) [] [] [] []
def yb:IR:=Sq (Rs [Mv 7 6,Fa 8 4 2,Lq 9 8,Ll 10 9,Bi 11 .lss 7 10] (Cn 11 .skip (.exit 0))) (Sq (.block 1 (Rs [Fa 14 4 2,Lq 15 14,Mv 16 6,Ix 17 .str 15 16,Lq 18 17,Mv 19 1,Bi 20 .eql 18 19] (Cn 20 (Rs [Fa 21 3 2,Lq 22 21,Mv 23 6,Ix 24 .jnode 22 23,Ld 25 5 true 24,Sv 5 4 25,Mb 5 true] .ret) .skip))) (Rg [Mv 12 6,Bc 13 .add 12 1,Mv 6 13]))
def yc:IR:=Rs [Pp (.bld 26 [vI 0,vI 0,vS,nl .jnode,nl .str] []),Sv 5 4 26,Mb 5 false] .ret
def ahW:IR:=Rs [Bx 2 0,Pp (.new 4 [vI 0,vI 0,vS,nl .jnode,nl .str]),Mb 5 false] (Sq (Rs [Mi 6 0] (.block 0 (.loop [1,2,4,6,1000000] 1 yb))) yc)
def abI:List RV:=[.cell 4 5 true,.t 5]
theorem ahX:FnC Tryd.prog xm [] 0 acN Tryd.f85 ahW abI:=fnC Tryd.func85
def agU(R:IR→(Ex→St→Ro)→St→Ro)(a:St→Ro):Ex→St→Ro:=(bG a [1,2,4,6,1000000] 1 (aJ 0 (kseq (R yc) (fin abI))))
abbrev pX:Type:=(Bs×Int×Int×Bs×List ak×Bss×Int×Int×Int×Bs×List ak×Bss)
def ot:pX→St:=fun(c,d,e,f,g,h,i,j,k,l,a,b)=>{env:=(.undef::.str c::.ea [.int .i64 d,.int .i64 e,.str f,.sl .jnode (.may false) g,.sl .str (.may false) h]::.undef::.ptr 0 0::.undef::.int .i64 i::(U 20 [])),hp:=[some [.int .i64 j,.int .i64 k,.str l,.sl .jnode .own a,.sl .str .own b]]}
def td(N:Nat):(St→Ro)→St→Ro:=fun a s=>run xm N yb (agU (run xm N) a) s
def pY(N:Nat)(c:pX→Ro):pX→Ro:=fun(p,f,g,h,b,a,e,i,j,k,m,o)=>
 let v:=(↑(List.length a):Int)
 let q:=fun r t u w x y z g7=>(some (.tup [.agg [.int .i64 r,.int .i64 t,.str u,.sl .jnode (.may false) w,.sl .str (.may false) x],.bool y],[some [.int .i64 r,.int .i64 t,.str u,z,g7]]):Ro)
 cond (decide (e<v)) (
 chk (ixl e a) (
 let x2:=List.getD a (Int.toNat e) (av .str)
 cond (decide (x2=p)) (
 chk (ixl e b) (
 let d:=(List.getD b (Int.toNat e) (av .jnode))
 q d.kind d.n d.s d.l d.names true (.sl .jnode (.may false) d.l) (.sl .str (.may false) d.names))) (
 let x4:=(IntKind.wrap .i64 (e+1))
 c (p,f,g,h,b,a,x4,i,j,k,m,o)))) (
 q 0 0 ([]:Bs) ([]:List ak) ([]:Bss) false (.sl .jnode .own ([]:List ak)) (.sl .str .own ([]:Bss)))
theorem afe(N:Nat):LB (td N) ot (pY N):=fun _ _=>by kernel_rfl
def oa(N:Nat)(a b:Int)(c:Bs)(d:List ak)(e:Bss)(f:Bs)(g:pX→Ro):Ro:=
 g (f,a,b,c,d,e,0,0,0,([]:Bs),([]:List ak),([]:Bss))
def abJ(N:Nat)(a b:Int)(c:Bs)(d:List ak)(e:Bss)(f:Bs):Ro:=oa N a b c d e f (fun z=>aP N (pY N) z)
theorem agV(N:Nat)(a c:Int)(d:Bs)(f:List ak)(g:Bss)(i:Bs)(h:Tot (abJ N a c d f g i) (fun z=>∃(j:Int)(k:Int)(l:Bs)(m:List ak)(n:Bss)(o:Bool)(rest:List aq),z.1.dimR=.tup [.agg [.int .i64 j,.int .i64 k,.str l,.sl .jnode (.may false) m,.sl .str (.may false) n],.bool o]∧z.2=rest∧oq a c d f g i (j,k,l,m,n,o))):∃r,mV a c d f g i r:=ahX.finP (N:=N) ((cd _ (by kernel_rfl) rfl (fun C=>oa N a c d f g i (fun z=>C 1000000 (ot z))) (fun C=>by kernel_rfl)).trans (Eq.trans (b:=oa N a c d f g i (fun z=>bd N (td N) (ot z))) (by kernel_rfl) (congrArg (oa N a c d f g i) (funext fun z=>be (ot) (td N) (pY N) (afe N) N z)))) h fun _ ⟨j,k,l,m,n,o,_,e,_,q⟩=>⟨(j,k,l,m,n,o),e,q⟩
noncomputable def te:az:=tab (P:=Tryd.prog) [] [] [] []
def uj:IR:=Sq (Rs [Mv 6 4,Mv 7 3,Ll 8 7,Bi 9 .lss 6 8] (Cn 9 .skip (.exit 0))) (Sq (.block 1 (Rs [Mv 12 3,Mv 13 4,Ix 14 .str 12 13,Lq 15 14,Mv 16 0,Bi 17 .eql 15 16] (Cn 17 (Rs [Mv 18 4,Bc 19 .add 18 1,Mv 2 19] .ret) .skip))) (Rg [Mv 10 4,Bc 11 .add 10 1,Mv 4 11]))
def uk:IR:=Rs [Mi 2 0] .ret
def aff:IR:=Rs [Mi 2 0] (Rs [Pp (.bsl 5 .str [kS [110,117,108,108],kS [98,111,111,108,101,97,110],kS [105,110,116],kS [108,111,110,103],kS [102,108,111,97,116],kS [100,111,117,98,108,101],kS [98,121,116,101,115],kS [115,116,114,105,110,103],kS [114,101,99,111,114,100],kS [101,110,117,109],kS [102,105,120,101,100],kS [97,114,114,97,121],kS [109,97,112],kS [117,110,105,111,110]] true),Mv 3 5] (Sq (Rs [Mi 4 0] (.block 0 (.loop [0,3,4,1000000] 0 uj))) uk))
def yd:List RV:=[.t 2]
theorem afg:FnC Tryd.prog te [] 0 zM Tryd.f43 aff yd:=fnC Tryd.func43
def adP(R:IR→(Ex→St→Ro)→St→Ro)(a:St→Ro):Ex→St→Ro:=(bG a [0,3,4,1000000] 0 (aJ 0 (kseq (R uk) (fin yd))))
abbrev na:Type:=(Bs×Bool×Bss×Int)
def lU:na→St:=fun(a,b,c,d)=>{env:=(.str a::.undef::.undef::.sl .str (.may b) c::.int .i64 d::(U 15 [])),hp:=[]}
def qX(N:Nat):(St→Ro)→St→Ro:=fun a s=>run te N uj (adP (run te N) a) s
def nc(N:Nat)(a:na→Ro):na→Ro:=fun(e,b,d,c)=>
 let f:=(↑(List.length d):Int)
 cond (decide (c<f)) (
 chk (ixl c d) (
 let g:=List.getD d (Int.toNat c) (av .str)
 cond (decide (g=e)) (
 let h:=(IntKind.wrap .i64 (c+1))
 some (.int .i64 h,[])) (
 let i:=(IntKind.wrap .i64 (c+1))
 a (e,b,d,i)))) (
 some (.int .i64 0,[]))
theorem ac0(N:Nat):LB (qX N) lU (nc N):=fun _ _=>by kernel_rfl
def lm(N:Nat)(a:Bs)(b:na→Ro):Ro:=
 b (a,true,([([110,117,108,108]:Bs),([98,111,111,108,101,97,110]:Bs),([105,110,116]:Bs),([108,111,110,103]:Bs),([102,108,111,97,116]:Bs),([100,111,117,98,108,101]:Bs),([98,121,116,101,115]:Bs),([115,116,114,105,110,103]:Bs),([114,101,99,111,114,100]:Bs),([101,110,117,109]:Bs),([102,105,120,101,100]:Bs),([97,114,114,97,121]:Bs),([109,97,112]:Bs),([117,110,105,111,110]:Bs)]:Bss),0)
def ye(N:Nat)(a:Bs):Ro:=lm N a (fun z=>aP N (nc N) z)
theorem adQ(N:Nat)(a:Bs)(h:Tot (ye N a) (fun z=>∃(c:Int)(rest:List aq),z.1.dimR=.int .i64 c∧z.2=rest∧ua a (c))):∃r,iL a r:=afg.finP (N:=N) ((cd _ (by kernel_rfl) rfl (fun C=>lm N a (fun z=>C 1000000 (lU z))) (fun C=>by kernel_rfl)).trans (Eq.trans (b:=lm N a (fun z=>bd N (qX N) (lU z))) (by kernel_rfl) (congrArg (lm N a) (funext fun z=>be (lU) (qX N) (nc N) (ac0 N) N z)))) h fun _ ⟨c,_,e,_,q⟩=>⟨(c),e,q⟩
noncomputable def agW:az:=tab (P:=Tryd.prog) [] [] [] []
def afh:IR:=Rs [Ms 2 []] (Rs [Pp (.bsl 4 .str [kS [],kS [110,117,108,108],kS [98,111,111,108,101,97,110],kS [105,110,116],kS [108,111,110,103],kS [102,108,111,97,116],kS [100,111,117,98,108,101],kS [98,121,116,101,115],kS [115,116,114,105,110,103],kS [114,101,99,111,114,100],kS [101,110,117,109],kS [102,105,120,101,100],kS [97,114,114,97,121],kS [109,97,112],kS [117,110,105,111,110]] true),Mv 3 4] (Sq (Rs [Mv 5 0,Bc 6 .lss 5 1,Mv 7 6,Gf 7 (.mov 8 0),Gf 7 (.bin 9 .gtr 8 (kI 14)),Po 10 7 9] (Cn 10 (Rs [Ms 2 []] .ret) .skip)) (Rs [Mv 11 3,Mv 12 0,Ix 13 .str 11 12,Lq 14 13,Mv 2 14] .ret)))
def afi:List RV:=[.t 2]
theorem afj:FnC Tryd.prog agW [] 0 zL Tryd.f50 afh afi:=fnC Tryd.func50
def yf(N:Nat)(a:Int):Ro:=
 cond (decide (a<1)) (
 some (.str ([]:Bs),[])) (
 cond (decide (14<a)) (
 some (.str ([]:Bs),[])) (
 chk (ixl a ([([]:Bs),([110,117,108,108]:Bs),([98,111,111,108,101,97,110]:Bs),([105,110,116]:Bs),([108,111,110,103]:Bs),([102,108,111,97,116]:Bs),([100,111,117,98,108,101]:Bs),([98,121,116,101,115]:Bs),([115,116,114,105,110,103]:Bs),([114,101,99,111,114,100]:Bs),([101,110,117,109]:Bs),([102,105,120,101,100]:Bs),([97,114,114,97,121]:Bs),([109,97,112]:Bs),([117,110,105,111,110]:Bs)]:Bss)) (
 let b:=List.getD ([([]:Bs),([110,117,108,108]:Bs),([98,111,111,108,101,97,110]:Bs),([105,110,116]:Bs),([108,111,110,103]:Bs),([102,108,111,97,116]:Bs),([100,111,117,98,108,101]:Bs),([98,121,116,101,115]:Bs),([115,116,114,105,110,103]:Bs),([114,101,99,111,114,100]:Bs),([101,110,117,109]:Bs),([102,105,120,101,100]:Bs),([97,114,114,97,121]:Bs),([109,97,112]:Bs),([117,110,105,111,110]:Bs)]:Bss) (Int.toNat a) (av .str)
 some (.str b,[]))))
def yg(N:Nat)(a:Int):Ro:=yf N a
theorem adR(N:Nat)(b:Int)(h:Tot (yg N b) (fun z=>∃(a:Bs)(rest:List aq),z.1.dimR=.str a∧z.2=rest∧jq b (a))):∃r,ee b r:=afj.finP (N:=N) (by kernel_rfl) h fun _ ⟨a,_,e,_,q⟩=>⟨(a),e,q⟩
noncomputable def aaz:az:=tab (P:=Tryd.prog) [] [] [] []
def zd:IR:=Rs [Mi 4 0] (Sq (Rs [Mv 5 0,Nk 6 5,Fa 7 1 6,Lo 8 7,Bc 9 .eql 8 0] (Cn 9 (Rg [Mv 10 0,Mv 11 1,Nk 12 10,Fa 13 1 12,Sv 1 13 11]) .skip)) (Rs [Mi 4 0] .ret))
def ze:List RV:=[.t 4]
theorem zf:FnC Tryd.prog aaz [] 1 ry Tryd.f38 zd ze:=fnC Tryd.func38
def qH(N:Nat)(b:List am)(a d:Int):Ro:=
 let c:=fun e=>(some (.int .i64 0,[some [.ul .atype b,.int .i64 e]]):Ro)
 cond (a==0) (
 c d) (
 c a)
def qI(N:Nat)(a:List am)(b c:Int):Ro:=qH N a b c
theorem xn(N:Nat)(a:List am)(b i:Int)(h:Tot (qI N a b i) (fun z=>∃(c:Int)(d:List am)(g:Int)(rest:List aq),z.1.dimR=.int .i64 c∧z.2=some [.ul .atype d,.int .i64 g]::rest∧gu a b i (c,d,g))):∃r,ap a b i r:=FnC.finO (css:=[[.ul .atype a,.int .i64 b]]) zf (N:=N) (by kernel_rfl) h fun _ ⟨c,d,g,_,e,f,q⟩=>⟨(c,d,g),e,⟨_,f⟩,q⟩
noncomputable def abk:az:=tab (P:=Tryd.prog) [] [bP] [] []
def aaA:IR:=Rs [Bx 3 1,Mi 4 0] (Sq (Rs [Mv 5 0,Nk 6 5,Fa 7 0 6,Fa 8 0 7,Lo 9 8,Pp (.lnw 10 9),Bc 11 .geq 10 60] (Cn 11 (Rs [Mv 12 0,Ca 13 38 [12,kI 3],Mv 4 13] .ret) .skip)) (Sq (.reg [Mv 14 0,Mv 15 0,Nk 16 15,Fa 17 0 16,Fa 18 0 17,Fo [] [0] (.ld 19 1 false true 18),Ld 20 10 true 3,Pp (.bsl 21 .atype [20] true),Pp (.apu 22 .atype (.tk 19) 21),Nk 23 14,Fa 24 0 23,Fa 25 0 24,Fo [] [0] (.st none 1 25 (.tk 22))] [[],[],[1],[1,2],[1,2,3],rg 1 4,[],[6],rg 1 7,rg 0 8,rg 0 9,rg 0 10,rg 0 11]) (Rs [Mv 26 0,Nk 27 26,Fa 28 0 27,Fa 29 0 28,Lo 30 29,Pp (.lnw 31 30),Bc 32 .sub 31 1,Mv 4 32] .ret)))
def aaB:List RV:=[.t 4]
theorem aaC:FnC Tryd.prog abk [38,2000038] 1 se Tryd.f44 aaA aaB:=fnC Tryd.func44
def rJ(N:Nat)(a:List am)(b c:Int)(d:Bs)(e:Bss)(f:Int)(g:Bss)(h:Bool)(i:Bs)(j:Int)(k:List bo)(l:List Int):Ro:=
 let o:=(↑(List.length a):Int)
 cond (decide (60≤o)) (
 an (ap a b 3) (fun m=>
 some (.int .i64 m.1,[some [.ul .atype m.2.1,.int .i64 m.2.2]]))) (
 chk (decide ((List.length a+List.length ([⟨c,d,e,f,g,h,i,j,k,l⟩]:List am))*160≤140737488355328)) (
 let n:=(a++([⟨c,d,e,f,g,h,i,j,k,l⟩]:List am))
 let p:=(↑(List.length n):Int)
 let q:=(IntKind.wrap .i64 (p-1))
 some (.int .i64 q,[some [.ul .atype n,.int .i64 b]])))
def rK(N:Nat)(a:List am)(b c:Int)(d:Bs)(e:Bss)(f:Int)(g:Bss)(h:Bool)(i:Bs)(j:Int)(k:List bo)(l:List Int):Ro:=rJ N a b c d e f g h i j k l
theorem zg(N:Nat)(a:List am)(b c:Int)(d:Bs)(g:Bss)(i:Int)(j:Bss)(k:Bool)(l:Bs)(m:Int)(n:List bo)(o:List Int)(h:Tot (rK N a b c d g i j k l m n o) (fun z=>∃(p:Int)(s:List am)(t:Int)(rest:List aq),z.1.dimR=.int .i64 p∧z.2=some [.ul .atype s,.int .i64 t]::rest∧hZ a b c d g i j k l m n o (p,s,t))):∃r,cQ a b c d g i j k l m n o r:=FnC.finO (css:=[[.ul .atype a,.int .i64 b]]) aaC (N:=N) (by kernel_rfl) h fun _ ⟨p,s,t,_,e,f,q⟩=>⟨(p,s,t),e,⟨_,f⟩,q⟩
noncomputable def mG:az:=tab (P:=Tryd.prog) [] [] [] []
def pd:IR:=Sq (Rs [Mv 8 6,Mv 9 0,Nk 10 9,Fa 11 0 10,Fa 12 0 11,Lo 13 12,Pp (.lnw 14 13),Bi 15 .lss 8 14] (Cn 15 .skip (.exit 0))) (Sq (.block 1 (Sq (.gh (.opn (.cell 0 0)) (.ghp (.cls (.cell 0 0)) (Rg [Mv 18 0,Nk 19 18,Fa 20 0 19,Fa 21 0 20,Lo 22 21,Mv 23 6,Pp (.ixw 24 .atype 22 23),Pp (.ldw 25 10 true 24),Pp (.alr 7 10),Fz 7 10 25]))) (Rs [Fa 26 1 7,Lq 27 26,Mv 28 1,Bi 29 .eql 27 28,Mv 30 29,Gt 30 (.fad 31 0 7),Gt 30 (.lde 32 1 false 31),Gt 30 (.bin 33 .geq 32 (kI 9)),Pa 34 30 33,Mv 35 34,Gt 35 (.fad 36 0 7),Gt 35 (.lde 37 1 false 36),Gt 35 (.bin 38 .leq 37 (kI 11)),Pa 39 35 38] (Cn 39 (Rs [Mv 40 6,Mv 4 40,Mb 5 true] .ret) .skip)))) (Rg [Mv 16 6,Bc 17 .add 16 1,Mv 6 17]))
def pe:IR:=Rs [Mi 4 0,Mb 5 false] .ret
def zh:IR:=Rs [Mi 4 0,Mb 5 false] (Sq (Rs [Mi 6 0] (.block 0 (.loop [0,1,6,1000000] 1 pd))) pe)
def qJ:List RV:=[.t 4,.t 5]
theorem zi:FnC Tryd.prog mG [] 1 rz Tryd.f75 zh qJ:=fnC Tryd.func75
def xo(R:IR→(Ex→St→Ro)→St→Ro)(a:St→Ro):Ex→St→Ro:=(bG a [0,1,6,1000000] 1 (aJ 0 (kseq (R pe) (fin qJ))))
abbrev iv:Type:=(Bs×Int×List am×Int)
def gS:iv→St:=fun(a,b,c,d)=>{env:=(.ptr 0 0::.str a::(U 4 (.int .i64 b::(U 34 [])))),hp:=[some [.ul .atype c,.int .i64 d]]}
def kZ(N:Nat):(St→Ro)→St→Ro:=fun a s=>run mG N pd (xo (run mG N) a) s
def iw(N:Nat)(b:iv→Ro):iv→Ro:=fun(e,d,a,c)=>
 let g:=(↑(List.length a):Int)
 cond (decide (d<g)) (
 chk (decide (0<List.length a)) (
 chk (decide (0≤d)&&decide (d<↑(List.length a))) (
 chk (decide ((Int.toNat d)<List.length a)) (
 let f:=(List.getD a (Int.toNat d) (av .atype))
 chk (Nat.beq (List.length a) (List.length a)) (
 cond (decide (f.name=e)) (
 cond (decide (9≤f.kind)) (
 cond (decide (f.kind≤11)) (
 some (.tup [.int .i64 d,.bool true],[some [.ul .atype a,.int .i64 c],none,none])) (
 let h:=(IntKind.wrap .i64 (d+1))
 b (e,h,a,c))) (
 let i:=(IntKind.wrap .i64 (d+1))
 b (e,i,a,c))) (
 let j:=(IntKind.wrap .i64 (d+1))
 b (e,j,a,c))))))) (
 some (.tup [.int .i64 0,.bool false],[some [.ul .atype a,.int .i64 c]]))
theorem vK(N:Nat):LB (kZ N) gS (iw N):=fun _ _=>by kernel_rfl
def fB(N:Nat)(a:List am)(b:Int)(c:Bs)(d:iv→Ro):Ro:=
 d (c,0,a,b)
def qK(N:Nat)(a:List am)(b:Int)(c:Bs):Ro:=fB N a b c (fun z=>aP N (iw N) z)
theorem xp(N:Nat)(a:List am)(c:Int)(d:Bs)(h:Tot (qK N a c d) (fun z=>∃(g:Int)(i:Bool)(j:List am)(k:Int)(rest:List aq),z.1.dimR=.tup [.int .i64 g,.bool i]∧z.2=some [.ul .atype j,.int .i64 k]::rest∧oS a c d (g,i,j,k))):∃r,bQ a c d r:=FnC.finO (css:=[[.ul .atype a,.int .i64 c]]) zi (N:=N) ((cd _ (by kernel_rfl) rfl (fun C=>fB N a c d (fun z=>C 1000000 (gS z))) (fun C=>by kernel_rfl)).trans (Eq.trans (b:=fB N a c d (fun z=>bd N (kZ N) (gS z))) (by kernel_rfl) (congrArg (fB N a c d) (funext fun z=>be (gS) (kZ N) (iw N) (vK N) N z)))) h fun _ ⟨g,i,j,k,_,e,f,q⟩=>⟨(g,i,j,k),e,⟨_,f⟩,q⟩
noncomputable def zj:az:=tab (P:=Tryd.prog) [] [qt] [] []
def xq:IR:=Rs [Pp (.new 2 [vI 0,vI 0,vS,nl .jnode,nl .str])] (Rs [Pp (.bsl 4 .str [kS [84,111,112]] false),Pp (.new 3 [nl .str]),Sk 1 3 4] (Rs [Mv 5 0,Ca 6 24 [5,kS [84,111,112],kI 0,3],Sv 5 2 6] .ret))
def xr:List RV:=[.cell 2 5 true]
theorem xt:FnC Tryd.prog zj [24,2000024] 1 qm Tryd.f13 xq xr:=fnC Tryd.func13
def pZ(N:Nat)(b:Bs)(c:Int):Ro:=
 an (dx b c ([([84,111,112]:Bs)]:Bss) ([84,111,112]:Bs) 0) (fun a=>
 some (.agg [.int .i64 a.1,.int .i64 a.2.1,.str a.2.2.1,.sl .jnode (.may false) a.2.2.2.1,.sl .str (.may false) a.2.2.2.2.1],[some [.sl .u8 (.may false) a.2.2.2.2.2.1,.int .i64 a.2.2.2.2.2.2.1],some [.int .i64 a.1,.int .i64 a.2.1,.str a.2.2.1,.sl .jnode (.may false) a.2.2.2.1,.sl .str (.may false) a.2.2.2.2.1],some [.sl .str .own a.2.2.2.2.2.2.2]]))
def p7(N:Nat)(a:Bs)(b:Int):Ro:=pZ N a b
theorem vL(N:Nat)(a:Bs)(b:Int)(h:Tot (p7 N a b) (fun z=>∃(c:Int)(d:Int)(g:Bs)(i:List ak)(j:Bss)(k:Bs)(l:Int)(rest:List aq),z.1.dimR=.agg [.int .i64 c,.int .i64 d,.str g,.sl .jnode (.may false) i,.sl .str (.may false) j]∧z.2=some [.sl .u8 (.may false) k,.int .i64 l]::rest∧nM a b (c,d,g,i,j,k,l))):∃r,fo a b r:=FnC.finO (css:=[[.sl .u8 (.may false) a,.int .i64 b]]) xt (N:=N) (by kernel_rfl) h fun _ ⟨c,d,g,i,j,k,l,_,e,f,q⟩=>⟨(c,d,g,i,j,k,l),e,⟨_,f⟩,q⟩
end Go.Proofs.YtkinflmjagfapaaDoor
end
noncomputable section
namespace Go.Proofs.YtkinflmjagfapaaDoor
open Go.AM
set_option autoImplicit false
set_option linter.unusedVariables false
set_option linter.unusedSimpArgs false
set_option maxRecDepth 100000
theorem agX(l:List UInt8)(n m:Int)(h:lC l n)(hm:0<m):∃r,aO l n m r:=by
 obtain⟨h1,h2,h3⟩:=h
 apply aap 1
 unfold su ss
 dsimp only
 repeat' (first|(with_reducible refine au ?_ ?_<;>(intro hb;(try simp only[bnl] at hb);(try revert hb;intro _)))|with_reducible refine aA ?_ ?_|with_reducible refine ar ?_|fail)
 ·exact⟨_,_,_,_,rfl,rfl,by simp,by simpa using hm,rfl,h1,h2,h3⟩
 ·simp(disch:=omega) only[jo,bnl]
 ·simp only[bnl];omega
 ·refine⟨_,_,_,_,rfl,rfl,?_,?_,rfl,?_,?_,h3⟩
  ·simp only
   have:=UInt8.toNat_lt (l.getD (IntKind.i64.wrap (IntKind.i64.wrap (n+1)-1)).toNat (av .u8))
   rw[ay _ (by omega)]
   exact Int.tmod_nonneg _ (by omega)
  ·simp only
   exact Int.tmod_lt_of_pos _ hm
  ·simp only;rw[ay _ (by omega)];omega
  ·simp only;rw[ay _ (by omega)];omega
theorem nd(l:List UInt8)(n m:Int)(h:lC l n)(hm:0<m)(hm2:m≤1000):∃r,aO l n m r:=agX l n m h hm
theorem akq(l:List UInt8)(n:Int):∃r,hF l n r:=by
 apply zc 1
 unfold rI rH
 dsimp only
 repeat' (first|(with_reducible refine au ?_ ?_<;>(intro hb;(try simp only[bnl] at hb);(try revert hb;intro _)))|with_reducible refine aA ?_ ?_|with_reducible refine ar ?_|fail)
 exact⟨_,_,_,_,rfl,rfl,rfl,rfl⟩
theorem akr(l:List UInt8):∃r,nQ l r:=by
 apply afb 1
 unfold tc aav
 repeat' (first|(with_reducible refine au ?_ ?_<;>(intro hb;(try simp only[bnl] at hb);(try revert hb;intro _)))|with_reducible refine aA ?_ ?_|with_reducible refine ar ?_|fail)
 exact⟨_,_,[],rfl,rfl⟩
theorem cw(s:List UInt8):∃r,aR s r:=by
 apply afc 1
 unfold aax aaw
 repeat' (first|(with_reducible refine au ?_ ?_<;>(intro hb;(try simp only[bnl] at hb);(try revert hb;intro _)))|with_reducible refine aA ?_ ?_|with_reducible refine ar ?_|fail)
 exact⟨_,_,_,_,_,_,rfl,rfl,rfl⟩
theorem rL(f0:Bool)(names:List (List UInt8))(f1:Bool)(l:List ak):∃r,c6 f0 names f1 l r:=by
 apply adO 1
 unfold rT ya
 repeat' (first|(with_reducible refine au ?_ ?_<;>(intro hb;(try simp only[bnl] at hb);(try revert hb;intro _)))|with_reducible refine aA ?_ ?_|with_reducible refine ar ?_|fail)
 exact⟨_,_,_,_,_,_,_,_,rfl,rfl,rfl⟩
theorem adS:∀(names:List (List UInt8))(l:List ak)(name:List UInt8)(i:Nat),(∀j,j<i→names.getD j []≠name)→cr names l name=cr (names.drop i) (l.drop i) name
 |names,l,name,0,_=>rfl
 | [],l,name,i+1,h=>by simp[cr]
 |x::ns,[],name,i+1,h=>by
  have:∀ns:List (List UInt8),cr ns [] name=none:=fun ns=>by cases ns<;>rfl
  simp[cr,this]
 |x::ns,c::l,name,i+1,h=>by
  have h0:=h 0 (by omega)
  simp only[List.getD_cons_zero] at h0
  simp only[cr,if_neg h0,List.drop_succ_cons]
  exact adS ns l name i fun j hj=>by simpa using h (j+1) (by omega)
theorem agY{names:List (List UInt8)}{l:List ak}{name:List UInt8}{i:Nat}(h1:i<names.length)(h2:i<l.length)(h:∀j,j<i→names.getD j []≠name)(he:names.getD i []=name):
  cr names l name=some (l.getD i (av .jnode)):=by
 rw[adS names l name i h,List.drop_eq_getElem_cons h1,List.drop_eq_getElem_cons h2]
 simp only[cr]
 rw[List.getD_eq_getElem?_getD,List.getElem?_eq_getElem h1,Option.getD_some] at he
 rw[if_pos he,List.getD_eq_getElem?_getD,List.getElem?_eq_getElem h2,Option.getD_some]
theorem aaD{names:List (List UInt8)}{l:List ak}{name:List UInt8}{i:Nat}(h:∀j,j<i→names.getD j []≠name)(hi:names.length≤i∨l.length≤i):cr names l name=none:=by
 rw[adS names l name i h]
 rcases hi with hi|hi
 ·rw[List.drop_eq_nil_of_le hi];rfl
 ·rw[List.drop_of_length_le (l:=l) hi]
  cases names.drop i<;>rfl
theorem ail(k n:Int)(s:List UInt8)(l:List ak)(names:List (List UInt8))(name:List UInt8)(h:names.length≤l.length)(hl:names.length≤1000):∃r,mV k n s l names name r:=by
 apply agV 2000
 unfold abJ oa
 refine aX (fun x=>x.1=name∧x.2.2.2.2.1=l∧x.2.2.2.2.2.1=names∧0≤x.2.2.2.2.2.2.1∧x.2.2.2.2.2.2.1≤(names.length:Int)∧∀j:Nat,(j:Int)<x.2.2.2.2.2.2.1→names.getD j []≠name)
  (fun x=>((names.length:Int)-x.2.2.2.2.2.2.1).toNat) ?_ _ _ ⟨rfl,rfl,rfl,by simp,by simp,fun j hj=>by simp at hj;omega⟩ (by simp;omega)
 rintro again ⟨a0,a1,a2,a3,a4,a5,i,b0,b1,b2,b3,b4⟩ ⟨rfl,rfl,rfl,i1,i2,i3⟩ ih
 simp only at i1 i2 i3 ih h hl ⊢
 unfold pY
 dsimp only
 repeat' (first|(with_reducible refine au ?_ ?_<;>(intro hb;(try simp only[bnl] at hb);(try revert hb;intro _)))|with_reducible refine aA ?_ ?_|with_reducible refine ar ?_|fail)
 ·simp only[bnl];omega
 ·simp only[bnl];omega
 ·rename_i hb hb2
  have e:=agY (names:=a5) (l:=a4) (name:=a0) (i:=i.toNat) (by omega) (by omega) (fun j hj=>i3 j (by omega)) hb2
  refine⟨_,_,_,_,_,_,_,rfl,rfl,?_⟩
  simp only[oq]
  rw[e];rfl
 ·rename_i hb hb2
  have ew:=ay (i+1) (by omega)
  refine ih _ ⟨rfl,rfl,rfl,?_,?_,?_⟩ ?_
  ·simp only[ew];omega
  ·simp only[ew];omega
  ·simp only[ew]
   intro j hj
   by_cases e:(j:Int)=i
   ·have:i.toNat=j:=by omega
    rw[this] at hb2
    exact hb2
   ·exact i3 j (by omega)
  ·simp only[ew];omega
 ·rename_i hb
  refine⟨_,_,_,_,_,_,_,rfl,rfl,?_⟩
  simp only[oq]
  rw[aaD (i:=i.toNat) (fun j hj=>i3 j (by omega)) (.inl (by omega))]
  rfl
theorem bB(ts:List am)(e c:Int):∃r,ap ts e c r:=by
 apply xn 1
 unfold qI qH
 dsimp only
 repeat' (first|(with_reducible refine au ?_ ?_<;>(intro hb;(try simp only[bnl] at hb);(try revert hb;intro _)))|with_reducible refine aA ?_ ?_|with_reducible refine ar ?_|fail)
 ·rename_i hb;exact⟨_,_,_,_,rfl,rfl,by simp[gu,hb]⟩
 ·rename_i hb;exact⟨_,_,_,_,rfl,rfl,by simp[gu,hb]⟩
end Go.Proofs.YtkinflmjagfapaaDoor
end
noncomputable section
namespace Go.Proofs.YtkinflmjagfapaaDoor
open Go.AM
set_option autoImplicit false
set_option linter.unusedVariables false
theorem ms.mono{m m':Nat}{t:am}(h:ms m t)(hm:m≤m'):ms m' t:=
 ⟨⟨h.items.1,by have:=h.items.2;omega⟩,fun f hf=>⟨⟨(h.fields f hf).1.1,by have:=(h.fields f hf).1.2.1;omega,(h.fields f hf).1.2.2⟩,(h.fields f hf).2⟩,h.nf,
   fun b hb=>⟨(h.branches b hb).1,by have:=(h.branches b hb).2;omega⟩,h.nb,h.ns,h.size,h.kind,h.nl,h.sl,h.fk⟩
theorem cD.keep{ts ts':List am}{n:Nat}(h1:∀(i:Nat) t,ts[i]? =some t→t.kind≤11→∃t':am,ts'[i]? =some t'∧t'.kind≤11)(h2:∀(i:Nat) t,n≤i→ts[i]? =some t→¬t.kind≤11→ts'[i]? =some t)
  {i:Int} {b:Nat} (h:cD ts n i b):cD ts' n i b:=by
 induction h with
 |leaf i t h0 h hk=>
  obtain⟨t',a,b⟩:=h1 _ t h hk
  exact .leaf i t' h0 a b
 |arr i t b h0 hn h hk _ ih=>exact .arr i t b h0 hn (h2 _ t hn h (by omega)) hk ih
 |uni i t w h0 hn h hk _ ih=>exact .uni i t w h0 hn (h2 _ t hn h (by omega)) hk ih
theorem cD.low{ts:List am}{n n':Nat}(hn:n'≤n){i:Int}{b:Nat}(h:cD ts n i b):cD ts n' i b:=by
 induction h with
 |leaf i t h0 h hk=>exact .leaf i t h0 h hk
 |arr i t b h0 hm h hk _ ih=>exact .arr i t b h0 (by omega) h hk ih
 |uni i t w h0 hm h hk _ ih=>exact .uni i t w h0 (by omega) h hk ih
theorem cD.pos{ts:List am}{n:Nat}{i:Int}{b:Nat}(h:cD ts n i b):1≤b:=by
 cases h<;>omega
theorem cD.grow{ts ts':List am}{e e':Int}{n:Nat}(g:aT ts e ts' e')(he:e'=0){i:Int}{b:Nat}(h:cD ts n i b):cD ts' n i b:=
 h.keep (fun i t h hk=>⟨t,(g.old he i (List.getElem?_eq_some_iff.1 h).1).trans h,hk⟩) (fun i t _ h _=>(g.old he i (List.getElem?_eq_some_iff.1 h).1).trans h)
theorem sY.grow{ts ts':List am}{e e':Int}(g:aT ts e ts' e')(he:e'=0){i:Nat}{t:am}(h:sY ts i t):sY ts' i t:=fun f hf=>by
 obtain⟨b,h1,h2⟩:=h f hf
 exact⟨b,h1,h2.grow g he⟩
theorem sY.nil{ts:List am}{i:Nat}{t:am}(h:t.fields=[]):sY ts i t:=fun f hf=>by rw[h] at hf;cases hf
theorem aT.refl{ts:List am}{e:Int}(h:ts.length≤60):aT ts e ts e:=
 ⟨Nat.le_refl _,h,fun h=>h,fun _ _ _=>rfl,fun _ i t hi ht=>by
  have:=(List.getElem?_eq_some_iff.1 ht).1;omega,fun _ i t hi ht=>by
  have:=(List.getElem?_eq_some_iff.1 ht).1;omega⟩
theorem aT.bad{ts:List am}{e e':Int}(h:ts.length≤60)(he:e'≠0):aT ts e ts e':=
 ⟨Nat.le_refl _,h,fun h=>absurd h he,fun h=>absurd h he,fun h=>absurd h he,fun h=>absurd h he⟩
theorem aT.trans{ts ts1 ts2:List am}{e e1 e2:Int}(h:aT ts e ts1 e1)(h':aT ts1 e1 ts2 e2):aT ts e ts2 e2 where
 len:=Nat.le_trans h.len h'.len
 cap:=h'.cap
 err:=fun he=>h.err (h'.err he)
 old:=fun he i hi=>by
  have:=h.len
  rw[h'.old he i (by omega),h.old (h'.err he) i hi]
 new:=fun he i t hi ht=>by
  rcases Nat.lt_or_ge i ts1.length with hl|hl
  ·rw[h'.old he i hl] at ht
   exact(h.new (h'.err he) i t hi ht).mono h'.len
  ·exact h'.new he i t hl ht
 ext:=fun he i t hi ht=>by
  rcases Nat.lt_or_ge i ts1.length with hl|hl
  ·rw[h'.old he i hl] at ht
   exact(h.ext (h'.err he) i t hi ht).grow h' he
  ·exact h'.ext he i t hl ht
theorem aT.weak{ts ts':List am}{e e1 e':Int}(h:aT ts e1 ts' e')(he:e1=0→e=0):aT ts e ts' e':=
 ⟨h.len,h.cap,fun h'=>he (h.err h'),h.old,h.new,h.ext⟩
theorem aT.push{ts:List am}{e:Int}(h:ts.length<60)(t:am)(ht:ms (ts.length+1) t)(hf:t.fields=[]):aT ts e (ts++[t]) e where
 len:=by simp
 cap:=by simp;omega
 err:=fun h=>h
 old:=fun _ i hi=>by rw[List.getElem?_append_left hi]
 new:=fun _ i t' hi ht'=>by
  rw[List.getElem?_append_right hi] at ht'
  have hl:=(List.getElem?_eq_some_iff.1 ht').1
  simp only[List.length_singleton] at hl
  have:i-ts.length=0:=by omega
  rw[this] at ht'
  simp only[List.getElem?_cons_zero,Option.some.injEq] at ht'
  subst ht'
  simpa using ht
 ext:=fun _ i t' hi ht'=>by
  rw[List.getElem?_append_right hi] at ht'
  have hl:=(List.getElem?_eq_some_iff.1 ht').1
  simp only[List.length_singleton] at hl
  have:i-ts.length=0:=by omega
  rw[this] at ht'
  simp only[List.getElem?_cons_zero,Option.some.injEq] at ht'
  subst ht'
  exact .nil hf
def aks(t0 t:am):Prop:=(t0.kind≤11∧t.kind≤11)∨¬t0.kind≤11
theorem cD.set{ts:List am}{a:Nat}{t0 t:am}(h0:ts[a]? =some t0)(hs:aks t0 t){n:Nat}(hn:a<n∨t0.kind≤11){i:Int}{b:Nat}(h:cD ts n i b):cD (ts.set a t) n i b:=by
 have ha:=(List.getElem?_eq_some_iff.1 h0).1
 refine h.keep (fun i u hu hk=>?_) (fun i u hi hu hk=>?_)
 ·by_cases e:a=i
  ·subst e
   rw[h0] at hu;cases hu
   rcases hs with hs|hs
   ·exact⟨t,List.getElem?_set_self ha,hs.2⟩
   ·exact absurd hk hs
  ·exact⟨u,by rw[List.getElem?_set_ne e,hu],hk⟩
 ·have e:a≠i:=by
   rintro rfl
   rw[h0] at hu;cases hu
   rcases hn with hn|hn
   ·omega
   ·exact hk hn
  rw[List.getElem?_set_ne e,hu]
theorem aT.at_open{ts ts2:List am}{e e2:Int}{t0:am}(h:aT (ts++[t0]) e ts2 e2)(he:e2=0):ts2[ts.length]? =some t0:=by
 rw[h.old he ts.length (by simp),List.getElem?_append_right (Nat.le_refl _)]
 simp
theorem aT.close{ts ts2:List am}{e e2:Int}{t0 t:am}(h:aT (ts++[t0]) e ts2 e2)(ht:ms ts2.length t)
  (hs:e2=0→aks t0 t) (hx:e2=0→sY (ts2.set ts.length t) ts.length t):aT ts e (ts2.set ts.length t) e2 where
 len:=by have:=h.len;simp at this ⊢;omega
 cap:=by simpa using h.cap
 err:=h.err
 old:=fun he i hi=>by
  rw[List.getElem?_set_ne (by omega),h.old he i (by simp;omega),List.getElem?_append_left hi]
 new:=fun he i t' hi ht'=>by
  have hlen:=h.len
  simp only[List.length_append,List.length_singleton] at hlen
  simp only[List.length_set] at ht' ⊢
  rcases Nat.lt_or_eq_of_le hi with hl|hl
  ·rw[List.getElem?_set_ne (by omega)] at ht'
   exact h.new he i t' (by simp;omega) ht'
  ·subst hl
   rw[List.getElem?_set_self (by omega)] at ht'
   cases ht'
   exact ht
 ext:=fun he i t' hi ht'=>by
  have hlen:=h.len
  simp only[List.length_append,List.length_singleton] at hlen
  rcases Nat.lt_or_eq_of_le hi with hl|hl
  ·rw[List.getElem?_set_ne (by omega)] at ht'
   intro f hf
   obtain⟨b,b1,b2⟩:=h.ext he i t' (by simp;omega) ht' f hf
   exact⟨b,b1,b2.set (h.at_open he) (hs he) (.inl hl)⟩
  ·subst hl
   rw[List.getElem?_set_self (by omega)] at ht'
   cases ht'
   exact hx he
theorem aT.sch{ts:List am}(h:aT [] 0 ts 0)(h0:0<ts.length):akW ts∧∀(i:Nat) t,ts[i]? =some t→sY ts i t:=by
 refine⟨⟨⟨h0,h.cap⟩,fun t ht=>?_⟩,fun i t ht=>h.ext rfl i t (by simp) ht⟩
 obtain⟨i,hi,rfl⟩:=List.mem_iff_getElem.1 ht
 exact h.new rfl i _ (by simp) (List.getElem?_eq_getElem hi)
theorem ce.kids{b:Nat}{k n:Int}{s:List UInt8}{l:List ak}{names:List (List UInt8)}(h:ce b (.mk k n s l names)):
  s.length≤100∧l.length≤b∧names.length≤l.length∧(∀x∈names,x.length≤100)∧(k=6→names.length=l.length)∧∀c∈l,ce b c:=by
 cases h with
 |mk _ _ _ _ _ h1 h2 h3 h4 h5 h6=>exact⟨h1,h2,h3,h4,h5,h6⟩
theorem xu{name:List UInt8}{q:ak→Prop}:∀{names:List (List UInt8)}{l:List ak}{c:ak},aV name q names l→cr names l name=some c→q c
 | [],l,c,_,h=>by simp[cr] at h
 |x::ns,[],c,_,h=>by simp[cr] at h
 |x::ns,d::l,c,he,h=>by
  simp only[cr] at h
  simp only[aV] at he
  split at h
  ·rename_i hx
   cases h
   exact he.1 hx
  ·exact xu he.2 h
theorem ce.sized{b:Nat}{k n:Int}{s:List UInt8}{l:List ak}{names:List (List UInt8)}(h:ce b (.mk k n s l names)){c:ak}(hc:cr names l [115,105,122,101]=some c):c.n≤zH:=by
 cases h with
 |mk _ _ _ _ _ h1 h2 h3 h4 h5 h6 h7 h8=>exact xu h7 hc
theorem ce.named{b:Nat}{k n:Int}{s:List UInt8}{l:List ak}{names:List (List UInt8)}(h:ce b (.mk k n s l names)){c:ak}(hc:cr names l [110,97,109,101]=some c):dZ c.s:=by
 cases h with
 |mk _ _ _ _ _ h1 h2 h3 h4 h5 h6 h7 h8=>exact xu h8 hc
theorem ce.eta{b:Nat}{c:ak}:ce b (.mk c.kind c.n c.s c.l c.names)↔ce b c:=by
 cases c;exact Iff.rfl
theorem aaZ(c:ak):szJ (.mk c.kind c.n c.s c.l c.names)=szJ c:=by cases c;rfl
theorem bR(k n:Int)(s:List UInt8)(l:List ak)(names:List (List UInt8)):szJ (.mk k n s l names)=bJ l+1:=rfl
theorem vM:∀(l:List ak)(c:ak),c∈l→szJ c≤bJ l
 | [],c,h=>by cases h
 |d::l,c,h=>by
  rcases List.mem_cons.1 h with rfl|h
  ·simp only[bJ];omega
  ·have:=vM l c h
   simp only[bJ];omega
theorem ce.zero{b:Nat}:ce b (.mk 0 0 [] [] []):=.mk _ _ _ _ _ (by simp) (by simp) (by simp) (by simp) (by simp) (by simp) (by simp[aV]) (by simp[aV])
theorem ce.getD{b:Nat}{l:List ak}(h:∀c∈l,ce b c)(i:Nat):ce b (l.getD i (av .jnode)):=by
 rw[List.getD_eq_getElem?_getD]
 cases hi:l[i]? with
 |none=>exact ce.zero
 |some c=>exact h c (List.mem_of_getElem? hi)
theorem agZ(l:List ak)(i:Nat)(h:i<l.length):szJ (l.getD i (av .jnode))≤bJ l:=by
 rw[List.getD_eq_getElem?_getD,List.getElem?_eq_getElem h]
 exact vM l _ (List.getElem_mem h)
theorem ce.up{b b':Nat}(hb:b≤b'):∀{c:ak},ce b c→ce b' c:=by
 intro c h
 induction h with
 |mk k n s l names h1 h2 h3 h4 h5 _ h7 h8 ih=>exact .mk k n s l names h1 (Nat.le_trans h2 hb) h3 h4 h5 ih h7 h8
theorem bO.kids{k n:Int}{s:List UInt8}{l:List ak}{names:List (List UInt8)}(h:bO (.mk k n s l names)):
  s.length≤100∧l.length≤8∧names.length≤l.length∧(∀x∈names,x.length≤100)∧(k=6→names.length=l.length)∧∀c∈l,bO c:=ce.kids h
theorem bO.eta{c:ak}:bO (.mk c.kind c.n c.s c.l c.names)↔bO c:=ce.eta
theorem bO.zero:bO (.mk 0 0 [] [] []):=ce.zero
theorem bO.getD{l:List ak}(h:∀c∈l,bO c)(i:Nat):bO (l.getD i (av .jnode)):=ce.getD h i
theorem ach:∀{names:List (List UInt8)}{l:List ak}{name:List UInt8}{c:ak},cr names l name=some c→c∈l
 | [],l,_,_,h=>by simp[cr] at h
 |x::ns,[],_,_,h=>by simp[cr] at h
 |x::ns,d::l,name,c,h=>by
  simp only[cr] at h
  split at h
  ·simp at h;simp[h]
  ·exact List.mem_cons_of_mem _ (ach h)
theorem alg{b:Nat}{o:Option ak}{l:List ak}(h:∀c∈l,ce b c)(ho:∀c,o=some c→c∈l):ce b (.mk (d6 o).1 (d6 o).2.1 (d6 o).2.2.1 (d6 o).2.2.2.1 (d6 o).2.2.2.2.1):=by
 cases o with
 |none=>exact ce.zero
 |some c=>exact ce.eta.2 (h c (ho c rfl))
theorem pf{b:Nat}{k:Int}{names:List (List UInt8)}{l:List ak}{name:List UInt8}(h:∀c∈l,ce b c):
  ce b (.mk (d6 (if k=6 then cr names l name else none)).1 (d6 (if k=6 then cr names l name else none)).2.1 (d6 (if k=6 then cr names l name else none)).2.2.1 (d6 (if k=6 then cr names l name else none)).2.2.2.1 (d6 (if k=6 then cr names l name else none)).2.2.2.2.1):=
 alg h fun c hc=>by
  split at hc
  ·exact ach hc
  ·cases hc
theorem aa0{k:Int}{names:List (List UInt8)}{l:List ak}{name:List UInt8}:
  szJ (.mk (d6 (if k=6 then cr names l name else none)).1 (d6 (if k=6 then cr names l name else none)).2.1 (d6 (if k=6 then cr names l name else none)).2.2.1 (d6 (if k=6 then cr names l name else none)).2.2.2.1 (d6 (if k=6 then cr names l name else none)).2.2.2.2.1)≤bJ l+1∧
  ((d6 (if k=6 then cr names l name else none)).2.2.2.2.2 =true→szJ (.mk (d6 (if k=6 then cr names l name else none)).1 (d6 (if k=6 then cr names l name else none)).2.1 (d6 (if k=6 then cr names l name else none)).2.2.1 (d6 (if k=6 then cr names l name else none)).2.2.2.1 (d6 (if k=6 then cr names l name else none)).2.2.2.2.1)≤bJ l):=by
 generalize ho:(if k=6 then cr names l name else none)=o
 cases o with
 |none=>exact⟨by simp[d6,szJ,bJ],by simp[d6]⟩
 |some c=>
  have hc:c∈l:=by
   split at ho
   ·exact ach ho
   ·cases ho
  have:=vM l c hc
  have e:=aaZ c
  simp only[d6,e]
  omega
theorem At.ext{ts:List am}{m:Nat}{a:Int}{ts':List am}(h:At ts m a ts'):∃b,b≤m∧cD ts' 0 a b:=by
 obtain⟨b,h1,h2⟩:=h.2.1
 exact⟨b,h1,h2.low (Nat.zero_le _)⟩
theorem At.leaf{ts ts':List am}{m:Nat}{a:Int}{t:am}(hm:1≤m)(h0:0≤a)(h:ts'[a.toNat]? =some t)(hk:t.kind≤11)(hz:ts=[]→a=0):At ts m a ts':=
 ⟨⟨h0,by have:=(List.getElem?_eq_some_iff.1 h).1;omega⟩,⟨1,hm,.leaf a t h0 h hk⟩,hz⟩
theorem At.up{ts ts':List am}{m m':Nat}{a:Int}(h:At ts m a ts')(hm:m≤m'):At ts m' a ts':=by
 obtain⟨h1,⟨b,h2,h3⟩,h4⟩:=h
 exact⟨h1,⟨b,by omega,h3⟩,h4⟩
end Go.Proofs.YtkinflmjagfapaaDoor
end
noncomputable section
namespace Go.Proofs.YtkinflmjagfapaaDoor
open Go.AM
set_option autoImplicit false
set_option linter.unusedVariables false
set_option linter.unusedSimpArgs false
set_option maxRecDepth 100000
theorem aci(s:List UInt8):∃r,iL s r:=by
 apply adQ 100
 unfold ye lm
 refine aX (fun x=>match x with|(a,f,w,i)=>a=s∧w=jp∧0≤i∧i≤14∧∀j:Nat,(j:Int)<i→jp.getD j []≠s) (fun x=>(14-x.2.2.2).toNat) ?_ _ _ ⟨rfl,rfl,by simp,by simp,fun j hj=>by omega⟩ (by simp)
 rintro again ⟨a,f,w,i⟩ ⟨rfl,rfl,i1,i2,i3⟩ ih
 dsimp only at ih
 have e:=ay (i+1) (by omega)
 unfold nc
 dsimp only
 have hw:jp.length=14:=rfl
 rw[hw]
 repeat' (first|(with_reducible refine au ?_ ?_<;>(intro hb;(try simp only[bnl] at hb);(try revert hb;intro _)))|with_reducible refine aA ?_ ?_|with_reducible refine ar ?_|fail)
 ·simp only[bnl];omega
 ·rename_i h1 h2
  refine⟨_,_,rfl,rfl,?_,?_,?_,?_⟩
  ·simp only[e];omega
  ·simp only[e];omega
  ·simp only[e]
   intro _
   rw[show i+1-1=i by omega]
   exact h2
  ·simp only[e]
   intro h3;omega
 ·rename_i h1 h2
  refine ih (a,f,jp,_) ?_ ?_
  ·simp only[e]
   refine⟨trivial,trivial,by omega,by omega,fun j hj=>?_⟩
   by_cases hji:(j:Int)=i
   ·have:i.toNat=j:=by omega
    rw[this] at h2
    exact h2
   ·exact i3 j (by omega)
  ·simp only[e];omega
 ·rename_i h1
  exact⟨_,_,rfl,rfl,by simp,by simp,by simp,fun _ j hj=>i3 j (by omega)⟩
theorem ag0(k:Int):∃r,ee k r:=by
 apply adR 1
 unfold yg yf
 dsimp only
 repeat' (first|(with_reducible refine au ?_ ?_<;>(intro hb;(try simp only[bnl] at hb);(try revert hb;intro _)))|with_reducible refine aA ?_ ?_|with_reducible refine ar ?_|fail)
 ·exact⟨_,_,rfl,rfl,by simp only[jq,cm];rw[if_neg (by omega)]⟩
 ·exact⟨_,_,rfl,rfl,by simp only[jq,cm];rw[if_neg (by omega)]⟩
 ·simp only[bnl,List.length_cons,List.length_nil];omega
 ·refine⟨_,_,rfl,rfl,?_⟩
  simp only[jq,cm]
  rw[if_pos (by omega),show k.toNat=(k-1).toNat+1 by omega]
  rfl
theorem aa1(ts:List am)(e a0:Int)(a1:List UInt8)(a2:List (List UInt8))(a3:Int)(a4:List (List UInt8))(a5:Bool)(a6:List UInt8)(a7:Int)(a8:List bo)(a9:List Int)(h:ts.length≤60):
  ∃r,cQ ts e a0 a1 a2 a3 a4 a5 a6 a7 a8 a9 r:=by
 apply zg 1
 unfold rK rJ
 dsimp only
 repeat' (first|(with_reducible refine au ?_ ?_<;>(intro hb;(try simp only[bnl] at hb);(try revert hb;intro _)))|with_reducible refine aA ?_ ?_|with_reducible refine ar ?_|(refine ao (bB _ _ _) ?_;rintro _ ⟨-,rfl⟩;try dsimp only)|fail)
 ·rename_i hb
  refine⟨_,_,_,_,rfl,rfl,?_⟩
  simp only[hZ]
  simp only[if_pos (show 60≤ts.length by omega)]
 ·first|(simp only[bnl,lnl];done)|(simp only[bnl,lnl];omega)
 ·rename_i hb
  refine⟨_,_,_,_,rfl,rfl,?_⟩
  simp only[hZ,List.length_append,List.length_cons,List.length_nil]
  rw[if_neg (by omega),ay _ (by omega)]
  simp
theorem ag1(ts:List am)(e:Int)(s:List UInt8)(h:ts.length≤60):∃r,bQ ts e s r:=by
 apply xp 100
 unfold qK fB
 refine aX (fun x=>x.1=s∧x.2.2.1=ts∧x.2.2.2=e∧0≤x.2.1∧x.2.1≤(ts.length:Int)) (fun x=>((ts.length:Int)-x.2.1).toNat) ?_ _ _ ⟨rfl,rfl,rfl,by simp,by simp⟩ (by simp;omega)
 rintro again ⟨s,i,ts,e⟩ ⟨rfl,rfl,rfl,i1,i2⟩ ih
 simp only at i1 i2 ih h ⊢
 unfold iw
 dsimp only
 have next:i<ts.length→Tot (again (s,IntKind.i64.wrap (i+1),ts,e)) _:=fun hl=>ih (s,IntKind.i64.wrap (i+1),ts,e) (by simp only[ay (i+1) (by omega)];exact⟨trivial,trivial,trivial,by omega,by omega⟩) (by simp only[ay (i+1) (by omega)];omega)
 repeat' (first|(with_reducible refine au ?_ ?_<;>(intro hb;(try simp only[bnl] at hb);(try revert hb;intro _)))|with_reducible refine aA ?_ ?_|with_reducible refine ar ?_|(exact next (by omega))|fail)
 all_goals first|(first|(simp only[bnl,lnl];done)|(simp only[bnl,lnl];omega))|(refine⟨_,_,_,_,_,rfl,rfl,rfl,?_⟩;simp;done)|(refine⟨_,_,_,_,_,rfl,rfl,rfl,fun _=>⟨by omega,by omega,by simp only;omega⟩⟩)
end Go.Proofs.YtkinflmjagfapaaDoor
end
noncomputable section
namespace Go.Proofs.YtkinflmjagfapaaDoor
open Go.AM
set_option autoImplicit false
set_option linter.unusedVariables false
set_option maxRecDepth 100000
noncomputable def xv:az:=tab (P:=Tryd.prog) [] [] [] []
def yh:IR:=Sq (Rs [Fa 7 0 2,Lq 8 7,Bc 9 .eql 8 6,Mv 10 9,Gt 10 (.mov 11 6),Gt 10 (.fad 12 4 2),Gt 10 (.lde 13 1 false 12),Gt 10 (.lenl 14 13),Gt 10 (.bin 15 .lss 11 14),Pa 16 10 15,Mv 17 16,Gt 17 (.mov 18 6),Gt 17 (.fad 19 3 2),Gt 17 (.lde 20 1 false 19),Gt 17 (.lenl 21 20),Gt 17 (.bin 22 .lss 18 21),Pa 23 17 22] (Cn 23 .skip (.exit 0))) (Sq (.block 1 (Rs [Fa 26 4 2,Lq 27 26,Mv 28 6,Ix 29 .str 27 28,Lq 30 29,Mv 31 1,Bi 32 .eql 30 31] (Cn 32 (Rs [Fa 33 3 2,Lq 34 33,Mv 35 6,Ix 36 .jnode 34 35,Ld 37 5 true 36,Sv 5 4 37,Mb 5 true] .ret) .skip))) (Rg [Mv 24 6,Bc 25 .add 24 1,Mv 6 25]))
def yi:IR:=Rs [Pp (.bld 38 [vI 0,vI 0,vS,nl .jnode,nl .str] []),Sv 5 4 38,Mb 5 false] .ret
def ahY:IR:=Rs [Bx 2 0,Pp (.new 4 [vI 0,vI 0,vS,nl .jnode,nl .str]),Mb 5 false] (Sq (Rs [Mi 6 0] (.block 0 (.loop [1,2,4,6,1000000] 1 yh))) yi)
def abK:List RV:=[.cell 4 5 true,.t 5]
theorem ahZ:FnC Tryd.prog xv [] 0 acO Tryd.f41 ahY abK:=fnC Tryd.func41
def ag2(R:IR→(Ex→St→Ro)→St→Ro)(a:St→Ro):Ex→St→Ro:=(bG a [1,2,4,6,1000000] 1 (aJ 0 (kseq (R yi) (fin abK))))
abbrev p8:Type:=(Bs×Int×Int×Bs×List ak×Bss×Int×Int×Int×Bs×List ak×Bss)
def ou:p8→St:=fun(c,d,e,f,g,h,i,j,k,l,a,b)=>{env:=(.undef::.str c::.ea [.int .i64 d,.int .i64 e,.str f,.sl .jnode (.may false) g,.sl .str (.may false) h]::.undef::.ptr 0 0::.undef::.int .i64 i::(U 32 [])),hp:=[some [.int .i64 j,.int .i64 k,.str l,.sl .jnode .own a,.sl .str .own b]]}
def tf(N:Nat):(St→Ro)→St→Ro:=fun a s=>run xv N yh (ag2 (run xv N) a) s
def p9(N:Nat)(c:p8→Ro):p8→Ro:=fun(q,d,g,h,a,b,e,i,j,k,m,o)=>
 let p:=fun r t u v w x y z=>(some (.tup [.agg [.int .i64 r,.int .i64 t,.str u,.sl .jnode (.may false) v,.sl .str (.may false) w],.bool x],[some [.int .i64 r,.int .i64 t,.str u,y,z]]):Ro)
 cond (d==6) (
 let x1:=(↑(List.length b):Int)
 cond (decide (e<x1)) (
 let x2:=(↑(List.length a):Int)
 cond (decide (e<x2)) (
 chk (ixl e b) (
 let x3:=List.getD b (Int.toNat e) (av .str)
 cond (decide (x3=q)) (
 chk (ixl e a) (
 let f:=(List.getD a (Int.toNat e) (av .jnode))
 p f.kind f.n f.s f.l f.names true (.sl .jnode (.may false) f.l) (.sl .str (.may false) f.names))) (
 let x5:=(IntKind.wrap .i64 (e+1))
 c (q,d,g,h,a,b,x5,i,j,k,m,o)))) (
 p 0 0 ([]:Bs) ([]:List ak) ([]:Bss) false (.sl .jnode .own ([]:List ak)) (.sl .str .own ([]:Bss)))) (
 p 0 0 ([]:Bs) ([]:List ak) ([]:Bss) false (.sl .jnode .own ([]:List ak)) (.sl .str .own ([]:Bss)))) (
 p 0 0 ([]:Bs) ([]:List ak) ([]:Bss) false (.sl .jnode .own ([]:List ak)) (.sl .str .own ([]:Bss)))
theorem afk(N:Nat):LB (tf N) ou (p9 N):=fun _ _=>by kernel_rfl
def od(N:Nat)(a b:Int)(c:Bs)(d:List ak)(e:Bss)(f:Bs)(g:p8→Ro):Ro:=
 g (f,a,b,c,d,e,0,0,0,([]:Bs),([]:List ak),([]:Bss))
def abL(N:Nat)(a b:Int)(c:Bs)(d:List ak)(e:Bss)(f:Bs):Ro:=od N a b c d e f (fun z=>aP N (p9 N) z)
theorem ag3(N:Nat)(a c:Int)(d:Bs)(f:List ak)(g:Bss)(i:Bs)(h:Tot (abL N a c d f g i) (fun z=>∃(j:Int)(k:Int)(l:Bs)(m:List ak)(n:Bss)(o:Bool)(rest:List aq),z.1.dimR=.tup [.agg [.int .i64 j,.int .i64 k,.str l,.sl .jnode (.may false) m,.sl .str (.may false) n],.bool o]∧z.2=rest∧bS a c d f g i (j,k,l,m,n,o))):∃r,cf a c d f g i r:=ahZ.finP (N:=N) ((cd _ (by kernel_rfl) rfl (fun C=>od N a c d f g i (fun z=>C 1000000 (ou z))) (fun C=>by kernel_rfl)).trans (Eq.trans (b:=od N a c d f g i (fun z=>bd N (tf N) (ou z))) (by kernel_rfl) (congrArg (od N a c d f g i) (funext fun z=>be (ou) (tf N) (p9 N) (afk N) N z)))) h fun _ ⟨j,k,l,m,n,o,_,e,_,q⟩=>⟨(j,k,l,m,n,o),e,q⟩
noncomputable def uU:az:=tab (P:=Tryd.prog) [] [] [] [aeT,agz]
def vN:IR:=Sq (Rs [Mv 4 3,Mv 5 0,Pp (.lens 6 5),Bi 7 .lss 4 6] (Cn 7 .skip (.exit 0))) (Sq (.block 1 (Rs [Mv 10 0,Mv 11 3,Pp (.idx 12 10 11),Ca 13 122 [12],Un 14 13,Mv 15 14,Gt 15 (.mov 16 3),Gt 15 (.bin 17 .eql 16 (kI 0)),Gt 15 (.mov 18 17),Gf 18 (.mov 19 0),Gf 18 (.mov 20 3),Gf 18 (.idx 21 19 20),Gf 18 (.call 22 123 [21]),Gf 18 (.un 23 .not 22),Gt 15 (.pick 24 18 (kB true) 23),Pa 25 15 24] (Cn 25 (Rs [Mb 2 false] .ret) .skip))) (Rg [Mv 8 3,Bc 9 .add 8 1,Mv 3 9]))
def vO:IR:=Rs [Mv 26 0,Pp (.lens 27 26),Bc 28 .gtr 27 0,Mv 2 28] .ret
def ag4:IR:=Rs [Mb 2 false] (Sq (Rs [Mi 3 0] (.block 0 (.loop [0,3,1000000] 0 vN))) vO)
def aaE:List RV:=[.t 2]
theorem ag5:FnC Tryd.prog uU [] 0 abB Tryd.f104 ag4 aaE:=fnC Tryd.func104
def afl(R:IR→(Ex→St→Ro)→St→Ro)(a:St→Ro):Ex→St→Ro:=(bG a [0,3,1000000] 0 (aJ 0 (kseq (R vO) (fin aaE))))
abbrev ov:Type:=(Bs×Int)
def ne:ov→St:=fun(a,b)=>{env:=(.str a::.undef::.undef::.int .i64 b::(U 25 [])),hp:=[]}
def rU(N:Nat):(St→Ro)→St→Ro:=fun a s=>run uU N vN (afl (run uU N) a) s
def oz(N:Nat)(a:ov→Ro):ov→Ro:=fun(b,c)=>
 let d:=(↑(List.length b):Int)
 cond (decide (c<d)) (
 chk (ixl c b) (
 let e:=(↑(UInt8.toNat (List.getD b (Int.toNat c) 0)):Int)
 an (li e) (fun(f:Bool)=>
 cond (!f) (
 cond (c==0) (
 some (.bool false,[])) (
 chk (ixl c b) (
 let g:=(↑(UInt8.toNat (List.getD b (Int.toNat c) 0)):Int)
 an (mz g) (fun(h:Bool)=>
 cond (!h) (
 some (.bool false,[])) (
 let i:=(IntKind.wrap .i64 (c+1))
 a (b,i)))))) (
 let j:=(IntKind.wrap .i64 (c+1))
 a (b,j))))) (
 let k:=(↑(List.length b):Int)
 some (.bool (decide (0<k)),[]))
theorem adT(N:Nat):LB (rU N) ne (oz N):=fun _ _=>by kernel_rfl
def mH(N:Nat)(a:Bs)(b:ov→Ro):Ro:=
 b (a,0)
def aaF(N:Nat)(a:Bs):Ro:=mH N a (fun z=>aP N (oz N) z)
theorem afm(N:Nat)(a:Bs)(h:Tot (aaF N a) (fun z=>∃(c:Bool)(rest:List aq),z.1.dimR=.bool c∧z.2=rest)):∃r,fR a r:=ag5.finP0 (N:=N) ((cd _ (by kernel_rfl) rfl (fun C=>mH N a (fun z=>C 1000000 (ne z))) (fun C=>by kernel_rfl)).trans (Eq.trans (b:=mH N a (fun z=>bd N (rU N) (ne z))) (by kernel_rfl) (congrArg (mH N a) (funext fun z=>be (ne) (rU N) (oz N) (adT N) N z)))) h fun _ ⟨c,_,e,_⟩=>⟨(c),e⟩
noncomputable def afn:az:=tab (P:=Tryd.prog) [] [] [] []
def adU:IR:=Rs [Mb 2 false] (Rs [Mv 3 0,Pp (.bin 4 .geq 3 (.c (.int .u8 97))),Mv 5 4,Gt 5 (.mov 6 0),Gt 5 (.bin 7 .leq 6 (.c (.int .u8 122))),Pa 8 5 7,Mv 9 8,Gf 9 (.mov 10 0),Gf 9 (.bin 11 .geq 10 (.c (.int .u8 65))),Gf 9 (.mov 12 11),Gt 12 (.mov 13 0),Gt 12 (.bin 14 .leq 13 (.c (.int .u8 90))),Gf 9 (.pick 15 12 14 (kB false)),Po 16 9 15,Mv 17 16,Gf 17 (.mov 18 0),Gf 17 (.bin 19 .eql 18 (.c (.int .u8 95))),Po 20 17 19,Mv 2 20] .ret)
def adV:List RV:=[.t 2]
theorem adW:FnC Tryd.prog afn [] 0 xM Tryd.f122 adU adV:=fnC Tryd.func122
def vP(N:Nat)(a:Int):Ro:=
 let b:=(some (.bool (a==95),[]):Ro)
 cond (decide (97≤a)) (
 cond (decide (a≤122)) (
 some (.bool true,[])) (
 cond (decide (65≤a)) (
 cond (decide (a≤90)) (
 some (.bool true,[])) (
 b)) (
 b))) (
 cond (decide (65≤a)) (
 cond (decide (a≤90)) (
 some (.bool true,[])) (
 b)) (
 b))
def vQ(N:Nat)(a:Int):Ro:=vP N a
theorem ac1(N:Nat)(b:Int)(h:Tot (vQ N b) (fun z=>∃(a:Bool)(rest:List aq),z.1.dimR=.bool a∧z.2=rest)):∃r,li b r:=adW.finP0 (N:=N) (by kernel_rfl) h fun _ ⟨a,_,e,_⟩=>⟨(a),e⟩
noncomputable def ag6:az:=tab (P:=Tryd.prog) [] [] [] []
def afo:IR:=Rs [Mb 2 false] (Rs [Mv 3 0,Pp (.bin 4 .geq 3 (.c (.int .u8 48))),Mv 5 4,Gt 5 (.mov 6 0),Gt 5 (.bin 7 .leq 6 (.c (.int .u8 57))),Pa 8 5 7,Mv 2 8] .ret)
def afp:List RV:=[.t 2]
theorem afq:FnC Tryd.prog ag6 [] 0 zN Tryd.f123 afo afp:=fnC Tryd.func123
def yj(N:Nat)(a:Int):Ro:=
 cond (decide (48≤a)) (
 some (.bool (decide (a≤57)),[])) (
 some (.bool false,[]))
def yk(N:Nat)(a:Int):Ro:=yj N a
theorem adX(N:Nat)(b:Int)(h:Tot (yk N b) (fun z=>∃(a:Bool)(rest:List aq),z.1.dimR=.bool a∧z.2=rest)):∃r,mz b r:=afq.finP0 (N:=N) (by kernel_rfl) h fun _ ⟨a,_,e,_⟩=>⟨(a),e⟩
noncomputable def ah0:az:=tab (P:=Tryd.prog) [] [] [] []
def ag7:IR:=Rs [Ms 4 []] (Sq (Rs [Mv 5 0,Pp (.bin 6 .eql 5 (kS [])),Mv 7 6,Gf 7 (.mov 8 1),Gf 7 (.bin 9 .eql 8 (kS [])),Po 10 7 9] (Cn 10 (Rs [Mv 11 0,Mv 12 1,Bi 13 .add 11 12,Mv 4 13] .ret) .skip)) (Rs [Mv 14 0,Pp (.bin 15 .add 14 (kS [46])),Mv 16 1,Bi 17 .add 15 16,Mv 4 17] .ret))
def ag8:List RV:=[.t 4]
theorem ag9:FnC Tryd.prog ah0 [] 0 abC Tryd.f102 ag7 ag8:=fnC Tryd.func102
def aaG(N:Nat)(a b:Bs):Ro:=
 let d:=decide (a=([]:Bs))
 cond d (
 chk (decide (List.length a+List.length b≤9223372036854775807)) (
 some (.str (a++b),[]))) (
 let e:=decide (b=([]:Bs))
 cond e (
 chk (decide (List.length a+List.length b≤9223372036854775807)) (
 some (.str (a++b),[]))) (
 chk (decide (List.length a+List.length ([46]:Bs)≤9223372036854775807)) (
 let c:=(a++([46]:Bs))
 chk (decide (List.length c+List.length b≤9223372036854775807)) (
 some (.str (c++b),[])))))
def aaH(N:Nat)(a b:Bs):Ro:=aaG N a b
theorem afr(N:Nat)(b c:Bs)(h:Tot (aaH N b c) (fun z=>∃(a:Bs)(rest:List aq),z.1.dimR=.str a∧z.2=rest∧mS b c (a))):∃r,nR b c r:=ag9.finP (N:=N) (by kernel_rfl) h fun _ ⟨a,_,e,_,q⟩=>⟨(a),e,q⟩
noncomputable def tg:az:=tab (P:=Tryd.prog) [] [] [] [uD]
def um:IR:=Sq (Rs [Mv 5 4,Mv 6 0,Pp (.lens 7 6),Bi 8 .leq 5 7] (Cn 8 .skip (.exit 0))) (Sq (.block 1 (Sq (Rs [Mv 11 4,Mv 12 0,Pp (.lens 13 12),Bi 14 .lss 11 13,Mv 15 14,Gt 15 (.mov 16 0),Gt 15 (.mov 17 4),Gt 15 (.idx 18 16 17),Gt 15 (.bin 19 .neq 18 (.c (.int .u8 46))),Pa 20 15 19] (Cn 20 (Rs [Mv 21 3,Mv 22 0,Mv 23 4,Mv 24 4,Bc 25 .add 24 1,Pp (.subs 26 22 (some 23) (some 25)),Bi 27 .add 21 26,Mv 3 27] (.exit 1)) .skip)) (Sq (Rs [Mv 28 3,Ca 29 104 [28],Un 30 29] (Cn 30 (Rs [Mb 2 false] .ret) .skip)) (Rg [Ms 3 []])))) (Rg [Mv 9 4,Bc 10 .add 9 1,Mv 4 10]))
def th:IR:=Rs [Mb 2 true] .ret
def afs:IR:=Rs [Mb 2 false] (Rs [Ms 3 []] (Sq (Rs [Mi 4 0] (.block 0 (.loop [0,3,4,1000000] 0 um))) th))
def yl:List RV:=[.t 2]
theorem afu:FnC Tryd.prog tg [] 0 zO Tryd.f103 afs yl:=fnC Tryd.func103
def adY(R:IR→(Ex→St→Ro)→St→Ro)(a:St→Ro):Ex→St→Ro:=(bG a [0,3,4,1000000] 0 (aJ 0 (kseq (R th) (fin yl))))
abbrev ng:Type:=(Bs×Bs×Int)
def lV:ng→St:=fun(a,b,c)=>{env:=(.str a::.undef::.undef::.str b::.int .i64 c::(U 26 [])),hp:=[]}
def qY(N:Nat):(St→Ro)→St→Ro:=fun a s=>run tg N um (adY (run tg N) a) s
def nh(N:Nat)(a:ng→Ro):ng→Ro:=fun(c,d,b)=>
 let g:=(↑(List.length c):Int)
 cond (decide (b≤g)) (
 let h:=(↑(List.length c):Int)
 cond (decide (b<h)) (
 chk (ixl b c) (
 let i:=(↑(UInt8.toNat (List.getD c (Int.toNat b) 0)):Int)
 cond (!(i==46)) (
 let e:=(IntKind.wrap .i64 (b+1))
 chk (decide (0≤e)&&decide (e≤(↑(List.length c):Int))&&(decide (0≤b)&&decide (b≤e))) (
 let f:=(List.drop (Int.toNat b) (List.take (Int.toNat e) c))
 chk (decide (List.length d+List.length f≤9223372036854775807)) (
 let j:=(IntKind.wrap .i64 (b+1))
 a (c,(d++f),j)))) (
 an (fR d) (fun(k:Bool)=>
 cond (!k) (
 some (.bool false,[])) (
 let l:=(IntKind.wrap .i64 (b+1))
 a (c,([]:Bs),l)))))) (
 an (fR d) (fun(m:Bool)=>
 cond (!m) (
 some (.bool false,[])) (
 let n:=(IntKind.wrap .i64 (b+1))
 a (c,([]:Bs),n))))) (
 some (.bool true,[]))
theorem ac2(N:Nat):LB (qY N) lV (nh N):=fun _ _=>by kernel_rfl
def ln(N:Nat)(a:Bs)(b:ng→Ro):Ro:=
 b (a,([]:Bs),0)
def ym(N:Nat)(a:Bs):Ro:=ln N a (fun z=>aP N (nh N) z)
theorem adZ(N:Nat)(a:Bs)(h:Tot (ym N a) (fun z=>∃(c:Bool)(rest:List aq),z.1.dimR=.bool c∧z.2=rest)):∃r,my a r:=afu.finP0 (N:=N) ((cd _ (by kernel_rfl) rfl (fun C=>ln N a (fun z=>C 1000000 (lV z))) (fun C=>by kernel_rfl)).trans (Eq.trans (b:=ln N a (fun z=>bd N (qY N) (lV z))) (by kernel_rfl) (congrArg (ln N a) (funext fun z=>be (lV) (qY N) (nh N) (ac2 N) N z)))) h fun _ ⟨c,_,e,_⟩=>⟨(c),e⟩
end Go.Proofs.YtkinflmjagfapaaDoor
end
noncomputable section
namespace Go.Proofs.YtkinflmjagfapaaDoor
open Go.AM
set_option autoImplicit false
set_option linter.unusedVariables false
set_option linter.unusedSimpArgs false
set_option maxRecDepth 100000
theorem aiU(c:Int):∃r,li c r:=by
 apply ac1 1
 unfold vQ vP
 dsimp only
 repeat' (first|(with_reducible refine au ?_ ?_<;>(intro hb;(try simp only[bnl] at hb);(try revert hb;intro _)))|with_reducible refine aA ?_ ?_|with_reducible refine ar ?_|fail)
 all_goals exact⟨_,_,rfl,rfl⟩
theorem ajH(c:Int):∃r,mz c r:=by
 apply adX 1
 unfold yk yj
 repeat' (first|(with_reducible refine au ?_ ?_<;>(intro hb;(try simp only[bnl] at hb);(try revert hb;intro _)))|with_reducible refine aA ?_ ?_|with_reducible refine ar ?_|fail)
 all_goals exact⟨_,_,rfl,rfl⟩
theorem xw(s:List UInt8)(hs:s.length≤1000000):∃r,fR s r:=by
 apply afm 2000000
 unfold aaF mH
 refine aX (fun x=>x.1=s∧0≤x.2∧x.2≤(s.length:Int)) (fun x=>((s.length:Int)-x.2).toNat) ?_ _ _ ⟨rfl,by simp,by simp⟩ (by simp;omega)
 rintro again ⟨a,i⟩ ⟨rfl,i1,i2⟩ ih
 simp only at i1 i2 ih hs ⊢
 have next:i<a.length→Tot (again (a,IntKind.i64.wrap (i+1))) _:=fun h=>ih (a,IntKind.i64.wrap (i+1)) (by simp only[ay (i+1) (by omega)];exact⟨trivial,by omega,by omega⟩) (by simp only[ay (i+1) (by omega)];omega)
 unfold oz
 dsimp only
 repeat' (first|(with_reducible refine au ?_ ?_<;>(intro hb;(try simp only[bnl] at hb);(try revert hb;intro _)))|with_reducible refine aA ?_ ?_|with_reducible refine ar ?_|(refine ao (aiU _) ?_;intro _ _)|(refine ao (ajH _) ?_;intro _ _)|(exact next (by assumption))|fail)
 all_goals first|exact⟨_,_,rfl,rfl⟩|(simp only[bnl];omega)
theorem akt(a b:List UInt8)(ha:a.length≤1000000)(hb:b.length≤1000000):∃r,nR a b r:=by
 apply afr 1
 unfold aaH aaG
 dsimp only
 repeat' (first|(with_reducible refine au ?_ ?_<;>(intro hb;(try simp only[bnl] at hb);(try revert hb;intro _)))|with_reducible refine aA ?_ ?_|with_reducible refine ar ?_|fail)
 all_goals first|exact⟨_,_,rfl,rfl,by simp only[mS,List.length_append,List.length_cons,List.length_nil];omega⟩|(simp only[bnl,List.length_append,List.length_cons,List.length_nil];omega)
theorem ajI(s:List UInt8)(hs:s.length≤1000000):∃r,my s r:=by
 apply adZ 2000000
 unfold ym ln
 refine aX (fun x=>x.1=s∧0≤x.2.2∧x.2.2≤(s.length:Int)+1∧(x.2.1.length:Int)≤x.2.2) (fun x=>((s.length:Int)+1-x.2.2).toNat) ?_ _ _ ⟨rfl,by simp,by simp;omega,by simp⟩ (by simp;omega)
 rintro again ⟨a,p,i⟩ ⟨rfl,i1,i2,i3⟩ ih
 simp only at i1 i2 i3 ih hs ⊢
 have next:∀q:List UInt8,i≤a.length→(q.length:Int)≤i+1→Tot (again (a,q,IntKind.i64.wrap (i+1))) _:=fun q h hq=>ih (a,q,IntKind.i64.wrap (i+1)) (by simp only[ay (i+1) (by omega)];exact⟨trivial,by omega,by omega,by omega⟩) (by simp only[ay (i+1) (by omega)];omega)
 unfold nh
 dsimp only
 repeat' (first|(with_reducible refine au ?_ ?_<;>(intro hb;(try simp only[bnl] at hb);(try revert hb;intro _)))|with_reducible refine aA ?_ ?_|with_reducible refine ar ?_|(refine ao (xw _ (by omega)) ?_;intro _ _)|fail)
 all_goals first|exact⟨_,_,rfl,rfl⟩|(refine next _ (by omega) ?_)|skip
 all_goals try simp(disch:=omega) only[jo,bnl,List.length_append,List.length_cons,List.length_nil,List.length_drop,List.length_take]
 all_goals first|omega|skip
theorem lB(k n:Int)(s:List UInt8)(l:List ak)(names:List (List UInt8))(name:List UInt8)(hl:names.length≤1000):∃r,cf k n s l names name r:=by
 apply ag3 2000
 unfold abL od
 refine aX (fun x=>x.1=name∧x.2.1=k∧x.2.2.2.2.1=l∧x.2.2.2.2.2.1=names∧0≤x.2.2.2.2.2.2.1∧x.2.2.2.2.2.2.1≤(names.length:Int)∧∀j:Nat,(j:Int)<x.2.2.2.2.2.2.1→names.getD j []≠name)
  (fun x=>((names.length:Int)-x.2.2.2.2.2.2.1).toNat) ?_ _ _ ⟨rfl,rfl,rfl,rfl,by simp,by simp,fun j hj=>by simp at hj;omega⟩ (by simp;omega)
 rintro again ⟨a0,a1,a2,a3,a4,a5,i,b0,b1,b2,b3,b4⟩ ⟨rfl,rfl,rfl,rfl,i1,i2,i3⟩ ih
 simp only at i1 i2 i3 ih hl ⊢
 unfold p9
 dsimp only
 repeat' (first|(with_reducible refine au ?_ ?_<;>(intro hb;(try simp only[bnl] at hb);(try revert hb;intro _)))|with_reducible refine aA ?_ ?_|with_reducible refine ar ?_|fail)
 ·simp only[bnl];omega
 ·simp only[bnl];omega
 ·rename_i hk hb hc hb2
  have e:=agY (names:=a5) (l:=a4) (name:=a0) (i:=i.toNat) (by omega) (by omega) (fun j hj=>i3 j (by omega)) hb2
  refine⟨_,_,_,_,_,_,_,rfl,rfl,?_⟩
  simp only[bS]
  rw[if_pos hk,e];rfl
 ·rename_i hk hb hc hb2
  have ew:=ay (i+1) (by omega)
  refine ih _ ⟨rfl,rfl,rfl,rfl,?_,?_,?_⟩ ?_
  ·simp only[ew];omega
  ·simp only[ew];omega
  ·simp only[ew]
   intro j hj
   by_cases e:(j:Int)=i
   ·have:i.toNat=j:=by omega
    rw[this] at hb2
    exact hb2
   ·exact i3 j (by omega)
  ·simp only[ew];omega
 ·rename_i hk hb hc
  refine⟨_,_,_,_,_,_,_,rfl,rfl,?_⟩
  simp only[bS]
  rw[if_pos hk,aaD (i:=i.toNat) (fun j hj=>i3 j (by omega)) (.inr (by omega))]
  rfl
 ·rename_i hk hb
  refine⟨_,_,_,_,_,_,_,rfl,rfl,?_⟩
  simp only[bS]
  rw[if_pos hk,aaD (i:=i.toNat) (fun j hj=>i3 j (by omega)) (.inl (by omega))]
  rfl
 ·rename_i hk
  refine⟨_,_,_,_,_,_,_,rfl,rfl,?_⟩
  simp only[bS]
  rw[if_neg hk];rfl
end Go.Proofs.YtkinflmjagfapaaDoor
end
noncomputable section
namespace Go.Proofs.YtkinflmjagfapaaDoor
open Go.AM
set_option autoImplicit false
set_option linter.unusedVariables false
set_option linter.unusedSimpArgs false
set_option maxRecDepth 100000
theorem nz{e c:Int}(hc:c≠0):(if e=0 then c else e)≠0:=by split<;>assumption
theorem aiV(s:List UInt8)(hs:s.length≤1000000):∃r,kc s r:=by
 apply acf 2000000
 unfold ui jy
 dsimp only
 refine aX (fun x=>x.1=s∧ -1≤x.2∧x.2<(s.length:Int)) (fun x=>(x.2+1).toNat) ?_ _ _ ⟨rfl,by simp only[ay ((s.length:Int)-1) (by omega)];omega,by simp only[ay ((s.length:Int)-1) (by omega)];omega⟩ (by simp only[ay ((s.length:Int)-1) (by omega)];omega)
 rintro again ⟨s,i⟩ ⟨rfl,i1,i2⟩ ih
 simp only at i1 i2 ih hs ⊢
 have e:=ay (i-1) (by omega)
 unfold kP
 dsimp only
 repeat' (first|(with_reducible refine au ?_ ?_<;>(intro hb;(try simp only[bnl] at hb);(try revert hb;intro _)))|with_reducible refine aA ?_ ?_|with_reducible refine ar ?_|fail)
 ·first|(simp only[bnl,lnl];done)|(simp only[bnl,lnl];omega)
 ·first|(simp only[bnl,lnl];done)|(simp only[bnl,lnl];omega)
 ·exact⟨_,_,rfl,rfl,by simp only[hC,List.length_drop,List.length_take];omega⟩
 ·exact ih (s,_) ⟨rfl,by simp only[e];omega,by simp only[e];omega⟩ (by simp only[e];omega)
 ·exact⟨_,_,rfl,rfl,by simp[hC]⟩
theorem alh(ts:List am)(t:Int):∃r,lA ts t r:=by
 apply ae6 1
 unfold aan aam
 dsimp only
 repeat' (first|(with_reducible refine au ?_ ?_<;>(intro hb;(try simp only[bnl] at hb);(try revert hb;intro _)))|with_reducible refine aA ?_ ?_|with_reducible refine ar ?_|(refine ao (ag0 _) ?_;intro _ _)|fail)
 all_goals first|exact⟨_,_,rfl,rfl⟩|(first|(simp only[bnl,lnl];done)|(simp only[bnl,lnl];omega))
theorem aeE(ts:List am)(e:Int)(name space:List UInt8)(h1:name.length≤100)(h2:space.length≤10000):∃r,dy ts e name space r:=by
 apply vw 2000
 unfold pS eA
 refine ao (akt _ _ (by omega) (by omega)) ?_
 rintro j ⟨-,hj⟩
 dsimp only[mS] at hj ⊢
 refine aX (fun x=>x.1=name∧x.2.1.length≤name.length+space.length+1∧0≤x.2.2.1∧x.2.2.1≤(name.length:Int)∧x.2.2.2.1=ts∧x.2.2.2.2=e) (fun x=>((name.length:Int)-x.2.2.1).toNat) ?_ _ _ ⟨rfl,by simp only;omega,by simp,by simp,rfl,rfl⟩ (by simp;omega)
 rintro again ⟨name,w,i,ts,e⟩ ⟨rfl,i0,i1,i2,rfl,rfl⟩ ih
 simp only at i0 i1 i2 ih h1 hj ⊢
 have ew:i<name.length→IntKind.i64.wrap (i+1)=i+1:=fun h=>ay (i+1) (by omega)
 unfold gB
 dsimp only
 have next:∀q:List UInt8,i<name.length→q.length≤name.length+space.length+1→Tot (again (name,q,IntKind.i64.wrap (i+1),ts,e)) _:=fun q h hq=>ih (name,q,IntKind.i64.wrap (i+1),ts,e)
  (by simp only[ew h];exact⟨trivial,hq,by omega,by omega,trivial,trivial⟩) (by simp only[ew h];omega)
 repeat' (first|(with_reducible refine au ?_ ?_<;>(intro hb;(try simp only[bnl] at hb);(try revert hb;intro _)))|with_reducible refine aA ?_ ?_|with_reducible refine ar ?_|(refine ao (bB _ _ _) ?_;rintro _ ⟨-,rfl⟩;try dsimp only)|(refine ao (ajI _ (by omega)) ?_;intro _ _)|fail)
 all_goals first|(first|(simp only[bnl,lnl];done)|(simp only[bnl,lnl];omega))|(refine next _ (by omega) (by omega))|skip
 ·refine⟨_,_,_,_,rfl,rfl,?_,rfl,fun h=>absurd h (nz (by decide))⟩
  simp only
  omega
 ·refine⟨_,_,_,_,rfl,rfl,?_,rfl,fun h=>absurd h (nz (by decide))⟩
  simp only
  omega
 ·refine⟨_,_,_,_,rfl,rfl,?_,rfl,fun h=>h⟩
  simp only
  omega
theorem acj(ts:List am)(e c0 c1:Int)(c2:List UInt8)(c3:List ak)(c4:List (List UInt8))(name:List UInt8)(must:Bool)(h:bO (.mk c0 c1 c2 c3 c4)):∃r,cE ts e c0 c1 c2 c3 c4 name must r:=by
 obtain⟨k1,k2,k3,k4,k5,k6⟩:=h.kids
 apply w6 1
 unfold qD qC
 dsimp only
 refine ao (lB _ _ _ _ _ _ (by omega)) ?_
 rintro r ⟨-,hr⟩
 have hg:=pf (k:=c0) (names:=c4) (name:=name) k6
 simp only[bS] at hr
 rw[←hr] at hg
 obtain⟨g1,g2,g3,g4,g5,g6⟩:=hg.kids
 have gn:name=[110,97,109,101]→dZ r.2.2.1:=by
  rintro rfl
  rw[hr]
  split
  ·cases hq:cr c4 c3 [110,97,109,101] with
   |none=>simp[d6,dZ]
   |some c=>exact h.named hq
  ·simp[d6,dZ]
 repeat' (first|(with_reducible refine au ?_ ?_<;>(intro hb;(try simp only[bnl] at hb);(try revert hb;intro _)))|with_reducible refine aA ?_ ?_|with_reducible refine ar ?_|(refine ao (bB _ _ _) ?_;rintro _ ⟨-,rfl⟩;try dsimp only)|fail)
 all_goals first|exact⟨_,_,_,_,rfl,rfl,⟨g1,gn⟩,rfl,fun h=>h⟩|exact⟨_,_,_,_,rfl,rfl,⟨Nat.zero_le _,fun _=>by simp[dZ]⟩,rfl,fun h=>h⟩|exact⟨_,_,_,_,rfl,rfl,⟨Nat.zero_le _,fun _=>by simp[dZ]⟩,rfl,fun h=>absurd h (nz (by decide))⟩
theorem aaI(ts:List am)(e c0 c1:Int)(c2:List UInt8)(c3:List ak)(c4:List (List UInt8))(name:List UInt8)(h:bO (.mk c0 c1 c2 c3 c4)):∃r,bW ts e c0 c1 c2 c3 c4 name r:=by
 obtain⟨k1,k2,k3,k4,k5,k6⟩:=h.kids
 apply vy 2000
 unfold pU eB
 refine ao (lB _ _ _ _ _ _ (by omega)) ?_
 rintro r ⟨-,hr⟩
 have hg:=pf (k:=c0) (names:=c4) (name:=name) k6
 simp only[bS] at hr
 rw[←hr] at hg
 obtain⟨d0,d1,d2,l,d4,d5⟩:=r
 obtain⟨g1,g2,g3,g4,g5,g6⟩:=hg.kids
 dsimp only at g2 g6 ⊢
 have loop:∀e1:Int,(e1=0→e=0)→Tot (aP 2000 (dS 2000) (d0,d1,d2,l,d4,[],0,ts,e1)) (fun z=>∃(y0:List (List UInt8))(y1:Bool)(y2:List am)(y3:Int)(rest:List aq),z.1.dimR=.tup [.sl .str (.may false) y0,.bool y1]∧z.2=some [.ul .atype y2,.int .i64 y3]::rest∧jG ts e c0 c1 c2 c3 c4 name (y0,y1,y2,y3)):=by
  intro e1 he1
  refine aX (fun x=>x.2.2.2.1=l∧(x.2.2.2.2.2.1.length:Int)=x.2.2.2.2.2.2.1∧x.2.2.2.2.2.2.1≤(l.length:Int)∧bu x.2.2.2.2.2.1∧x.2.2.2.2.2.2.2.1=ts∧(x.2.2.2.2.2.2.2.2=0→e=0)) (fun x=>((l.length:Int)-x.2.2.2.2.2.2.1).toNat) ?_ _ _ ⟨rfl,rfl,by simp,by simp[bu],rfl,he1⟩ (by simp;omega)
  rintro again ⟨d0,d1,d2,l,d4,out,i,ts,e1⟩ ⟨rfl,i1,i2,i3,rfl,i4⟩ ih
  simp only at i1 i2 i3 i4 ih g2 g6 ⊢
  have ew:i<l.length→IntKind.i64.wrap (i+1)=i+1:=fun h=>ay (i+1) (by omega)
  unfold dS
  dsimp only
  have next:∀e2:Int,i<l.length→(e2=0→e=0)→Tot (again (d0,d1,d2,l,d4,out++[(List.getD l (Int.toNat i) (av .jnode)).s],IntKind.i64.wrap (i+1),ts,e2)) _:=fun e2 h hq=>ih (d0,d1,d2,l,d4,out++[(List.getD l (Int.toNat i) (av .jnode)).s],IntKind.i64.wrap (i+1),ts,e2)
   (by
    simp only[ew h,List.length_append,List.length_cons,List.length_nil]
    refine⟨trivial,by omega,by omega,?_,trivial,hq⟩
    intro x hx
    rcases List.mem_append.1 hx with hx|hx
    ·exact i3 x hx
    ·simp only[List.mem_singleton] at hx
     subst hx
     exact(bO.eta.2 (bO.getD g6 i.toNat)).kids.1) (by simp only[ew h];omega)
  repeat' (first|(with_reducible refine au ?_ ?_<;>(intro hb;(try simp only[bnl] at hb);(try revert hb;intro _)))|with_reducible refine aA ?_ ?_|with_reducible refine ar ?_|(refine ao (bB _ _ _) ?_;rintro _ ⟨-,rfl⟩;try dsimp only)|fail)
  all_goals first|(first|(simp only[bnl,lnl];done)|(simp only[bnl,lnl];omega))|(refine next _ (by omega) ?_)|skip
  ·exact fun h=>absurd h (nz (by decide))
  ·exact i4
  ·exact⟨_,_,_,_,_,rfl,rfl,by simp only;omega,i3,rfl,i4⟩
  ·exact⟨_,_,_,_,_,rfl,rfl,by simp only;omega,i3,rfl,i4⟩
 repeat' (first|(with_reducible refine au ?_ ?_<;>(intro hb;(try simp only[bnl] at hb);(try revert hb;intro _)))|with_reducible refine aA ?_ ?_|with_reducible refine ar ?_|(refine ao (bB _ _ _) ?_;rintro _ ⟨-,rfl⟩;try dsimp only)|fail)
 ·exact⟨_,_,_,_,_,rfl,rfl,by simp,by simp[bu],rfl,fun h=>h⟩
 ·exact loop _ fun h=>absurd h (nz (by decide))
 ·exact loop _ fun h=>h
theorem At.found{ts:List am}{a:Int}(h:0≤a∧a<ts.length∧(ts.getD a.toNat (av .atype)).kind≤11):At ts 1 a ts:=by
 obtain⟨h1,h2,h3⟩:=h
 have hl:a.toNat<ts.length:=by omega
 rw[List.getD_eq_getElem?_getD,List.getElem?_eq_getElem hl] at h3
 exact At.leaf (Nat.le_refl _) h1 (List.getElem?_eq_getElem hl) h3 (fun hn=>by subst hn;simp at hl)
theorem aeF(ts:List am)(e:Int)(s space:List UInt8)(h:ts.length≤60)(h1:s.length≤100)(h2:space.length≤10000):∃r,dO ts e s space r:=by
 apply xd 2000
 unfold qF fy
 have loop:Tot (aP 2000 (eD 2000) (s,space,false,0,ts,e)) (fun z=>∃(y0:Int)(y1:List am)(y2:Int)(rest:List aq),z.1.dimR=.int .i64 y0∧z.2=some [.ul .atype y1,.int .i64 y2]::rest∧ka ts e s space (y0,y1,y2)):=by
  refine aX (fun x=>x.1=s∧x.2.1=space∧0≤x.2.2.2.1∧x.2.2.2.1≤(s.length:Int)∧x.2.2.2.2.1=ts∧x.2.2.2.2.2=e) (fun x=>((s.length:Int)-x.2.2.2.1).toNat) ?_ _ _ ⟨rfl,rfl,by simp,by simp,rfl,rfl⟩ (by simp;omega)
  rintro again ⟨s,space,d,i,ts,e⟩ ⟨rfl,rfl,i1,i2,rfl,rfl⟩ ih
  simp only at i1 i2 ih h h1 h2 ⊢
  have ew:i<s.length→IntKind.i64.wrap (i+1)=i+1:=fun h=>ay (i+1) (by omega)
  unfold eD
  dsimp only
  have next:∀b:Bool,i<s.length→Tot (again (s,space,b,IntKind.i64.wrap (i+1),ts,e)) _:=fun b h=>ih (s,space,b,IntKind.i64.wrap (i+1),ts,e)
   (by simp only[ew h];exact⟨trivial,trivial,by omega,by omega,trivial,trivial⟩) (by simp only[ew h];omega)
  repeat' (first|(with_reducible refine au ?_ ?_<;>(intro hb;(try simp only[bnl] at hb);(try revert hb;intro _)))|with_reducible refine aA ?_ ?_|with_reducible refine ar ?_|(refine ao (bB _ _ _) ?_;rintro _ ⟨-,rfl⟩;try dsimp only)|(refine ao (ag1 _ _ _ h) ?_;rintro⟨a,b,ts',e'⟩ ⟨-,hq,hf⟩;simp only[Prod.mk.injEq] at hq;obtain⟨rfl,rfl⟩:=hq;dsimp only at hf ⊢)|fail)
  all_goals first|(first|(simp only[bnl,lnl];done)|(simp only[bnl,lnl];omega))|(refine next _ (by omega))|exact⟨_,_,_,_,rfl,rfl,aT.bad h (nz (by decide)),fun h=>absurd h (nz (by decide))⟩|exact⟨_,_,_,_,rfl,rfl,aT.refl h,fun _=>At.found (hf (by assumption))⟩
 refine ao (aci _) ?_
 rintro(k:Int) ⟨-,hk1,hk2,hk3, -⟩
 repeat' (first|(with_reducible refine au ?_ ?_<;>(intro hb;(try simp only[bnl] at hb);(try revert hb;intro _)))|with_reducible refine aA ?_ ?_|with_reducible refine ar ?_|(refine ao (aa1 _ _ _ _ _ _ _ _ _ _ _ _ h) ?_;rintro _ ⟨-,rfl⟩;try dsimp only)|fail)
 ·by_cases hl:60≤ts.length
  ·skip
   simp only[if_pos hl]
   exact⟨_,_,_,_,rfl,rfl,aT.bad h (nz (by decide)),fun h=>absurd h (nz (by decide))⟩
  ·simp only[if_neg hl]
   exact⟨_,_,_,_,rfl,rfl,aT.push (by omega) _ ⟨by simp only;omega,by simp,by simp,by simp,by simp,by simp,by simp,(by simp only;omega),by simp,by simp,fun _=>rfl⟩ rfl,fun _=>At.leaf (Nat.le_refl _) (by omega) (by rw[Int.toNat_natCast,List.getElem?_append_right (Nat.le_refl _),Nat.sub_self];rfl) (by simp only;omega) (fun h=>by rw[h];rfl)⟩
 ·exact loop
 ·exact loop
end Go.Proofs.YtkinflmjagfapaaDoor
end
noncomputable section
namespace Go.Proofs.YtkinflmjagfapaaDoor
open Go.AM
set_option autoImplicit false
set_option linter.unusedVariables false
set_option linter.unusedSimpArgs false
set_option maxRecDepth 100000
theorem kv{α:Type}{l:List α}{i:Nat}{x d:α}(h:l[i]? =some x):l.getD i d=x:=by
 rw[List.getD_eq_getElem?_getD,h];rfl
theorem ah1{α:Type}{l:List α}{i:Nat}{x d:α}(h:i<l.length):(l.set i x).getD i d=x:=kv (List.getElem?_set_self h)
theorem amf{l:List (List UInt8)}{i:Int}{d:List UInt8}(h:0≤i∧i<(l.length:Int))(e:l.getD i.toNat (av .str)=d):d∈l:=by
 subst e
 rw[List.getD_eq_getElem?_getD,List.getElem?_eq_getElem (show i.toNat<l.length by omega)]
 exact List.getElem_mem _
theorem ah2(ts:List am)(e c0 c1:Int)(c2:List UInt8)(c3:List ak)(c4:List (List UInt8))(at_:Int)(h:bO (.mk c0 c1 c2 c3 c4))(hat:e=0→0≤at_∧at_<ts.length):∃r,dP ts e c0 c1 c2 c3 c4 at_ r:=by
 obtain⟨k1,k2,k3,k4,k5,k6⟩:=h.kids
 apply tK 2000
 unfold nZ dE
 dsimp only
 refine ao (aaI _ _ _ _ _ _ _ _ h) ?_
 rintro⟨l,is,ts',e1⟩ ⟨-,h1,h2,rfl,h3⟩
 dsimp only at h1 h2 h3 hat ⊢
 have loop2:∀(hd:Bool)(d:List UInt8)(e1:Int),(e1=0→e=0)→Tot (aP 2000 (cH 2000) (at_,l,hd,d,false,0,ts',e1)) (fun z=>∃(y0:List am)(y1:Int)(rest:List aq),z.1.dimR=.tup []∧z.2=some [.ul .atype y0,.int .i64 y1]::rest∧ct ts' e c0 c1 c2 c3 c4 at_ (y0,y1)):=by
  intro hd d e1 he1
  refine aX (fun x=>match x with|(a,l',hd',d',b,i,ts2,e2)=>a=at_∧l'=l∧hd'=hd∧d'=d∧0≤i∧i≤(l.length:Int)∧ts2=ts'∧e2=e1∧(b=true→d'∈l')) (fun x=>((l.length:Int)-x.2.2.2.2.2.1).toNat) ?_ _ _ ⟨rfl,rfl,rfl,rfl,by simp,by simp,rfl,rfl,by simp⟩ (by simp;omega)
  rintro again ⟨a,l',hd',d',b,i,ts2,e2⟩ ⟨rfl,rfl,rfl,rfl,i1,i2,rfl,rfl,ib⟩ ih
  dsimp only at ih
  have ew:i<l'.length→IntKind.i64.wrap (i+1)=i+1:=fun h=>ay (i+1) (by omega)
  have next:∀b:Bool,i<l'.length→(b=true→d'∈l')→Tot (again (a,l',hd',d',b,IntKind.i64.wrap (i+1),ts2,e2)) _:=fun b h hb=>ih (a,l',hd',d',b,IntKind.i64.wrap (i+1),ts2,e2)
   (by simp only[ew h];exact⟨trivial,trivial,trivial,trivial,by omega,by omega,trivial,trivial,hb⟩) (by simp only[ew h];omega)
  unfold cH
  dsimp only
  have fin:∀(h0:e2=0)(hdd:hd'=true→d'∈l')(e3:Int),e3=e2→ct ts2 e c0 c1 c2 c3 c4 a (List.set (List.set (List.set ts2 (Int.toNat a) (let e_:=List.getD ts2 (Int.toNat a) (av .atype);⟨(e_).kind,(e_).name,(e_).aliases,(e_).items,l',(e_).hasdef,(e_).df,(e_).size,(e_).fields,(e_).branches⟩)) (Int.toNat a) (let e_:=List.getD (List.set ts2 (Int.toNat a) (let e_:=List.getD ts2 (Int.toNat a) (av .atype);⟨(e_).kind,(e_).name,(e_).aliases,(e_).items,l',(e_).hasdef,(e_).df,(e_).size,(e_).fields,(e_).branches⟩)) (Int.toNat a) (av .atype);⟨(e_).kind,(e_).name,(e_).aliases,(e_).items,(e_).syms,hd',(e_).df,(e_).size,(e_).fields,(e_).branches⟩)) (Int.toNat a) (let e_:=List.getD (List.set (List.set ts2 (Int.toNat a) (let e_:=List.getD ts2 (Int.toNat a) (av .atype);⟨(e_).kind,(e_).name,(e_).aliases,(e_).items,l',(e_).hasdef,(e_).df,(e_).size,(e_).fields,(e_).branches⟩)) (Int.toNat a) (let e_:=List.getD (List.set ts2 (Int.toNat a) (let e_:=List.getD ts2 (Int.toNat a) (av .atype);⟨(e_).kind,(e_).name,(e_).aliases,(e_).items,l',(e_).hasdef,(e_).df,(e_).size,(e_).fields,(e_).branches⟩)) (Int.toNat a) (av .atype);⟨(e_).kind,(e_).name,(e_).aliases,(e_).items,(e_).syms,hd',(e_).df,(e_).size,(e_).fields,(e_).branches⟩)) (Int.toNat a) (av .atype);⟨(e_).kind,(e_).name,(e_).aliases,(e_).items,(e_).syms,(e_).hasdef,d',(e_).size,(e_).fields,(e_).branches⟩),e3):=by
   rintro h0 hdd e3 rfl
   have ha:=hat (he1 h0)
   have hl:a.toNat<ts2.length:=by omega
   refine⟨he1,fun h=>absurd h0 h,fun _=>⟨l',hd',d',h1,h2,ts2[a.toNat],List.getElem?_eq_getElem hl,?_⟩⟩
   have g:∀x:am,(ts2.set a.toNat x).getD a.toNat (av .atype)=x:=fun x=>ah1 hl
   have g0:ts2.getD a.toNat (av .atype)=ts2[a.toNat]:=kv (List.getElem?_eq_getElem hl)
   simp only[List.set_set,g,g0]
  repeat' (first|(with_reducible refine au ?_ ?_<;>(intro hb;(try simp only[bnl] at hb);(try revert hb;intro _)))|with_reducible refine aA ?_ ?_|with_reducible refine ar ?_|(refine ao (bB _ _ _) ?_;rintro _ ⟨-,rfl⟩;try dsimp only)|fail)
  all_goals first|(refine next _ (by omega) (fun hh=>?_);first|exact ib (by assumption)|exact amf (by omega) (of_decide_eq_true hh))|skip
  all_goals have hat':e2=0→0≤a∧a<ts2.length:=fun h=>hat (he1 h)
  all_goals first|(first|(simp only[bnl,lnl];done)|(simp only[bnl,lnl];omega))|skip
  all_goals first|exact⟨_,_,_,rfl,rfl,he1,fun _=>rfl,fun h=>absurd h (by assumption)⟩|exact⟨_,_,_,rfl,rfl,fun h=>absurd h (nz (by decide)),fun _=>rfl,fun h=>absurd h (nz (by decide))⟩|exact⟨_,_,_,rfl,rfl,fin (by assumption) (fun hh=>by first|exact ib (by assumption)|exact ib (by simpa using (by assumption:(!b)=false))|(exfalso;simp_all)) _ rfl⟩|(exfalso;exact nz (by decide) (by assumption))|skip
 have loop1:∀(e1:Int),(e1=0→e=0)→Tot (aP 2000 (dk 2000) (at_,c0,c1,c2,c3,c4,l,0,ts',e1)) (fun z=>∃(y0:List am)(y1:Int)(rest:List aq),z.1.dimR=.tup []∧z.2=some [.ul .atype y0,.int .i64 y1]::rest∧ct ts' e c0 c1 c2 c3 c4 at_ (y0,y1)):=by
  intro e1 he1
  refine aX (fun x=>match x with|(a,d0,d1,d2,d3,d4,l',i,ts2,e2)=>a=at_∧d0=c0∧d1=c1∧d2=c2∧d3=c3∧d4=c4∧l'=l∧0≤i∧i≤(l.length:Int)∧ts2=ts'∧(e2=0→e=0)) (fun x=>((l.length:Int)-x.2.2.2.2.2.2.2.1).toNat) ?_ _ _ ⟨rfl,rfl,rfl,rfl,rfl,rfl,rfl,by simp,by simp,rfl,he1⟩ (by simp;omega)
  rintro again ⟨a,d0,d1,d2,d3,d4,l',i,ts2,e2⟩ ⟨rfl,rfl,rfl,rfl,rfl,rfl,rfl,i1,i2,rfl,i3⟩ ih
  dsimp only at ih
  have ew:i<l'.length→IntKind.i64.wrap (i+1)=i+1:=fun h=>ay (i+1) (by omega)
  have next:∀e2:Int,i<l'.length→(e2=0→e=0)→Tot (again (a,d0,d1,d2,d3,d4,l',IntKind.i64.wrap (i+1),ts2,e2)) _:=fun e2 h he=>ih (a,d0,d1,d2,d3,d4,l',IntKind.i64.wrap (i+1),ts2,e2)
   (by simp only[ew h];exact⟨trivial,trivial,trivial,trivial,trivial,trivial,trivial,by omega,by omega,trivial,he⟩) (by simp only[ew h];omega)
  have inner:∀e2:Int,i<l'.length→(e2=0→e=0)→Tot (aP 2000 (cG 2000 again) (a,d0,d1,d2,d3,d4,l',i,0,ts2,e2)) (fun z=>∃(y0:List am)(y1:Int)(rest:List aq),z.1.dimR=.tup []∧z.2=some [.ul .atype y0,.int .i64 y1]::rest∧ct ts2 e d0 d1 d2 d3 d4 a (y0,y1)):=by
   intro e2 hi he
   refine aX (fun x=>match x with|(a',b0,b1,b2,b3,b4,l2,i',k,ts3,e3)=>a'=a∧b0=d0∧b1=d1∧b2=d2∧b3=d3∧b4=d4∧l2=l'∧i'=i∧0≤k∧k≤i∧ts3=ts2∧(e3=0→e=0)) (fun x=>(i-x.2.2.2.2.2.2.2.2.1).toNat) ?_ _ _ ⟨rfl,rfl,rfl,rfl,rfl,rfl,rfl,rfl,by simp,i1,rfl,he⟩ (by simp only;omega)
   rintro again1 ⟨a',b0,b1,b2,b3,b4,l2,i',k,ts3,e3⟩ ⟨rfl,rfl,rfl,rfl,rfl,rfl,rfl,rfl,j1,j2,rfl,j3⟩ ih1
   dsimp only at ih1
   have ek:k<i'→IntKind.i64.wrap (k+1)=k+1:=fun h=>ay (k+1) (by omega)
   have next1:∀e2:Int,k<i'→(e2=0→e=0)→Tot (again1 (a',b0,b1,b2,b3,b4,l2,i',IntKind.i64.wrap (k+1),ts3,e2)) _:=fun e2 h he=>ih1 (a',b0,b1,b2,b3,b4,l2,i',IntKind.i64.wrap (k+1),ts3,e2)
    (by simp only[ek h];exact⟨trivial,trivial,trivial,trivial,trivial,trivial,trivial,trivial,by omega,by omega,trivial,he⟩) (by simp only[ek h];omega)
   unfold cG
   dsimp only
   repeat' (first|(with_reducible refine au ?_ ?_<;>(intro hb;(try simp only[bnl] at hb);(try revert hb;intro _)))|with_reducible refine aA ?_ ?_|with_reducible refine ar ?_|(refine ao (bB _ _ _) ?_;rintro _ ⟨-,rfl⟩;try dsimp only)|fail)
   all_goals first|(first|(simp only[bnl,lnl];done)|(simp only[bnl,lnl];omega))|exact next1 _ (by omega) j3|exact next1 _ (by omega) (fun h=>absurd h (nz (by decide)))|exact next _ hi j3
  unfold dk eC
  dsimp only
  repeat' (first|(with_reducible refine au ?_ ?_<;>(intro hb;(try simp only[bnl] at hb);(try revert hb;intro _)))|with_reducible refine aA ?_ ?_|with_reducible refine ar ?_|(refine ao (bB _ _ _) ?_;rintro _ ⟨-,rfl⟩;try dsimp only)|(refine ao (xw _ ?_) ?_;rotate_left;intro _ _)|(refine ao (lB _ _ _ _ _ _ (by omega)) ?_;intro _ _)|(refine ao (acj _ _ _ _ _ _ _ _ _ h) ?_;rintro⟨w,ts4,e4⟩ ⟨-,w1,rfl,w2⟩;dsimp only at w2 ⊢)|fail)
  all_goals first|(first|(simp only[bnl,lnl];done)|(simp only[bnl,lnl];omega))|exact inner _ (by omega) i3|exact inner _ (by omega) (fun h=>absurd h (nz (by decide)))|exact loop2 _ _ _ (fun h=>i3 (w2 h))|skip
  ·have:(l'.getD i.toNat (av .str)).length≤100:=by
    rw[List.getD_eq_getElem?_getD]
    cases hq:l'[i.toNat]? with
    |none=>exact Nat.zero_le _
    |some y=>exact h2 y (List.mem_of_getElem? hq)
   omega
 have nz':∀{e c:Int},c≠0→(if e=0 then c else e)=0→∀{p:Prop},p:=fun hc h=>absurd h (nz hc)
 repeat' (first|(with_reducible refine au ?_ ?_<;>(intro hb;(try simp only[bnl] at hb);(try revert hb;intro _)))|with_reducible refine aA ?_ ?_|with_reducible refine ar ?_|(refine ao (bB _ _ _) ?_;rintro _ ⟨-,rfl⟩;try dsimp only)|fail)
 all_goals first|exact loop1 _ (fun h=>absurd h (nz (by decide)))|skip
 all_goals exact loop1 _ h3
end Go.Proofs.YtkinflmjagfapaaDoor
end
noncomputable section
namespace Go.Proofs.YtkinflmjagfapaaDoor
open Go.AM
set_option autoImplicit false
set_option linter.unusedVariables false
set_option linter.unusedSimpArgs false
set_option maxRecDepth 100000
def sL(deep:Int):Prop:=∀(ts:List am)(e c0 c1:Int)(c2:List UInt8)(c3:List ak)(c4:List (List UInt8))(space:List UInt8),
 ts.length≤60→bO (.mk c0 c1 c2 c3 c4)→szJ (.mk c0 c1 c2 c3 c4)≤fL→(space.length:Int)≤202*deep→∃r,bA ts e c0 c1 c2 c3 c4 space deep r
theorem aT.stuck{ts ts':List am}{e e':Int}(h1:ts.length≤ts'.length)(h2:ts'.length≤60)(he:e'≠0):aT ts e ts' e':=
 ⟨h1,h2,fun h=>absurd h he,fun h=>absurd h he,fun h=>absurd h he,fun h=>absurd h he⟩
structure dq(ts:List am)(e:Int)(t0:am)(at_:Int)(ts2:List am)(e2:Int):Prop where
 len:ts.length≤ts2.length
 cap:ts2.length≤60
 grow:e2=0→at_=ts.length∧aT (ts++[t0]) e ts2 e2
theorem dq.add{ts:List am}{e:Int}{t0:am}(h:ts.length≤60){r:Int×List am×Int}(hr:r=if 60≤ts.length then (0,ts,if e=0 then 3 else e) else ((ts.length:Int),ts++[t0],e)):dq ts e t0 r.1 r.2.1 r.2.2:=by
 by_cases hl:60≤ts.length
 ·rw[if_pos hl] at hr
  subst hr
  exact⟨Nat.le_refl _,h,fun h=>absurd h (nz (by decide))⟩
 ·rw[if_neg hl] at hr
  subst hr
  exact⟨by simp,by simp;omega,fun h=>⟨rfl,aT.refl (by simp;omega)⟩⟩
theorem dq.more{ts ts2 ts3:List am}{e e2 e3:Int}{t0:am}{a:Int}(h:dq ts e t0 a ts2 e2)(h':aT ts2 e2 ts3 e3):dq ts e t0 a ts3 e3:=
 ⟨Nat.le_trans h.len h'.len,h'.cap,fun he=>⟨(h.grow (h'.err he)).1,(h.grow (h'.err he)).2.trans h'⟩⟩
theorem dq.bad{ts ts2:List am}{e e2 e3:Int}{t0:am}{a:Int}(h:dq ts e t0 a ts2 e2)(he:e3≠0):dq ts e t0 a ts2 e3:=
 ⟨h.len,h.cap,fun h'=>absurd h' he⟩
theorem dq.stuck{ts ts2:List am}{e e2:Int}{t0:am}{a:Int}(h:dq ts e t0 a ts2 e2)(he:e2≠0):aT ts e ts2 e2:=aT.stuck h.len h.cap he
theorem dq.range{ts ts2:List am}{e e2:Int}{t0:am}{a:Int}(h:dq ts e t0 a ts2 e2)(he:e2=0):0≤a∧a<ts2.length:=by
 obtain⟨rfl,g⟩:=h.grow he
 have:=g.len
 simp only[List.length_append,List.length_singleton] at this
 omega
theorem dq.done{ts ts2:List am}{e e2:Int}{t0 t:am}{a:Int}(h:dq ts e t0 a ts2 e2)(he:e2=0)(ht:ms ts2.length t)(hs:aks t0 t)(hx:sY (ts2.set a.toNat t) a.toNat t):aT ts e (ts2.set a.toNat t) e2:=by
 obtain⟨rfl,g⟩:=h.grow he
 rw[Int.toNat_natCast] at hx ⊢
 exact g.close ht (fun _=>hs) (fun _=>hx)
theorem dq.get{ts ts2:List am}{e e2:Int}{t0:am}{a:Int}(h:dq ts e t0 a ts2 e2)(he:e2=0):ts2[a.toNat]? =some t0:=by
 obtain⟨rfl,g⟩:=h.grow he
 rw[Int.toNat_natCast]
 exact g.at_open he
theorem dq.kept{ts ts2:List am}{e e2:Int}{t0:am}{a:Int}(h:dq ts e t0 a ts2 e2)(ht:ms (ts.length+1) t0)(hf:t0.fields=[]):aT ts e ts2 e2:=by
 by_cases he:e2=0
 ·obtain⟨rfl,g⟩:=h.grow he
  have:=g.len
  have:=g.cap
  simp only[List.length_append,List.length_singleton] at*
  exact(aT.push (by omega) t0 ht hf).trans g
 ·exact h.stuck he
theorem dq.zero{ts ts2:List am}{e e2:Int}{t0:am}{a:Int}(h:dq ts e t0 a ts2 e2)(he:e2=0):a.toNat=ts.length∧ts.length<ts2.length∧(ts=[]→a=0):=by
 obtain⟨rfl,g⟩:=h.grow he
 have:=g.len
 simp only[List.length_append,List.length_singleton] at this
 exact⟨by simp,by omega,fun h=>by rw[h];rfl⟩
theorem dq.leafAt{ts ts2:List am}{e e2:Int}{t0 t:am}{a:Int}(h:dq ts e t0 a ts2 e2)(he:e2=0)(hk:t.kind≤11):At ts 1 a (ts2.set a.toNat t):=by
 have hr:=h.range he
 exact At.leaf (Nat.le_refl _) hr.1 (List.getElem?_set_self (by omega)) hk (h.zero he).2.2
theorem dq.leafAt'{ts ts2:List am}{e e2:Int}{t0:am}{a:Int}(h:dq ts e t0 a ts2 e2)(he:e2=0)(hk:t0.kind≤11):At ts 1 a ts2:=
 At.leaf (Nat.le_refl _) (h.range he).1 (h.get he) hk (h.zero he).2.2
theorem dq.arrAt{ts ts2:List am}{e e2:Int}{t0 t:am}{a:Int}(h:dq ts e t0 a ts2 e2)(he:e2=0)(hk0:¬t0.kind≤11)(hk:t.kind=12∨t.kind=13){n m:Nat}(hn:ts.length<n)(hx:∃b,b≤m∧cD ts2 n t.items b):At ts (m+1) a (ts2.set a.toNat t):=by
 have hr:=h.range he
 obtain⟨z1,z2,z3⟩:=h.zero he
 obtain⟨b,b1,b2⟩:=hx
 refine⟨by simpa using hr,⟨b+1,by omega,.arr a t b hr.1 (by omega) (List.getElem?_set_self (by omega)) hk ?_⟩,z3⟩
 exact(b2.set (h.get he) (.inr hk0) (.inl (by omega))).low (by omega)
theorem dq.uniAt{ts ts2:List am}{e e2:Int}{t0 t:am}{a:Int}(h:dq ts e t0 a ts2 e2)(he:e2=0)(hk0:¬t0.kind≤11)(hk:t.kind=14){w:Nat→Nat}{m:Nat}(hm:hY w t.branches.length≤m)(hx:∀(k:Nat) c,t.branches[k]? =some c→cD ts2 (ts.length+1) c (w k)):At ts (m+1) a (ts2.set a.toNat t):=by
 have hr:=h.range he
 obtain⟨z1,z2,z3⟩:=h.zero he
 refine⟨by simpa using hr,⟨_,Nat.succ_le_succ hm,.uni a t w hr.1 (by omega) (List.getElem?_set_self (by omega)) hk fun k c hc=>?_⟩,z3⟩
 exact((hx k c hc).set (h.get he) (.inr hk0) (.inl (by omega))).low (by omega)
theorem abM{w w':Nat→Nat}:∀n,(∀k,k<n→w k=w' k)→hY w n=hY w' n
 |0,_=>rfl
 |n+1,h=>by rw[hY,hY,abM n fun k hk=>h k (by omega),h n (by omega)]
theorem aeG:∀(l:List ak)(i:Nat),i<l.length→bJ (l.take (i+1))=bJ (l.take i)+szJ (l.getD i (av .jnode))
 | [],i,h=>by simp at h
 |c::l,0,h=>by simp[bJ]
 |c::l,i+1,h=>by
  have:=aeG l i (by simpa using h)
  simp only[List.take_succ_cons,bJ,List.getD_cons_succ] at this ⊢
  omega
def ack(ts2:List am)(n:Nat)(bs:List Int)(m:Nat):Prop:=∃w:Nat→Nat,hY w bs.length≤m∧∀(k:Nat) c,bs[k]? =some c→cD ts2 n c (w k)
theorem ack.nil(ts2:List am)(n:Nat):ack ts2 n [] 0:=⟨fun _=>0,Nat.le_refl _,by simp⟩
theorem ack.snoc{ts2 ts3:List am}{e2 e3:Int}{n m m':Nat}{bs:List Int}{c:Int}(h:ack ts2 n bs m)(g:aT ts2 e2 ts3 e3)(he:e3=0)(hc:∃b,b≤m'∧cD ts3 n c b):ack ts3 n (bs++[c]) (m+m'):=by
 obtain⟨w,h1,h2⟩:=h
 obtain⟨b,b1,b2⟩:=hc
 refine⟨fun k=>if k=bs.length then b else w k,?_,fun k d hd=>?_⟩
 ·rw[List.length_append,List.length_singleton,hY,if_pos rfl,abM (w':=w) bs.length fun k hk=>if_neg (by omega)]
  omega
 ·rcases Nat.lt_trichotomy k bs.length with hk|hk|hk
  ·rw[List.getElem?_append_left hk] at hd
   simp only[if_neg (show ¬k=bs.length by omega)]
   exact(h2 k d hd).grow g he
  ·subst hk
   rw[List.getElem?_append_right (Nat.le_refl _)] at hd
   simp at hd
   subst hd
   simpa using b2
  ·rw[List.getElem?_eq_none (by simp;omega)] at hd
   cases hd
theorem ajJ(deep:Int)(hd:1≤deep∧deep≤20)(hT:sL (deep+1))(ts:List am)(e c0 c1:Int)(c2:List UInt8)(c3:List ak)(c4:List (List UInt8))(space:List UInt8)
  (h:ts.length≤60) (hn:bO (.mk c0 c1 c2 c3 c4)) (hz:szJ (.mk c0 c1 c2 c3 c4)≤fL) (hs:(space.length:Int)≤202*deep):∃r,fp ts e c0 c1 c2 c3 c4 space deep r:=by
 obtain⟨k1,k2,k3,k4,k5,k6⟩:=hn.kids
 apply vB 2000
 unfold pV eE
 dsimp only
 refine ao (aa1 _ _ _ _ _ _ _ _ _ _ _ _ h) ?_
 rintro r ⟨-,hr⟩
 have ho:=dq.add h hr
 clear hr
 obtain⟨a,ts1,e1⟩:=r
 dsimp only at ho ⊢
 repeat' (first|(with_reducible refine au ?_ ?_<;>(intro hb;(try simp only[bnl] at hb);(try revert hb;intro _)))|with_reducible refine aA ?_ ?_|with_reducible refine ar ?_|(refine ao (bB _ _ _) ?_;rintro _ ⟨-,rfl⟩;try dsimp only)|fail)
 ·exact⟨_,_,_,_,rfl,rfl,ho.bad (nz (by decide)) |>.stuck (nz (by decide)),fun h=>absurd h (nz (by decide))⟩
 ·exact⟨_,_,_,_,rfl,rfl,ho.bad (nz (by decide)) |>.stuck (nz (by decide)),fun h=>absurd h (nz (by decide))⟩
 rename_i hl1 hl2
 refine aX (fun x=>match x with|(sp,dp,d0,d1,d2,l,d4,a',bs,i,ts2,e2)=>sp=space∧dp=deep∧l=c3∧a'=a∧(bs.length:Int)=i∧i≤(c3.length:Int)∧(∀b∈bs,0≤b∧b<(ts2.length:Int))∧(e2=0→ack ts2 (ts.length+1) bs (bJ (c3.take i.toNat)))∧dq ts e ⟨14,[],[],0,[],false,[],0,[],[]⟩ a ts2 e2) (fun x=>((c3.length:Int)-x.2.2.2.2.2.2.2.2.2.1).toNat) ?_ _ _
  ⟨rfl,rfl,rfl,rfl,rfl,by simp,by simp,fun _=>ack.nil _ _,ho⟩ (by simp;omega)
 rintro again ⟨sp,dp,d0,d1,d2,l,d4,a',bs,i,ts2,e2⟩ ⟨rfl,rfl,rfl,rfl,i1,i2,i3,ix,i4⟩ ih
 dsimp only at ih
 have ew:i<l.length→IntKind.i64.wrap (i+1)=i+1:=fun h=>ay (i+1) (by omega)
 have ed:IntKind.i64.wrap (dp+1)=dp+1:=ay (dp+1) (by omega)
 unfold gJ fY
 dsimp only
 have fin:e2=0→i=l.length→ms ts2.length (let e_:=List.getD ts2 (Int.toNat a') (av .atype);⟨(e_).kind,(e_).name,(e_).aliases,(e_).items,(e_).syms,(e_).hasdef,(e_).df,(e_).size,(e_).fields,bs⟩):=by
  intro h0 hi
  rw[kv (i4.get h0)]
  have hr:=i4.range h0
  exact⟨⟨by simp,by simp only;omega⟩,by simp,by simp,i3,by simp only;omega,by simp,by simp,by simp,by simp,by simp,fun _=>rfl⟩
 have hat:e2=0→0≤a'∧a'<ts2.length:=fun h0=>i4.range h0
 repeat' (first|(with_reducible refine au ?_ ?_<;>(intro hb;(try simp only[bnl] at hb);(try revert hb;intro _)))|with_reducible refine aA ?_ ?_|with_reducible refine ar ?_|(refine ao (bB _ _ _) ?_;rintro _ ⟨-,rfl⟩;try dsimp only)|fail)
 all_goals try simp only[ed]
 ·first|(simp only[bnl,lnl];done)|(simp only[bnl,lnl];omega)
 ·have hkid:=bO.eta.2 (bO.getD k6 i.toNat)
  have hkz:=agZ l i.toNat (by omega)
  have hkt:=aeG l i.toNat (by omega)
  rw[bR] at hz
  refine ao (hT _ _ _ _ _ _ _ _ i4.cap hkid (by rw[aaZ];omega) (by omega)) ?_
  rintro⟨k,ts3,e3⟩ ⟨-,g1,g2⟩
  dsimp only at g1 g2 ⊢
  have i5:=i4.more g1
  have hl3:=g1.len
  rw[aaZ] at g2
  repeat' (first|(with_reducible refine au ?_ ?_<;>(intro hb;(try simp only[bnl] at hb);(try revert hb;intro _)))|with_reducible refine aA ?_ ?_|with_reducible refine ar ?_|(refine ao (bB _ _ _) ?_;rintro _ ⟨-,rfl⟩;try dsimp only)|fail)
  ·rename_i he3
   exact⟨_,_,_,_,rfl,rfl,i5.stuck he3,fun h=>absurd h he3⟩
  ·have:=(g2 (by assumption)).1;first|(simp only[bnl,lnl];done)|(simp only[bnl,lnl];omega)
  ·have:=(g2 (by assumption)).1;first|(simp only[bnl,lnl];done)|(simp only[bnl,lnl];omega)
  ·have:=(g2 (by assumption)).1;first|(simp only[bnl,lnl];done)|(simp only[bnl,lnl];omega)
  ·first|(simp only[bnl,lnl];done)|(simp only[bnl,lnl];omega)
  ·exact⟨_,_,_,_,rfl,rfl,(i5.bad (nz (by decide))).stuck (nz (by decide)),fun h=>absurd h (nz (by decide))⟩
  ·rename_i he3 hk
   have g2':=g2 he3
   refine aX (fun x=>match x with|(sp',dp',d0,d1,d2,l',d4,a2,bs',i',k',m,ts4,e4)=>sp'=sp∧dp'=dp∧l'=l∧a2=a'∧bs'=bs∧i'=i∧k'=k∧0≤m∧m≤(bs.length:Int)∧ts4=ts3∧e4=e3) (fun x=>((bs.length:Int)-x.2.2.2.2.2.2.2.2.2.2.2.1).toNat) ?_ _ _
    ⟨rfl,rfl,rfl,rfl,rfl,rfl,rfl,by simp,by simp,rfl,rfl⟩ (by simp;omega)
   rintro again1 ⟨sp',dp',d0',d1',d2',l',d4',a2,bs',i',k',m,ts4,e4⟩ ⟨rfl,rfl,rfl,rfl,rfl,rfl,rfl,j1,j2,rfl,rfl⟩ ih1
   dsimp only at ih1
   have em:m<bs'.length→IntKind.i64.wrap (m+1)=m+1:=fun h=>ay (m+1) (by omega)
   unfold dT
   dsimp only
   repeat' (first|(with_reducible refine au ?_ ?_<;>(intro hb;(try simp only[bnl] at hb);(try revert hb;intro _)))|with_reducible refine aA ?_ ?_|with_reducible refine ar ?_|(refine ao (bB _ _ _) ?_;rintro _ ⟨-,rfl⟩;try dsimp only)|(refine aii ?_ (alh _ _) ?_;rotate_left;intro _ _)|fail)
   all_goals first|(first|(simp only[bnl,lnl];done)|(simp only[bnl,lnl];omega))|exact⟨_,_,_,_,rfl,rfl,(i5.bad (nz (by decide))).stuck (nz (by decide)),fun h=>absurd h (nz (by decide))⟩|skip
   ·rename_i hm _ _ _ _ _
    refine ih1 (sp',dp',d0',d1',d2',l',d4',a2,bs',i',k',_,ts4,e4) ?_ ?_
    ·simp only[em hm];exact⟨trivial,trivial,trivial,trivial,trivial,trivial,trivial,by omega,by omega,trivial,trivial⟩
    ·simp only[em hm];omega
   ·have hil:i'<l'.length:=by omega
    refine ih (sp',dp',d0',d1',d2',l',d4',a2,_,_,ts4,e4) ?_ ?_
    ·simp only[ew hil,List.length_append,List.length_cons,List.length_nil]
     refine⟨trivial,trivial,trivial,trivial,by omega,by omega,?_,fun h4=>?_,i5⟩
     rotate_left
     ·rw[show (i'+1).toNat=i'.toNat+1 by omega,hkt]
      obtain⟨b,b1,b2⟩:=g2'.2.1
      have he2:e2=0:=g1.err h4
      exact(ix he2).snoc g1 h4 ⟨b,b1,b2.low (by have:=(i4.zero he2).2.1;omega)⟩
     intro b hb
     rcases List.mem_append.1 hb with hb|hb
     ·have:=i3 b hb;omega
     ·simp only[List.mem_singleton] at hb
      subst hb;exact g2'.1
    ·simp only[ew hil];omega
 all_goals first|(exfalso;omega)|skip
 all_goals have hat2:=fun h0=>hat h0
 all_goals first|(first|(simp only[bnl,lnl];done)|(simp only[bnl,lnl];omega))|skip
 ·rename_i h0
  exact⟨_,_,_,_,rfl,rfl,i4.stuck h0,fun h=>absurd h h0⟩
 ·rename_i h0
  have hil:i=l.length:=by omega
  have hr:=i4.range h0
  obtain⟨w,w1,w2⟩:=ix h0
  rw[show i.toNat=l.length by omega,List.take_length] at w1
  have ht:=fin h0 hil
  rw[kv (i4.get h0)] at ht ⊢
  exact⟨_,_,_,_,rfl,rfl,i4.done h0 ht (.inr (by simp)) (.nil rfl),fun _=>by rw[bR];exact i4.uniAt h0 (by simp) rfl w1 w2⟩
 ·rename_i h0
  exact⟨_,_,_,_,rfl,rfl,i4.stuck h0,fun h=>absurd h h0⟩
end Go.Proofs.YtkinflmjagfapaaDoor
end
noncomputable section
namespace Go.Proofs.YtkinflmjagfapaaDoor
open Go.AM
set_option autoImplicit false
set_option linter.unusedVariables false
set_option linter.unusedSimpArgs false
set_option maxRecDepth 100000
theorem xx{l:List (List UInt8)}(h:bu l)(i:Nat):(l.getD i (av .str)).length≤100:=by
 rw[List.getD_eq_getElem?_getD]
 cases hq:l[i]? with
 |none=>exact Nat.zero_le _
 |some y=>exact h y (List.mem_of_getElem? hq)
theorem oH.grow{ts ts':List am}{e e':Int}{i:Nat}{l:List bo}(h:oH ts i l)(g:aT ts e ts' e')(he:e'=0):oH ts' i l:=
 ⟨h.1,fun f hf=>⟨⟨(h.2.1 f hf).1.1,by have:=(h.2.1 f hf).1.2.1;have:=g.len;omega,(h.2.1 f hf).1.2.2⟩,(h.2.1 f hf).2⟩,fun f hf=>by
  obtain⟨b,b1,b2⟩:=h.2.2 f hf
  exact⟨b,b1,b2.grow g he⟩⟩
theorem aiW(deep:Int)(hd:1≤deep∧deep≤20)(hT:sL (deep+1))(ts:List am)(e c0 c1:Int)(c2:List UInt8)(c3:List ak)(c4:List (List UInt8))(at_:Int)(space:List UInt8)
  (h:ts.length≤60) (hn:bO (.mk c0 c1 c2 c3 c4)) (hz:szJ (.mk c0 c1 c2 c3 c4)≤fL) (hs:(space.length:Int)≤202*deep+201) (hat:e=0→0≤at_∧at_<ts.length):∃r,ef ts e c0 c1 c2 c3 c4 at_ space deep r:=by
 obtain⟨k1,k2,k3,k4,k5,k6⟩:=hn.kids
 apply uQ 2000
 unfold pa dU
 dsimp only
 refine ao (lB _ _ _ _ _ _ (by omega)) ?_
 rintro r ⟨-,hr⟩
 have hg:=pf (k:=c0) (names:=c4) (name:=[102,105,101,108,100,115]) k6
 simp only[bS] at hr
 have hgz:=(aa0 (k:=c0) (names:=c4) (l:=c3) (name:=[102,105,101,108,100,115])).1
 rw[←hr] at hg hgz
 obtain⟨b0,b1,b2,l,b4,b5⟩:=r
 obtain⟨g1,g2,g3,g4,g5,g6⟩:=hg.kids
 dsimp only at g2 g6 hgz ⊢
 rw[bR] at hz
 rw[bR] at hgz
 have bad:∀c:Int,c≠0→cF ts e c0 c1 c2 c3 c4 at_ space deep (ts,if e=0 then c else e):=fun c hc=>⟨ts,aT.stuck (Nat.le_refl _) h (nz hc),.inl rfl⟩
 repeat' (first|(with_reducible refine au ?_ ?_<;>(intro hb;(try simp only[bnl] at hb);(try revert hb;intro _)))|with_reducible refine aA ?_ ?_|with_reducible refine ar ?_|(refine ao (bB _ _ _) ?_;rintro _ ⟨-,rfl⟩;try dsimp only)|fail)
 ·exact⟨_,_,_,rfl,rfl,bad 2 (by decide)⟩
 ·exact⟨_,_,_,rfl,rfl,bad 2 (by decide)⟩
 ·exact⟨_,_,_,rfl,rfl,bad 3 (by decide)⟩
 rename_i hl
 refine aX (fun x=>match x with|(a,sp,dp,d0,d1,d2,l',d4,out,i,ts2,e2)=>a=at_∧sp=space∧dp=deep∧l'=l∧(out.length:Int)=i∧i≤(l.length:Int)∧aT ts e ts2 e2∧(e2=0→oH ts2 at_.toNat out)) (fun x=>((l.length:Int)-x.2.2.2.2.2.2.2.2.2.1).toNat) ?_ _ _
  ⟨rfl,rfl,rfl,rfl,rfl,by simp,aT.refl h,fun _=>⟨by simp,by simp,by simp⟩⟩ (by simp;omega)
 rintro again ⟨a,sp,dp,d0,d1,d2,l,d4,out,i,ts2,e2⟩ ⟨rfl,rfl,rfl,rfl,i1,i2,i3,i4⟩ ih
 dsimp only at ih
 have ew:i<l.length→IntKind.i64.wrap (i+1)=i+1:=fun h=>ay (i+1) (by omega)
 have ed:IntKind.i64.wrap (dp+1)=dp+1:=ay (dp+1) (by omega)
 have hat2:e2=0→0≤a∧a<ts2.length:=fun h0=>by
  have:=hat (i3.err h0)
  have:=i3.len
  omega
 unfold f8 fg
 dsimp only
 have hkid:=bO.eta.2 (bO.getD g6 i.toNat)
 have hkk:=hkid.kids
 have hkz:i<l.length→szJ (.mk (l.getD i.toNat (av .jnode)).kind (l.getD i.toNat (av .jnode)).n (l.getD i.toNat (av .jnode)).s (l.getD i.toNat (av .jnode)).l (l.getD i.toNat (av .jnode)).names)≤fL:=fun hi=>by
  have:=agZ l i.toNat (by omega)
  rw[aaZ];omega
 have inner2:∀(ts3:List am)(e3:Int)(nm:List UInt8)(al:List (List UInt8))(ty:Int)(hd':Bool)(f0 f1:Int)(f2:List UInt8)(f3:List ak)(f4:List (List UInt8)),i<l.length→(nm.length≤100∧dZ nm)→aT ts e ts3 e3→bu al→al.length≤100→(e3=0→oH ts3 a.toNat out∧(0≤ty∧ty<ts3.length)∧∃b,b≤fL∧cD ts3 a.toNat ty b)→bO (.mk f0 f1 f2 f3 f4)→
   Tot (aP 2000 (cj 2000 again) (a,sp,dp,d0,d1,d2,l,d4,out,i,0,ts3,e3,nm,al,ty,hd',f0,f1,f2,f3,f4)) (fun z=>∃(y0:List am)(y1:Int)(rest:List aq),z.1.dimR=.tup []∧z.2=some [.ul .atype y0,.int .i64 y1]::rest∧cF ts e c0 c1 c2 c3 c4 a sp dp (y0,y1)):=by
  intro ts3 e3 nm al ty hd' f0 f1 f2 f3 f4 hil hnm hgr hal hal2 hty hnd
  refine aX (fun x=>match x with|(a',sp',dp',d0',d1',d2',l',d4',out',i',m,ts4,e4,nm',al',ty',hd2,f0',f1',f2',f3',f4')=>a'=a∧sp'=sp∧dp'=dp∧l'=l∧out'=out∧i'=i∧0≤m∧m≤(al.length:Int)∧aT ts e ts4 e4∧al'=al∧ty'=ty∧(e4=0→oH ts4 a.toNat out∧(0≤ty∧ty<ts4.length)∧∃b,b≤fL∧cD ts4 a.toNat ty b)∧bO (.mk f0' f1' f2' f3' f4')∧nm'=nm) (fun x=>((al.length:Int)-x.2.2.2.2.2.2.2.2.2.2.1).toNat) ?_ _ _
   ⟨rfl,rfl,rfl,rfl,rfl,rfl,by simp,by simp,hgr,rfl,rfl,hty,hnd,rfl⟩ (by simp;omega)
  rintro again2 ⟨a',sp',dp',d0',d1',d2',l',d4',out',i',m,ts4,e4,nm',al',ty',hd2,f0',f1',f2',f3',f4'⟩ ⟨rfl,rfl,rfl,rfl,rfl,rfl,j1,j2,j3,rfl,rfl,j4,j5,rfl⟩ ih2
  dsimp only at ih2
  have em:m<al'.length→IntKind.i64.wrap (m+1)=m+1:=fun h=>ay (m+1) (by omega)
  have out1:Tot (again (a',sp',dp',d0',d1',d2',l',d4',out'++[⟨nm',al',ty',hd2,⟨f0',f1',f2',f3',f4'⟩⟩],IntKind.i64.wrap (i'+1),ts4,e4)) _:=ih (a',sp',dp',d0',d1',d2',l',d4',out'++[⟨nm',al',ty',hd2,⟨f0',f1',f2',f3',f4'⟩⟩],IntKind.i64.wrap (i'+1),ts4,e4)
   (by
    simp only[ew hil,List.length_append,List.length_cons,List.length_nil]
    refine⟨trivial,trivial,trivial,trivial,by omega,by omega,j3,fun h0=>?_⟩
    obtain⟨q1,q2⟩:=j4 h0
    refine⟨by simp;omega,fun f hf=>?_,fun f hf=>?_⟩
    ·rcases List.mem_append.1 hf with hf|hf
     ·exact q1.2.1 f hf
     ·simp only[List.mem_singleton] at hf
      subst hf
      exact⟨⟨q2.1.1,q2.1.2,j5⟩,hnm⟩
    ·rcases List.mem_append.1 hf with hf|hf
     ·exact q1.2.2 f hf
     ·simp only[List.mem_singleton] at hf
      subst hf
      exact q2.2) (by simp only[ew hil];omega)
  have next:∀e5:Int,m<al'.length→aT ts e ts4 e5→(e5=0→e4=0)→Tot (again2 (a',sp',dp',d0',d1',d2',l',d4',out',i',IntKind.i64.wrap (m+1),ts4,e5,nm',al',ty',hd2,f0',f1',f2',f3',f4')) _:=fun e5 hm hg5 he5=>ih2 (a',sp',dp',d0',d1',d2',l',d4',out',i',IntKind.i64.wrap (m+1),ts4,e5,nm',al',ty',hd2,f0',f1',f2',f3',f4')
   (by
    simp only[em hm]
    exact⟨trivial,trivial,trivial,trivial,trivial,trivial,by omega,by omega,hg5,trivial,trivial,fun h0=>j4 (he5 h0),j5,trivial⟩) (by simp only[em hm];omega)
  unfold cj
  dsimp only
  repeat' (first|(with_reducible refine au ?_ ?_<;>(intro hb;(try simp only[bnl] at hb);(try revert hb;intro _)))|with_reducible refine aA ?_ ?_|with_reducible refine ar ?_|(refine ao (bB _ _ _) ?_;rintro _ ⟨-,rfl⟩;try dsimp only)|(refine ao (xw _ ?_) ?_;rotate_left;intro _ _)|fail)
  all_goals first|(first|(simp only[bnl,lnl];done)|(simp only[bnl,lnl];omega))|exact out1|exact next _ (by omega) j3 (fun h=>h)|exact next _ (by omega) (aT.stuck j3.len j3.cap (nz (by decide))) (fun h=>absurd h (nz (by decide)))|skip
  ·have:=xx hal m.toNat;omega
 have inner1:∀(ts3:List am)(e3:Int)(nm:List UInt8),i<l.length→(nm.length≤100∧dZ nm)→aT ts2 e2 ts3 e3→
   Tot (aP 2000 (cO 2000 again) (a,sp,dp,d0,d1,d2,l,d4,out,i,(List.getD l (Int.toNat i) (av .jnode)).kind,(List.getD l (Int.toNat i) (av .jnode)).n,(List.getD l (Int.toNat i) (av .jnode)).s,(List.getD l (Int.toNat i) (av .jnode)).l,(List.getD l (Int.toNat i) (av .jnode)).names,0,ts3,e3,nm,([]:List (List UInt8)),0,false,0,0,([]:List UInt8),([]:List ak),([]:List (List UInt8)))) (fun z=>∃(y0:List am)(y1:Int)(rest:List aq),z.1.dimR=.tup []∧z.2=some [.ul .atype y0,.int .i64 y1]::rest∧cF ts e c0 c1 c2 c3 c4 a sp dp (y0,y1)):=by
  intro ts3 e3 nm hil hnm hgr
  refine aX (fun x=>match x with|(a',sp',dp',d0',d1',d2',l',d4',out',i',v0,v1,v2,v3,v4,m,ts4,e4,nm',al',ty',hd2,f0',f1',f2',f3',f4')=>a'=a∧sp'=sp∧dp'=dp∧d0'=d0∧d1'=d1∧d2'=d2∧l'=l∧d4'=d4∧out'=out∧i'=i∧(bO (.mk v0 v1 v2 v3 v4)∧szJ (.mk v0 v1 v2 v3 v4)≤fL)∧0≤m∧m≤(out.length:Int)∧aT ts2 e2 ts4 e4∧nm'=nm) (fun x=>((out.length:Int)-x.2.2.2.2.2.2.2.2.2.2.2.2.2.2.2.1).toNat) ?_ _ _
   ⟨rfl,rfl,rfl,rfl,rfl,rfl,rfl,rfl,rfl,rfl,⟨hkid,hkz hil⟩,by simp,by simp,hgr,rfl⟩ (by simp;omega)
  rintro again1 ⟨a',sp',dp',d0',d1',d2',l',d4',out',i',v0,v1,v2,v3,v4,m,ts4,e4,nm',al',ty',hd2,f0',f1',f2',f3',f4'⟩ ⟨rfl,rfl,rfl,rfl,rfl,rfl,rfl,rfl,rfl,rfl,⟨hv,hvz⟩,j1,j2,j3,rfl⟩ ih1
  dsimp only at ih1
  have em:m<out'.length→IntKind.i64.wrap (m+1)=m+1:=fun h=>ay (m+1) (by omega)
  have next:∀e5:Int,m<out'.length→aT ts2 e2 ts4 e5→Tot (again1 (a',sp',dp',d0',d1',d2',l',d4',out',i',v0,v1,v2,v3,v4,IntKind.i64.wrap (m+1),ts4,e5,nm',al',ty',hd2,f0',f1',f2',f3',f4')) _:=fun e5 hm hg5=>ih1 (a',sp',dp',d0',d1',d2',l',d4',out',i',v0,v1,v2,v3,v4,IntKind.i64.wrap (m+1),ts4,e5,nm',al',ty',hd2,f0',f1',f2',f3',f4')
   (by
    simp only[em hm]
    exact⟨trivial,trivial,trivial,trivial,trivial,trivial,trivial,trivial,trivial,trivial,⟨hv,hvz⟩,by omega,by omega,hg5,trivial⟩) (by simp only[em hm];omega)
  obtain⟨q1,q2,q3,q4,q5,q6⟩:=hv.kids
  have behind:∀(e5 w0 w1:Int)(w2:List UInt8)(w3:List ak)(w4:List (List UInt8)),bO (.mk w0 w1 w2 w3 w4)→szJ (.mk w0 w1 w2 w3 w4)≤fL→aT ts2 e2 ts4 e5→Tot (an (bA ts4 e5 w0 w1 w2 w3 w4 sp' (dp'+1)) (fun r12=>
      an (cf v0 v1 v2 v3 v4 ([100,101,102,97,117,108,116]:List UInt8)) (fun r13=>
       an (bW r12.2.1 r12.2.2 v0 v1 v2 v3 v4 ([97,108,105,97,115,101,115]:List UInt8)) (fun r14=>
        (fun z=>aP 2000 (cj 2000 again) z) (a',sp',dp',d0',d1',d2',l',d4',out',i',0,r14.2.2.1,r14.2.2.2,nm',r14.1,r12.1,r13.2.2.2.2.2,r13.1,r13.2.1,r13.2.2.1,r13.2.2.2.1,r13.2.2.2.2.1))))) (fun z=>∃(y0:List am)(y1:Int)(rest:List aq),z.1.dimR=.tup []∧z.2=some [.ul .atype y0,.int .i64 y1]::rest∧cF ts e c0 c1 c2 c3 c4 a' sp' dp' (y0,y1)):=by
   intro e5 w0 w1 w2 w3 w4 hw hwz hg5
   refine ao (hT _ _ _ _ _ _ _ _ j3.cap hw hwz (by omega)) ?_
   rintro⟨k,ts5,e6⟩ ⟨-,x1,x2⟩
   dsimp only at x1 x2 ⊢
   refine ao (lB _ _ _ _ _ _ (by omega)) ?_
   rintro r ⟨-,hr⟩
   have hg:=pf (k:=v0) (names:=v4) (name:=[100,101,102,97,117,108,116]) q6
   simp only[bS] at hr
   rw[←hr] at hg
   refine ao (aaI _ _ _ _ _ _ _ _ hv) ?_
   rintro⟨al,is,ts6,e7⟩ ⟨-,t1,t2,rfl,t3⟩
   dsimp only at t1 t2 t3 ⊢
   have hgg:=hg5.trans x1
   have g7:aT ts2 e2 ts6 e7:=by
    by_cases h7:e7=0
    ·have h6:=t3 h7
     rw[h6] at hgg
     rw[h7];exact hgg
    ·exact aT.stuck hgg.len hgg.cap h7
   refine inner2 ts6 e7 _ _ _ _ _ _ _ _ _ hil hnm (i3.trans g7) t2 t1 (fun h0=>⟨(i4 (g7.err h0)).grow g7 h0,(x2 (t3 h0)).1,?_⟩) hg
   obtain⟨b,b1,b2⟩:=(x2 (t3 h0)).2.1
   refine⟨b,by omega,b2.low ?_⟩
   have:=hat (i3.err (g7.err h0))
   have:=i3.len
   have:=j3.len
   omega
  unfold cO ff
  dsimp only
  repeat' (first|(with_reducible refine au ?_ ?_<;>(intro hb;(try simp only[bnl] at hb);(try revert hb;intro _)))|with_reducible refine aA ?_ ?_|with_reducible refine ar ?_|(refine ao (bB _ _ _) ?_;rintro _ ⟨-,rfl⟩;try dsimp only)|fail)
  all_goals first|(first|(simp only[bnl,lnl];done)|(simp only[bnl,lnl];omega))|exact next _ (by omega) j3|exact next _ (by omega) (aT.stuck j3.len j3.cap (nz (by decide)))|skip
  refine ao (lB _ _ _ _ _ _ (by omega)) ?_
  rintro r ⟨-,hr⟩
  have hg:=pf (k:=v0) (names:=v4) (name:=[116,121,112,101]) q6
  simp only[bS] at hr
  have hgz:=(aa0 (k:=v0) (names:=v4) (l:=v3) (name:=[116,121,112,101])).1
  rw[←hr] at hg hgz
  have hvz2:=hvz
  rw[bR] at hvz2
  repeat' (first|(with_reducible refine au ?_ ?_<;>(intro hb;(try simp only[bnl] at hb);(try revert hb;intro _)))|with_reducible refine aA ?_ ?_|with_reducible refine ar ?_|(refine ao (bB _ _ _) ?_;rintro _ ⟨-,rfl⟩;try dsimp only)|fail)
  all_goals simp only[ed]
  ·exact behind _ _ _ _ _ _ hg (Nat.le_trans hgz hvz2) (aT.stuck j3.len j3.cap (nz (by decide)))
  ·exact behind _ _ _ _ _ _ hg (Nat.le_trans hgz hvz2) j3
 repeat' (first|(with_reducible refine au ?_ ?_<;>(intro hb;(try simp only[bnl] at hb);(try revert hb;intro _)))|with_reducible refine aA ?_ ?_|with_reducible refine ar ?_|(refine ao (bB _ _ _) ?_;rintro _ ⟨-,rfl⟩;try dsimp only)|(refine ao (acj _ _ _ _ _ _ _ _ _ hkid) ?_;rintro⟨w,ts3,e3⟩ ⟨-,w1,rfl,w2⟩;dsimp only at w1 w2 ⊢)|fail)
 all_goals first|(first|(simp only[bnl,lnl];done)|(simp only[bnl,lnl];omega))|skip
 ·exact⟨_,_,_,rfl,rfl,_,aT.stuck i3.len i3.cap (nz (by decide)),.inl rfl⟩
 ·rename_i he3
  have g0:aT ts3 e2 ts3 e3:=by
   have:=w2 he3
   subst this;rw[he3];exact aT.refl i3.cap
  repeat' (first|(with_reducible refine au ?_ ?_<;>(intro hb;(try simp only[bnl] at hb);(try revert hb;intro _)))|with_reducible refine aA ?_ ?_|with_reducible refine ar ?_|(refine ao (xw _ (by have:=w1.1;omega)) ?_;intro _ _)|(refine ao (bB _ _ _) ?_;rintro _ ⟨-,rfl⟩;try dsimp only)|fail)
  ·exact inner1 _ _ _ (by omega) ⟨w1.1,w1.2 rfl⟩ (aT.stuck (Nat.le_refl _) i3.cap (nz (by decide)))
  ·exact inner1 _ _ _ (by omega) ⟨w1.1,w1.2 rfl⟩ g0
 ·rename_i he3
  exact inner1 _ _ _ (by omega) ⟨w1.1,w1.2 rfl⟩ (aT.stuck (Nat.le_refl _) i3.cap he3)
 all_goals first|(exfalso;omega)|skip
 all_goals first|(have:=hat2 (by assumption);first|(simp only[bnl,lnl];done)|(simp only[bnl,lnl];omega))|skip
 ·rename_i he
  exact⟨_,_,_,rfl,rfl,_,i3,.inl rfl⟩
 ·rename_i he
  have hr:=hat2 he
  have hl:a.toNat<ts2.length:=by omega
  refine⟨_,_,_,rfl,rfl,ts2,i3,.inr ⟨out,i4 he,_,List.getElem?_eq_getElem hl,?_⟩⟩
  rw[kv (List.getElem?_eq_getElem hl)]
 ·exact⟨_,_,_,rfl,rfl,_,i3,.inl rfl⟩
end Go.Proofs.YtkinflmjagfapaaDoor
end
noncomputable section
namespace Go.Proofs.YtkinflmjagfapaaDoor
open Go.AM
set_option autoImplicit false
set_option linter.unusedVariables false
set_option linter.unusedSimpArgs false
set_option maxRecDepth 100000
theorem aku{k:Int}{s:List UInt8}(h1:1≤k)(h2:k≤14)(h3:jp.getD (k-1).toNat []=s)(hs:s=[97,114,114,97,121]∨s=[109,97,112]):k=12∨k=13:=by
 have h:∀n:Nat,n<14→(jp.getD n []=[97,114,114,97,121]∨jp.getD n []=[109,97,112])→n=11∨n=12:=by decide
 subst h3
 have:=h _ (by omega) hs
 omega
theorem akv{k:Int}{s:List UInt8}(h1:1≤k)(h2:k≤14)(h3:jp.getD (k-1).toNat []=s)(hs:s=[114,101,99,111,114,100]∨s=[101,110,117,109]∨s=[102,105,120,101,100]):9≤k∧k≤11:=by
 have h:∀n:Nat,n<14→(jp.getD n []=[114,101,99,111,114,100]∨jp.getD n []=[101,110,117,109]∨jp.getD n []=[102,105,120,101,100])→8≤n∧n≤10:=by decide
 subst h3
 have:=h _ (by omega) hs
 omega
theorem ajK(deep:Int)(hd:1≤deep∧deep≤20)(hT:sL (deep+1))(ts:List am)(e c0 c1:Int)(c2:List UInt8)(c3:List ak)(c4:List (List UInt8))(k:Int)(space:List UInt8)
  (h:ts.length≤60) (hn:bO (.mk c0 c1 c2 c3 c4)) (hz:szJ (.mk c0 c1 c2 c3 c4)≤fL) (hs:(space.length:Int)≤202*deep) (hk:9≤k∧k≤11):∃r,fq ts e c0 c1 c2 c3 c4 k space deep r:=by
 obtain⟨k1,k2,k3,k4,k5,k6⟩:=hn.kids
 apply vE 2000
 unfold pW eI
 have last:∀(sp:List UInt8)(e2 o0:Int)(o1:List UInt8)(o2:List (List UInt8)),(sp.length:Int)≤202*deep+201→(e2=0→e=0)→o0=k→o1.length≤5000→Tot (cU 2000 (k,sp,deep,c0,c1,c2,c3,c4,ts,e2,o0,o1,o2,0,[],false,[],0,[],[])) (fun z=>∃(y0:Int)(y1:List am)(y2:Int)(rest:List aq),z.1.dimR=.int .i64 y0∧z.2=some [.ul .atype y1,.int .i64 y2]::rest∧dA ts e c0 c1 c2 c3 c4 k space deep (y0,y1,y2)):=by
  intro sp e2 o0 o1 o2 hsp he ho hna
  unfold cU
  dsimp only
  subst ho
  have tk:ms (ts.length+1) ⟨o0,o1,o2,0,[],false,[],0,[],[]⟩:=⟨by simp only;omega,by simp,by simp,by simp,by simp,by simp,by simp,by simp only;omega,hna,by simp,fun _=>rfl⟩
  have h11:o0≤11:=hk.2
  repeat' (first|(with_reducible refine au ?_ ?_<;>(intro hb;(try simp only[bnl] at hb);(try revert hb;intro _)))|with_reducible refine aA ?_ ?_|with_reducible refine ar ?_|fail)
  ·rename_i h2
   exact⟨_,_,_,_,rfl,rfl,aT.stuck (Nat.le_refl _) h h2,fun h=>absurd h h2⟩
  rename_i h2
  refine ao (aa1 _ _ _ _ _ _ _ _ _ _ _ _ h) ?_
  rintro r ⟨-,hr⟩
  have ho:=dq.add h hr
  clear hr
  obtain⟨a,ts1,e1⟩:=r
  dsimp only at ho ⊢
  have hr1:e1=0→0≤a∧a<ts1.length:=fun h0=>ho.range h0
  have wk:∀{ts':List am}{e':Int},aT ts e2 ts' e'→aT ts e ts' e':=fun g=>g.weak he
  have wstuck:∀{c:Int},c≠0→aT ts e ts1 (if e1=0 then c else e1):=fun hc=>aT.stuck ho.len ho.cap (nz hc)
  repeat' (first|(with_reducible refine au ?_ ?_<;>(intro hb;(try simp only[bnl] at hb);(try revert hb;intro _)))|with_reducible refine aA ?_ ?_|with_reducible refine ar ?_|(refine ao (aiW deep hd hT _ _ _ _ _ _ _ _ _ ho.cap hn hz hsp hr1) ?_;rintro⟨ts3,e3⟩ ⟨-,ts2,g1,g2⟩;dsimp only at g1 g2 ⊢)|(refine ao (ah2 _ _ _ _ _ _ _ _ hn hr1) ?_;rintro⟨ts3,e3⟩ ⟨-,g1,g2⟩;dsimp only at g1 g2 ⊢)|fail)
  ·rename_i h9
   have ho2:=ho.more g1
   have gk:=ho2.kept tk rfl
   refine⟨_,_,_,_,rfl,rfl,?_⟩
   rcases g2 with rfl|⟨l,l1,t,t1,rfl⟩
   ·exact⟨wk gk,fun h0=>ho2.leafAt' h0 h11⟩
   ·by_cases h0:e3=0
    ·rw[ho2.get h0] at t1
     obtain rfl:=Option.some.inj t1
     have hr:=ho2.range h0
     refine⟨wk (ho2.done h0 ⟨by simp only;omega,l1.2.1,l1.1,by simp,by simp,by simp,by simp,tk.kind,hna,by simp,fun h=>absurd h9 h⟩ (.inl ⟨h11,h11⟩) fun f hf=>?_),fun _=>ho2.leafAt h0 h11⟩
     obtain⟨b,b1,b2⟩:=l1.2.2 f hf
     exact⟨b,b1,b2.set (ho2.get h0) (.inl ⟨h11,h11⟩) (.inr h11)⟩
    ·exact⟨aT.stuck (by simpa using gk.len) (by simpa using gk.cap) h0,fun h=>absurd h h0⟩
  ·refine⟨_,_,_,_,rfl,rfl,?_⟩
   by_cases h0:e3=0
   ·obtain⟨l,h',d,l0,l1,t,t1,rfl⟩:=g2.2 h0
    have h1:=g1 h0
    rw[ho.get h1] at t1
    obtain rfl:=Option.some.inj t1
    have hr:=ho.range h1
    have:=ho.done h1 (t:=⟨o0,o1,o2,0,l,h',d,0,[],[]⟩) ⟨by simp only;omega,by simp,by simp,by simp,by simp,l0,by simp,tk.kind,hna,l1,fun _=>rfl⟩ (.inl ⟨h11,h11⟩) (.nil rfl)
    refine⟨wk (by rw[h0];rw[h1] at this;exact this),fun _=>ho.leafAt h1 h11⟩
   ·have:=g2.1 h0
    subst this
    exact⟨aT.stuck ho.len ho.cap h0,fun h=>absurd h h0⟩
  ·refine ao (lB _ _ _ _ _ _ (by omega)) ?_
   rintro r ⟨-,hr⟩
   have hsz:r.2.1≤zH:=by
    rw[hr]
    split
    ·cases hq:cr c4 c3 [115,105,122,101] with
     |none=>simp[d6]
     |some c=>exact hn.sized hq
    ·simp[d6]
   clear hr
   repeat' (first|(with_reducible refine au ?_ ?_<;>(intro hb;(try simp only[bnl] at hb);(try revert hb;intro _)))|with_reducible refine aA ?_ ?_|with_reducible refine ar ?_|(refine ao (bB _ _ _) ?_;rintro _ ⟨-,rfl⟩;try dsimp only)|fail)
   all_goals first|exact⟨_,_,_,_,rfl,rfl,wstuck (by decide),fun h=>absurd h (nz (by decide))⟩|(have:=hr1 (by assumption);first|(simp only[bnl,lnl];done)|(simp only[bnl,lnl];omega))|(first|(simp only[bnl,lnl];done)|(simp only[bnl,lnl];omega))|skip
   ·rename_i hz0 hz1 h0
    have hr:=ho.range h0
    rw[kv (ho.get h0)]
    exact⟨_,_,_,_,rfl,rfl,wk (ho.done h0 ⟨by simp only;omega,by simp,by simp,by simp,by simp,by simp,by simp only;omega,tk.kind,hna,by simp,fun _=>rfl⟩ (.inl ⟨h11,h11⟩) (.nil rfl)),fun _=>ho.leafAt h0 h11⟩
   ·rename_i h0
    exact⟨_,_,_,_,rfl,rfl,wk (ho.kept tk rfl),fun h=>absurd h h0⟩
 have mid:∀(sp:List UInt8)(e2:Int)(nm:List UInt8)(al:List (List UInt8)),(sp.length:Int)≤202*deep+201→(e2=0→e=0)→bu al→al.length≤100→nm.length≤5000→Tot (aP 2000 (cV 2000) (k,sp,deep,c0,c1,c2,c3,c4,al,0,ts,e2,k,nm,[],0,[],false,[],0,[],[])) (fun z=>∃(y0:Int)(y1:List am)(y2:Int)(rest:List aq),z.1.dimR=.int .i64 y0∧z.2=some [.ul .atype y1,.int .i64 y2]::rest∧dA ts e c0 c1 c2 c3 c4 k space deep (y0,y1,y2)):=by
  intro sp e2 nm al hsp he hal hal2 hnl
  refine aX (fun x=>match x with|(k',sp',dp,d0,d1,d2,d3,d4,al',i,ts',e3,o0,o1,o2,o3,o4,o5,o6,o7,o8,o9)=>k'=k∧sp'=sp∧dp=deep∧d0=c0∧d1=c1∧d2=c2∧d3=c3∧d4=c4∧al'=al∧0≤i∧i≤(al.length:Int)∧ts'=ts∧(e3=0→e=0)∧o0=k∧(o2.length:Int)=i∧o3=0∧o4=[]∧o5=false∧o6=[]∧o7=0∧o8=[]∧o9=[]∧o1=nm) (fun x=>((al.length:Int)-x.2.2.2.2.2.2.2.2.2.1).toNat) ?_ _ _
   ⟨rfl,rfl,rfl,rfl,rfl,rfl,rfl,rfl,rfl,by simp,by simp,rfl,he,rfl,rfl,rfl,rfl,rfl,rfl,rfl,rfl,rfl,rfl⟩ (by simp;omega)
  rintro again ⟨k',sp',dp,d0,d1,d2,d3,d4,al',i,ts',e3,o0,o1,o2,o3,o4,o5,o6,o7,o8,o9⟩ ⟨rfl,rfl,rfl,rfl,rfl,rfl,rfl,rfl,rfl,i1,i2,rfl,i3,rfl,i4,rfl,rfl,rfl,rfl,rfl,rfl,rfl,rfl⟩ ih
  dsimp only at ih
  have ew:i<al'.length→IntKind.i64.wrap (i+1)=i+1:=fun h=>ay (i+1) (by omega)
  have next:∀(e5:Int)(w:List UInt8),i<al'.length→(e5=0→e=0)→Tot (again (o0,sp',dp,d0,d1,d2,d3,d4,al',IntKind.i64.wrap (i+1),ts',e5,o0,o1,o2++[w],0,[],false,[],0,[],[])) _:=fun e5 w hi he5=>ih (o0,sp',dp,d0,d1,d2,d3,d4,al',IntKind.i64.wrap (i+1),ts',e5,o0,o1,o2++[w],0,[],false,[],0,[],[])
   (by
    simp only[ew hi,List.length_append,List.length_cons,List.length_nil]
    exact⟨trivial,trivial,trivial,trivial,trivial,trivial,trivial,trivial,trivial,by omega,by omega,trivial,he5,trivial,by omega,trivial,trivial,trivial,trivial,trivial,trivial,trivial,trivial⟩) (by simp only[ew hi];omega)
  have lst:∀e4:Int,(e4=0→e=0)→Tot (cU 2000 (o0,sp',dp,d0,d1,d2,d3,d4,ts',e4,o0,o1,o2,0,[],false,[],0,[],[])) _:=fun e4 h4=>last sp' e4 o0 o1 o2 hsp h4 rfl hnl
  unfold cV gc
  dsimp only
  have wn:=xx hal i.toNat
  repeat' (first|(with_reducible refine au ?_ ?_<;>(intro hb;(try simp only[bnl] at hb);(try revert hb;intro _)))|with_reducible refine aA ?_ ?_|with_reducible refine ar ?_|(refine ao (bB _ _ _) ?_;rintro _ ⟨-,rfl⟩;try dsimp only)|(refine ao (aeE _ _ _ _ wn (by omega)) ?_;rintro⟨w,ts4,e4⟩ ⟨-,w1,rfl,w2⟩;dsimp only at w1 w2 ⊢)|(refine ao (ag1 _ _ _ h) ?_;rintro⟨b,c,ts4,e4⟩ ⟨-,hq,hf⟩;simp only[Prod.mk.injEq] at hq;obtain⟨rfl,rfl⟩:=hq;dsimp only at hf ⊢)|fail)
  all_goals first|(first|(simp only[bnl,lnl];done)|(simp only[bnl,lnl];omega))|exact next _ _ (by omega) (fun h=>i3 (w2 h))|exact lst _ i3|exact lst _ (fun h=>absurd h (nz (by decide)))|skip
 refine ao (acj _ _ _ _ _ _ _ _ _ hn) ?_
 rintro⟨nm,ts',e1⟩ ⟨-,w1,rfl,w2⟩
 dsimp only at w1 w2 ⊢
 refine ao (lB _ _ _ _ _ _ (by omega)) ?_
 rintro r ⟨-,hr⟩
 have hg:=pf (k:=c0) (names:=c4) (name:=[110,97,109,101,115,112,97,99,101]) k6
 simp only[bS] at hr
 rw[←hr] at hg
 have g1:=hg.kids.1
 have first:∀(sp:List UInt8)(e2:Int),(sp.length:Int)≤202*deep→(e2=0→e=0)→Tot (gL 2000 (k,sp,deep,c0,c1,c2,c3,c4,nm,ts',e2)) (fun z=>∃(y0:Int)(y1:List am)(y2:Int)(rest:List aq),z.1.dimR=.int .i64 y0∧z.2=some [.ul .atype y1,.int .i64 y2]::rest∧dA ts' e c0 c1 c2 c3 c4 k space deep (y0,y1,y2)):=by
  intro sp e2 hsp he
  unfold gL ge
  dsimp only
  repeat' (first|(with_reducible refine au ?_ ?_<;>(intro hb;(try simp only[bnl] at hb);(try revert hb;intro _)))|with_reducible refine aA ?_ ?_|with_reducible refine ar ?_|fail)
  ·rename_i h2
   exact⟨_,_,_,_,rfl,rfl,aT.stuck (Nat.le_refl _) h h2,fun h=>absurd h h2⟩
  refine ao (aeE _ _ _ _ w1.1 (by omega)) ?_
  rintro⟨w,ts4,e4⟩ ⟨-,x1,rfl,x2⟩
  have w11:=w1.1
  dsimp only at x1 x2 ⊢
  refine ao (aiV _ (by omega)) ?_
  rintro b ⟨-,hb⟩
  dsimp only[hC] at hb ⊢
  refine ao (aaI _ _ _ _ _ _ _ _ hn) ?_
  rintro⟨al,is,ts6,e7⟩ ⟨-,t1,t2,rfl,t3⟩
  dsimp only at t1 t2 t3 ⊢
  exact mid _ _ _ _ (by omega) (fun h=>he (x2 (t3 h))) t2 t1 (by omega)
 repeat' (first|(with_reducible refine au ?_ ?_<;>(intro hb;(try simp only[bnl] at hb);(try revert hb;intro _)))|with_reducible refine aA ?_ ?_|with_reducible refine ar ?_|(refine ao (bB _ _ _) ?_;rintro _ ⟨-,rfl⟩;try dsimp only)|fail)
 ·exact first _ _ (by omega) (fun h=>absurd h (nz (by decide)))
 ·exact first _ _ (by omega) w2
 ·exact first _ _ hs w2
theorem aeH(deep:Int)(hd:1≤deep∧deep≤21)(hT:deep≤20→sL (deep+1)):sL deep:=by
 intro ts e c0 c1 c2 c3 c4 space h hn hz hs
 obtain⟨k1,k2,k3,k4,k5,k6⟩:=hn.kids
 apply xl 2000
 unfold qG fA
 dsimp only
 have stuck:∀{c:Int},c≠0→aT ts e ts (if e=0 then c else e):=fun hc=>aT.stuck (Nat.le_refl _) h (nz hc)
 repeat' (first|(with_reducible refine au ?_ ?_<;>(intro hb;(try simp only[bnl] at hb);(try revert hb;intro _)))|with_reducible refine aA ?_ ?_|with_reducible refine ar ?_|(refine ao (bB _ _ _) ?_;rintro _ ⟨-,rfl⟩;try dsimp only)|(refine ao (aeF _ _ _ _ h k1 (by omega)) ?_;rintro⟨a,ts',e'⟩ ⟨-,g1,g2⟩;dsimp only at g1 g2 ⊢)|(refine ao (ajJ deep (by omega) (hT (by omega)) _ _ _ _ _ _ _ _ h hn hz hs) ?_;rintro⟨a,ts',e'⟩ ⟨-,g1,g2⟩;dsimp only at g1 g2 ⊢)|fail)
 all_goals first|exact⟨_,_,_,_,rfl,rfl,stuck (by decide),fun h=>absurd h (nz (by decide))⟩|exact⟨_,_,_,_,rfl,rfl,g1,g2⟩|exact⟨_,_,_,_,rfl,rfl,g1,fun h0=>(g2 h0).up (by rw[bR];omega)⟩|skip
 ·rename_i he
  exact⟨_,_,_,_,rfl,rfl,aT.refl h,fun h=>absurd h he⟩
 rename_i he hdd _ _ _
 have hT:=hT (by omega)
 have ed:IntKind.i64.wrap (deep+1)=deep+1:=ay (deep+1) (by omega)
 refine ao (lB _ _ _ _ _ _ (by omega)) ?_
 rintro r ⟨-,hr⟩
 have hg:=pf (k:=c0) (names:=c4) (name:=[116,121,112,101]) k6
 simp only[bS] at hr
 have hgz:=(aa0 (k:=c0) (names:=c4) (l:=c3) (name:=[116,121,112,101])).1
 rw[←hr] at hg hgz
 have hgk:=hg.kids
 clear hr
 obtain⟨d0,d1,d2,d3,d4,d5⟩:=r
 dsimp only at hg hgk hgz ⊢
 have hzm:=bR c0 c1 c2 c3 c4
 have part:∀(word:List UInt8)(k a:Int)(ts1:List am)(e1:Int),(k=12∨k=13)→dq ts e ⟨k,[],[],0,[],false,[],0,[],[]⟩ a ts1 e1→Tot (eM 2000 (space,deep,c0,c1,c2,c3,c4,a,word,ts1,e1)) (fun z=>∃(y0:Int)(y1:List am)(y2:Int)(rest:List aq),z.1.dimR=.int .i64 y0∧z.2=some [.ul .atype y1,.int .i64 y2]::rest∧cT ts e c0 c1 c2 c3 c4 space deep (y0,y1,y2)):=by
  intro word k a ts1 e1 hk ho
  unfold eM
  dsimp only
  refine ao (lB _ _ _ _ _ _ (by omega)) ?_
  rintro r ⟨-,hr⟩
  have hg:=pf (k:=c0) (names:=c4) (name:=word) k6
  simp only[bS] at hr
  have hgz:=aa0 (k:=c0) (names:=c4) (l:=c3) (name:=word)
  rw[←hr] at hg hgz
  clear hr
  repeat' (first|(with_reducible refine au ?_ ?_<;>(intro hb;(try simp only[bnl] at hb);(try revert hb;intro _)))|with_reducible refine aA ?_ ?_|with_reducible refine ar ?_|(refine ao (bB _ _ _) ?_;rintro _ ⟨-,rfl⟩;try dsimp only)|fail)
  ·exact⟨_,_,_,_,rfl,rfl,aT.stuck ho.len ho.cap (nz (by decide)),fun h=>absurd h (nz (by decide))⟩
  simp only[ed]
  refine ao (hT _ _ _ _ _ _ _ _ ho.cap hg (by omega) (by omega)) ?_
  rintro⟨i,ts2,e2⟩ ⟨-,x1,x2⟩
  dsimp only at x1 x2 ⊢
  have ho2:=ho.more x1
  have hr2:e2=0→0≤a∧a<ts2.length:=fun h0=>ho2.range h0
  repeat' (first|(with_reducible refine au ?_ ?_<;>(intro hb;(try simp only[bnl] at hb);(try revert hb;intro _)))|with_reducible refine aA ?_ ?_|with_reducible refine ar ?_|fail)
  all_goals first|(have:=hr2 (by assumption);first|(simp only[bnl,lnl];done)|(simp only[bnl,lnl];omega))|(first|(simp only[bnl,lnl];done)|(simp only[bnl,lnl];omega))|skip
  ·rename_i hfound h0
   have hr:=ho2.range h0
   have h10:=x1.err h0
   rw[kv (ho2.get h0)]
   obtain⟨b,b1,b2⟩:=(x2 h0).2.1
   refine⟨_,_,_,_,rfl,rfl,ho2.done h0 ⟨(x2 h0).1,by simp,by simp,by simp,by simp,by simp,by simp,by simp only;omega,by simp,by simp,fun _=>rfl⟩ (.inr (by simp only;omega)) (.nil rfl),fun _=>?_⟩
   rw[hzm]
   exact ho2.arrAt h0 (by simp only;omega) hk (ho.zero h10).2.1 ⟨b,Nat.le_trans b1 (hgz.2 (by assumption)),b2⟩
  ·rename_i h0
   exact⟨_,_,_,_,rfl,rfl,ho2.stuck h0,fun h=>absurd h h0⟩
 have txt:Tot (eN 2000 (space,d0,d1,d2,d3,d4,ts,e)) (fun z=>∃(y0:Int)(y1:List am)(y2:Int)(rest:List aq),z.1.dimR=.int .i64 y0∧z.2=some [.ul .atype y1,.int .i64 y2]::rest∧cT ts e c0 c1 c2 c3 c4 space deep (y0,y1,y2)):=by
  unfold eN
  dsimp only
  refine ao (aeF _ _ _ _ h hgk.1 (by omega)) ?_
  rintro⟨a,ts',e'⟩ ⟨-,g1,g2⟩
  exact ar ⟨_,_,_,_,rfl,rfl,g1,fun h0=>(g2 h0).up (by omega)⟩
 have one:∀b:Bool,(b=true→d2=[97,114,114,97,121]∨d2=[109,97,112])→Tot (eO 2000 (space,deep,c0,c1,c2,c3,c4,d0,d1,d2,d3,d4,b,ts,e)) (fun z=>∃(y0:Int)(y1:List am)(y2:Int)(rest:List aq),z.1.dimR=.int .i64 y0∧z.2=some [.ul .atype y1,.int .i64 y2]::rest∧cT ts e c0 c1 c2 c3 c4 space deep (y0,y1,y2)):=by
  intro b hb
  unfold eO gQ
  dsimp only
  refine au (fun h1=>?_) (fun h1=>txt)
  refine ao (aci _) ?_
  rintro(k:Int) ⟨-,hk1,hk2,hk3,hk4⟩
  have hb:=hb h1
  have hk0:k≠0:=fun h=>by
   rcases hb with hb|hb
   ·exact hk4 h 11 (by decide) hb.symm
   ·exact hk4 h 12 (by decide) hb.symm
  have hk:=aku (by omega) hk2 (hk3 (by omega)) hb
  refine ao (aa1 _ _ _ _ _ _ _ _ _ _ _ _ h) ?_
  rintro r ⟨-,hr⟩
  have ho:=dq.add h hr
  clear hr
  obtain⟨a,ts1,e1⟩:=r
  dsimp only at ho ⊢
  repeat' (first|(with_reducible refine au ?_ ?_<;>(intro hb;(try simp only[bnl] at hb);(try revert hb;intro _)))|with_reducible refine aA ?_ ?_|with_reducible refine ar ?_|fail)
  all_goals exact part _ k _ _ _ hk ho
 have zero:∀b:Bool,(b=true→d2=[114,101,99,111,114,100]∨d2=[101,110,117,109]∨d2=[102,105,120,101,100])→Tot (iq 2000 (space,deep,c0,c1,c2,c3,c4,d0,d1,d2,d3,d4,d2,b,ts,e)) (fun z=>∃(y0:Int)(y1:List am)(y2:Int)(rest:List aq),z.1.dimR=.int .i64 y0∧z.2=some [.ul .atype y1,.int .i64 y2]::rest∧cT ts e c0 c1 c2 c3 c4 space deep (y0,y1,y2)):=by
  intro b hb
  unfold iq gR
  dsimp only
  refine au (fun h1=>?_) (fun h1=>au (fun h2=>one _ fun _=>?_) (fun h2=>one _ fun h3=>?_))
  ·refine ao (aci _) ?_
   rintro(k:Int) ⟨-,hk1,hk2,hk3,hk4⟩
   have hb:=hb h1
   have hk0:k≠0:=fun h=>by
    rcases hb with hb|hb|hb
    ·exact hk4 h 8 (by decide) hb.symm
    ·exact hk4 h 9 (by decide) hb.symm
    ·exact hk4 h 10 (by decide) hb.symm
   refine ao (ajK deep (by omega) hT _ _ _ _ _ _ _ _ _ h hn hz hs (akv (by omega) hk2 (hk3 (by omega)) hb)) ?_
   rintro⟨a,ts',e'⟩ ⟨-,g1,g2⟩
   exact ar ⟨_,_,_,_,rfl,rfl,g1,fun h0=>(g2 h0).up (by omega)⟩
  ·exact .inl (of_decide_eq_true h2)
  ·exact .inr (of_decide_eq_true h3)
 repeat' (first|(with_reducible refine au ?_ ?_<;>(intro hb;(try simp only[bnl] at hb);(try revert hb;intro _)))|with_reducible refine aA ?_ ?_|with_reducible refine ar ?_|(refine ao (bB _ _ _) ?_;rintro _ ⟨-,rfl⟩;try dsimp only)|fail)
 ·exact⟨_,_,_,_,rfl,rfl,stuck (by decide),fun h=>absurd h (nz (by decide))⟩
 ·simp only[ed]
  refine ao (hT _ _ _ _ _ _ _ _ h hg (by omega) (by omega)) ?_
  rintro⟨a,ts',e'⟩ ⟨-,g1,g2⟩
  exact ar ⟨_,_,_,_,rfl,rfl,g1,fun h0=>(g2 h0).up (by omega)⟩
 all_goals refine zero _ fun hb=>?_
 ·exact .inl (by first|assumption|exact of_decide_eq_true hb)
 ·exact .inr (.inl (by first|assumption|exact of_decide_eq_true hb))
 ·exact .inr (.inr (by first|assumption|exact of_decide_eq_true hb))
theorem aha:∀(n:Nat)(deep:Int),deep+n=21→1≤deep→sL deep
 |0,deep,h,h1=>aeH deep (by omega) (fun h'=>by omega)
 |n+1,deep,h,h1=>aeH deep (by omega) (fun _=>aha n (deep+1) (by omega) (by omega))
theorem akw(c0 c1:Int)(c2:List UInt8)(c3:List ak)(c4:List (List UInt8))(hn:bO (.mk c0 c1 c2 c3 c4))(hz:szJ (.mk c0 c1 c2 c3 c4)≤fL):∃r,mv c0 c1 c2 c3 c4 r:=by
 apply adM 1
 unfold xX xW
 dsimp only
 refine ao (aha 20 1 (by omega) (by omega) _ _ _ _ _ _ _ _ (by simp) hn hz (by simp)) ?_
 rintro⟨a,ts',e'⟩ ⟨-,g1,g2⟩
 dsimp only at g1 g2 ⊢
 repeat' (first|(with_reducible refine au ?_ ?_<;>(intro hb;(try simp only[bnl] at hb);(try revert hb;intro _)))|with_reducible refine aA ?_ ?_|with_reducible refine ar ?_|fail)
 ·rename_i h0
  exact⟨_,_,_,rfl,rfl,fun h=>absurd h h0⟩
 ·rename_i h0
  refine⟨_,_,_,rfl,rfl,fun _=>?_⟩
  obtain⟨q1,⟨b,b1,b2⟩,q3⟩:=g2 h0
  have q3:=q3 rfl
  subst q3
  rw[h0] at g1
  obtain⟨s1,s2⟩:=g1.sch (by omega)
  exact⟨s1,s2,b,by omega,b2⟩
end Go.Proofs.YtkinflmjagfapaaDoor
end
