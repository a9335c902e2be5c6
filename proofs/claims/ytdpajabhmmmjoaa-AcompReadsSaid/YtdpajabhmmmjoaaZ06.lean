import Derived.KernelRfl
import Derived.Test.YtdpajabhmmmjoaaZ02
import Derived.Test.YtdpajabhmmmjoaaZ03
import Derived.Test.YtdpajabhmmmjoaaZ04
import Derived.Test.YtdpajabhmmmjoaaZ05
noncomputable section
namespace Go.Proofs.Ytdpajabhmmmjoaa
open Go.AM
set_option autoImplicit false
set_option linter.unusedVariables false
set_option maxRecDepth 100000
noncomputable def ab5:aN:=tab (P:=Try.prog) [] [] [] []
def adL:IR:=Sq (Rs [Mv 7 3,Bc 8 .geq 7 0] (Cn 8 .skip (.exit 0))) (Sq (.block 1 (Rs [Mv 11 0,Mv 12 3,Pp (.idx 13 11 12),Pp (.bin 14 .eql 13 (.c (.int .u8 46)))] (Cn 14 (Rs [Mv 15 0,Mv 16 3,Pp (.subs 17 15 none (some 16)),Mv 2 17] .ret) .skip))) (Rg [Mv 9 3,Bc 10 .sub 9 1,Mv 3 10]))
def adM:IR:=Rs [Ms 2 []] .ret
def ars:IR:=Rs [Ms 2 []] (Sq (Rs [Mv 4 0,Pp (.lens 5 4),Bc 6 .sub 5 1,Mv 3 6] (.block 0 (.loop [0,3,1000000] 0 adL))) adM)
def agD:List RV:=[.t 2]
theorem art:FnC Try.prog ab5 [] 0 ahk Try.f142 ars agD:=fnC Try.func142
def apH(R:IR→(Ex→St→Ro)→St→Ro)(a:St→Ro):Ex→St→Ro:=(bj a [0,3,1000000] 0 (aP 0 (bg (R adM) (fin agD))))
abbrev tw:Type:=(Bs×Int)
def rl:tw→St:=fun(a,b)=>{env:=(.str a::.undef::.undef::.int .i64 b::(U 14 [])),hp:=[]}
def zx(N:Nat):(St→Ro)→St→Ro:=fun a s=>run ab5 N adL (apH (run ab5 N) a) s
def tx(N:Nat)(a:tw→Ro):tw→Ro:=fun(c,b)=>
 cond (decide (0≤b)) (
 chk (ixl b c) (
 let d:=(↑(UInt8.toNat (List.getD c (Int.toNat b) 0)):Int)
 cond (d==46) (
 chk (decide (0≤b)&&decide (b≤(↑(List.length c):Int))) (
 let e:=(List.drop 0 (List.take (Int.toNat b) c))
 some (.str e,[]))) (
 let f:=(IntKind.wrap .i64 (b-1))
 a (c,f)))) (
 some (.str ([]:Bs),[]))
theorem anO(N:Nat):LB (zx N) rl (tx N):=fun _ _=>by kernel_rfl
def qi(N:Nat)(a:Bs)(b:tw→Ro):Ro:=
 let c:=(↑(List.length a):Int)
 let d:=(IntKind.wrap .i64 (c-1))
 b (a,d)
def agE(N:Nat)(a:Bs):Ro:=qi N a (fun z=>aR N (tx N) z)
theorem apI(N:Nat)(a:Bs)(h:Tot (agE N a) (fun z=>∃(c:Bs)(rest:List aK),z.1.dimR=.str c∧z.2=rest∧nt a (c))):∃r,ry a r:=art.finP (N:=N) ((bo _ (by kernel_rfl) rfl (fun C=>qi N a (fun z=>C 1000000 (rl z))) (fun C=>by kernel_rfl)).trans (Eq.trans (b:=qi N a (fun z=>aX N (zx N) (rl z))) (by kernel_rfl) (congrArg (qi N a) (funext fun z=>aW (rl) (zx N) (tx N) (anO N) N z)))) h fun _ ⟨c,_,e,_,q⟩=>⟨(c),e,q⟩
noncomputable def ax2:aN:=tab (P:=Try.prog) [] [] [] [avU]
def aw5:IR:=Rs [Bx 2 0,Ms 4 []] (Sq (Rs [Mv 5 1,Bc 6 .lss 5 0,Mv 7 6,Gf 7 (.mov 8 1),Gf 7 (.fad 9 0 2),Gf 7 (.lde 10 1 false 9),Gf 7 (.lenl 11 10),Gf 7 (.bin 12 .geq 8 11),Po 13 7 12] (Cn 13 (Rs [Ms 4 []] .ret) .skip)) (Sq (Rs [Fa 14 0 2,Lq 15 14,Mv 16 1,Ix 17 .atype 15 16,Fa 18 1 17,Lo 19 18,Pp (.bin 20 .neq 19 (kS []))] (Cn 20 (Rs [Fa 21 0 2,Lq 22 21,Mv 23 1,Ix 24 .atype 22 23,Fa 25 1 24,Lo 26 25,Mv 4 26] .ret) .skip)) (Rs [Fa 27 0 2,Lq 28 27,Mv 29 1,Ix 30 .atype 28 29,Fa 31 0 30,Lo 32 31,Ca 33 158 [32],Mv 4 33] .ret)))
def aw6:List RV:=[.t 4]
theorem aw7:FnC Try.prog ax2 [] 0 an5 Try.f139 aw5 aw6:=fnC Try.func139
def amW(N:Nat)(a:List aA)(b:Int):Ro:=
 cond (decide (b<0)) (
 some (.str ([]:Bs),[])) (
 let c:=(↑(List.length a):Int)
 cond (decide (c≤b)) (
 some (.str ([]:Bs),[])) (
 chk (ixl b a) (
 let d:=(List.getD a (Int.toNat b) (aB .atype))
 let e:=(!decide (d.name=([]:Bs)))
 cond e (
 chk (ixl b a) (
 let f:=(List.getD a (Int.toNat b) (aB .atype))
 some (.str f.name,[]))) (
 chk (ixl b a) (
 let g:=(List.getD a (Int.toNat b) (aB .atype))
 aG (vZ g.kind) (fun(h:Bs)=>
 some (.str h,[])))))))
def amX(N:Nat)(a:List aA)(b:Int):Ro:=amW N a b
theorem au7(N:Nat)(a:List aA)(c:Int)(h:Tot (amX N a c) (fun z=>∃(b:Bs)(rest:List aK),z.1.dimR=.str b∧z.2=rest)):∃r,uo a c r:=aw7.finP0 (N:=N) (by kernel_rfl) h fun _ ⟨b,_,e,_⟩=>⟨(b),e⟩
noncomputable def uE:aN:=tab (P:=Try.prog) [] [dz] [] [axD,avW]
def yB:IR:=Sq (Rs [Mv 12 8,Mv 13 1,Pp (.lens 14 13),Bi 15 .lss 12 14] (Cn 15 .skip (.exit 0))) (Sq (.block 1 (Rs [Mv 18 1,Mv 19 8,Pp (.idx 20 18 19),Pp (.bin 21 .eql 20 (.c (.int .u8 46)))] (Cn 21 (Rg [Mv 22 1,Mv 7 22]) .skip))) (Rg [Mv 16 8,Bc 17 .add 16 1,Mv 8 17]))
def yC:IR:=Sq (Rs [Mv 23 1,Pp (.bin 24 .eql 23 (kS [])),Mv 25 24,Gf 25 (.mov 26 7),Gf 25 (.call 27 160 [26]),Gf 25 (.un 28 .not 27),Po 29 25 28] (Cn 29 (Rg [Mv 30 0,Ca 31 110 [30,kI 6]]) .skip)) (Rs [Mv 32 7,Mv 6 32] .ret)
def ajm:IR:=Rs [Ms 6 []] (Rs [Mv 9 2,Mv 10 1,Ca 11 159 [9,10],Mv 7 11] (Sq (Rs [Mi 8 0] (.block 0 (.loop [0,1,7,8,1000000] 1 yB))) yC))
def aaU:List RV:=[.t 6]
theorem ajn:FnC Try.prog uE [110,2000110] 1 aba Try.f141 ajm aaU:=fnC Try.func141
def aii(R:IR→(Ex→St→Ro)→St→Ro)(a:St→Ro):Ex→St→Ro:=(bj a [0,1,7,8,1000000] 1 (aP 0 (bg (R yC) (fin aaU))))
abbrev mK:Type:=(Bs×Bs×Int×List aA×Int)
def lQ:mK→St:=fun(a,b,c,d,e)=>{env:=(.ptr 0 0::.str a::(U 5 (.str b::.int .i64 c::(U 24 [])))),hp:=[some [.ul .atype d,.int .i64 e]]}
def sg(N:Nat):(St→Ro)→St→Ro:=fun a s=>run uE N yB (aii (run uE N) a) s
def mL(N:Nat)(c:mK→Ro):mK→Ro:=fun(d,f,e,a,b)=>
 let j:=(↑(List.length d):Int)
 let g:=fun k l=>(some (.str f,[some [.ul .atype k,.int .i64 l]]):Ro)
 cond (decide (e<j)) (
 chk (ixl e d) (
 let m:=(↑(UInt8.toNat (List.getD d (Int.toNat e) 0)):Int)
 cond (m==46) (
 let n:=(IntKind.wrap .i64 (e+1))
 c (d,d,n,a,b)) (
 let o:=(IntKind.wrap .i64 (e+1))
 c (d,f,o,a,b)))) (
 let p:=decide (d=([]:Bs))
 cond p (
 aG (aL a b 6) (fun h=>
 g h.2.1 h.2.2)) (
 aG (wa f) (fun(q:Bool)=>
 cond (!q) (
 aG (aL a b 6) (fun i=>
 g i.2.1 i.2.2)) (
 g a b))))
theorem agZ(N:Nat):LB (sg N) lQ (mL N):=fun _ _=>by kernel_rfl
def jy(N:Nat)(a:List aA)(b:Int)(c d:Bs)(e:mK→Ro):Ro:=
 aG (yk d c) (fun(f:Bs)=>
 e (c,f,0,a,b))
def aaV(N:Nat)(a:List aA)(b:Int)(c d:Bs):Ro:=jy N a b c d (fun z=>aR N (mL N) z)
theorem aij(N:Nat)(a:List aA)(c:Int)(d g:Bs)(h:Tot (aaV N a c d g) (fun z=>∃(i:Bs)(j:List aA)(k:Int)(rest:List aK),z.1.dimR=.str i∧z.2=some [.ul .atype j,.int .i64 k]::rest∧yi a c d g (i,j,k))):∃r,gT a c d g r:=FnC.finO (css:=[[.ul .atype a,.int .i64 c]]) ajn (N:=N) ((bo _ (by kernel_rfl) rfl (fun C=>jy N a c d g (fun z=>C 1000000 (lQ z))) (fun C=>by kernel_rfl)).trans (Eq.trans (b:=jy N a c d g (fun z=>aX N (sg N) (lQ z))) (by kernel_rfl) (congrArg (jy N a c d g) (funext fun z=>aW (lQ) (sg N) (mL N) (agZ N) N z)))) h fun _ ⟨i,j,k,_,e,f,q⟩=>⟨(i,j,k),e,⟨_,f⟩,q⟩
noncomputable def amY:aN:=tab (P:=Try.prog) [] [dz] [] [sL]
def ak4:IR:=Rs [Bx 5 1,Ms 8 []] (Rs [Ld 12 5 true 5,Mv 13 2,Ca 14 113 [12,13],Mv 11 14,Ex_ 15 0 11,Ex_ 16 1 11,Pp (.alr 9 5),Fz 9 5 15,Mv 10 16] (Sq (Rs [Mv 17 10,Un 18 17,Mv 19 18,Gt 19 (.mov 20 3),Gt 19 (.un 21 .not 20),Pa 22 19 21] (Cn 22 (Rs [Ms 8 []] .ret) .skip)) (Sq (Rs [Mv 23 10,Un 24 23,Mv 25 24,Gf 25 (.fad 26 0 9),Gf 25 (.lde 27 1 false 26),Gf 25 (.bin 28 .neq 27 (kI 4)),Po 29 25 28] (Cn 29 (Rs [Mv 30 0,Ca 31 110 [30,kI 2]] (Rs [Ms 8 []] .ret)) .skip)) (Rs [Fa 32 2 9,Lq 33 32,Mv 8 33] .ret))))
def ak5:List RV:=[.t 8]
theorem ak6:FnC Try.prog amY [110,2000110] 1 acm Try.f140 ak4 ak5:=fnC Try.func140
def abq(N:Nat)(a:List aA)(b d e:Int)(f:Bs)(g:List aD)(h:Bss)(p:Bs)(q:Bool):Ro:=
 let i:=fun j r=>(some (.str ([]:Bs),[some [.ul .atype j,.int .i64 r]]):Ro)
 let k:=fun j=>(some (.str j,[some [.ul .atype a,.int .i64 b]]):Ro)
 aG (dJ d e f g h p) (fun c=>
 cond (!c.2.2.2.2.2) (
 cond (!q) (
 i a b) (
 cond (!c.2.2.2.2.2) (
 aG (aL a b 2) (fun l=>
 i l.2.1 l.2.2)) (
 cond (!(c.1==4)) (
 aG (aL a b 2) (fun m=>
 i m.2.1 m.2.2)) (
 k c.2.2.1)))) (
 cond (!c.2.2.2.2.2) (
 aG (aL a b 2) (fun n=>
 i n.2.1 n.2.2)) (
 cond (!(c.1==4)) (
 aG (aL a b 2) (fun o=>
 i o.2.1 o.2.2)) (
 k c.2.2.1))))
def abr(N:Nat)(a:List aA)(b c d:Int)(e:Bs)(f:List aD)(g:Bss)(h:Bs)(i:Bool):Ro:=abq N a b c d e f g h i
theorem ajo(N:Nat)(a:List aA)(b c d:Int)(g:Bs)(i:List aD)(j:Bss)(n:Bs)(o:Bool)(h:Tot (abr N a b c d g i j n o) (fun z=>∃(k:Bs)(l:List aA)(m:Int)(rest:List aK),z.1.dimR=.str k∧z.2=some [.ul .atype l,.int .i64 m]::rest∧zF a b c d g i j n o (k,l,m))):∃r,eP a b c d g i j n o r:=FnC.finO (css:=[[.ul .atype a,.int .i64 b]]) ak6 (N:=N) (by kernel_rfl) h fun _ ⟨k,l,m,_,e,f,q⟩=>⟨(k,l,m),e,⟨_,f⟩,q⟩
noncomputable def uF:aN:=tab (P:=Try.prog) [] [dz] [] [sL]
def yD:IR:=Sq (Rs [Mv 25 11,Fa 26 3 8,Lq 27 26,Ll 28 27,Bi 29 .lss 25 28,Mv 30 29,Gt 30 (.mov 31 0),Gt 30 (.nck 32 31),Gt 30 (.fad 33 1 32),Gt 30 (.ld 34 1 false false 33),Gt 30 (.bin 35 .eql 34 (kI 0)),Pa 36 30 35] (Cn 36 .skip (.exit 0))) (Sq (.block 1 (Sq (Rs [Fa 39 3 8,Lq 40 39,Mv 41 11,Ix 42 .jnode 40 41,Fa 43 0 42,Lo 44 43,Bc 45 .neq 44 4] (Cn 45 (Rg [Mv 46 0,Ca 47 110 [46,kI 2]]) .skip)) (Rg [Pp (.mov 48 (.tk 10)),Fa 49 3 8,Lq 50 49,Mv 51 11,Ix 52 .jnode 50 51,Fa 53 2 52,Lo 54 53,Pp (.bsl 55 .str [54] true),Pp (.app 56 .str (.tk 48) 55),Pp (.mov 10 (.tk 56))]))) (Rg [Mv 37 11,Bc 38 .add 37 1,Mv 11 38]))
def xM:IR:=Rs [Mv 57 10,Mv 6 57,Mb 7 true] .ret
def ajp:IR:=Rs [Bx 4 1,Pp (.mov 6 (.c (nl .str))),Mb 7 false] (Rs [Ld 13 5 true 4,Mv 14 2,Ca 15 113 [13,14],Mv 12 15,Ex_ 16 0 12,Ex_ 17 1 12,Pp (.alr 8 5),Fz 8 5 16,Mv 9 17] (Sq (Rs [Mv 18 9,Un 19 18] (Cn 19 (Rs [Pp (.mov 6 (.c (nl .str))),Mb 7 false] .ret) .skip)) (Sq (Rs [Fa 20 0 8,Lq 21 20,Bc 22 .neq 21 5] (Cn 22 (Rg [Mv 23 0,Ca 24 110 [23,kI 2]]) .skip)) (Rs [Pp (.mov 10 (.c (nl .str)))] (Sq (Rs [Mi 11 0] (.block 0 (.loop [0,8,10,11,1000000] 1 yD))) xM)))))
def aaW:List RV:=[.t 6,.t 7]
theorem ajq:FnC Try.prog uF [110,2000110] 1 aa8 Try.f143 ajp aaW:=fnC Try.func143
def aik(R:IR→(Ex→St→Ro)→St→Ro)(a:St→Ro):Ex→St→Ro:=(bj a [0,8,10,11,1000000] 1 (aP 0 (bg (R xM) (fin aaW))))
abbrev mM:Type:=(Int×Int×Bs×List aD×Bss×Bss×Int×List aA×Int)
def lR:mM→St:=fun(a,b,c,d,e,f,g,h,i)=>{env:=(.ptr 0 0::(U 7 (.ea [.int .i64 a,.int .i64 b,.str c,.sl .jnode (.may false) d,.sl .str (.may false) e]::.undef::.sl .str .own f::.int .i64 g::(U 46 [])))),hp:=[some [.ul .atype h,.int .i64 i]]}
def sh(N:Nat):(St→Ro)→St→Ro:=fun a s=>run uF N yD (aik (run uF N) a) s
def iO(N:Nat)(c:mM→Ro):mM→Ro:=fun(g,h,i,a,j,e,b,f,d)=>
 let o:=(↑(List.length a):Int)
 let k:=(some (.tup [.sl .str (.may false) e,.bool true],[some [.ul .atype f,.int .i64 d]]):Ro)
 cond (decide (b<o)) (
 cond (d==0) (
 chk (ixl b a) (
 let p:=(List.getD a (Int.toNat b) (aB .jnode))
 cond (!(p.kind==4)) (
 aG (aL f d 2) (fun l=>
 chk (ixl b a) (
 let m:=(List.getD a (Int.toNat b) (aB .jnode))
 chk (decide ((List.length e+List.length ([m.s]:Bss))*16≤140737488355328)) (
 let q:=(e++([m.s]:Bss))
 let r:=(IntKind.wrap .i64 (b+1))
 c (g,h,i,a,j,q,r,l.2.1,l.2.2))))) (
 chk (ixl b a) (
 let n:=(List.getD a (Int.toNat b) (aB .jnode))
 chk (decide ((List.length e+List.length ([n.s]:Bss))*16≤140737488355328)) (
 let t:=(e++([n.s]:Bss))
 let u:=(IntKind.wrap .i64 (b+1))
 c (g,h,i,a,j,t,u,f,d)))))) (
 k)) (
 k)
theorem ag0(N:Nat):LB (sh N) lR (iO N):=fun _ _=>by kernel_rfl
def jz(N:Nat)(b:List aA)(c d e:Int)(f:Bs)(g:List aD)(h:Bss)(k:Bs)(i:mM→Ro):Ro:=
 aG (dJ d e f g h k) (fun a=>
 cond (!a.2.2.2.2.2) (
 some (.tup [.sl .str (.may false) ([]:Bss),.bool false],[some [.ul .atype b,.int .i64 c]])) (
 cond (!(a.1==5)) (
 aG (aL b c 2) (fun j=>
 i (a.1,a.2.1,a.2.2.1,a.2.2.2.1,a.2.2.2.2.1,([]:Bss),0,j.2.1,j.2.2))) (
 i (a.1,a.2.1,a.2.2.1,a.2.2.2.1,a.2.2.2.2.1,([]:Bss),0,b,c))))
def aaX(N:Nat)(a:List aA)(b c d:Int)(e:Bs)(f:List aD)(g:Bss)(h:Bs):Ro:=jz N a b c d e f g h (fun z=>aR N (iO N) z)
theorem ail(N:Nat)(a:List aA)(c d g:Int)(i:Bs)(j:List aD)(k:Bss)(l:Bs)(h:Tot (aaX N a c d g i j k l) (fun z=>∃(m:Bss)(n:Bool)(o:List aA)(p:Int)(rest:List aK),z.1.dimR=.tup [.sl .str (.may false) m,.bool n]∧z.2=some [.ul .atype o,.int .i64 p]::rest∧qk a c d g i j k l (m,n,o,p))):∃r,dK a c d g i j k l r:=FnC.finO (css:=[[.ul .atype a,.int .i64 c]]) ajq (N:=N) ((bo _ (by kernel_rfl) rfl (fun C=>jz N a c d g i j k l (fun z=>C 1000000 (lR z))) (fun C=>by kernel_rfl)).trans (Eq.trans (b:=jz N a c d g i j k l (fun z=>aX N (sh N) (lR z))) (by kernel_rfl) (congrArg (jz N a c d g i j k l) (funext fun z=>aW (lR) (sh N) (iO N) (ag0 N) N z)))) h fun _ ⟨m,n,o,p,_,e,f,q⟩=>⟨(m,n,o,p),e,⟨_,f⟩,q⟩
noncomputable def bX:aN:=tab (P:=Try.prog) [] [dz,vY,uq] [] [sL,agH]
def wP:IR:=Sq (Rs [Mv 56 9,Mv 57 8,Bi 58 .lss 56 57] (Cn 58 .skip (.exit 2))) (Sq (.block 3 (Sq (.reg [Mv 61 6,Mv 62 9,Ix 63 .str 61 62,Lq 64 63,Mv 65 6,Mv 66 8,Ix 67 .str 65 66,Lq 68 67,Bi 69 .eql 64 68] [[],[],[0,1],[0,1,2],[],[],[4,5],[4,5,6],rg 0 7]) (Cn 69 (Rg [Mv 70 0,Ca 71 110 [70,kI 5]]) .skip))) (Rg [Mv 59 9,Bc 60 .add 59 1,Mv 9 60]))
def vJ:IR:=Rg [Mv 46 8,Bc 47 .add 46 1,Mv 8 47]
def iV:IR:=Sq (Rs [Mv 35 8,Mv 36 6,Ll 37 36,Bi 38 .lss 35 37,Mv 39 38,Gt 39 (.mov 40 0),Gt 39 (.nck 41 40),Gt 39 (.fad 42 1 41),Gt 39 (.ld 43 1 false false 42),Gt 39 (.bin 44 .eql 43 (kI 0)),Pa 45 39 44] (Cn 45 .skip (.exit 0))) (Sq (.block 1 (Sq (Rs [Mv 48 6,Mv 49 8,Ix 50 .str 48 49,Lq 51 50,Ca 52 161 [51],Un 53 52] (Cn 53 (Rg [Mv 54 0,Ca 55 110 [54,kI 6]]) .skip)) (Rs [Mi 9 0] (.block 2 (.loop [0,2,4,6,8,9,1000000] 1 wP))))) vJ)
def vK:IR:=Sq (Rs [Mv 80 14,Mv 81 6,Ll 82 81,Bi 83 .lss 80 82] (Cn 83 .skip (.exit 4))) (Sq (.block 5 (Rg [Mv 86 13,Mv 87 86,Gf 87 (.mov 88 6),Gf 87 (.mov 89 14),Gf 87 (.ixa 90 .str 88 89),Gf 87 (.lde 91 1 false 90),Gf 87 (.mov 92 12),Gf 87 (.bin 93 .eql 91 92),Po 94 87 93,Mv 13 94])) (Rg [Mv 84 14,Bc 85 .add 84 1,Mv 14 85]))
def vL:IR:=Sq (Rs [Mv 95 11,Mv 96 95,Gt 96 (.mov 97 13),Gt 96 (.un 98 .not 97),Pa 99 96 98] (Cn 99 (Rg [Mv 100 0,Ca 101 110 [100,kI 6]]) .skip)) (Rs [Mv 102 0,Nk 103 102,Fa 104 1 103,Lo 105 104,Bc 106 .eql 105 0] (Cn 106 (.gh (.opn (.cell 0 0)) (.ghp (.cls (.cell 0 0)) (.reg [Mv 107 0,Nk 108 107,Fa 109 0 108,Fa 110 0 109,Fo [0] [] (.ld 111 1 false false 110),Mv 112 2,Mv 113 0,Nk 114 113,Fa 115 0 114,Fa 116 0 115,Fo [0] [] (.ld 117 1 false false 116),Mv 118 2,Mv 119 0,Nk 120 119,Fa 121 0 120,Fa 122 0 121,Fo [0] [] (.ld 123 1 false false 122),Mv 124 2,Mv 125 6,Mv 126 11,Mv 127 12,Pp (.ixw 128 .atype 111 112),Pp (.fdw 129 4 128),Fo [] [1] (.stw none 1 129 125),Pp (.ixw 130 .atype 117 118),Pp (.fdw 131 5 130),Fo [] [1] (.stw none 1 131 126),Pp (.ixw 132 .atype 123 124),Pp (.fdw 133 6 132),Fo [] [1] (.stw none 1 133 127)] [[],[0],[0,1],[0,1,2],rg 0 3,[],[],[6],[6,7],[6,7,8],rg 6 9,[],[],[12],[12,13],[12,13,14],rg 12 15,[],[],[],[],rg 0 10++rg 12 16++[18],rg 0 10++rg 12 16++[18]++[21],rg 0 10++rg 12 16++[18]++[21,22],rg 0 16++[18,19]++[21,22,23],rg 0 16++[18,19]++rg 21 24,rg 0 16++[18,19]++rg 21 25,rg 0 26,rg 0 27,rg 0 28]))) .skip))
def oh:IR:=Rs [Ld 73 5 true 4,Ca 74 113 [73,kS [100,101,102,97,117,108,116]],Mv 72 74,Ex_ 75 0 72,Ex_ 76 1 72,Pp (.alr 10 5),Fz 10 5 75,Mv 11 76] (Rs [Mv 77 0,Ld 78 5 true 4,Ca 79 140 [77,78,kS [100,101,102,97,117,108,116],kB false],Mv 12 79] (Rs [Mb 13 false] (Sq (Rs [Mi 14 0] (.block 4 (.loop [0,2,6,11,12,13,14,1000002] 1 vK))) vL)))
def ag1:IR:=Rs [Bx 4 1] (Rs [Mv 16 0,Ld 17 5 true 4,Ca 18 143 [16,17,kS [115,121,109,98,111,108,115]],Mv 15 18,Ex_ 19 0 15,Ex_ 20 1 15,Mv 6 19,Mv 7 20] (Sq (Rs [Mv 21 7,Un 22 21] (Cn 22 (Rg [Mv 23 0,Ca 24 110 [23,kI 2]]) .skip)) (Sq (Rs [Mv 25 6,Ll 26 25,Bc 27 .eql 26 0] (Cn 27 (Rg [Mv 28 0,Ca 29 110 [28,kI 6]]) .skip)) (Sq (Rs [Mv 30 6,Ll 31 30,Bc 32 .gtr 31 30] (Cn 32 (Rg [Mv 33 0,Ca 34 110 [33,kI 3]]) .skip)) (Sq (Rs [Mi 8 0] (.block 0 (.loop [0,2,4,6,8,1000001] 1 iV))) oh)))))
def lS:List RV:=[]
theorem ag2:FnC Try.prog bX [110,140,143,2000110,2000140,2000143] 1 zG Try.f145 ag1 lS:=fnC Try.func145
def kv(R:IR→(Ex→St→Ro)→St→Ro)(a:St→Ro):Ex→St→Ro:=(bj a [0,2,4,6,8,1000001] 1 (aP 0 (bg (R oh) (fin lS))))
abbrev dj:Type:=(Int×Int×Int×Bs×List aD×Bss×Bss×Int×List aA×Int)
def bC:dj→St:=fun(a,b,c,d,e,f,g,h,i,j)=>{env:=(.ptr 0 0::.undef::.int .i64 a::.undef::.ea [.int .i64 b,.int .i64 c,.str d,.sl .jnode (.may false) e,.sl .str (.may false) f]::.undef::.sl .str (.may false) g::.undef::.int .i64 h::(U 125 [])),hp:=[some [.ul .atype i,.int .i64 j]]}
def afL(R:IR→(Ex→St→Ro)→St→Ro)(a b:St→Ro):Ex→St→Ro:=(bj b [0,2,4,6,8,9,1000000] 1 (aP 2 (aP 1 (bg (R vJ) (kv R a)))))
abbrev kw:Type:=(Int×Int×Int×Bs×List aD×Bss×Bss×Int×Int×List aA×Int)
def gi:kw→St:=fun(b,c,d,e,f,g,h,i,j,k,a)=>{env:=(.ptr 0 0::.undef::.int .i64 b::.undef::.ea [.int .i64 c,.int .i64 d,.str e,.sl .jnode (.may false) f,.sl .str (.may false) g]::.undef::.sl .str (.may false) h::.undef::.int .i64 i::.int .i64 j::(U 124 [])),hp:=[some [.ul .atype k,.int .i64 a]]}
def kz(N:Nat)(a:St→Ro):(St→Ro)→St→Ro:=fun b s=>run bX N wP (afL (run bX N) a b) s
def eV(N:Nat)(i:dj→Ro)(a:kw→Ro):kw→Ro:=fun(m,b,c,d,e,f,j,k,l,g,h)=>
 cond (decide (l<k)) (
 chk (ixl l j) (
 let o:=List.getD j (Int.toNat l) (aB .str)
 chk (ixl k j) (
 let p:=List.getD j (Int.toNat k) (aB .str)
 cond (decide (o=p)) (
 aG (aL g h 5) (fun n=>
 let q:=(IntKind.wrap .i64 (l+1))
 a (m,b,c,d,e,f,j,k,q,n.2.1,n.2.2))) (
 let r:=(IntKind.wrap .i64 (l+1))
 a (m,b,c,d,e,f,j,k,r,g,h))))) (
 let s:=(IntKind.wrap .i64 (k+1))
 i (m,b,c,d,e,f,j,s,g,h))
theorem afo(N:Nat)(a:St→Ro):LB (kz N a) gi (eV N (fun y=>a (bC y))):=fun _ _=>by kernel_rfl
def afM(R:IR→(Ex→St→Ro)→St→Ro)(a:St→Ro):Ex→St→Ro:=(bj a [0,2,6,11,12,13,14,1000002] 1 (aP 4 (bg (R vL) (fin lS))))
abbrev kA:Type:=(Int×Bss×Bool×Bs×Bool×Int×List aA×Int)
def gj:kA→St:=fun(a,b,c,d,e,f,g,h)=>{env:=(.ptr 0 0::.undef::.int .i64 a::(U 3 (.sl .str (.may false) b::(U 4 (.bool c::.str d::.bool e::.int .i64 f::(U 119 [])))))),hp:=[some [.ul .atype g,.int .i64 h]]}
def kC(N:Nat):(St→Ro)→St→Ro:=fun a s=>run bX N vK (afM (run bX N) a) s
def eW(N:Nat)(f:kA→Ro):kA→Ro:=fun(c,j,g,h,q,i,b,d)=>
 let u:=(↑(List.length j):Int)
 let v:=fun w x=>(some (.tup [],[some [.ul .atype w,.int .i64 x],none,none]):Ro)
 let y:=fun w x=>(some (.tup [],[some [.ul .atype w,.int .i64 x]]):Ro)
 cond (decide (i<u)) (
 cond q (
 let z:=(IntKind.wrap .i64 (i+1))
 f (c,j,g,h,true,z,b,d)) (
 chk (ixl i j) (
 let aa:=List.getD j (Int.toNat i) (aB .str)
 let ab:=(IntKind.wrap .i64 (i+1))
 f (c,j,g,h,decide (aa=h),ab,b,d)))) (
 cond g (
 cond (!q) (
 aG (aL b d 6) (fun e=>
 cond (e.2.2==0) (
 chk (decide (0<List.length e.2.1)) (
 chk (decide (0≤c)&&decide (c<↑(List.length e.2.1))) (
 chk (decide ((Int.toNat c)<List.length e.2.1)) (
 let k:=(List.set e.2.1 (Int.toNat c) (let a:=List.getD e.2.1 (Int.toNat c) (aB .atype);⟨a.kind,a.name,a.aliases,a.items,j,a.hasdef,a.df,a.size,a.fields,a.branches⟩))
 chk (decide (0≤c)&&decide (c<↑(List.length e.2.1))) (
 chk (decide ((Int.toNat c)<List.length k)) (
 let l:=(List.set k (Int.toNat c) (let a:=List.getD k (Int.toNat c) (aB .atype);⟨a.kind,a.name,a.aliases,a.items,a.syms,g,a.df,a.size,a.fields,a.branches⟩))
 chk (decide (0≤c)&&decide (c<↑(List.length e.2.1))) (
 chk (decide ((Int.toNat c)<List.length l)) (
 let r:=(List.set l (Int.toNat c) (let a:=List.getD l (Int.toNat c) (aB .atype);⟨a.kind,a.name,a.aliases,a.items,a.syms,a.hasdef,h,a.size,a.fields,a.branches⟩))
 chk (Nat.beq (List.length e.2.1) (List.length r)) (
 v r e.2.2))))))))) (
 y e.2.1 e.2.2))) (
 cond (d==0) (
 chk (decide (0<List.length b)) (
 chk (decide (0≤c)&&decide (c<↑(List.length b))) (
 chk (decide ((Int.toNat c)<List.length b)) (
 let m:=(List.set b (Int.toNat c) (let a:=List.getD b (Int.toNat c) (aB .atype);⟨a.kind,a.name,a.aliases,a.items,j,a.hasdef,a.df,a.size,a.fields,a.branches⟩))
 chk (decide (0≤c)&&decide (c<↑(List.length b))) (
 chk (decide ((Int.toNat c)<List.length m)) (
 let n:=(List.set m (Int.toNat c) (let a:=List.getD m (Int.toNat c) (aB .atype);⟨a.kind,a.name,a.aliases,a.items,a.syms,g,a.df,a.size,a.fields,a.branches⟩))
 chk (decide (0≤c)&&decide (c<↑(List.length b))) (
 chk (decide ((Int.toNat c)<List.length n)) (
 let s:=(List.set n (Int.toNat c) (let a:=List.getD n (Int.toNat c) (aB .atype);⟨a.kind,a.name,a.aliases,a.items,a.syms,a.hasdef,h,a.size,a.fields,a.branches⟩))
 chk (Nat.beq (List.length b) (List.length s)) (
 v s d))))))))) (
 y b d))) (
 cond (d==0) (
 chk (decide (0<List.length b)) (
 chk (decide (0≤c)&&decide (c<↑(List.length b))) (
 chk (decide ((Int.toNat c)<List.length b)) (
 let o:=(List.set b (Int.toNat c) (let a:=List.getD b (Int.toNat c) (aB .atype);⟨a.kind,a.name,a.aliases,a.items,j,a.hasdef,a.df,a.size,a.fields,a.branches⟩))
 chk (decide (0≤c)&&decide (c<↑(List.length b))) (
 chk (decide ((Int.toNat c)<List.length o)) (
 let p:=(List.set o (Int.toNat c) (let a:=List.getD o (Int.toNat c) (aB .atype);⟨a.kind,a.name,a.aliases,a.items,a.syms,g,a.df,a.size,a.fields,a.branches⟩))
 chk (decide (0≤c)&&decide (c<↑(List.length b))) (
 chk (decide ((Int.toNat c)<List.length p)) (
 let t:=(List.set p (Int.toNat c) (let a:=List.getD p (Int.toNat c) (aB .atype);⟨a.kind,a.name,a.aliases,a.items,a.syms,a.hasdef,h,a.size,a.fields,a.branches⟩))
 chk (Nat.beq (List.length b) (List.length t)) (
 v t d))))))))) (
 y b d)))
theorem afp(N:Nat):LB (kC N) gj (eW N):=fun _ _=>by kernel_rfl
def kD(N:Nat):(St→Ro)→St→Ro:=fun a s=>run bX N iV (kv (run bX N) a) s
def jA(N:Nat)(k:dj→Ro)(o:kw→Ro)(p:kA→Ro):dj→Ro:=fun(l,a,b,c,d,e,h,j,g,f)=>
 let r:=(↑(List.length h):Int)
 cond (decide (j<r)) (
 cond (f==0) (
 chk (ixl j h) (
 let s:=List.getD h (Int.toNat j) (aB .str)
 aG (lz s) (fun(t:Bool)=>
 cond (!t) (
 aG (aL g f 6) (fun q=>
 o (l,a,b,c,d,e,h,j,0,q.2.1,q.2.2))) (
 o (l,a,b,c,d,e,h,j,0,g,f))))) (
 aG (dJ a b c d e ([100,101,102,97,117,108,116]:Bs)) (fun u=>
 aG (eP g f a b c d e ([100,101,102,97,117,108,116]:Bs) false) (fun m=>
 p (l,h,u.2.2.2.2.2,m.1,false,0,m.2.1,m.2.2))))) (
 aG (dJ a b c d e ([100,101,102,97,117,108,116]:Bs)) (fun n=>
 aG (eP g f a b c d e ([100,101,102,97,117,108,116]:Bs) false) (fun i=>
 p (l,h,n.2.2.2.2.2,i.1,false,0,i.2.1,i.2.2))))
def gG(N:Nat)(a:dj→Ro)(x:dj):Ro:=jA N a (fun z=>aR N (eV N a) z) (fun z=>aR N (eW N) z) x
def pG(N:Nat)(a:St→Ro):List (Nat×(St→Ro)):=(bR bX N iV (kv (run bX N) a)++(bR bX N oh (fin lS)++[]))
theorem afq(N:Nat):∀(a:St→Ro)(x:dj),kD N a (bC x)=gG N (fun y=>a (bC y)) x:=by
 intro a x
 have hX:∀C:Nat→St→Ro,bY C bX N iV (kv (bY C bX N) a) (bC x)=jA N (fun y=>a (bC y)) (fun z=>C 1000000 (gi z)) (fun z=>C 1000002 (gj z)) x:=by
  intro C
  kernel_rfl
 have h:kD N a (bC x)=jA N (fun y=>a (bC y)) (fun z=>aX N (kz N a) (gi z)) (fun z=>aX N (kC N) (gj z)) x:=(cW (C:=eZ (pG N a)) (bS (aY (l:=(pG N a)) (by kernel_rfl))) (jd (cD (fL (bS (dP (aY (l:=(pG N a)) (by kernel_rfl)))) rfl))) _).trans ((hX _).trans (by kernel_rfl))
 have e1:(fun z=>aX N (kz N a) (gi z))=(fun z=>aR N (eV N (fun y=>a (bC y))) z):=funext fun z=>aW (gi) (kz N a) (eV N (fun y=>a (bC y))) (afo N a) N z
 have e2:(fun z=>aX N (kC N) (gj z))=(fun z=>aR N (eW N) z):=funext fun z=>aW (gj) (kC N) (eW N) (afp N) N z
 rw[h,e1,e2]
 rfl
def ik(N:Nat)(k:List aA)(l a b:Int)(c:Bs)(d:List aD)(e:Bss)(h:Int)(i:dj→Ro):Ro:=
 aG (dK k l a b c d e ([115,121,109,98,111,108,115]:Bs)) (fun f=>
 cond (!f.2.1) (
 aG (aL f.2.2.1 f.2.2.2 2) (fun j=>
 let v:=(↑(List.length f.1):Int)
 cond (v==0) (
 aG (aL j.2.1 j.2.2 6) (fun p=>
 let w:=(↑(List.length f.1):Int)
 cond (decide (30<w)) (
 aG (aL p.2.1 p.2.2 3) (fun u=>
 i (h,a,b,c,d,e,f.1,0,u.2.1,u.2.2))) (
 i (h,a,b,c,d,e,f.1,0,p.2.1,p.2.2)))) (
 let q:=(↑(List.length f.1):Int)
 cond (decide (30<q)) (
 aG (aL j.2.1 j.2.2 3) (fun m=>
 i (h,a,b,c,d,e,f.1,0,m.2.1,m.2.2))) (
 i (h,a,b,c,d,e,f.1,0,j.2.1,j.2.2))))) (
 let r:=(↑(List.length f.1):Int)
 cond (r==0) (
 aG (aL f.2.2.1 f.2.2.2 6) (fun g=>
 let s:=(↑(List.length f.1):Int)
 cond (decide (30<s)) (
 aG (aL g.2.1 g.2.2 3) (fun n=>
 i (h,a,b,c,d,e,f.1,0,n.2.1,n.2.2))) (
 i (h,a,b,c,d,e,f.1,0,g.2.1,g.2.2)))) (
 let t:=(↑(List.length f.1):Int)
 cond (decide (30<t)) (
 aG (aL f.2.2.1 f.2.2.2 3) (fun o=>
 i (h,a,b,c,d,e,f.1,0,o.2.1,o.2.2))) (
 i (h,a,b,c,d,e,f.1,0,f.2.2.1,f.2.2.2)))))
def yE(N:Nat)(a:List aA)(b c d:Int)(e:Bs)(f:List aD)(g:Bss)(h:Int):Ro:=ik N a b c d e f g h (fun z=>aR N (gG N) z)
theorem afN(N:Nat)(a:List aA)(c d g:Int)(i:Bs)(j:List aD)(k:Bss)(l:Int)(h:Tot (yE N a c d g i j k l) (fun z=>∃(m:List aA)(n:Int)(rest:List aK),z.1.dimR=.tup []∧z.2=some [.ul .atype m,.int .i64 n]::rest∧eB a c d g i j k l (m,n))):∃r,iD a c d g i j k l r:=FnC.finO (css:=[[.ul .atype a,.int .i64 c]]) ag2 (N:=N) ((bo _ (by kernel_rfl) rfl (fun C=>ik N a c d g i j k l (fun z=>C 1000001 (bC z))) (fun C=>by kernel_rfl)).trans (Eq.trans (b:=ik N a c d g i j k l (fun z=>aX N (kD N) (bC z))) (by kernel_rfl) (congrArg (ik N a c d g i j k l) (funext fun z=>aW (bC) (kD N) (gG N) (afq N) N z)))) h fun _ ⟨m,n,_,e,f,q⟩=>⟨(m,n),e,⟨_,f⟩,q⟩
noncomputable def wQ:aN:=tab (P:=Try.prog) [] [dz,qO,acn] [] [alV]
def zS:IR:=Sq (Rs [Mv 26 9,Mv 27 1,Pp (.lens 28 27),Bi 29 .lss 26 28] (Cn 29 .skip (.exit 0))) (Sq (.block 1 (Rg [Mv 32 8,Mv 33 32,Gf 33 (.mov 34 1),Gf 33 (.mov 35 9),Gf 33 (.idx 36 34 35),Gf 33 (.bin 37 .eql 36 (.c (.int .u8 46))),Po 38 33 37,Mv 8 38])) (Rg [Mv 30 9,Bc 31 .add 30 1,Mv 9 31]))
def yF:IR:=Sq (Rs [Mv 39 8,Un 40 39,Mv 41 40,Gt 41 (.mov 42 2),Gt 41 (.bin 43 .neq 42 (kS [])),Pa 44 41 43] (Cn 44 (Rs [Mv 46 0,Mv 47 2,Pp (.bin 48 .add 47 (kS [46])),Mv 49 1,Bi 50 .add 48 49,Ca 51 138 [46,50],Mv 45 51,Ex_ 52 0 45,Ex_ 53 1 45,Mv 10 52,Mv 11 53] (Rs [Mv 54 11] (Cn 54 (Rs [Mv 55 10,Mv 6 55] .ret) .skip))) .skip)) (Rs [Mv 57 0,Mv 58 1,Ca 59 138 [57,58],Mv 56 59,Ex_ 60 0 56,Ex_ 61 1 56,Mv 12 60,Mv 13 61] (Sq (Rs [Mv 62 13,Un 63 62] (Cn 63 (Rs [Mv 64 0,Ca 65 110 [64,kI 4],Mv 6 65] .ret) .skip)) (Rs [Mv 66 12,Mv 6 66] .ret)))
def ak7:IR:=Rs [Mi 6 0] (Rs [Mv 14 1,Ca 15 115 [14],Mv 7 15] (Sq (Rs [Mv 16 7,Bc 17 .geq 16 1,Mv 18 17,Gt 18 (.mov 19 7),Gt 18 (.bin 20 .leq 19 (kI 8)),Pa 21 18 20] (Cn 21 (Rs [Mv 22 0,Mv 23 7,Pp (.bld 24 [vI 0,vS,fu .str true,vI 0,fu .str true,.bool false,vS,vI 0,fu .afield true,fu (.num .i64) true] [(0,1,23)]),Ca 25 116 [22,24],Mv 6 25] .ret) .skip)) (Rs [Mb 8 false] (Sq (Rs [Mi 9 0] (.block 0 (.loop [0,1,2,8,9,1000000] 1 zS))) yF))))
def abt:List RV:=[.t 6]
theorem ak8:FnC Try.prog wQ [110,116,138,2000110,2000116,2000138] 1 ack Try.f111 ak7 abt:=fnC Try.func111
def ajr(R:IR→(Ex→St→Ro)→St→Ro)(a:St→Ro):Ex→St→Ro:=(bj a [0,1,2,8,9,1000000] 1 (aP 0 (bg (R yF) (fin abt))))
abbrev oi:Type:=(Bs×Bs×Bool×Int×List aA×Int)
def mN:oi→St:=fun(a,b,c,d,e,f)=>{env:=(.ptr 0 0::.str a::.str b::(U 5 (.bool c::.int .i64 d::(U 57 [])))),hp:=[some [.ul .atype e,.int .i64 f]]}
def tz(N:Nat):(St→Ro)→St→Ro:=fun a s=>run wQ N zS (ajr (run wQ N) a) s
def jB(N:Nat)(c:oi→Ro):oi→Ro:=fun(d,i,n,j,a,b)=>
 let p:=(↑(List.length d):Int)
 cond (decide (j<p)) (
 cond n (
 let q:=(IntKind.wrap .i64 (j+1))
 c (d,i,true,q,a,b)) (
 chk (ixl j d) (
 let r:=(↑(UInt8.toNat (List.getD d (Int.toNat j) 0)):Int)
 let s:=(IntKind.wrap .i64 (j+1))
 c (d,i,(r==46),s,a,b)))) (
 cond (!n) (
 let t:=(!decide (i=([]:Bs)))
 cond t (
 chk (decide (List.length i+List.length ([46]:Bs)≤9223372036854775807)) (
 let o:=(i++([46]:Bs))
 chk (decide (List.length o+List.length d≤9223372036854775807)) (
 aG (dA a b (o++d)) (fun e=>
 cond e.2.1 (
 some (.int .i64 e.1,[some [.ul .atype e.2.2.1,.int .i64 e.2.2.2]])) (
 aG (dA e.2.2.1 e.2.2.2 d) (fun f=>
 cond (!f.2.1) (
 aG (aL f.2.2.1 f.2.2.2 4) (fun k=>
 some (.int .i64 k.1,[some [.ul .atype k.2.1,.int .i64 k.2.2]]))) (
 some (.int .i64 f.1,[some [.ul .atype f.2.2.1,.int .i64 f.2.2.2]])))))))) (
 aG (dA a b d) (fun g=>
 cond (!g.2.1) (
 aG (aL g.2.2.1 g.2.2.2 4) (fun l=>
 some (.int .i64 l.1,[some [.ul .atype l.2.1,.int .i64 l.2.2]]))) (
 some (.int .i64 g.1,[some [.ul .atype g.2.2.1,.int .i64 g.2.2.2]]))))) (
 aG (dA a b d) (fun h=>
 cond (!h.2.1) (
 aG (aL h.2.2.1 h.2.2.2 4) (fun m=>
 some (.int .i64 m.1,[some [.ul .atype m.2.1,.int .i64 m.2.2]]))) (
 some (.int .i64 h.1,[some [.ul .atype h.2.2.1,.int .i64 h.2.2.2]])))))
theorem aim(N:Nat):LB (tz N) mN (jB N):=fun _ _=>by kernel_rfl
def kY(N:Nat)(a:List aA)(b:Int)(c f:Bs)(g:oi→Ro):Ro:=
 aG (oT c) (fun(d:Int)=>
 cond (decide (1≤d)) (
 cond (decide (d≤8)) (
 aG (fB a b d ([]:Bs) ([]:Bss) 0 ([]:Bss) false ([]:Bs) 0 ([]:List aM) ([]:List Int)) (fun e=>
 some (.int .i64 e.1,[some [.ul .atype e.2.1,.int .i64 e.2.2]]))) (
 g (c,f,false,0,a,b))) (
 g (c,f,false,0,a,b)))
def abu(N:Nat)(a:List aA)(b:Int)(c d:Bs):Ro:=kY N a b c d (fun z=>aR N (jB N) z)
theorem ajs(N:Nat)(a:List aA)(c:Int)(d g:Bs)(h:Tot (abu N a c d g) (fun z=>∃(i:Int)(j:List aA)(k:Int)(rest:List aK),z.1.dimR=.int .i64 i∧z.2=some [.ul .atype j,.int .i64 k]::rest∧rq a c d g (i,j,k))):∃r,iC a c d g r:=FnC.finO (css:=[[.ul .atype a,.int .i64 c]]) ak8 (N:=N) ((bo _ (by kernel_rfl) rfl (fun C=>kY N a c d g (fun z=>C 1000000 (mN z))) (fun C=>by kernel_rfl)).trans (Eq.trans (b:=kY N a c d g (fun z=>aX N (tz N) (mN z))) (by kernel_rfl) (congrArg (kY N a c d g) (funext fun z=>aW (mN) (tz N) (jB N) (aim N) N z)))) h fun _ ⟨i,j,k,_,e,f,q⟩=>⟨(i,j,k),e,⟨_,f⟩,q⟩
noncomputable def dd:aN:=tab (P:=Try.prog) [] [pN,dz,qO] [139] [axy]
def xN:IR:=Sq (Rs [Mv 70 13,Mv 71 10,Ll 72 71,Bi 73 .lss 70 72] (Cn 73 .skip (.exit 2))) (Sq (.block 3 (Sq (.gh (.opn (.cell 0 0)) (.ghp (.cls (.cell 0 0)) (.reg [Mv 76 0,Nk 77 76,Fa 78 0 77,Fo [0] [] (.ld 79 1 true false 78),Mv 80 10,Mv 81 13,Ix 82 (.num .i64) 80 81,Lq 83 82,Fo [1] [] (.call 84 139 [79,83]),Mv 85 0,Nk 86 85,Fa 87 0 86,Fo [0] [] (.ld 88 1 true false 87),Mv 89 12,Fo [1] [] (.call 90 139 [88,89]),Bi 91 .eql 84 90] [[],[0],[0,1],[0,1,2],[],[],[4,5],[4,5,6],rg 0 7,[],[9],[9,10],[9,10,11],[],rg 0 13,rg 0 14]))) (Cn 91 (Rs [Mv 92 0,Ca 93 110 [92,kI 6],Mv 8 93] .ret) .skip))) (Rg [Mv 74 13,Bc 75 .add 74 1,Mv 13 75]))
def xO:IR:=Rg [Pp (.mov 94 (.tk 10)),Mv 95 12,Pp (.bsl 96 (.num .i64) [95] true),Pp (.app 97 (.num .i64) (.tk 94) 96),Pp (.mov 10 (.tk 97))]
def xP:IR:=Rg [Mv 41 11,Bc 42 .add 41 1,Mv 11 42]
def kE:IR:=Sq (Rs [Mv 29 11,Fa 30 3 5,Lq 31 30,Ll 32 31,Bi 33 .lss 29 32,Mv 34 33,Gt 34 (.mov 35 0),Gt 34 (.nck 36 35),Gt 34 (.fad 37 1 36),Gt 34 (.ld 38 1 false false 37),Gt 34 (.bin 39 .eql 38 (kI 0)),Pa 40 34 39] (Cn 40 .skip (.exit 0))) (Sq (.block 1 (Rs [Mv 43 0,Fa 44 3 5,Lq 45 44,Mv 46 11,Ix 47 .jnode 45 46,Ld 48 5 true 47,Mv 49 2,Mv 50 3,Bc 51 .add 50 1,Ca 52 72 [43,48,49,51],Mv 12 52] (Sq (Rs [Mv 53 0,Nk 54 53,Fa 55 1 54,Lo 56 55,Bc 57 .neq 56 0] (Cn 57 (Rs [Mi 8 0] .ret) .skip)) (Sq (Sq (.gh (.opn (.cell 0 0)) (.ghp (.cls (.cell 0 0)) (Rg [Mv 58 0,Nk 59 58,Fa 60 0 59,Fa 61 0 60,Lo 62 61,Mv 63 12,Pp (.ixw 64 .atype 62 63),Pp (.fdw 65 0 64),Pp (.ldw 66 1 false 65),Bc 67 .eql 66 14]))) (Cn 67 (Rs [Mv 68 0,Ca 69 110 [68,kI 6],Mv 8 69] .ret) .skip)) (Sq (Rs [Mi 13 0] (.block 2 (.loop [0,2,3,5,9,10,11,12,13,1000000] 1 xN))) xO))))) xP)
def pH:IR:=Sq (Rs [Mv 98 0,Nk 99 98,Fa 100 1 99,Lo 101 100,Bc 102 .eql 101 0] (Cn 102 (.gh (.opn (.cell 0 0)) (.ghp (.cls (.cell 0 0)) (Rg [Mv 103 0,Nk 104 103,Fa 105 0 104,Fa 106 0 105,Lo 107 106,Mv 108 9,Mv 109 10,Pp (.ixw 110 .atype 107 108),Pp (.fdw 111 9 110),Pp (.stw none 1 111 109)]))) .skip)) (Rs [Mv 112 9,Mv 8 112] .ret)
def ajt:IR:=Rs [Bx 5 1,Mi 8 0] (Rs [Mv 14 0,Pp (.bld 15 [vI 0,vS,fu .str true,vI 0,fu .str true,.bool false,vS,vI 0,fu .afield true,fu (.num .i64) true] [(0,1,kI 14)]),Ca 16 116 [14,15],Mv 9 16] (Sq (Rs [Fa 17 3 5,Lq 18 17,Ll 19 18,Bc 20 .eql 19 0] (Cn 20 (Rs [Mv 21 0,Ca 22 110 [21,kI 6],Mv 8 22] .ret) .skip)) (Sq (Rs [Fa 23 3 5,Lq 24 23,Ll 25 24,Bc 26 .gtr 25 30] (Cn 26 (Rs [Mv 27 0,Ca 28 110 [27,kI 3],Mv 8 28] .ret) .skip)) (Rs [Pp (.mov 10 (.c (nl (.num .i64))))] (Sq (Rs [Mi 11 0] (.block 0 (.loop [0,2,3,5,9,10,11,1000001] 1 kE))) pH)))))
def tA:List RV:=[.t 8]
theorem aju:FnC Try.prog dd [72,110,116,139,2000072,2000110,2000116,2000139] 1 aa9 Try.f112 ajt tA:=fnC Try.func112
def mO(R:IR→(Ex→St→Ro)→St→Ro)(a:St→Ro):Ex→St→Ro:=(bj a [0,2,3,5,9,10,11,1000001] 1 (aP 0 (bg (R pH) (fin tA))))
abbrev dL:Type:=(Bs×Int×Int×Int×Bs×List aD×Bss×Int×List Int×Int×List aA×Int)
def bN:dL→St:=fun(c,d,e,f,g,h,i,j,k,l,a,b)=>{env:=(.ptr 0 0::.undef::.str c::.int .i64 d::.undef::.ea [.int .i64 e,.int .i64 f,.str g,.sl .jnode (.may false) h,.sl .str (.may false) i]::(U 3 (.int .i64 j::.sl (.num .i64) .own k::.int .i64 l::(U 101 [])))),hp:=[some [.ul .atype a,.int .i64 b]]}
def ain(R:IR→(Ex→St→Ro)→St→Ro)(a b:St→Ro):Ex→St→Ro:=(bj b [0,2,3,5,9,10,11,12,13,1000000] 1 (aP 2 (bg (R xO) (aP 1 (bg (R xP) (mO R a))))))
abbrev mP:Type:=(Bs×Int×Int×Int×Bs×List aD×Bss×Int×List Int×Int×Int×Int×List aA×Int)
def il:mP→St:=fun(e,f,g,h,i,j,k,l,m,n,a,b,c,d)=>{env:=(.ptr 0 0::.undef::.str e::.int .i64 f::.undef::.ea [.int .i64 g,.int .i64 h,.str i,.sl .jnode (.may false) j,.sl .str (.may false) k]::(U 3 (.int .i64 l::.sl (.num .i64) .own m::.int .i64 n::.int .i64 a::.int .i64 b::(U 99 [])))),hp:=[some [.ul .atype c,.int .i64 d]]}
def mQ(N:Nat)(a:St→Ro):(St→Ro)→St→Ro:=fun b s=>run dd N xN (ain (run dd N) a b) s
def iP(N:Nat)(d:dL→Ro)(e:mP→Ro):mP→Ro:=fun(q,r,h,i,j,k,l,s,b,m,f,g,a,c)=>
 let t:=(↑(List.length b):Int)
 cond (decide (g<t)) (
 chk (decide (0<List.length a)) (
 chk (ixl g b) (
 let u:=List.getD b (Int.toNat g) (aB (.num .i64))
 avg (uo a u) (Nat.beq (List.length a) (List.length a)&&true) (fun(v:Bs)=>
 avg (uo a f) (Nat.beq (List.length a) (List.length a)&&true) (fun(w:Bs)=>
 chk (Nat.beq (List.length a) (List.length a)) (
 cond (decide (v=w)) (
 aG (aL a c 6) (fun n=>
 some (.int .i64 n.1,[some [.ul .atype n.2.1,.int .i64 n.2.2],none,none]))) (
 let x:=(IntKind.wrap .i64 (g+1))
 e (q,r,h,i,j,k,l,s,b,m,f,x,a,c)))))))) (
 chk (decide ((List.length b+List.length ([f]:List Int))*8≤140737488355328)) (
 let o:=(b++([f]:List Int))
 let p:=(IntKind.wrap .i64 (m+1))
 d (q,r,h,i,j,k,l,s,o,p,a,c)))
theorem ag3(N:Nat)(a:St→Ro):LB (mQ N a) il (iP N (fun y=>a (bN y))):=fun _ _=>by kernel_rfl
def mR(N:Nat):(St→Ro)→St→Ro:=fun a s=>run dd N kE (mO (run dd N) a) s
def lT(N:Nat)(r:dL→Ro)(y:mP→Ro):dL→Ro:=fun(v,w,i,j,k,e,m,f,h,g,a,b)=>
 let z:=(↑(List.length e):Int)
 let t:=fun g0 g1 g2=>(some (.int .i64 g0,[some [.ul .atype g1,.int .i64 g2],none,none]):Ro)
 let x:=(some (.int .i64 f,[some [.ul .atype a,.int .i64 b]]):Ro)
 cond (decide (g<z)) (
 cond (b==0) (
 chk (ixl g e) (
 let o:=(List.getD e (Int.toNat g) (aB .jnode))
 let x5:=(IntKind.wrap .i64 (w+1))
 aG (cX a b o.kind o.n o.s o.l o.names v x5) (fun d=>
 cond (!(d.2.2==0)) (
 some (.int .i64 0,[some [.ul .atype d.2.1,.int .i64 d.2.2]])) (
 chk (decide (0<List.length d.2.1)) (
 chk (decide (0≤d.1)&&decide (d.1<↑(List.length d.2.1))) (
 chk (decide ((Int.toNat d.1)<List.length d.2.1)) (
 let x6:=(List.getD d.2.1 (Int.toNat d.1) (aB .atype)).kind
 chk (Nat.beq (List.length d.2.1) (List.length d.2.1)) (
 cond (x6==14) (
 aG (aL d.2.1 d.2.2 6) (fun u=>
 t u.1 u.2.1 u.2.2)) (
 y (v,w,i,j,k,e,m,f,h,g,d.1,0,d.2.1,d.2.2)))))))))) (
 cond (b==0) (
 chk (decide (0<List.length a)) (
 chk (decide (0≤f)&&decide (f<↑(List.length a))) (
 chk (decide ((Int.toNat f)<List.length a)) (
 let p:=(List.set a (Int.toNat f) (let c:=List.getD a (Int.toNat f) (aB .atype);⟨c.kind,c.name,c.aliases,c.items,c.syms,c.hasdef,c.df,c.size,c.fields,h⟩))
 chk (Nat.beq (List.length a) (List.length p)) (
 t f p b))))) (
 x))) (
 cond (b==0) (
 chk (decide (0<List.length a)) (
 chk (decide (0≤f)&&decide (f<↑(List.length a))) (
 chk (decide ((Int.toNat f)<List.length a)) (
 let q:=(List.set a (Int.toNat f) (let c:=List.getD a (Int.toNat f) (aB .atype);⟨c.kind,c.name,c.aliases,c.items,c.syms,c.hasdef,c.df,c.size,c.fields,h⟩))
 chk (Nat.beq (List.length a) (List.length q)) (
 t f q b))))) (
 x))
def mS(N:Nat)(a:dL→Ro)(x:dL):Ro:=lT N a (fun z=>aR N (iP N a) z) x
def si(N:Nat)(a:St→Ro):List (Nat×(St→Ro)):=(bR dd N kE (mO (run dd N) a)++(bR dd N pH (fin tA)++[]))
theorem ag4(N:Nat):∀(a:St→Ro)(x:dL),mR N a (bN x)=mS N (fun y=>a (bN y)) x:=by
 intro a x
 have hX:∀C:Nat→St→Ro,bY C dd N kE (mO (bY C dd N) a) (bN x)=lT N (fun y=>a (bN y)) (fun z=>C 1000000 (il z)) x:=by
  intro C
  kernel_rfl
 have h:mR N a (bN x)=lT N (fun y=>a (bN y)) (fun z=>aX N (mQ N a) (il z)) x:=(cW (C:=eZ (si N a)) (bS (aY (l:=(si N a)) (by kernel_rfl))) (jd (cD (fL (bS (dP (aY (l:=(si N a)) (by kernel_rfl)))) rfl))) _).trans ((hX _).trans (by kernel_rfl))
 have e1:(fun z=>aX N (mQ N a) (il z))=(fun z=>aR N (iP N (fun y=>a (bN y))) z):=funext fun z=>aW (il) (mQ N a) (iP N (fun y=>a (bN y))) (ag3 N a) N z
 rw[h,e1]
 rfl
def jC(N:Nat)(c:List aA)(d e f:Int)(g:Bs)(a:List aD)(h:Bss)(k:Bs)(l:Int)(m:dL→Ro):Ro:=
 aG (fB c d 14 ([]:Bs) ([]:Bss) 0 ([]:Bss) false ([]:Bs) 0 ([]:List aM) ([]:List Int)) (fun b=>
 let n:=(↑(List.length a):Int)
 cond (n==0) (
 aG (aL b.2.1 b.2.2 6) (fun i=>
 some (.int .i64 i.1,[some [.ul .atype i.2.1,.int .i64 i.2.2]]))) (
 let o:=(↑(List.length a):Int)
 cond (decide (30<o)) (
 aG (aL b.2.1 b.2.2 3) (fun j=>
 some (.int .i64 j.1,[some [.ul .atype j.2.1,.int .i64 j.2.2]]))) (
 m (k,l,e,f,g,a,h,b.1,([]:List Int),0,b.2.1,b.2.2))))
def aaY(N:Nat)(a:List aA)(b c d:Int)(e:Bs)(f:List aD)(g:Bss)(h:Bs)(i:Int):Ro:=jC N a b c d e f g h i (fun z=>aR N (mS N) z)
theorem aio(N:Nat)(a:List aA)(c d g:Int)(i:Bs)(j:List aD)(k:Bss)(l:Bs)(m:Int)(h:Tot (aaY N a c d g i j k l m) (fun z=>∃(n:Int)(o:List aA)(p:Int)(rest:List aK),z.1.dimR=.int .i64 n∧z.2=some [.ul .atype o,.int .i64 p]::rest∧yh a c d g i j k l m (n,o,p))):∃r,kK a c d g i j k l m r:=FnC.finO (css:=[[.ul .atype a,.int .i64 c]]) aju (N:=N) ((bo _ (by kernel_rfl) rfl (fun C=>jC N a c d g i j k l m (fun z=>C 1000001 (bN z))) (fun C=>by kernel_rfl)).trans (Eq.trans (b:=jC N a c d g i j k l m (fun z=>aX N (mR N) (bN z))) (by kernel_rfl) (congrArg (jC N a c d g i j k l m) (funext fun z=>aW (bN) (mR N) (mS N) (ag4 N) N z)))) h fun _ ⟨n,o,p,_,e,f,q⟩=>⟨(n,o,p),e,⟨_,f⟩,q⟩
noncomputable def aZ:aN:=tab (P:=Try.prog) [] [pN,dz,vY,uq] [] [sL,agH]
def jD:IR:=Sq (Rs [Mv 81 16,Mv 82 12,Ll 83 82,Bi 84 .lss 81 83] (Cn 84 .skip (.exit 2))) (Sq (.block 3 (Sq (.reg [Mv 87 12,Mv 88 16,Ix 89 .afield 87 88,Fa 90 0 89,Fo [] [] (.ld 91 1 false false 90),Fa 92 0 15,Fo [1] [] (.ld 93 1 false false 92),Bi 94 .eql 91 93] [[],[],[0,1],[0,1,2],rg 0 3,[],[5],rg 0 6]) (Cn 94 (Rg [Mv 95 0,Ca 96 110 [95,kI 5]]) .skip))) (Rg [Mv 85 16,Bc 86 .add 85 1,Mv 16 86]))
def wR:IR:=Sq (Rs [Mv 127 19,Fa 128 1 15,Lo 129 128,Ll 130 129,Bi 131 .lss 127 130,Mv 132 131,Gt 132 (.mov 133 0),Gt 132 (.nck 134 133),Gt 132 (.fad 135 1 134),Gt 132 (.ld 136 1 false false 135),Gt 132 (.bin 137 .eql 136 (kI 0)),Pa 138 132 137] (Cn 138 .skip (.exit 4))) (Sq (.block 5 (Rs [Fa 141 1 15,Lo 142 141,Mv 143 19,Ix 144 .str 142 143,Lq 145 144,Ca 146 161 [145],Un 147 146] (Cn 147 (Rg [Mv 148 0,Ca 149 110 [148,kI 6]]) .skip))) (Rg [Mv 139 19,Bc 140 .add 139 1,Mv 19 140]))
def wS:IR:=Rg [Pp (.mov 150 (.tk 12)),Pp (.ld 151 9 true false 15),Pp (.bsl 152 .afield [151] true),Pp (.app 153 .afield (.tk 150) 152),Pp (.mov 12 (.tk 153))]
def pm:IR:=Rs [Ld 98 5 true 14,Ca 99 113 [98,kS [116,121,112,101]],Mv 97 99,Ex_ 100 0 97,Ex_ 101 1 97,Pp (.alr 17 5),Fz 17 5 100,Mv 18 101] (Sq (Rs [Mv 102 18,Un 103 102] (Cn 103 (Rg [Mv 104 0,Ca 105 110 [104,kI 2]]) .skip)) (Rs [Mv 106 0,Ld 107 5 true 17,Mv 108 3,Mv 109 4,Bc 110 .add 109 1,Ca 111 72 [106,107,108,110],Fa 112 2 15,Sv 1 112 111] (Rs [Ld 114 5 true 14,Ca 115 113 [114,kS [100,101,102,97,117,108,116]],Mv 113 115,Ex_ 116 0 113,Ex_ 117 1 113,Fa 118 4 15,Sv 5 118 116,Fa 119 3 15,Sv 1 119 117] (Rs [Mv 121 0,Ld 122 5 true 14,Ca 123 143 [121,122,kS [97,108,105,97,115,101,115]],Mv 120 123,Ex_ 124 0 120,Ex_ 125 1 120,Fa 126 1 15,Sk 1 126 124] (Sq (Rs [Mi 19 0] (.block 4 (.loop [0,2,3,4,10,12,13,15,19,1000001] 2 wR))) wS)))))
def gl:IR:=Rg [Mv 52 13,Bc 53 .add 52 1,Mv 13 53]
def jE:IR:=Sq (Rs [Mv 40 13,Fa 41 3 10,Lq 42 41,Ll 43 42,Bi 44 .lss 40 43,Mv 45 44,Gt 45 (.mov 46 0),Gt 45 (.nck 47 46),Gt 45 (.fad 48 1 47),Gt 45 (.ld 49 1 false false 48),Gt 45 (.bin 50 .eql 49 (kI 0)),Pa 51 45 50] (Cn 51 .skip (.exit 0))) (Sq (.block 1 (Rs [Fa 54 3 10,Lq 55 54,Mv 56 13,Ix 57 .jnode 55 56,Ld 58 5 true 57,Pp (.alr 14 5),Fz 14 5 58] (Sq (Rs [Fa 59 0 14,Lq 60 59,Bc 61 .neq 60 6] (Cn 61 (Rs [Mv 62 0,Ca 63 110 [62,kI 2]] .ret) .skip)) (Rs [Mv 64 0,Ld 65 5 true 14,Ca 66 140 [64,65,kS [110,97,109,101],kB true],Pp (.bld 67 [vS,nl .str,vI 0,.bool false,vI 0,vI 0,vS,nl .jnode,nl .str] [(0,1,66)]),Pp (.new 15 [vS,nl .str,vI 0,.bool false,vI 0,vI 0,vS,nl .jnode,nl .str]),Sv 9 15 67] (Sq (Rs [Mv 68 0,Nk 69 68,Fa 70 1 69,Lo 71 70,Bc 72 .eql 71 0,Mv 73 72,Gt 73 (.fad 74 0 15),Gt 73 (.ld 75 1 false false 74),Gt 73 (.call 76 161 [75]),Gt 73 (.un 77 .not 76),Pa 78 73 77] (Cn 78 (Rg [Mv 79 0,Ca 80 110 [79,kI 6]]) .skip)) (Sq (Rs [Mi 16 0] (.block 2 (.loop [0,2,3,4,10,12,13,14,15,16,1000000] 2 jD))) pm)))))) gl)
def jF:IR:=Rs [Mv 154 0,Nk 155 154,Fa 156 1 155,Lo 157 156,Bc 158 .eql 157 0] (Cn 158 (.gh (.opn (.cell 0 0)) (.ghp (.cls (.cell 0 0)) (Rg [Mv 159 0,Nk 160 159,Fa 161 0 160,Fa 162 0 161,Lo 163 162,Mv 164 2,Mv 165 12,Pp (.ixw 166 .atype 163 164),Pp (.fdw 167 8 166),Pp (.stw none 1 167 165)]))) .skip)
def aip:IR:=Rs [Bx 6 1] (Rs [Ld 21 5 true 6,Ca 22 113 [21,kS [102,105,101,108,100,115]],Mv 20 22,Ex_ 23 0 20,Ex_ 24 1 20,Pp (.alr 10 5),Fz 10 5 23,Mv 11 24] (Sq (Rs [Mv 25 11,Un 26 25,Mv 27 26,Gf 27 (.fad 28 0 10),Gf 27 (.lde 29 1 false 28),Gf 27 (.bin 30 .neq 29 (kI 5)),Po 31 27 30] (Cn 31 (Rs [Mv 32 0,Ca 33 110 [32,kI 2]] .ret) .skip)) (Sq (Rs [Fa 34 3 10,Lq 35 34,Ll 36 35,Bc 37 .gtr 36 30] (Cn 37 (Rs [Mv 38 0,Ca 39 110 [38,kI 3]] .ret) .skip)) (Rs [Pp (.mov 12 (.c (nl .afield)))] (Sq (Rs [Mi 13 0] (.block 0 (.loop [0,2,3,4,10,12,13,1000002] 1 jE))) jF)))))
def mT:List RV:=[]
theorem aiq:FnC Try.prog aZ [72,110,140,143,2000072,2000110,2000140,2000143] 1 aai Try.f144 aip mT:=fnC Try.func144
def dX(R:IR→(Ex→St→Ro)→St→Ro)(a:St→Ro):Ex→St→Ro:=(bj a [0,2,3,4,10,12,13,1000002] 1 (aP 0 (bg (R jF) (fin mT))))
abbrev cq:Type:=(Int×Bs×Int×Int×Int×Bs×List aD×Bss×List aM×Int×List aA×Int)
def be:cq→St:=fun(c,d,e,f,g,h,i,j,k,l,a,b)=>{env:=(.ptr 0 0::.undef::.int .i64 c::.str d::.int .i64 e::(U 5 (.ea [.int .i64 f,.int .i64 g,.str h,.sl .jnode (.may false) i,.sl .str (.may false) j]::.undef::.sl .afield .own k::.int .i64 l::(U 154 [])))),hp:=[some [.ul .atype a,.int .i64 b]]}
def qH(R:IR→(Ex→St→Ro)→St→Ro)(a b:St→Ro):Ex→St→Ro:=(bj b [0,2,3,4,10,12,13,14,15,16,1000000] 2 (aP 2 (bg (R pm) (aP 1 (bg (R gl) (dX R a))))))
abbrev dY:Type:=(Int×Bs×Int×Int×Int×Bs×List aD×Bss×List aM×Int×Int×Int×Bs×List aD×Bss×Int×List aA×Int×Bs×Bss×Int×Bool×Int×Int×Bs×List aD×Bss)
def ch:dY→St:=fun(r,s,t,u,v,w,x,y,z,x9,a,b,c,d,e,f,g,h,i,j,k,l,m,n,o,p,q)=>{env:=(.ptr 0 0::.undef::.int .i64 r::.str s::.int .i64 t::(U 5 (.ea [.int .i64 u,.int .i64 v,.str w,.sl .jnode (.may false) x,.sl .str (.may false) y]::.undef::.sl .afield .own z::.int .i64 x9::.ea [.int .i64 a,.int .i64 b,.str c,.sl .jnode (.may false) d,.sl .str (.may false) e]::.ptr 1 0::.int .i64 f::(U 151 [])))),hp:=[some [.ul .atype g,.int .i64 h],some [.str i,.sl .str .own j,.int .i64 k,.bool l,.int .i64 m,.int .i64 n,.str o,.sl .jnode .own p,.sl .str .own q]]}
def ag5(R:IR→(Ex→St→Ro)→St→Ro)(a b:St→Ro):Ex→St→Ro:=(bj b [0,2,3,4,10,12,13,15,19,1000001] 2 (aP 4 (bg (R wS) (aP 1 (bg (R gl) (dX R a))))))
abbrev lU:Type:=(Int×Bs×Int×Int×Int×Bs×List aD×Bss×List aM×Int×Int×List aA×Int×Bs×Bss×Int×Bool×Int×Int×Bs×List aD×Bss)
def gH:lU→St:=fun(m,n,o,p,q,r,s,t,u,v,a,b,c,d,e,f,g,h,i,j,k,l)=>{env:=(.ptr 0 0::.undef::.int .i64 m::.str n::.int .i64 o::(U 5 (.ea [.int .i64 p,.int .i64 q,.str r,.sl .jnode (.may false) s,.sl .str (.may false) t]::.undef::.sl .afield .own u::.int .i64 v::.undef::.ptr 1 0::(U 3 (.int .i64 a::(U 148 [])))))),hp:=[some [.ul .atype b,.int .i64 c],some [.str d,.sl .str (.may false) e,.int .i64 f,.bool g,.int .i64 h,.int .i64 i,.str j,.sl .jnode (.may false) k,.sl .str (.may false) l]]}
def lV(N:Nat)(a:St→Ro):(St→Ro)→St→Ro:=fun b s=>run aZ N wR (ag5 (run aZ N) a b) s
def dZ(N:Nat)(s:cq→Ro)(t:lU→Ro):lU→Ro:=fun(v2,v3,v4,k,l,m,n,o,p,u,q,r,j,b,a,c,d,e,f,g,h,i)=>
 let x9:=(↑(List.length a):Int)
 let z0:=fun w x g2=>t (v2,v3,v4,k,l,m,n,o,p,u,w,x,g2,b,a,c,d,e,f,g,h,i)
 let z1:=fun w x=>s (v2,v3,v4,k,l,m,n,o,w,x,r,j)
 cond (decide (q<x9)) (
 cond (j==0) (
 chk (ixl q a) (
 let y:=List.getD a (Int.toNat q) (aB .str)
 aG (lz y) (fun(z:Bool)=>
 cond (!z) (
 aG (aL r j 6) (fun v=>
 let aa:=(IntKind.wrap .i64 (q+1))
 z0 aa v.2.1 v.2.2)) (
 let ab:=(IntKind.wrap .i64 (q+1))
 z0 ab r j)))) (
 chk (decide ((List.length p+List.length ([⟨b,a,c,d,⟨e,f,g,h,i⟩⟩]:List aM))*136≤140737488355328)) (
 let ac:=(p++([⟨b,a,c,d,⟨e,f,g,h,i⟩⟩]:List aM))
 let ad:=(IntKind.wrap .i64 (u+1))
 z1 ac ad))) (
 chk (decide ((List.length p+List.length ([⟨b,a,c,d,⟨e,f,g,h,i⟩⟩]:List aM))*136≤140737488355328)) (
 let ae:=(p++([⟨b,a,c,d,⟨e,f,g,h,i⟩⟩]:List aM))
 let af:=(IntKind.wrap .i64 (u+1))
 z1 ae af))
theorem afO(N:Nat)(a:St→Ro):LB (lV N a) gH (dZ N (fun y=>a (be y))):=fun _ _=>by kernel_rfl
def im(N:Nat)(a:St→Ro):(St→Ro)→St→Ro:=fun b s=>run aZ N jD (qH (run aZ N) a b) s
def kF(N:Nat)(aj:cq→Ro)(s:dY→Ro)(q2:lU→Ro):dY→Ro:=fun(v2,y,z,g,h,i,j,k,o,t,a,b,c,d,e,r,l,m,n,aa,ab,ac,ad,ae,af,ag,ah)=>
 let x4:=(↑(List.length o):Int)
 let z0:=fun g0 g1 g2=>s (v2,y,z,g,h,i,j,k,o,t,a,b,c,d,e,g0,g1,g2,n,aa,ab,ac,ad,ae,af,ag,ah)
 cond (decide (r<x4)) (
 chk (ixl r o) (
 let x5:=(List.getD o (Int.toNat r) (aB .afield))
 cond (decide (x5.name=n)) (
 aG (aL l m 5) (fun r9=>
 let x6:=(IntKind.wrap .i64 (r+1))
 z0 x6 r9.2.1 r9.2.2)) (
 let x7:=(IntKind.wrap .i64 (r+1))
 z0 x7 l m))) (
 aG (dJ a b c d e ([116,121,112,101]:Bs)) (fun f=>
 cond (!f.2.2.2.2.2) (
 aG (aL l m 2) (fun ai=>
 let x8:=(IntKind.wrap .i64 (z+1))
 aG (cX ai.2.1 ai.2.2 f.1 f.2.1 f.2.2.1 f.2.2.2.1 f.2.2.2.2.1 y x8) (fun u=>
 aG (dJ a b c d e ([100,101,102,97,117,108,116]:Bs)) (fun p=>
 aG (dK u.2.1 u.2.2 a b c d e ([97,108,105,97,115,101,115]:Bs)) (fun v=>
 q2 (v2,y,z,g,h,i,j,k,o,t,0,v.2.2.1,v.2.2.2,n,v.1,u.1,p.2.2.2.2.2,p.1,p.2.1,p.2.2.1,p.2.2.2.1,p.2.2.2.2.1)))))) (
 let al:=(IntKind.wrap .i64 (z+1))
 aG (cX l m f.1 f.2.1 f.2.2.1 f.2.2.2.1 f.2.2.2.2.1 y al) (fun w=>
 aG (dJ a b c d e ([100,101,102,97,117,108,116]:Bs)) (fun q=>
 aG (dK w.2.1 w.2.2 a b c d e ([97,108,105,97,115,101,115]:Bs)) (fun x=>
 q2 (v2,y,z,g,h,i,j,k,o,t,0,x.2.2.1,x.2.2.2,n,x.1,w.1,q.2.2.2.2.2,q.1,q.2.1,q.2.2.1,q.2.2.2.1,q.2.2.2.2.1)))))))
def fA(N:Nat)(a:cq→Ro)(b:dY→Ro)(x:dY):Ro:=kF N a b (fun z=>aR N (dZ N a) z) x
def io(N:Nat)(a b:St→Ro):List (Nat×(St→Ro)):=(bR aZ N jD (qH (run aZ N) a b)++(bR aZ N pm (aP 1 (bg (run aZ N gl) (dX (run aZ N) a)))++(bR aZ N gl (dX (run aZ N) a)++(bR aZ N jF (fin mT)++[]))))
theorem afP(N:Nat)(a:St→Ro):∀(b:St→Ro)(x:dY),im N a b (ch x)=fA N (fun y=>a (be y)) (fun y=>b (ch y)) x:=by
 intro b x
 have hX:∀C:Nat→St→Ro,bY C aZ N jD (qH (bY C aZ N) a b) (ch x)=kF N (fun y=>a (be y)) (fun y=>b (ch y)) (fun z=>C 1000001 (gH z)) x:=by
  intro C
  kernel_rfl
 have h:im N a b (ch x)=kF N (fun y=>a (be y)) (fun y=>b (ch y)) (fun z=>aX N (lV N a) (gH z)) x:=(cW (C:=eZ (io N a b)) (bS (aY (l:=(io N a b)) (by kernel_rfl))) (jd (cD (fL (bS (dP (aY (l:=(io N a b)) (by kernel_rfl)))) (cD (fL (bS (dP (dP (aY (l:=(io N a b)) (by kernel_rfl))))) (jd (cD (fL (bS (dP (dP (dP (aY (l:=(io N a b)) (by kernel_rfl)))))) rfl)))))))) _).trans ((hX _).trans (by kernel_rfl))
 have e2:(fun z=>aX N (lV N a) (gH z))=(fun z=>aR N (dZ N (fun y=>a (be y))) z):=funext fun z=>aW (gH) (lV N a) (dZ N (fun y=>a (be y))) (afO N a) N z
 rw[h,e2]
 rfl
def lW(N:Nat):(St→Ro)→St→Ro:=fun a s=>run aZ N jE (dX (run aZ N) a) s
def kG(N:Nat)(t:cq→Ro)(q1:dY→Ro):cq→Ro:=fun(f,v3,v4,i,j,k,d,m,o,h,a,b)=>
 let x2:=(↑(List.length d):Int)
 let u:=fun p v=>(some (.tup [],[some [.ul .atype p,.int .i64 v]]):Ro)
 let x:=fun p=>(some (.tup [],[some [.ul .atype p,.int .i64 b],none,none]):Ro)
 let w:=fun p v g2 g3 g4 g5 g6 g7=>q1 (f,v3,v4,i,j,k,d,m,o,h,p,v,g2,g3,g4,0,g5,g6,g7,([]:Bss),0,false,0,0,([]:Bs),([]:List aD),([]:Bss))
 cond (decide (h<x2)) (
 cond (b==0) (
 chk (ixl h d) (
 let c:=(List.getD d (Int.toNat h) (aB .jnode))
 cond (!(c.kind==6)) (
 aG (aL a b 2) (fun y=>
 u y.2.1 y.2.2)) (
 aG (eP a b c.kind c.n c.s c.l c.names ([110,97,109,101]:Bs) true) (fun g=>
 cond (g.2.2==0) (
 aG (lz g.1) (fun(r7:Bool)=>
 cond (!r7) (
 aG (aL g.2.1 g.2.2 6) (fun z=>
 w c.kind c.n c.s c.l c.names z.2.1 z.2.2 g.1)) (
 w c.kind c.n c.s c.l c.names g.2.1 g.2.2 g.1))) (
 w c.kind c.n c.s c.l c.names g.2.1 g.2.2 g.1))))) (
 cond (b==0) (
 chk (decide (0<List.length a)) (
 chk (decide (0≤f)&&decide (f<↑(List.length a))) (
 chk (decide ((Int.toNat f)<List.length a)) (
 let q:=(List.set a (Int.toNat f) (let e:=List.getD a (Int.toNat f) (aB .atype);⟨e.kind,e.name,e.aliases,e.items,e.syms,e.hasdef,e.df,e.size,o,e.branches⟩))
 chk (Nat.beq (List.length a) (List.length q)) (
 x q))))) (
 u a b))) (
 cond (b==0) (
 chk (decide (0<List.length a)) (
 chk (decide (0≤f)&&decide (f<↑(List.length a))) (
 chk (decide ((Int.toNat f)<List.length a)) (
 let r:=(List.set a (Int.toNat f) (let e:=List.getD a (Int.toNat f) (aB .atype);⟨e.kind,e.name,e.aliases,e.items,e.syms,e.hasdef,e.df,e.size,o,e.branches⟩))
 chk (Nat.beq (List.length a) (List.length r)) (
 x r))))) (
 u a b))
def lX(N:Nat)(a:cq→Ro)(x:cq):Ro:=kG N a (fun z=>aR N (fA N a) z) x
def qI(N:Nat)(a:St→Ro):List (Nat×(St→Ro)):=(bR aZ N jE (dX (run aZ N) a)++(bR aZ N jF (fin mT)++[]))
theorem afQ(N:Nat):∀(a:St→Ro)(x:cq),lW N a (be x)=lX N (fun y=>a (be y)) x:=by
 intro a x
 have hX:∀C:Nat→St→Ro,bY C aZ N jE (dX (bY C aZ N) a) (be x)=kG N (fun y=>a (be y)) (fun z=>C 1000000 (ch z)) x:=by
  intro C
  kernel_rfl
 have h:lW N a (be x)=kG N (fun y=>a (be y)) (fun z=>aX N (im N a) (ch z)) x:=(cW (C:=eZ (qI N a)) (bS (aY (l:=(qI N a)) (by kernel_rfl))) (jd (cD (fL (bS (dP (aY (l:=(qI N a)) (by kernel_rfl)))) rfl))) _).trans ((hX _).trans (by kernel_rfl))
 have e1:(fun z=>aX N (im N a) (ch z))=(fun z=>aR N (fA N (fun y=>a (be y))) z):=funext fun z=>aW (ch) (im N a) (fA N (fun y=>a (be y))) (afP N a) N z
 rw[h,e1]
 rfl
def iQ(N:Nat)(a:List aA)(b d e:Int)(f:Bs)(g:List aD)(h:Bss)(m:Int)(n:Bs)(o:Int)(p:cq→Ro):Ro:=
 let i:=fun q r=>(some (.tup [],[some [.ul .atype q,.int .i64 r]]):Ro)
 aG (dJ d e f g h ([102,105,101,108,100,115]:Bs)) (fun c=>
 cond (!c.2.2.2.2.2) (
 aG (aL a b 2) (fun j=>
 i j.2.1 j.2.2)) (
 cond (!(c.1==5)) (
 aG (aL a b 2) (fun k=>
 i k.2.1 k.2.2)) (
 let s:=(↑(List.length c.2.2.2.1):Int)
 cond (decide (30<s)) (
 aG (aL a b 3) (fun l=>
 i l.2.1 l.2.2)) (
 p (m,n,o,c.1,c.2.1,c.2.2.1,c.2.2.2.1,c.2.2.2.2.1,([]:List aM),0,a,b)))))
def zT(N:Nat)(a:List aA)(b c d:Int)(e:Bs)(f:List aD)(g:Bss)(h:Int)(i:Bs)(j:Int):Ro:=iQ N a b c d e f g h i j (fun z=>aR N (lX N) z)
theorem ag6(N:Nat)(a:List aA)(c d g:Int)(i:Bs)(j:List aD)(k:Bss)(l:Int)(m:Bs)(n:Int)(h:Tot (zT N a c d g i j k l m n) (fun z=>∃(o:List aA)(p:Int)(rest:List aK),z.1.dimR=.tup []∧z.2=some [.ul .atype o,.int .i64 p]::rest∧eS a c d g i j k l m n (o,p))):∃r,jg a c d g i j k l m n r:=FnC.finO (css:=[[.ul .atype a,.int .i64 c]]) aiq (N:=N) ((bo _ (by kernel_rfl) rfl (fun C=>iQ N a c d g i j k l m n (fun z=>C 1000002 (be z))) (fun C=>by kernel_rfl)).trans (Eq.trans (b:=iQ N a c d g i j k l m n (fun z=>aX N (lW N) (be z))) (by kernel_rfl) (congrArg (iQ N a c d g i j k l m n) (funext fun z=>aW (be) (lW N) (lX N) (afQ N) N z)))) h fun _ ⟨o,p,_,e,f,q⟩=>⟨(o,p),e,⟨_,f⟩,q⟩
noncomputable def cp:aN:=tab (P:=Try.prog) [] [dz,qO,acn,vY,akM,uq,aiW,ahm] [] [sL,arN]
def lY:IR:=Sq (Rs [Mv 59 17,Mv 60 15,Ll 61 60,Bi 62 .lss 59 61,Mv 63 62,Gt 63 (.mov 64 0),Gt 63 (.nck 65 64),Gt 63 (.fad 66 1 65),Gt 63 (.ld 67 1 false false 66),Gt 63 (.bin 68 .eql 67 (kI 0)),Pa 69 63 68] (Cn 69 .skip (.exit 0))) (Sq (.block 1 (.reg [Fa 72 2 14,Fo [] [1] (.ld 73 1 false true 72),Mv 74 0,Mv 75 15,Mv 76 17,Ix 77 .str 75 76,Lq 78 77,Mv 79 3,Fo [] [0] (.call 80 141 [74,78,79]),Pp (.bsl 81 .str [80] true),Pp (.app 82 .str (.tk 73) 81),Fa 83 2 14,Fo [] [1] (.st none 1 83 (.tk 82))] [[],[0],[],[],[],[3,4],[3,4,5],[],rg 2 7,rg 2 8,rg 0 9,rg 0 10,rg 0 11])) (Rg [Mv 70 17,Bc 71 .add 70 1,Mv 17 71]))
def xQ:IR:=Sq (Rs [Mv 101 0,Nk 102 101,Fa 103 1 102,Lo 104 103,Bc 105 .neq 104 0] (Cn 105 (Rs [Mi 10 0] .ret) .skip)) (Rs [Mv 106 0,Pp (.ld 107 10 true false 14),Ca 108 116 [106,107],Mv 20 108] (Sq (Rs [Mv 109 2] (.block 2 (Rs [Bc 150 .eql 109 9,Mv 149 150] (Cn 149 (Rg [Mv 151 0,Ld 152 5 true 6,Mv 153 20,Mv 154 3,Mv 155 4,Ca 156 144 [151,152,153,154,155]]) (Rs [Bc 158 .eql 109 10,Mv 157 158] (Cn 157 (Rg [Mv 159 0,Ld 160 5 true 6,Mv 161 20,Ca 162 145 [159,160,161]]) (Rs [Ld 111 5 true 6,Ca 112 113 [111,kS [115,105,122,101]],Mv 110 112,Ex_ 113 0 110,Ex_ 114 1 110,Pp (.alr 21 5),Fz 21 5 113,Mv 22 114] (Sq (Rs [Mv 115 22,Un 116 115,Mv 117 116,Gf 117 (.fad 118 0 21),Gf 117 (.lde 119 1 false 118),Gf 117 (.bin 120 .neq 119 (kI 3)),Po 121 117 120] (Cn 121 (Rs [Mv 122 0,Ca 123 110 [122,kI 2],Mv 10 123] .ret) .skip)) (Sq (Rs [Fa 124 1 21,Lq 125 124,Bc 126 .lss 125 0,Mv 127 126,Gf 127 (.fad 128 1 21),Gf 127 (.lde 129 1 false 128),Gf 127 (.bin 130 .gtr 129 (kI 5000)),Po 131 127 130] (Cn 131 (Rs [Mv 132 0,Ca 133 110 [132,kI 6],Mv 10 133] .ret) .skip)) (Rs [Mv 134 0,Nk 135 134,Fa 136 1 135,Lo 137 136,Bc 138 .eql 137 0] (Cn 138 (.gh (.opn (.cell 0 0)) (.ghp (.cls (.cell 0 0)) (.reg [Mv 139 0,Nk 140 139,Fa 141 0 140,Fa 142 0 141,Fo [0] [] (.ld 143 1 false false 142),Mv 144 20,Fa 145 1 21,Lq 146 145,Pp (.ixw 147 .atype 143 144),Pp (.fdw 148 7 147),Fo [] [2] (.stw none 1 148 146)] [[],[0],[0,1],[0,1,2],rg 0 3,[],[],[6],rg 0 7,rg 0 8,rg 0 9]))) .skip))))))))))) (Rs [Mv 163 20,Mv 10 163] .ret)))
def pI:IR:=Rs [Mv 85 0,Fa 86 1 14,Lo 87 86,Ca 88 138 [85,87],Mv 84 88,Ex_ 89 0 84,Ex_ 90 1 84,Mv 18 89,Mv 19 90] (Sq (Rs [Mv 91 0,Nk 92 91,Fa 93 1 92,Lo 94 93,Bc 95 .eql 94 0,Mv 96 95,Gt 96 (.mov 97 19),Pa 98 96 97] (Cn 98 (Rg [Mv 99 0,Ca 100 110 [99,kI 5]]) .skip)) (.cut [0,2,3,4,6,14,1000001] 2 xQ))
def kH:IR:=Sq (Rs [Mv 39 0,Nk 40 39,Fa 41 1 40,Lo 42 41,Bc 43 .neq 42 0] (Cn 43 (Rs [Mi 10 0] .ret) .skip)) (Rs [Mv 44 2,Mv 45 0,Mv 46 11,Mv 47 3,Ca 48 141 [45,46,47],Pp (.bld 49 [vI 0,vS,nl .str,vI 0,nl .str,.bool false,vS,vI 0,nl .afield,nl (.num .i64)] [(0,1,44),(1,1,48)]),Pp (.new 14 [vI 0,vS,nl .str,vI 0,nl .str,.bool false,vS,vI 0,nl .afield,nl (.num .i64)]),Sv 10 14 49] (Rs [Fa 50 1 14,Lo 51 50,Ca 52 142 [51],Mv 3 52] (Rs [Mv 54 0,Ld 55 5 true 6,Ca 56 143 [54,55,kS [97,108,105,97,115,101,115]],Mv 53 56,Ex_ 57 0 53,Ex_ 58 1 53,Mv 15 57,Mv 16 58] (Sq (Rs [Mi 17 0] (.block 0 (.loop [0,2,3,4,6,14,15,17,1000000] 2 lY))) pI))))
def ajv:IR:=Rs [Bx 6 1,Mi 10 0] (Rs [Mv 23 0,Ld 24 5 true 6,Ca 25 140 [23,24,kS [110,97,109,101],kB true],Mv 11 25] (Rs [Ld 27 5 true 6,Ca 28 113 [27,kS [110,97,109,101,115,112,97,99,101]],Mv 26 28,Ex_ 29 0 26,Ex_ 30 1 26,Pp (.alr 12 5),Fz 12 5 29,Mv 13 30] (Sq (Rs [Mv 31 13] (Cn 31 (Sq (Rs [Fa 32 0 12,Lq 33 32,Bc 34 .neq 33 4] (Cn 34 (Rg [Mv 35 0,Ca 36 110 [35,kI 2]]) .skip)) (Rg [Fa 37 2 12,Lq 38 37,Mv 3 38])) .skip)) (.cut [0,2,3,4,6,11,1000002] 1 kH))))
def fb:List RV:=[.t 10]
theorem ajw:FnC Try.prog cp [110,116,138,140,141,143,144,145,2000110,2000116,2000138,2000140,2000141,2000143,2000144,2000145] 1 aa7 Try.f114 ajv fb:=fnC Try.func114
abbrev iR:Type:=(Int×Bs×Int×Int×Int×Bs×List aD×Bss×Bs×List aA×Int)
def ip:iR→St:=fun(b,c,d,e,f,g,h,i,j,k,a)=>{env:=(.ptr 0 0::.undef::.int .i64 b::.str c::.int .i64 d::.undef::.ea [.int .i64 e,.int .i64 f,.str g,.sl .jnode (.may false) h,.sl .str (.may false) i]::(U 4 (.str j::(U 152 [])))),hp:=[some [.ul .atype k,.int .i64 a]]}
def sj(R:IR→(Ex→St→Ro)→St→Ro)(a:St→Ro):Ex→St→Ro:=(bj a [0,2,3,4,6,14,15,17,1000000] 2 (aP 0 (bg (R pI) (fin fb))))
abbrev eJ:Type:=(Int×Bs×Int×Int×Int×Bs×List aD×Bss×Bss×Int×List aA×Int×Int×Bs×Bss×Int×Bss×Bool×Bs×Int×List aM×List Int)
def cr:eJ→St:=fun(m,n,o,p,q,r,s,t,u,v,a,b,c,d,e,f,g,h,i,j,k,l)=>{env:=(.ptr 0 0::.undef::.int .i64 m::.str n::.int .i64 o::.undef::.ea [.int .i64 p,.int .i64 q,.str r,.sl .jnode (.may false) s,.sl .str (.may false) t]::(U 7 (.ptr 1 0::.sl .str (.may false) u::.undef::.int .i64 v::(U 146 [])))),hp:=[some [.ul .atype a,.int .i64 b],some [.int .i64 c,.str d,.sl .str .own e,.int .i64 f,.sl .str .own g,.bool h,.str i,.int .i64 j,.sl .afield .own k,.sl (.num .i64) .own l]]}
abbrev sk:Type:=(Int×Bs×Int×Int×Int×Bs×List aD×Bss×List aA×Int×Int×Bs×Bss×Int×Bss×Bool×Bs×Int×List aM×List Int)
def lZ:sk→St:=fun(k,l,m,n,o,p,q,r,s,t,a,b,c,d,e,f,g,h,i,j)=>{env:=(.ptr 0 0::.undef::.int .i64 k::.str l::.int .i64 m::.undef::.ea [.int .i64 n,.int .i64 o,.str p,.sl .jnode (.may false) q,.sl .str (.may false) r]::(U 7 (.ptr 1 0::(U 149 [])))),hp:=[some [.ul .atype s,.int .i64 t],some [.int .i64 a,.str b,.sl .str .own c,.int .i64 d,.sl .str .own e,.bool f,.str g,.int .i64 h,.sl .afield .own i,.sl (.num .i64) .own j]]}
def sm(N:Nat):St→Ro:=fun s=>run cp N xQ (fin fb) s
def fX(N:Nat):sk→Ro:=fun(v2,v3,v4,b,c,d,e,f,t,g,h,i,j,k,l,m,n,o,p,q)=>
 let u:=fun g0 g1 g2=>(some (.int .i64 g0,[some [.ul .atype g1,.int .i64 g2],some [.int .i64 h,.str i,.sl .str .own j,.int .i64 k,.sl .str .own l,.bool m,.str n,.int .i64 o,.sl .afield .own p,.sl (.num .i64) .own q]]):Ro)
 cond (!(g==0)) (
 u 0 t g) (
 aG (fB t g h i j k l m n o p q) (fun a=>
 cond (v2==9) (
 aG (jg a.2.1 a.2.2 b c d e f a.1 v3 v4) (fun z=>
 u a.1 z.1 z.2)) (
 cond (v2==10) (
 aG (iD a.2.1 a.2.2 b c d e f a.1) (fun aa=>
 u a.1 aa.1 aa.2)) (
 aG (dJ b c d e f ([115,105,122,101]:Bs)) (fun r=>
 cond (!r.2.2.2.2.2) (
 aG (aL a.2.1 a.2.2 2) (fun v=>
 u v.1 v.2.1 v.2.2)) (
 cond (!(r.1==3)) (
 aG (aL a.2.1 a.2.2 2) (fun w=>
 u w.1 w.2.1 w.2.2)) (
 cond (decide (r.2.1<0)) (
 aG (aL a.2.1 a.2.2 6) (fun x=>
 u x.1 x.2.1 x.2.2)) (
 cond (decide (5000<r.2.1)) (
 aG (aL a.2.1 a.2.2 6) (fun y=>
 u y.1 y.2.1 y.2.2)) (
 cond (a.2.2==0) (
 chk (decide (0<List.length a.2.1)) (
 chk (decide (0≤a.1)&&decide (a.1<↑(List.length a.2.1))) (
 chk (decide ((Int.toNat a.1)<List.length a.2.1)) (
 let x5:=(List.set a.2.1 (Int.toNat a.1) (let s:=List.getD a.2.1 (Int.toNat a.1) (aB .atype);⟨s.kind,s.name,s.aliases,s.items,s.syms,s.hasdef,s.df,r.2.1,s.fields,s.branches⟩))
 chk (Nat.beq (List.length a.2.1) (List.length x5)) (
 some (.int .i64 a.1,[some [.ul .atype x5,.int .i64 a.2.2],some [.int .i64 h,.str i,.sl .str .own j,.int .i64 k,.sl .str .own l,.bool m,.str n,.int .i64 o,.sl .afield .own p,.sl (.num .i64) .own q],none,none])))))) (
 u a.1 a.2.1 a.2.2))))))))))
theorem ag7(N:Nat):LJ (sm N) lZ (fX N):=fun _=>by kernel_rfl
def iS(N:Nat):(St→Ro)→St→Ro:=fun a s=>run cp N lY (sj (run cp N) a) s
def l7(N:Nat)(f:eJ→Ro)(q2:sk→Ro):eJ→Ro:=fun(v2,z,v4,i,j,k,l,m,g,h,d,b,n,c,e,o,p,q,r,s,t,u)=>
 let x1:=(↑(List.length g):Int)
 let w:=fun g0 g1=>q2 (v2,z,v4,i,j,k,l,m,g0,g1,n,c,e,o,p,q,r,s,t,u)
 cond (decide (h<x1)) (
 cond (b==0) (
 chk (ixl h g) (
 let x2:=List.getD g (Int.toNat h) (aB .str)
 aG (gT d b x2 z) (fun y=>
 chk (decide ((List.length e+List.length ([y.1]:Bss))*16≤140737488355328)) (
 let x3:=(e++([y.1]:Bss))
 let x4:=(IntKind.wrap .i64 (h+1))
 f (v2,z,v4,i,j,k,l,m,g,x4,y.2.1,y.2.2,n,c,x3,o,p,q,r,s,t,u))))) (
 aG (dA d b c) (fun v=>
 cond (v.2.2.2==0) (
 cond v.2.1 (
 aG (aL v.2.2.1 v.2.2.2 5) (fun r9=>
 w r9.2.1 r9.2.2)) (
 w v.2.2.1 v.2.2.2)) (
 w v.2.2.1 v.2.2.2)))) (
 aG (dA d b c) (fun a=>
 cond (a.2.2.2==0) (
 cond a.2.1 (
 aG (aL a.2.2.1 a.2.2.2 5) (fun x=>
 w x.2.1 x.2.2)) (
 w a.2.2.1 a.2.2.2)) (
 w a.2.2.1 a.2.2.2)))
def fY(N:Nat)(a:eJ→Ro)(x:eJ):Ro:=l7 N a (fun z=>fX N z) x
def sq(N:Nat)(a:St→Ro):List (Nat×(St→Ro)):=(bR cp N lY (sj (run cp N) a)++(bR cp N pI (fin fb)++[]))
theorem ag8(N:Nat):∀(a:St→Ro)(x:eJ),iS N a (cr x)=fY N (fun y=>a (cr y)) x:=by
 intro a x
 have hX:∀C:Nat→St→Ro,bY C cp N lY (sj (bY C cp N) a) (cr x)=l7 N (fun y=>a (cr y)) (fun z=>C 1000001 (lZ z)) x:=by
  intro C
  kernel_rfl
 have h:iS N a (cr x)=l7 N (fun y=>a (cr y)) (fun z=>sm N (lZ z)) x:=(cW (C:=eZ (sq N a)) (bS (aY (l:=(sq N a)) (by kernel_rfl))) (jd (cD (fL (bS (dP (aY (l:=(sq N a)) (by kernel_rfl)))) rfl))) _).trans ((hX _).trans (by kernel_rfl))
 have e2:(fun z=>sm N (lZ z))=(fun z=>fX N z):=funext fun z=>ag7 N z
 rw[h,e2]
 rfl
def ss(N:Nat):St→Ro:=fun s=>run cp N kH (fin fb) s
def l8(N:Nat)(l:eJ→Ro):iR→Ro:=fun(k,m,n,b,c,d,e,f,i,g,a)=>
 cond (!(a==0)) (
 some (.int .i64 0,[some [.ul .atype g,.int .i64 a]])) (
 aG (gT g a i m) (fun h=>
 aG (ry h.1) (fun(o:Bs)=>
 aG (dK h.2.1 h.2.2 b c d e f ([97,108,105,97,115,101,115]:Bs)) (fun j=>
 l (k,o,n,b,c,d,e,f,j.1,0,j.2.2.1,j.2.2.2,k,h.1,([]:Bss),0,([]:Bss),false,([]:Bs),0,([]:List aM),([]:List Int))))))
def mU(N:Nat)(x:iR):Ro:=l8 N (fun z=>aR N (fY N) z) x
def zU(N:Nat):List (Nat×(St→Ro)):=(bR cp N kH (fin fb)++[])
theorem ag9(N:Nat):∀(x:iR),ss N (ip x)=mU N x:=by
 intro x
 have hX:∀C:Nat→St→Ro,bY C cp N kH (fin fb) (ip x)=l8 N (fun z=>C 1000000 (cr z)) x:=by
  intro C
  kernel_rfl
 have h:ss N (ip x)=l8 N (fun z=>aX N (iS N) (cr z)) x:=(cW (C:=eZ (zU N)) (bS (aY (l:=(zU N)) (by kernel_rfl))) rfl _).trans ((hX _).trans (by kernel_rfl))
 have e1:(fun z=>aX N (iS N) (cr z))=(fun z=>aR N (fY N) z):=funext fun z=>aW (cr) (iS N) (fY N) (ag8 N) N z
 rw[h,e1]
 rfl
def jG(N:Nat)(g:List aA)(h a b:Int)(c:Bs)(d:List aD)(e:Bss)(j:Int)(n:Bs)(k:Int)(l:iR→Ro):Ro:=
 aG (eP g h a b c d e ([110,97,109,101]:Bs) true) (fun f=>
 aG (dJ a b c d e ([110,97,109,101,115,112,97,99,101]:Bs)) (fun i=>
 cond i.2.2.2.2.2 (
 cond (!(i.1==4)) (
 aG (aL f.2.1 f.2.2 2) (fun m=>
 l (j,i.2.2.1,k,a,b,c,d,e,f.1,m.2.1,m.2.2))) (
 l (j,i.2.2.1,k,a,b,c,d,e,f.1,f.2.1,f.2.2))) (
 l (j,n,k,a,b,c,d,e,f.1,f.2.1,f.2.2))))
def aaZ(N:Nat)(a:List aA)(b c d:Int)(e:Bs)(f:List aD)(g:Bss)(h:Int)(i:Bs)(j:Int):Ro:=jG N a b c d e f g h i j (fun z=>mU N z)
theorem air(N:Nat)(a:List aA)(c d g:Int)(i:Bs)(j:List aD)(k:Bss)(l:Int)(m:Bs)(n:Int)(h:Tot (aaZ N a c d g i j k l m n) (fun z=>∃(o:Int)(p:List aA)(s:Int)(rest:List aK),z.1.dimR=.int .i64 o∧z.2=some [.ul .atype p,.int .i64 s]::rest∧gV a c d g i j k l m n (o,p,s))):∃r,kL a c d g i j k l m n r:=FnC.finO (css:=[[.ul .atype a,.int .i64 c]]) ajw (N:=N) ((bo _ (by kernel_rfl) rfl (fun C=>jG N a c d g i j k l m n (fun z=>C 1000002 (ip z))) (fun C=>by kernel_rfl)).trans (Eq.trans (b:=jG N a c d g i j k l m n (fun z=>ss N (ip z))) (by kernel_rfl) (congrArg (jG N a c d g i j k l m n) (funext fun z=>ag9 N z)))) h fun _ ⟨o,p,s,_,e,f,q⟩=>⟨(o,p,s),e,⟨_,f⟩,q⟩
noncomputable def bc:aN:=tab (P:=Try.prog) [] [pN,dz,alU,akI,akK,qO] [] [sL,alV]
def yG:IR:=Rs [Ld 88 5 true 5,Mv 89 12,Ca 90 113 [88,89],Mv 87 90,Ex_ 91 0 87,Ex_ 92 1 87,Pp (.alr 13 5),Fz 13 5 91,Mv 14 92] (Sq (Rs [Mv 93 14,Un 94 93] (Cn 94 (Rs [Mv 95 0,Ca 96 110 [95,kI 2],Mv 8 96] .ret) .skip)) (Rs [Mv 97 0,Ld 98 5 true 13,Mv 99 2,Mv 100 3,Bc 101 .add 100 1,Ca 102 72 [97,98,99,101],Mv 15 102] (Sq (Rs [Mv 103 0,Nk 104 103,Fa 105 1 104,Lo 106 105,Bc 107 .eql 106 0] (Cn 107 (.gh (.opn (.cell 0 0)) (.ghp (.cls (.cell 0 0)) (Rg [Mv 108 0,Nk 109 108,Fa 110 0 109,Fa 111 0 110,Lo 112 111,Mv 113 11,Mv 114 15,Pp (.ixw 115 .atype 112 113),Pp (.fdw 116 3 115),Pp (.stw none 1 116 114)]))) .skip)) (Rs [Mv 117 11,Mv 8 117] .ret))))
def l9:IR:=Cn 75 (Rs [Mv 78 0,Fa 79 2 9,Lq 80 79,Ca 81 115 [80],Pp (.bld 82 [vI 0,vS,fu .str true,vI 0,fu .str true,.bool false,vS,vI 0,fu .afield true,fu (.num .i64) true] [(0,1,81)]),Ca 83 116 [78,82],Mv 11 83] (Rs [Ms 12 [105,116,101,109,115]] (Sq (Rs [Fa 84 2 9,Lq 85 84,Pp (.bin 86 .eql 85 (kS [109,97,112]))] (Cn 86 (Rg [Ms 12 [118,97,108,117,101,115]]) .skip)) (.cut [0,2,3,5,11,12,1000000] 1 yG)))) .skip
def ma:IR:=Cn 63 (Sq (.reg [Mv 67 0,Ld 68 5 true 5,Fa 69 2 9,Lq 70 69,Ca 71 115 [70],Mv 72 2,Mv 73 3,Fo [] [0] (.call 74 114 [67,68,71,72,73]),Mv 8 74] [[],[],[],[2],[2,3],[],[],rg 0 6,rg 0 7]) .ret) (Sq (Rs [Pp (.bin 76 .eql 62 (kS [97,114,114,97,121])),Mv 75 76] (Cn 75 .skip (Rg [Pp (.bin 77 .eql 62 (kS [109,97,112])),Mv 75 77]))) (.cut [0,2,3,5,9,75,1000001] 1 l9))
def yH:IR:=Rs [Mv 118 0,Fa 119 2 9,Lq 120 119,Mv 121 2,Ca 122 111 [118,120,121],Mv 8 122] .ret
def mb:IR:=.cut [0,2,9,1000003] 1 yH
def d6:IR:=Rs [Mv 123 0,Ca 124 110 [123,kI 2],Mv 8 124] .ret
def ak9:IR:=Rs [Bx 5 1,Mi 8 0] (Sq (Rs [Mv 16 0,Nk 17 16,Fa 18 1 17,Lo 19 18,Bc 20 .neq 19 0] (Cn 20 (Rs [Mi 8 0] .ret) .skip)) (Sq (Rs [Mv 21 3,Bc 22 .gtr 21 20] (Cn 22 (Rs [Mv 23 0,Ca 24 110 [23,kI 3],Mv 8 24] .ret) .skip)) (Sq (Rs [Fa 25 0 5,Lq 26 25] (.block 0 (Rs [Bc 28 .eql 26 4,Mv 27 28] (Cn 27 (Rs [Mv 29 0,Fa 30 2 5,Lq 31 30,Mv 32 2,Ca 33 111 [29,31,32],Mv 8 33] .ret) (Rs [Bc 35 .eql 26 5,Mv 34 35] (Cn 34 (Rs [Mv 36 0,Ld 37 5 true 5,Mv 38 2,Mv 39 3,Ca 40 112 [36,37,38,39],Mv 8 40] .ret) (Rs [Bc 42 .eql 26 6,Mv 41 42] (Cn 41 (Rs [Ld 44 5 true 5,Ca 45 113 [44,kS [116,121,112,101]],Mv 43 45,Ex_ 46 0 43,Ex_ 47 1 43,Pp (.alr 9 5),Fz 9 5 46,Mv 10 47] (Sq (Rs [Mv 48 10,Un 49 48] (Cn 49 (Rs [Mv 50 0,Ca 51 110 [50,kI 2],Mv 8 51] .ret) .skip)) (Sq (Rs [Fa 52 0 9,Lq 53 52,Bc 54 .neq 53 4] (Cn 54 (Rs [Mv 55 0,Ld 56 5 true 9,Mv 57 2,Mv 58 3,Bc 59 .add 58 1,Ca 60 72 [55,56,57,59],Mv 8 60] .ret) .skip)) (Sq (Rs [Fa 61 2 9,Lq 62 61] (.block 1 (Sq (Rs [Pp (.bin 64 .eql 62 (kS [114,101,99,111,114,100])),Mv 63 64] (Cn 63 .skip (Rs [Pp (.bin 65 .eql 62 (kS [101,110,117,109])),Mv 63 65] (Cn 63 .skip (Rg [Pp (.bin 66 .eql 62 (kS [102,105,120,101,100])),Mv 63 66]))))) (.cut [0,2,3,5,9,62,63,1000002] 1 ma)))) mb)))) .skip)))))))) d6)))
def fJ:List RV:=[.t 8]
theorem ala:FnC Try.prog bc [72,110,111,112,114,116,2000072,2000110,2000111,2000112,2000114,2000116] 1 acl Try.f72 ak9 fJ:=fnC Try.func72
abbrev jH:Type:=(Bs×Int×Int×Int×Bs×List aD×Bss×Int×Int×Bs×List aD×Bss×Bs×Bool×List aA×Int)
def iT:jH→St:=fun(g,h,i,j,k,l,m,n,o,p,a,b,c,d,e,f)=>{env:=(.ptr 0 0::.undef::.str g::.int .i64 h::.undef::.ea [.int .i64 i,.int .i64 j,.str k,.sl .jnode (.may false) l,.sl .str (.may false) m]::(U 3 (.ea [.int .i64 n,.int .i64 o,.str p,.sl .jnode (.may false) a,.sl .str (.may false) b]::(U 52 (.str c::.bool d::(U 61 [])))))),hp:=[some [.ul .atype e,.int .i64 f]]}
def fc(R:IR→(Ex→St→Ro)→St→Ro):Ex→St→Ro:=(aP 1 (bg (R mb) (aP 0 (bg (R d6) (fin fJ)))))
abbrev jI:Type:=(Bs×Int×Int×Int×Bs×List aD×Bss×Int×Int×Bs×List aD×Bss×Bool×List aA×Int)
def fZ:jI→St:=fun(f,g,h,i,j,k,l,m,n,o,a,b,c,d,e)=>{env:=(.ptr 0 0::.undef::.str f::.int .i64 g::.undef::.ea [.int .i64 h,.int .i64 i,.str j,.sl .jnode (.may false) k,.sl .str (.may false) l]::(U 3 (.ea [.int .i64 m,.int .i64 n,.str o,.sl .jnode (.may false) a,.sl .str (.may false) b]::(U 65 (.bool c::(U 49 [])))))),hp:=[some [.ul .atype d,.int .i64 e]]}
abbrev tB:Type:=(Bs×Int×Int×Int×Bs×List aD×Bss×Int×Bs×List aA×Int)
def mV:tB→St:=fun(b,c,d,e,f,g,h,i,j,k,a)=>{env:=(.ptr 0 0::.undef::.str b::.int .i64 c::.undef::.ea [.int .i64 d,.int .i64 e,.str f,.sl .jnode (.may false) g,.sl .str (.may false) h]::(U 5 (.int .i64 i::.str j::(U 112 [])))),hp:=[some [.ul .atype k,.int .i64 a]]}
def tC(N:Nat):St→Ro:=fun s=>run bc N yG (fc (run bc N)) s
def jJ(N:Nat):tB→Ro:=fun(o,p,h,i,j,k,l,b,m,e,f)=>
 aG (dJ h i j k l m) (fun c=>
 cond (!c.2.2.2.2.2) (
 aG (aL e f 2) (fun g=>
 some (.int .i64 g.1,[some [.ul .atype g.2.1,.int .i64 g.2.2]]))) (
 let q:=(IntKind.wrap .i64 (p+1))
 aG (cX e f c.1 c.2.1 c.2.2.1 c.2.2.2.1 c.2.2.2.2.1 o q) (fun a=>
 cond (a.2.2==0) (
 chk (decide (0<List.length a.2.1)) (
 chk (decide (0≤b)&&decide (b<↑(List.length a.2.1))) (
 chk (decide ((Int.toNat b)<List.length a.2.1)) (
 let n:=(List.set a.2.1 (Int.toNat b) (let d:=List.getD a.2.1 (Int.toNat b) (aB .atype);⟨d.kind,d.name,d.aliases,a.1,d.syms,d.hasdef,d.df,d.size,d.fields,d.branches⟩))
 chk (Nat.beq (List.length a.2.1) (List.length n)) (
 some (.int .i64 b,[some [.ul .atype n,.int .i64 a.2.2],none,none])))))) (
 some (.int .i64 b,[some [.ul .atype a.2.1,.int .i64 a.2.2]])))))
theorem ais(N:Nat):LJ (tC N) mV (jJ N):=fun _=>by kernel_rfl
abbrev tD:Type:=(Bs×Int×Int×Bs×List aD×Bss×List aA×Int)
def mW:tD→St:=fun(a,b,c,d,e,f,g,h)=>{env:=(.ptr 0 0::.undef::.str a::(U 6 (.ea [.int .i64 b,.int .i64 c,.str d,.sl .jnode (.may false) e,.sl .str (.may false) f]::(U 115 [])))),hp:=[some [.ul .atype g,.int .i64 h]]}
def ajx(R:IR→(Ex→St→Ro)→St→Ro):Ex→St→Ro:=(aP 0 (bg (R d6) (fin fJ)))
def tE(N:Nat):St→Ro:=fun s=>run bc N yH (ajx (run bc N)) s
def jK(N:Nat):tD→Ro:=fun(e,_,_,b,_,_,c,d)=>
 aG (iC c d b e) (fun a=>
 some (.int .i64 a.1,[some [.ul .atype a.2.1,.int .i64 a.2.2]]))
theorem ait(N:Nat):LJ (tE N) mW (jK N):=fun _=>by kernel_rfl
def oj(N:Nat):St→Ro:=fun s=>run bc N l9 (fc (run bc N)) s
def mX(N:Nat)(p:tB→Ro)(r:tD→Ro):jI→Ro:=fun(n,q,c,d,e,f,g,j,k,b,l,m,o,h,i)=>
 cond o (
 aG (oT b) (fun(s:Int)=>
 aG (fB h i s ([]:Bs) ([]:Bss) 0 ([]:Bss) false ([]:Bs) 0 ([]:List aM) ([]:List Int)) (fun a=>
 let t:=decide (b=([109,97,112]:Bs))
 cond t (
 p (n,q,c,d,e,f,g,a.1,([118,97,108,117,101,115]:Bs),a.2.1,a.2.2)) (
 p (n,q,c,d,e,f,g,a.1,([105,116,101,109,115]:Bs),a.2.1,a.2.2))))) (
 r (n,j,k,b,l,m,h,i))
def jL(N:Nat)(x:jI):Ro:=mX N (fun z=>jJ N z) (fun z=>jK N z) x
def ol(N:Nat):List (Nat×(St→Ro)):=(bR bc N l9 (fc (run bc N))++(bR bc N mb (aP 0 (bg (run bc N d6) (fin fJ)))++(bR bc N d6 (fin fJ)++[])))
theorem aiu(N:Nat):∀(x:jI),oj N (fZ x)=jL N x:=by
 intro x
 have hX:∀C:Nat→St→Ro,bY C bc N l9 (fc (bY C bc N)) (fZ x)=mX N (fun z=>C 1000000 (mV z)) (fun z=>C 1000003 (mW z)) x:=by
  intro C
  kernel_rfl
 have h:oj N (fZ x)=mX N (fun z=>tC N (mV z)) (fun z=>tE N (mW z)) x:=(cW (C:=eZ (ol N)) (bS (aY (l:=(ol N)) (by kernel_rfl))) (cD (fL (bS (dP (aY (l:=(ol N)) (by kernel_rfl)))) (cD (fL (bS (dP (dP (aY (l:=(ol N)) (by kernel_rfl))))) rfl)))) _).trans ((hX _).trans (by kernel_rfl))
 have e2:(fun z=>tC N (mV z))=(fun z=>jJ N z):=funext fun z=>ais N z
 have e3:(fun z=>tE N (mW z))=(fun z=>jK N z):=funext fun z=>ait N z
 rw[h,e2,e3]
 rfl
def tF(N:Nat):St→Ro:=fun s=>run bc N ma (fc (run bc N)) s
def mY(N:Nat)(s:jI→Ro):jH→Ro:=fun(p,q,a,b,c,d,e,i,j,f,k,l,m,n,g,h)=>
 let r:=fun t=>s (p,q,a,b,c,d,e,i,j,f,k,l,t,g,h)
 cond n (
 aG (oT f) (fun(u:Int)=>
 aG (kL g h a b c d e u p q) (fun o=>
 some (.int .i64 o.1,[some [.ul .atype o.2.1,.int .i64 o.2.2]])))) (
 let v:=decide (m=([97,114,114,97,121]:Bs))
 cond v (
 r true) (
 let w:=decide (m=([109,97,112]:Bs))
 r w))
def om(N:Nat)(x:jH):Ro:=mY N (fun z=>jL N z) x
def oo(N:Nat):List (Nat×(St→Ro)):=(bR bc N ma (fc (run bc N))++(bR bc N mb (aP 0 (bg (run bc N d6) (fin fJ)))++(bR bc N d6 (fin fJ)++[])))
theorem aiv(N:Nat):∀(x:jH),tF N (iT x)=om N x:=by
 intro x
 have hX:∀C:Nat→St→Ro,bY C bc N ma (fc (bY C bc N)) (iT x)=mY N (fun z=>C 1000001 (fZ z)) x:=by
  intro C
  kernel_rfl
 have h:tF N (iT x)=mY N (fun z=>oj N (fZ z)) x:=(cW (C:=eZ (oo N)) (bS (aY (l:=(oo N)) (by kernel_rfl))) (cD (fL (bS (dP (aY (l:=(oo N)) (by kernel_rfl)))) (cD (fL (bS (dP (dP (aY (l:=(oo N)) (by kernel_rfl))))) rfl)))) _).trans ((hX _).trans (by kernel_rfl))
 have e1:(fun z=>oj N (fZ z))=(fun z=>jL N z):=funext fun z=>aiu N z
 rw[h,e1]
 rfl
def kZ(N:Nat)(b:List aA)(a d f:Int)(e:Bs)(g:List aD)(h:Bss)(j:Bs)(k:Int)(s:jH→Ro):Ro:=
 let l:=fun t u r v w x=>s (j,k,d,f,e,g,h,t,u,r,v,w,r,x,b,a)
 cond (!(a==0)) (
 some (.int .i64 0,[some [.ul .atype b,.int .i64 a]])) (
 cond (decide (20<k)) (
 aG (aL b a 3) (fun m=>
 some (.int .i64 m.1,[some [.ul .atype m.2.1,.int .i64 m.2.2]]))) (
 cond (d==4) (
 aG (iC b a e j) (fun n=>
 some (.int .i64 n.1,[some [.ul .atype n.2.1,.int .i64 n.2.2]]))) (
 cond (d==5) (
 aG (kK b a d f e g h j k) (fun o=>
 some (.int .i64 o.1,[some [.ul .atype o.2.1,.int .i64 o.2.2]]))) (
 cond (d==6) (
 aG (dJ d f e g h ([116,121,112,101]:Bs)) (fun c=>
 cond (!c.2.2.2.2.2) (
 aG (aL b a 2) (fun p=>
 some (.int .i64 p.1,[some [.ul .atype p.2.1,.int .i64 p.2.2]]))) (
 cond (!(c.1==4)) (
 let y:=(IntKind.wrap .i64 (k+1))
 aG (cX b a c.1 c.2.1 c.2.2.1 c.2.2.2.1 c.2.2.2.2.1 j y) (fun q=>
 some (.int .i64 q.1,[some [.ul .atype q.2.1,.int .i64 q.2.2]]))) (
 let z:=decide (c.2.2.1=([114,101,99,111,114,100]:Bs))
 cond z (
 l c.1 c.2.1 c.2.2.1 c.2.2.2.1 c.2.2.2.2.1 true) (
 let x8:=decide (c.2.2.1=([101,110,117,109]:Bs))
 cond x8 (
 l c.1 c.2.1 c.2.2.1 c.2.2.2.1 c.2.2.2.2.1 true) (
 let x9:=decide (c.2.2.1=([102,105,120,101,100]:Bs))
 l c.1 c.2.1 c.2.2.1 c.2.2.2.1 c.2.2.2.2.1 x9)))))) (
 aG (aL b a 2) (fun i=>
 some (.int .i64 i.1,[some [.ul .atype i.2.1,.int .i64 i.2.2]])))))))
def abv(N:Nat)(a:List aA)(b c d:Int)(e:Bs)(f:List aD)(g:Bss)(h:Bs)(i:Int):Ro:=kZ N a b c d e f g h i (fun z=>om N z)
theorem ajy(N:Nat)(a:List aA)(c d g:Int)(i:Bs)(j:List aD)(k:Bss)(l:Bs)(m:Int)(h:Tot (abv N a c d g i j k l m) (fun z=>∃(n:Int)(o:List aA)(p:Int)(rest:List aK),z.1.dimR=.int .i64 n∧z.2=some [.ul .atype o,.int .i64 p]::rest∧fR a c d g i j k l m (n,o,p))):∃r,cX a c d g i j k l m r:=FnC.finO (css:=[[.ul .atype a,.int .i64 c]]) ala (N:=N) ((bo _ (by kernel_rfl) rfl (fun C=>kZ N a c d g i j k l m (fun z=>C 1000002 (iT z))) (fun C=>by kernel_rfl)).trans (Eq.trans (b:=kZ N a c d g i j k l m (fun z=>tF N (iT z))) (by kernel_rfl) (congrArg (kZ N a c d g i j k l m) (funext fun z=>aiv N z)))) h fun _ ⟨n,o,p,_,e,f,q⟩=>⟨(n,o,p),e,⟨_,f⟩,q⟩
noncomputable def aw8:aN:=tab (P:=Try.prog) [] [pN] [] []
def au8:IR:=Rs [Bx 1 0,Pp (.new 2 [nl .atype]),Mi 3 0] (Rs [Pp (.bld 5 [.ul .atype ([]:List aA),vI 0] []),Pp (.box 6 5),Mv 4 6] (Rs [Mv 7 4,Ld 8 5 true 1,Ca 9 72 [7,8,kS [],kI 1]] (Sq (Rs [Mv 10 4,Nk 11 10,Fa 12 1 11,Lo 13 12,Bc 14 .neq 13 0] (Cn 14 (Sq (.reg [Pp (.bld 15 [nl .atype] []),Mv 16 4,Nk 17 16,Fa 18 1 17,Fo [1] [] (.ld 19 1 false false 18),Fo [] [0] (.st none 1 2 15),Mv 3 19] [[],[],[1],[1,2],[1,2,3],[0],rg 0 5]) .ret) .skip)) (Sq (.gh (.fz (.cell 1 0)) (Rg [Mv 20 4,Nk 21 20,Fa 22 0 21,Pp (.ld 23 1 true false 22),Sv 1 2 23,Mi 3 0])) .ret))))
def au9:List RV:=[.cell 2 1 true,.t 3]
theorem ava:FnC Try.prog aw8 [72,2000072] 0 alI Try.f39 au8 au9:=fnC Try.func39
def akC(N:Nat)(b c:Int)(d:Bs)(e:List aD)(f:Bss):Ro:=
 let g:=fun h i j k l=>(some (.tup [.agg [.sl .atype (.may false) h],.int .i64 i],[some [j],some [k,.int .i64 l]]):Ro)
 aG (cX ([]:List aA) 0 b c d e f ([]:Bs) 1) (fun a=>
 cond (!(a.2.2==0)) (
 g ([]:List aA) a.2.2 (.sl .atype .own ([]:List aA)) (.ul .atype a.2.1) a.2.2) (
 g a.2.1 0 (.sl .atype (.may false) a.2.1) (.sl .atype .own a.2.1) a.2.2))
def akD(N:Nat)(a b:Int)(c:Bs)(d:List aD)(e:Bss):Ro:=akC N a b c d e
theorem as9(N:Nat)(a b:Int)(c:Bs)(d:List aD)(f:Bss)(h:Tot (akD N a b c d f) (fun z=>∃(g:List aA)(i:Int)(rest:List aK),z.1.dimR=.tup [.agg [.sl .atype (.may false) g],.int .i64 i]∧z.2=rest∧afZ a b c d f (g,i))):∃r,ru a b c d f r:=ava.finP (N:=N) (by kernel_rfl) h fun _ ⟨g,i,_,e,_,q⟩=>⟨(g,i),e,q⟩
end Go.Proofs.Ytdpajabhmmmjoaa
end
noncomputable section
namespace Go.Proofs.Ytdpajabhmmmjoaa
open Go.AM
set_option autoImplicit false
set_option linter.unusedVariables false
set_option linter.unusedSimpArgs false
set_option maxRecDepth 100000
theorem nz{e c:Int}(hc:c≠0):(if e=0 then c else e)≠0:=by split<;>assumption
theorem azf(s:List UInt8)(hs:s.length≤1000000):∃r,ry s r:=by
 apply apI 2000000
 unfold agE qi
 dsimp only
 refine aU (fun x=>x.1=s∧ -1≤x.2∧x.2<(s.length:Int)) (fun x=>(x.2+1).toNat) ?_ _ _ ⟨rfl,by simp only[aI ((s.length:Int)-1) (by omega)];omega,by simp only[aI ((s.length:Int)-1) (by omega)];omega⟩ (by simp only[aI ((s.length:Int)-1) (by omega)];omega)
 rintro again ⟨s,i⟩ ⟨rfl,i1,i2⟩ ih
 simp only at i1 i2 ih hs ⊢
 have e:=aI (i-1) (by omega)
 unfold tx
 dsimp only
 repeat' (first|(with_reducible refine aC ?_ ?_<;>(intro hb;(try simp only[bnl] at hb);(try revert hb;intro _)))|with_reducible refine aJ ?_ ?_|with_reducible refine aF ?_|fail)
 ·first|(simp only[bnl,lnl];done)|(simp only[bnl,lnl];omega)
 ·first|(simp only[bnl,lnl];done)|(simp only[bnl,lnl];omega)
 ·exact⟨_,_,rfl,rfl,by simp only[nt,List.length_drop,List.length_take];omega⟩
 ·exact ih (s,_) ⟨rfl,by simp only[e];omega,by simp only[e];omega⟩ (by simp only[e];omega)
 ·exact⟨_,_,rfl,rfl,by simp[nt]⟩
theorem aBF(ts:List aA)(t:Int):∃r,uo ts t r:=by
 apply au7 1
 unfold amX amW
 dsimp only
 repeat' (first|(with_reducible refine aC ?_ ?_<;>(intro hb;(try simp only[bnl] at hb);(try revert hb;intro _)))|with_reducible refine aJ ?_ ?_|with_reducible refine aF ?_|(refine aE (aAT _) ?_;intro _ _)|fail)
 all_goals first|exact⟨_,_,rfl,rfl⟩|(first|(simp only[bnl,lnl];done)|(simp only[bnl,lnl];omega))
theorem atA(ts:List aA)(e:Int)(name space:List UInt8)(h1:name.length≤100)(h2:space.length≤10000):∃r,gT ts e name space r:=by
 apply aij 2000
 unfold aaV jy
 refine aE (aAY _ _ (by omega) (by omega)) ?_
 rintro j ⟨-,hj⟩
 dsimp only[xb] at hj ⊢
 refine aU (fun x=>x.1=name∧x.2.1.length≤name.length+space.length+1∧0≤x.2.2.1∧x.2.2.1≤(name.length:Int)∧x.2.2.2.1=ts∧x.2.2.2.2=e) (fun x=>((name.length:Int)-x.2.2.1).toNat) ?_ _ _ ⟨rfl,by simp only;omega,by simp,by simp,rfl,rfl⟩ (by simp;omega)
 rintro again ⟨name,w,i,ts,e⟩ ⟨rfl,i0,i1,i2,rfl,rfl⟩ ih
 simp only at i0 i1 i2 ih h1 hj ⊢
 have ew:i<name.length→IntKind.i64.wrap (i+1)=i+1:=fun h=>aI (i+1) (by omega)
 unfold mL
 dsimp only
 have next:∀q:List UInt8,i<name.length→q.length≤name.length+space.length+1→Tot (again (name,q,IntKind.i64.wrap (i+1),ts,e)) _:=fun q h hq=>ih (name,q,IntKind.i64.wrap (i+1),ts,e)
  (by simp only[ew h];exact⟨trivial,hq,by omega,by omega,trivial,trivial⟩) (by simp only[ew h];omega)
 repeat' (first|(with_reducible refine aC ?_ ?_<;>(intro hb;(try simp only[bnl] at hb);(try revert hb;intro _)))|with_reducible refine aJ ?_ ?_|with_reducible refine aF ?_|(refine aE (cZ _ _ _) ?_;rintro _ ⟨-,rfl⟩;try dsimp only)|(refine aE (azU _ (by omega)) ?_;intro _ _)|fail)
 all_goals first|(first|(simp only[bnl,lnl];done)|(simp only[bnl,lnl];omega))|(refine next _ (by omega) (by omega))|skip
 ·refine⟨_,_,_,_,rfl,rfl,?_,rfl,fun h=>absurd h (nz (by decide))⟩
  simp only
  omega
 ·refine⟨_,_,_,_,rfl,rfl,?_,rfl,fun h=>absurd h (nz (by decide))⟩
  simp only
  omega
 ·refine⟨_,_,_,_,rfl,rfl,?_,rfl,fun h=>h⟩
  simp only
  omega
theorem apJ(ts:List aA)(e c0 c1:Int)(c2:List UInt8)(c3:List aD)(c4:List (List UInt8))(name:List UInt8)(must:Bool)(h:bp (.mk c0 c1 c2 c3 c4)):∃r,eP ts e c0 c1 c2 c3 c4 name must r:=by
 obtain⟨k1,k2,k3,k4,k5,k6⟩:=h.kids
 apply ajo 1
 unfold abr abq
 dsimp only
 refine aE (rT _ _ _ _ _ _ (by omega)) ?_
 rintro r ⟨-,hr⟩
 have hg:=xo (k:=c0) (names:=c4) (name:=name) k6
 simp only[dg] at hr
 rw[←hr] at hg
 obtain⟨g1,g2,g3,g4,g5,g6⟩:=hg.kids
 repeat' (first|(with_reducible refine aC ?_ ?_<;>(intro hb;(try simp only[bnl] at hb);(try revert hb;intro _)))|with_reducible refine aJ ?_ ?_|with_reducible refine aF ?_|(refine aE (cZ _ _ _) ?_;rintro _ ⟨-,rfl⟩;try dsimp only)|fail)
 all_goals first|exact⟨_,_,_,_,rfl,rfl,g1,rfl,fun h=>h⟩|exact⟨_,_,_,_,rfl,rfl,Nat.zero_le _,rfl,fun h=>h⟩|exact⟨_,_,_,_,rfl,rfl,Nat.zero_le _,rfl,fun h=>absurd h (nz (by decide))⟩
theorem amZ(ts:List aA)(e c0 c1:Int)(c2:List UInt8)(c3:List aD)(c4:List (List UInt8))(name:List UInt8)(h:bp (.mk c0 c1 c2 c3 c4)):∃r,dK ts e c0 c1 c2 c3 c4 name r:=by
 obtain⟨k1,k2,k3,k4,k5,k6⟩:=h.kids
 apply ail 2000
 unfold aaX jz
 refine aE (rT _ _ _ _ _ _ (by omega)) ?_
 rintro r ⟨-,hr⟩
 have hg:=xo (k:=c0) (names:=c4) (name:=name) k6
 simp only[dg] at hr
 rw[←hr] at hg
 obtain⟨d0,d1,d2,l,d4,d5⟩:=r
 obtain⟨g1,g2,g3,g4,g5,g6⟩:=hg.kids
 dsimp only at g2 g6 ⊢
 have loop:∀e1:Int,(e1=0→e=0)→Tot (aR 2000 (iO 2000) (d0,d1,d2,l,d4,[],0,ts,e1)) (fun z=>∃(y0:List (List UInt8))(y1:Bool)(y2:List aA)(y3:Int)(rest:List aK),z.1.dimR=.tup [.sl .str (.may false) y0,.bool y1]∧z.2=some [.ul .atype y2,.int .i64 y3]::rest∧qk ts e c0 c1 c2 c3 c4 name (y0,y1,y2,y3)):=by
  intro e1 he1
  refine aU (fun x=>x.2.2.2.1=l∧(x.2.2.2.2.2.1.length:Int)=x.2.2.2.2.2.2.1∧x.2.2.2.2.2.2.1≤(l.length:Int)∧cE x.2.2.2.2.2.1∧x.2.2.2.2.2.2.2.1=ts∧(x.2.2.2.2.2.2.2.2=0→e=0)) (fun x=>((l.length:Int)-x.2.2.2.2.2.2.1).toNat) ?_ _ _ ⟨rfl,rfl,by simp,by simp[cE],rfl,he1⟩ (by simp;omega)
  rintro again ⟨d0,d1,d2,l,d4,out,i,ts,e1⟩ ⟨rfl,i1,i2,i3,rfl,i4⟩ ih
  simp only at i1 i2 i3 i4 ih g2 g6 ⊢
  have ew:i<l.length→IntKind.i64.wrap (i+1)=i+1:=fun h=>aI (i+1) (by omega)
  unfold iO
  dsimp only
  have next:∀e2:Int,i<l.length→(e2=0→e=0)→Tot (again (d0,d1,d2,l,d4,out++[(List.getD l (Int.toNat i) (aB .jnode)).s],IntKind.i64.wrap (i+1),ts,e2)) _:=fun e2 h hq=>ih (d0,d1,d2,l,d4,out++[(List.getD l (Int.toNat i) (aB .jnode)).s],IntKind.i64.wrap (i+1),ts,e2)
   (by
    simp only[ew h,List.length_append,List.length_cons,List.length_nil]
    refine⟨trivial,by omega,by omega,?_,trivial,hq⟩
    intro x hx
    rcases List.mem_append.1 hx with hx|hx
    ·exact i3 x hx
    ·simp only[List.mem_singleton] at hx
     subst hx
     exact(bp.eta.2 (bp.getD g6 i.toNat)).kids.1) (by simp only[ew h];omega)
  repeat' (first|(with_reducible refine aC ?_ ?_<;>(intro hb;(try simp only[bnl] at hb);(try revert hb;intro _)))|with_reducible refine aJ ?_ ?_|with_reducible refine aF ?_|(refine aE (cZ _ _ _) ?_;rintro _ ⟨-,rfl⟩;try dsimp only)|fail)
  all_goals first|(first|(simp only[bnl,lnl];done)|(simp only[bnl,lnl];omega))|(refine next _ (by omega) ?_)|skip
  ·exact fun h=>absurd h (nz (by decide))
  ·exact i4
  ·exact⟨_,_,_,_,_,rfl,rfl,by simp only;omega,i3,rfl,i4⟩
  ·exact⟨_,_,_,_,_,rfl,rfl,by simp only;omega,i3,rfl,i4⟩
 repeat' (first|(with_reducible refine aC ?_ ?_<;>(intro hb;(try simp only[bnl] at hb);(try revert hb;intro _)))|with_reducible refine aJ ?_ ?_|with_reducible refine aF ?_|(refine aE (cZ _ _ _) ?_;rintro _ ⟨-,rfl⟩;try dsimp only)|fail)
 ·exact⟨_,_,_,_,_,rfl,rfl,by simp,by simp[cE],rfl,fun h=>h⟩
 ·exact loop _ fun h=>absurd h (nz (by decide))
 ·exact loop _ fun h=>h
theorem atB(ts:List aA)(e:Int)(s space:List UInt8)(h:ts.length≤60)(h1:s.length≤100)(h2:space.length≤10000):∃r,iC ts e s space r:=by
 apply ajs 2000
 unfold abu kY
 have loop:Tot (aR 2000 (jB 2000) (s,space,false,0,ts,e)) (fun z=>∃(y0:Int)(y1:List aA)(y2:Int)(rest:List aK),z.1.dimR=.int .i64 y0∧z.2=some [.ul .atype y1,.int .i64 y2]::rest∧rq ts e s space (y0,y1,y2)):=by
  refine aU (fun x=>x.1=s∧x.2.1=space∧0≤x.2.2.2.1∧x.2.2.2.1≤(s.length:Int)∧x.2.2.2.2.1=ts∧x.2.2.2.2.2=e) (fun x=>((s.length:Int)-x.2.2.2.1).toNat) ?_ _ _ ⟨rfl,rfl,by simp,by simp,rfl,rfl⟩ (by simp;omega)
  rintro again ⟨s,space,d,i,ts,e⟩ ⟨rfl,rfl,i1,i2,rfl,rfl⟩ ih
  simp only at i1 i2 ih h h1 h2 ⊢
  have ew:i<s.length→IntKind.i64.wrap (i+1)=i+1:=fun h=>aI (i+1) (by omega)
  unfold jB
  dsimp only
  have next:∀b:Bool,i<s.length→Tot (again (s,space,b,IntKind.i64.wrap (i+1),ts,e)) _:=fun b h=>ih (s,space,b,IntKind.i64.wrap (i+1),ts,e)
   (by simp only[ew h];exact⟨trivial,trivial,by omega,by omega,trivial,trivial⟩) (by simp only[ew h];omega)
  repeat' (first|(with_reducible refine aC ?_ ?_<;>(intro hb;(try simp only[bnl] at hb);(try revert hb;intro _)))|with_reducible refine aJ ?_ ?_|with_reducible refine aF ?_|(refine aE (cZ _ _ _) ?_;rintro _ ⟨-,rfl⟩;try dsimp only)|(refine aE (awu _ _ _ h) ?_;rintro⟨a,b,ts',e'⟩ ⟨-,hq,hf⟩;simp only[Prod.mk.injEq] at hq;obtain⟨rfl,rfl⟩:=hq;dsimp only at hf ⊢)|fail)
  all_goals first|(first|(simp only[bnl,lnl];done)|(simp only[bnl,lnl];omega))|(refine next _ (by omega))|exact⟨_,_,_,_,rfl,rfl,bF.bad h (nz (by decide)),fun h=>absurd h (nz (by decide))⟩|exact⟨_,_,_,_,rfl,rfl,bF.refl h,fun _=>hf (by assumption)⟩
 refine aE (ao8 _) ?_
 rintro(k:Int) ⟨-,hk1,hk2,hk3⟩
 repeat' (first|(with_reducible refine aC ?_ ?_<;>(intro hb;(try simp only[bnl] at hb);(try revert hb;intro _)))|with_reducible refine aJ ?_ ?_|with_reducible refine aF ?_|(refine aE (ane _ _ _ _ _ _ _ _ _ _ _ _ h) ?_;rintro _ ⟨-,rfl⟩;try dsimp only)|fail)
 ·by_cases hl:60≤ts.length
  ·skip
   simp only[if_pos hl]
   exact⟨_,_,_,_,rfl,rfl,bF.bad h (nz (by decide)),fun h=>absurd h (nz (by decide))⟩
  ·simp only[if_neg hl]
   refine⟨_,_,_,_,rfl,rfl,bF.push (by omega) _ ⟨by simp only;omega,by simp,by simp,by simp,by simp,by simp,by simp,(fun h=>by simp only at h;omega),(by simp only;omega),(fun h=>by simp only at h;omega),fun _=>rfl,by simp,by simp,by simp⟩,fun _=>?_⟩
   simp only[List.length_append,List.length_cons,List.length_nil]
   omega
 ·exact loop
 ·exact loop
end Go.Proofs.Ytdpajabhmmmjoaa
end
noncomputable section
namespace Go.Proofs.Ytdpajabhmmmjoaa
open Go.AM
set_option autoImplicit false
set_option linter.unusedVariables false
set_option linter.unusedSimpArgs false
set_option maxRecDepth 100000
theorem mZ{α:Type}{l:List α}{i:Nat}{x d:α}(h:l[i]? =some x):l.getD i d=x:=by
 rw[List.getD_eq_getElem?_getD,h];rfl
theorem ax3{α:Type}{l:List α}{i:Nat}{x d:α}(h:i<l.length):(l.set i x).getD i d=x:=mZ (List.getElem?_set_self h)
theorem aCJ{l:List (List UInt8)}{i:Int}{d:List UInt8}(h:0≤i∧i<(l.length:Int))(e:l.getD i.toNat (aB .str)=d):d∈l:=by
 subst e
 rw[List.getD_eq_getElem?_getD,List.getElem?_eq_getElem (show i.toNat<l.length by omega)]
 exact List.getElem_mem _
theorem ax4(ts:List aA)(e c0 c1:Int)(c2:List UInt8)(c3:List aD)(c4:List (List UInt8))(at_:Int)(h:bp (.mk c0 c1 c2 c3 c4))(hat:e=0→0≤at_∧at_<ts.length):∃r,iD ts e c0 c1 c2 c3 c4 at_ r:=by
 obtain⟨k1,k2,k3,k4,k5,k6⟩:=h.kids
 apply afN 2000
 unfold yE ik
 dsimp only
 refine aE (amZ _ _ _ _ _ _ _ _ h) ?_
 rintro⟨l,is,ts',e1⟩ ⟨-,h1,h2,rfl,h3⟩
 dsimp only at h1 h2 h3 hat ⊢
 have loop2:∀(hd:Bool)(d:List UInt8)(e1:Int),(e1=0→e=0∧l≠[])→Tot (aR 2000 (eW 2000) (at_,l,hd,d,false,0,ts',e1)) (fun z=>∃(y0:List aA)(y1:Int)(rest:List aK),z.1.dimR=.tup []∧z.2=some [.ul .atype y0,.int .i64 y1]::rest∧eB ts' e c0 c1 c2 c3 c4 at_ (y0,y1)):=by
  intro hd d e1 he1
  refine aU (fun x=>match x with|(a,l',hd',d',b,i,ts2,e2)=>a=at_∧l'=l∧hd'=hd∧d'=d∧0≤i∧i≤(l.length:Int)∧ts2=ts'∧e2=e1∧(b=true→d'∈l')) (fun x=>((l.length:Int)-x.2.2.2.2.2.1).toNat) ?_ _ _ ⟨rfl,rfl,rfl,rfl,by simp,by simp,rfl,rfl,by simp⟩ (by simp;omega)
  rintro again ⟨a,l',hd',d',b,i,ts2,e2⟩ ⟨rfl,rfl,rfl,rfl,i1,i2,rfl,rfl,ib⟩ ih
  dsimp only at ih
  have ew:i<l'.length→IntKind.i64.wrap (i+1)=i+1:=fun h=>aI (i+1) (by omega)
  have next:∀b:Bool,i<l'.length→(b=true→d'∈l')→Tot (again (a,l',hd',d',b,IntKind.i64.wrap (i+1),ts2,e2)) _:=fun b h hb=>ih (a,l',hd',d',b,IntKind.i64.wrap (i+1),ts2,e2)
   (by simp only[ew h];exact⟨trivial,trivial,trivial,trivial,by omega,by omega,trivial,trivial,hb⟩) (by simp only[ew h];omega)
  unfold eW
  dsimp only
  have fin:∀(h0:e2=0)(hdd:hd'=true→d'∈l')(e3:Int),e3=e2→eB ts2 e c0 c1 c2 c3 c4 a (List.set (List.set (List.set ts2 (Int.toNat a) (let e_:=List.getD ts2 (Int.toNat a) (aB .atype);⟨(e_).kind,(e_).name,(e_).aliases,(e_).items,l',(e_).hasdef,(e_).df,(e_).size,(e_).fields,(e_).branches⟩)) (Int.toNat a) (let e_:=List.getD (List.set ts2 (Int.toNat a) (let e_:=List.getD ts2 (Int.toNat a) (aB .atype);⟨(e_).kind,(e_).name,(e_).aliases,(e_).items,l',(e_).hasdef,(e_).df,(e_).size,(e_).fields,(e_).branches⟩)) (Int.toNat a) (aB .atype);⟨(e_).kind,(e_).name,(e_).aliases,(e_).items,(e_).syms,hd',(e_).df,(e_).size,(e_).fields,(e_).branches⟩)) (Int.toNat a) (let e_:=List.getD (List.set (List.set ts2 (Int.toNat a) (let e_:=List.getD ts2 (Int.toNat a) (aB .atype);⟨(e_).kind,(e_).name,(e_).aliases,(e_).items,l',(e_).hasdef,(e_).df,(e_).size,(e_).fields,(e_).branches⟩)) (Int.toNat a) (let e_:=List.getD (List.set ts2 (Int.toNat a) (let e_:=List.getD ts2 (Int.toNat a) (aB .atype);⟨(e_).kind,(e_).name,(e_).aliases,(e_).items,l',(e_).hasdef,(e_).df,(e_).size,(e_).fields,(e_).branches⟩)) (Int.toNat a) (aB .atype);⟨(e_).kind,(e_).name,(e_).aliases,(e_).items,(e_).syms,hd',(e_).df,(e_).size,(e_).fields,(e_).branches⟩)) (Int.toNat a) (aB .atype);⟨(e_).kind,(e_).name,(e_).aliases,(e_).items,(e_).syms,(e_).hasdef,d',(e_).size,(e_).fields,(e_).branches⟩),e3):=by
   rintro h0 hdd e3 rfl
   have ha:=hat (he1 h0).1
   have hl:a.toNat<ts2.length:=by omega
   refine⟨fun h=>(he1 h).1,fun h=>absurd h0 h,fun _=>⟨l',hd',d',(he1 h0).2,h1,hdd,ts2[a.toNat],List.getElem?_eq_getElem hl,?_⟩⟩
   have g:∀x:aA,(ts2.set a.toNat x).getD a.toNat (aB .atype)=x:=fun x=>ax3 hl
   have g0:ts2.getD a.toNat (aB .atype)=ts2[a.toNat]:=mZ (List.getElem?_eq_getElem hl)
   simp only[List.set_set,g,g0]
  repeat' (first|(with_reducible refine aC ?_ ?_<;>(intro hb;(try simp only[bnl] at hb);(try revert hb;intro _)))|with_reducible refine aJ ?_ ?_|with_reducible refine aF ?_|(refine aE (cZ _ _ _) ?_;rintro _ ⟨-,rfl⟩;try dsimp only)|fail)
  all_goals first|(refine next _ (by omega) (fun hh=>?_);first|exact ib (by assumption)|exact aCJ (by omega) (of_decide_eq_true hh))|skip
  all_goals have hat':e2=0→0≤a∧a<ts2.length:=fun h=>hat (he1 h).1
  all_goals first|(first|(simp only[bnl,lnl];done)|(simp only[bnl,lnl];omega))|skip
  all_goals first|exact⟨_,_,_,rfl,rfl,fun h=>(he1 h).1,fun _=>rfl,fun h=>absurd h (by assumption)⟩|exact⟨_,_,_,rfl,rfl,fun h=>absurd h (nz (by decide)),fun _=>rfl,fun h=>absurd h (nz (by decide))⟩|exact⟨_,_,_,rfl,rfl,fin (by assumption) (fun hh=>by first|exact ib (by assumption)|exact ib (by simpa using (by assumption:(!b)=false))|(exfalso;simp_all)) _ rfl⟩|(exfalso;exact nz (by decide) (by assumption))|skip
 have loop1:∀(e1:Int),(e1=0→e=0∧l≠[])→Tot (aR 2000 (gG 2000) (at_,c0,c1,c2,c3,c4,l,0,ts',e1)) (fun z=>∃(y0:List aA)(y1:Int)(rest:List aK),z.1.dimR=.tup []∧z.2=some [.ul .atype y0,.int .i64 y1]::rest∧eB ts' e c0 c1 c2 c3 c4 at_ (y0,y1)):=by
  intro e1 he1
  refine aU (fun x=>match x with|(a,d0,d1,d2,d3,d4,l',i,ts2,e2)=>a=at_∧d0=c0∧d1=c1∧d2=c2∧d3=c3∧d4=c4∧l'=l∧0≤i∧i≤(l.length:Int)∧ts2=ts'∧(e2=0→e=0∧l≠[])) (fun x=>((l.length:Int)-x.2.2.2.2.2.2.2.1).toNat) ?_ _ _ ⟨rfl,rfl,rfl,rfl,rfl,rfl,rfl,by simp,by simp,rfl,he1⟩ (by simp;omega)
  rintro again ⟨a,d0,d1,d2,d3,d4,l',i,ts2,e2⟩ ⟨rfl,rfl,rfl,rfl,rfl,rfl,rfl,i1,i2,rfl,i3⟩ ih
  dsimp only at ih
  have ew:i<l'.length→IntKind.i64.wrap (i+1)=i+1:=fun h=>aI (i+1) (by omega)
  have next:∀e2:Int,i<l'.length→(e2=0→e=0∧l'≠[])→Tot (again (a,d0,d1,d2,d3,d4,l',IntKind.i64.wrap (i+1),ts2,e2)) _:=fun e2 h he=>ih (a,d0,d1,d2,d3,d4,l',IntKind.i64.wrap (i+1),ts2,e2)
   (by simp only[ew h];exact⟨trivial,trivial,trivial,trivial,trivial,trivial,trivial,by omega,by omega,trivial,he⟩) (by simp only[ew h];omega)
  have inner:∀e2:Int,i<l'.length→(e2=0→e=0∧l'≠[])→Tot (aR 2000 (eV 2000 again) (a,d0,d1,d2,d3,d4,l',i,0,ts2,e2)) (fun z=>∃(y0:List aA)(y1:Int)(rest:List aK),z.1.dimR=.tup []∧z.2=some [.ul .atype y0,.int .i64 y1]::rest∧eB ts2 e d0 d1 d2 d3 d4 a (y0,y1)):=by
   intro e2 hi he
   refine aU (fun x=>match x with|(a',b0,b1,b2,b3,b4,l2,i',k,ts3,e3)=>a'=a∧b0=d0∧b1=d1∧b2=d2∧b3=d3∧b4=d4∧l2=l'∧i'=i∧0≤k∧k≤i∧ts3=ts2∧(e3=0→e=0∧l'≠[])) (fun x=>(i-x.2.2.2.2.2.2.2.2.1).toNat) ?_ _ _ ⟨rfl,rfl,rfl,rfl,rfl,rfl,rfl,rfl,by simp,i1,rfl,he⟩ (by simp only;omega)
   rintro again1 ⟨a',b0,b1,b2,b3,b4,l2,i',k,ts3,e3⟩ ⟨rfl,rfl,rfl,rfl,rfl,rfl,rfl,rfl,j1,j2,rfl,j3⟩ ih1
   dsimp only at ih1
   have ek:k<i'→IntKind.i64.wrap (k+1)=k+1:=fun h=>aI (k+1) (by omega)
   have next1:∀e2:Int,k<i'→(e2=0→e=0∧l2≠[])→Tot (again1 (a',b0,b1,b2,b3,b4,l2,i',IntKind.i64.wrap (k+1),ts3,e2)) _:=fun e2 h he=>ih1 (a',b0,b1,b2,b3,b4,l2,i',IntKind.i64.wrap (k+1),ts3,e2)
    (by simp only[ek h];exact⟨trivial,trivial,trivial,trivial,trivial,trivial,trivial,trivial,by omega,by omega,trivial,he⟩) (by simp only[ek h];omega)
   unfold eV
   dsimp only
   repeat' (first|(with_reducible refine aC ?_ ?_<;>(intro hb;(try simp only[bnl] at hb);(try revert hb;intro _)))|with_reducible refine aJ ?_ ?_|with_reducible refine aF ?_|(refine aE (cZ _ _ _) ?_;rintro _ ⟨-,rfl⟩;try dsimp only)|fail)
   all_goals first|(first|(simp only[bnl,lnl];done)|(simp only[bnl,lnl];omega))|exact next1 _ (by omega) j3|exact next1 _ (by omega) (fun h=>absurd h (nz (by decide)))|exact next _ hi j3
  unfold gG jA
  dsimp only
  repeat' (first|(with_reducible refine aC ?_ ?_<;>(intro hb;(try simp only[bnl] at hb);(try revert hb;intro _)))|with_reducible refine aJ ?_ ?_|with_reducible refine aF ?_|(refine aE (cZ _ _ _) ?_;rintro _ ⟨-,rfl⟩;try dsimp only)|(refine aE (ajb _ ?_) ?_;rotate_left;intro _ _)|(refine aE (rT _ _ _ _ _ _ (by omega)) ?_;intro _ _)|(refine aE (apJ _ _ _ _ _ _ _ _ _ h) ?_;rintro⟨w,ts4,e4⟩ ⟨-,w1,rfl,w2⟩;dsimp only at w2 ⊢)|fail)
  all_goals first|(first|(simp only[bnl,lnl];done)|(simp only[bnl,lnl];omega))|exact inner _ (by omega) i3|exact inner _ (by omega) (fun h=>absurd h (nz (by decide)))|exact loop2 _ _ _ (fun h=>i3 (w2 h))|skip
  ·have:(l'.getD i.toNat (aB .str)).length≤100:=by
    rw[List.getD_eq_getElem?_getD]
    cases hq:l'[i.toNat]? with
    |none=>exact Nat.zero_le _
    |some y=>exact h2 y (List.mem_of_getElem? hq)
   omega
 have nz':∀{e c:Int},c≠0→(if e=0 then c else e)=0→∀{p:Prop},p:=fun hc h=>absurd h (nz hc)
 repeat' (first|(with_reducible refine aC ?_ ?_<;>(intro hb;(try simp only[bnl] at hb);(try revert hb;intro _)))|with_reducible refine aJ ?_ ?_|with_reducible refine aF ?_|(refine aE (cZ _ _ _) ?_;rintro _ ⟨-,rfl⟩;try dsimp only)|fail)
 all_goals first|exact loop1 _ (fun h=>absurd h (nz (by decide)))|skip
 all_goals refine loop1 _ (fun h=>⟨h3 h,fun hl=>?_⟩)
 all_goals subst hl;simp at*
end Go.Proofs.Ytdpajabhmmmjoaa
end
noncomputable section
namespace Go.Proofs.Ytdpajabhmmmjoaa
open Go.AM
set_option autoImplicit false
set_option linter.unusedVariables false
set_option linter.unusedSimpArgs false
set_option maxRecDepth 100000
def aec(deep:Int):Prop:=∀(ts:List aA)(e c0 c1:Int)(c2:List UInt8)(c3:List aD)(c4:List (List UInt8))(space:List UInt8),
 ts.length≤60→bp (.mk c0 c1 c2 c3 c4)→(space.length:Int)≤202*deep→∃r,cX ts e c0 c1 c2 c3 c4 space deep r
theorem bF.stuck{ts ts':List aA}{e e':Int}(h1:ts.length≤ts'.length)(h2:ts'.length≤60)(he:e'≠0):bF ts e ts' e':=
 ⟨h1,h2,fun h=>absurd h he,fun h=>absurd h he,fun h=>absurd h he⟩
structure pn(ts:List aA)(e:Int)(t0:aA)(at_:Int)(ts2:List aA)(e2:Int):Prop where
 len:ts.length≤ts2.length
 cap:ts2.length≤60
 grow:e2=0→at_=ts.length∧bF (ts++[t0]) e ts2 e2
theorem pn.add{ts:List aA}{e:Int}{t0:aA}(h:ts.length≤60){r:Int×List aA×Int}(hr:r=if 60≤ts.length then (0,ts,if e=0 then 3 else e) else ((ts.length:Int),ts++[t0],e)):pn ts e t0 r.1 r.2.1 r.2.2:=by
 by_cases hl:60≤ts.length
 ·rw[if_pos hl] at hr
  subst hr
  exact⟨Nat.le_refl _,h,fun h=>absurd h (nz (by decide))⟩
 ·rw[if_neg hl] at hr
  subst hr
  exact⟨by simp,by simp;omega,fun h=>⟨rfl,bF.refl (by simp;omega)⟩⟩
theorem pn.more{ts ts2 ts3:List aA}{e e2 e3:Int}{t0:aA}{a:Int}(h:pn ts e t0 a ts2 e2)(h':bF ts2 e2 ts3 e3):pn ts e t0 a ts3 e3:=
 ⟨Nat.le_trans h.len h'.len,h'.cap,fun he=>⟨(h.grow (h'.err he)).1,(h.grow (h'.err he)).2.trans h'⟩⟩
theorem pn.bad{ts ts2:List aA}{e e2 e3:Int}{t0:aA}{a:Int}(h:pn ts e t0 a ts2 e2)(he:e3≠0):pn ts e t0 a ts2 e3:=
 ⟨h.len,h.cap,fun h'=>absurd h' he⟩
theorem pn.stuck{ts ts2:List aA}{e e2:Int}{t0:aA}{a:Int}(h:pn ts e t0 a ts2 e2)(he:e2≠0):bF ts e ts2 e2:=bF.stuck h.len h.cap he
theorem pn.range{ts ts2:List aA}{e e2:Int}{t0:aA}{a:Int}(h:pn ts e t0 a ts2 e2)(he:e2=0):0≤a∧a<ts2.length:=by
 obtain⟨rfl,g⟩:=h.grow he
 have:=g.len
 simp only[List.length_append,List.length_singleton] at this
 omega
theorem pn.done{ts ts2:List aA}{e e2:Int}{t0 t:aA}{a:Int}(h:pn ts e t0 a ts2 e2)(he:e2=0)(ht:gu ts2.length t):bF ts e (ts2.set a.toNat t) e2:=by
 obtain⟨rfl,g⟩:=h.grow he
 rw[Int.toNat_natCast]
 exact g.close ht
theorem pn.get{ts ts2:List aA}{e e2:Int}{t0:aA}{a:Int}(h:pn ts e t0 a ts2 e2)(he:e2=0):ts2[a.toNat]? =some t0:=by
 obtain⟨rfl,g⟩:=h.grow he
 rw[Int.toNat_natCast]
 exact g.at_open he
theorem pn.kept{ts ts2:List aA}{e e2:Int}{t0:aA}{a:Int}(h:pn ts e t0 a ts2 e2)(ht:gu (ts.length+1) t0):bF ts e ts2 e2:=by
 by_cases he:e2=0
 ·obtain⟨rfl,g⟩:=h.grow he
  have:=g.len
  have:=g.cap
  simp only[List.length_append,List.length_singleton] at*
  exact(bF.push (by omega) t0 ht).trans g
 ·exact h.stuck he
theorem aAd(deep:Int)(hd:1≤deep∧deep≤20)(hT:aec (deep+1))(ts:List aA)(e c0 c1:Int)(c2:List UInt8)(c3:List aD)(c4:List (List UInt8))(space:List UInt8)
  (h:ts.length≤60) (hn:bp (.mk c0 c1 c2 c3 c4)) (hs:(space.length:Int)≤202*deep):∃r,kK ts e c0 c1 c2 c3 c4 space deep r:=by
 obtain⟨k1,k2,k3,k4,k5,k6⟩:=hn.kids
 apply aio 2000
 unfold aaY jC
 dsimp only
 refine aE (ane _ _ _ _ _ _ _ _ _ _ _ _ h) ?_
 rintro r ⟨-,hr⟩
 have ho:=pn.add h hr
 clear hr
 obtain⟨a,ts1,e1⟩:=r
 dsimp only at ho ⊢
 repeat' (first|(with_reducible refine aC ?_ ?_<;>(intro hb;(try simp only[bnl] at hb);(try revert hb;intro _)))|with_reducible refine aJ ?_ ?_|with_reducible refine aF ?_|(refine aE (cZ _ _ _) ?_;rintro _ ⟨-,rfl⟩;try dsimp only)|fail)
 ·exact⟨_,_,_,_,rfl,rfl,ho.bad (nz (by decide)) |>.stuck (nz (by decide)),fun h=>absurd h (nz (by decide))⟩
 ·exact⟨_,_,_,_,rfl,rfl,ho.bad (nz (by decide)) |>.stuck (nz (by decide)),fun h=>absurd h (nz (by decide))⟩
 rename_i hl1 hl2
 refine aU (fun x=>match x with|(sp,dp,d0,d1,d2,l,d4,a',bs,i,ts2,e2)=>sp=space∧dp=deep∧l=c3∧a'=a∧(bs.length:Int)=i∧i≤(c3.length:Int)∧(∀b∈bs,0≤b∧b<(ts2.length:Int))∧pn ts e ⟨14,[],[],0,[],false,[],0,[],[]⟩ a ts2 e2) (fun x=>((c3.length:Int)-x.2.2.2.2.2.2.2.2.2.1).toNat) ?_ _ _
  ⟨rfl,rfl,rfl,rfl,rfl,by simp,by simp,ho⟩ (by simp;omega)
 rintro again ⟨sp,dp,d0,d1,d2,l,d4,a',bs,i,ts2,e2⟩ ⟨rfl,rfl,rfl,rfl,i1,i2,i3,i4⟩ ih
 dsimp only at ih
 have ew:i<l.length→IntKind.i64.wrap (i+1)=i+1:=fun h=>aI (i+1) (by omega)
 have ed:IntKind.i64.wrap (dp+1)=dp+1:=aI (dp+1) (by omega)
 unfold mS lT
 dsimp only
 have fin:e2=0→i=l.length→gu ts2.length (let e_:=List.getD ts2 (Int.toNat a') (aB .atype);⟨(e_).kind,(e_).name,(e_).aliases,(e_).items,(e_).syms,(e_).hasdef,(e_).df,(e_).size,(e_).fields,bs⟩):=by
  intro h0 hi
  rw[mZ (i4.get h0)]
  have hr:=i4.range h0
  exact⟨⟨by simp,by simp only;omega⟩,by simp,by simp,i3,by simp only;omega,by simp,by simp,fun _ hb=>by
   have hb:bs=[]:=hb
   rw[hb] at i1
   simp at i1
   omega,by simp,by simp,fun _=>rfl,by simp,by simp,by simp⟩
 have hat:e2=0→0≤a'∧a'<ts2.length:=fun h0=>i4.range h0
 repeat' (first|(with_reducible refine aC ?_ ?_<;>(intro hb;(try simp only[bnl] at hb);(try revert hb;intro _)))|with_reducible refine aJ ?_ ?_|with_reducible refine aF ?_|(refine aE (cZ _ _ _) ?_;rintro _ ⟨-,rfl⟩;try dsimp only)|fail)
 all_goals try simp only[ed]
 ·first|(simp only[bnl,lnl];done)|(simp only[bnl,lnl];omega)
 ·have hkid:=bp.eta.2 (bp.getD k6 i.toNat)
  refine aE (hT _ _ _ _ _ _ _ _ i4.cap hkid (by omega)) ?_
  rintro⟨k,ts3,e3⟩ ⟨-,g1,g2⟩
  dsimp only at g1 g2 ⊢
  have i5:=i4.more g1
  have hl3:=g1.len
  repeat' (first|(with_reducible refine aC ?_ ?_<;>(intro hb;(try simp only[bnl] at hb);(try revert hb;intro _)))|with_reducible refine aJ ?_ ?_|with_reducible refine aF ?_|(refine aE (cZ _ _ _) ?_;rintro _ ⟨-,rfl⟩;try dsimp only)|fail)
  ·rename_i he3
   exact⟨_,_,_,_,rfl,rfl,i5.stuck he3,fun h=>absurd h he3⟩
  ·have:=g2 (by assumption);first|(simp only[bnl,lnl];done)|(simp only[bnl,lnl];omega)
  ·have:=g2 (by assumption);first|(simp only[bnl,lnl];done)|(simp only[bnl,lnl];omega)
  ·have:=g2 (by assumption);first|(simp only[bnl,lnl];done)|(simp only[bnl,lnl];omega)
  ·first|(simp only[bnl,lnl];done)|(simp only[bnl,lnl];omega)
  ·exact⟨_,_,_,_,rfl,rfl,(i5.bad (nz (by decide))).stuck (nz (by decide)),fun h=>absurd h (nz (by decide))⟩
  ·rename_i he3 hk
   have g2':=g2 he3
   refine aU (fun x=>match x with|(sp',dp',d0,d1,d2,l',d4,a2,bs',i',k',m,ts4,e4)=>sp'=sp∧dp'=dp∧l'=l∧a2=a'∧bs'=bs∧i'=i∧k'=k∧0≤m∧m≤(bs.length:Int)∧ts4=ts3∧e4=e3) (fun x=>((bs.length:Int)-x.2.2.2.2.2.2.2.2.2.2.2.1).toNat) ?_ _ _
    ⟨rfl,rfl,rfl,rfl,rfl,rfl,rfl,by simp,by simp,rfl,rfl⟩ (by simp;omega)
   rintro again1 ⟨sp',dp',d0',d1',d2',l',d4',a2,bs',i',k',m,ts4,e4⟩ ⟨rfl,rfl,rfl,rfl,rfl,rfl,rfl,j1,j2,rfl,rfl⟩ ih1
   dsimp only at ih1
   have em:m<bs'.length→IntKind.i64.wrap (m+1)=m+1:=fun h=>aI (m+1) (by omega)
   unfold iP
   dsimp only
   repeat' (first|(with_reducible refine aC ?_ ?_<;>(intro hb;(try simp only[bnl] at hb);(try revert hb;intro _)))|with_reducible refine aJ ?_ ?_|with_reducible refine aF ?_|(refine aE (cZ _ _ _) ?_;rintro _ ⟨-,rfl⟩;try dsimp only)|(refine ayk ?_ (aBF _ _) ?_;rotate_left;intro _ _)|fail)
   all_goals first|(first|(simp only[bnl,lnl];done)|(simp only[bnl,lnl];omega))|exact⟨_,_,_,_,rfl,rfl,(i5.bad (nz (by decide))).stuck (nz (by decide)),fun h=>absurd h (nz (by decide))⟩|skip
   ·rename_i hm _ _ _ _ _
    refine ih1 (sp',dp',d0',d1',d2',l',d4',a2,bs',i',k',_,ts4,e4) ?_ ?_
    ·simp only[em hm];exact⟨trivial,trivial,trivial,trivial,trivial,trivial,trivial,by omega,by omega,trivial,trivial⟩
    ·simp only[em hm];omega
   ·have hil:i'<l'.length:=by omega
    refine ih (sp',dp',d0',d1',d2',l',d4',a2,_,_,ts4,e4) ?_ ?_
    ·simp only[ew hil,List.length_append,List.length_cons,List.length_nil]
     refine⟨trivial,trivial,trivial,trivial,by omega,by omega,?_,i5⟩
     intro b hb
     rcases List.mem_append.1 hb with hb|hb
     ·have:=i3 b hb;omega
     ·simp only[List.mem_singleton] at hb
      subst hb;exact g2'
    ·simp only[ew hil];omega
 all_goals first|(exfalso;omega)|skip
 all_goals have hat2:=fun h0=>hat h0
 all_goals first|(first|(simp only[bnl,lnl];done)|(simp only[bnl,lnl];omega))|skip
 ·rename_i h0
  exact⟨_,_,_,_,rfl,rfl,i4.stuck h0,fun h=>absurd h h0⟩
 ·rename_i h0
  have hr:=i4.range h0
  exact⟨_,_,_,_,rfl,rfl,i4.done h0 (fin h0 (by omega)),fun _=>by simpa using hr⟩
 ·rename_i h0
  exact⟨_,_,_,_,rfl,rfl,i4.stuck h0,fun h=>absurd h h0⟩
end Go.Proofs.Ytdpajabhmmmjoaa
end
noncomputable section
namespace Go.Proofs.Ytdpajabhmmmjoaa
open Go.AM
set_option autoImplicit false
set_option linter.unusedVariables false
set_option linter.unusedSimpArgs false
set_option maxRecDepth 100000
theorem ajz{l:List (List UInt8)}(h:cE l)(i:Nat):(l.getD i (aB .str)).length≤100:=by
 rw[List.getD_eq_getElem?_getD]
 cases hq:l[i]? with
 |none=>exact Nat.zero_le _
 |some y=>exact h y (List.mem_of_getElem? hq)
def zy(m:Nat)(l:List aM):Prop:=l.length≤8∧(∀f∈l,0≤f.typ∧f.typ<m∧bp f.df)∧∀f∈l,f.aliases.length≤100
theorem zy.mono{m m':Nat}{l:List aM}(h:zy m l)(hm:m≤m'):zy m' l:=
 ⟨h.1,fun f hf=>⟨(h.2.1 f hf).1,by have:=(h.2.1 f hf).2.1;omega,(h.2.1 f hf).2.2⟩,h.2.2⟩
theorem azg(deep:Int)(hd:1≤deep∧deep≤20)(hT:aec (deep+1))(ts:List aA)(e c0 c1:Int)(c2:List UInt8)(c3:List aD)(c4:List (List UInt8))(at_:Int)(space:List UInt8)
  (h:ts.length≤60) (hn:bp (.mk c0 c1 c2 c3 c4)) (hs:(space.length:Int)≤202*deep+201) (hat:e=0→0≤at_∧at_<ts.length):∃r,jg ts e c0 c1 c2 c3 c4 at_ space deep r:=by
 obtain⟨k1,k2,k3,k4,k5,k6⟩:=hn.kids
 apply ag6 2000
 unfold zT iQ
 dsimp only
 refine aE (rT _ _ _ _ _ _ (by omega)) ?_
 rintro r ⟨-,hr⟩
 have hg:=xo (k:=c0) (names:=c4) (name:=[102,105,101,108,100,115]) k6
 simp only[dg] at hr
 rw[←hr] at hg
 obtain⟨b0,b1,b2,l,b4,b5⟩:=r
 obtain⟨g1,g2,g3,g4,g5,g6⟩:=hg.kids
 dsimp only at g2 g6 ⊢
 have bad:∀c:Int,c≠0→eS ts e c0 c1 c2 c3 c4 at_ space deep (ts,if e=0 then c else e):=fun c hc=>⟨ts,bF.stuck (Nat.le_refl _) h (nz hc),.inl rfl⟩
 repeat' (first|(with_reducible refine aC ?_ ?_<;>(intro hb;(try simp only[bnl] at hb);(try revert hb;intro _)))|with_reducible refine aJ ?_ ?_|with_reducible refine aF ?_|(refine aE (cZ _ _ _) ?_;rintro _ ⟨-,rfl⟩;try dsimp only)|fail)
 ·exact⟨_,_,_,rfl,rfl,bad 2 (by decide)⟩
 ·exact⟨_,_,_,rfl,rfl,bad 2 (by decide)⟩
 ·exact⟨_,_,_,rfl,rfl,bad 3 (by decide)⟩
 rename_i hl
 refine aU (fun x=>match x with|(a,sp,dp,d0,d1,d2,l',d4,out,i,ts2,e2)=>a=at_∧sp=space∧dp=deep∧l'=l∧(out.length:Int)=i∧i≤(l.length:Int)∧bF ts e ts2 e2∧(e2=0→zy ts2.length out)) (fun x=>((l.length:Int)-x.2.2.2.2.2.2.2.2.2.1).toNat) ?_ _ _
  ⟨rfl,rfl,rfl,rfl,rfl,by simp,bF.refl h,fun _=>⟨by simp,by simp,by simp⟩⟩ (by simp;omega)
 rintro again ⟨a,sp,dp,d0,d1,d2,l,d4,out,i,ts2,e2⟩ ⟨rfl,rfl,rfl,rfl,i1,i2,i3,i4⟩ ih
 dsimp only at ih
 have ew:i<l.length→IntKind.i64.wrap (i+1)=i+1:=fun h=>aI (i+1) (by omega)
 have ed:IntKind.i64.wrap (dp+1)=dp+1:=aI (dp+1) (by omega)
 have hat2:e2=0→0≤a∧a<ts2.length:=fun h0=>by
  have:=hat (i3.err h0)
  have:=i3.len
  omega
 unfold lX kG
 dsimp only
 have hkid:=bp.eta.2 (bp.getD g6 i.toNat)
 have hkk:=hkid.kids
 have inner2:∀(ts3:List aA)(e3:Int)(nm:List UInt8)(al:List (List UInt8))(ty:Int)(hd':Bool)(f0 f1:Int)(f2:List UInt8)(f3:List aD)(f4:List (List UInt8)),i<l.length→bF ts e ts3 e3→cE al→al.length≤100→(e3=0→zy ts3.length out∧0≤ty∧ty<ts3.length)→bp (.mk f0 f1 f2 f3 f4)→
   Tot (aR 2000 (dZ 2000 again) (a,sp,dp,d0,d1,d2,l,d4,out,i,0,ts3,e3,nm,al,ty,hd',f0,f1,f2,f3,f4)) (fun z=>∃(y0:List aA)(y1:Int)(rest:List aK),z.1.dimR=.tup []∧z.2=some [.ul .atype y0,.int .i64 y1]::rest∧eS ts e c0 c1 c2 c3 c4 a sp dp (y0,y1)):=by
  intro ts3 e3 nm al ty hd' f0 f1 f2 f3 f4 hil hgr hal hal2 hty hnd
  refine aU (fun x=>match x with|(a',sp',dp',d0',d1',d2',l',d4',out',i',m,ts4,e4,nm',al',ty',hd2,f0',f1',f2',f3',f4')=>a'=a∧sp'=sp∧dp'=dp∧l'=l∧out'=out∧i'=i∧0≤m∧m≤(al.length:Int)∧bF ts e ts4 e4∧al'=al∧ty'=ty∧(e4=0→zy ts4.length out∧0≤ty∧ty<ts4.length)∧bp (.mk f0' f1' f2' f3' f4')) (fun x=>((al.length:Int)-x.2.2.2.2.2.2.2.2.2.2.1).toNat) ?_ _ _
   ⟨rfl,rfl,rfl,rfl,rfl,rfl,by simp,by simp,hgr,rfl,rfl,hty,hnd⟩ (by simp;omega)
  rintro again2 ⟨a',sp',dp',d0',d1',d2',l',d4',out',i',m,ts4,e4,nm',al',ty',hd2,f0',f1',f2',f3',f4'⟩ ⟨rfl,rfl,rfl,rfl,rfl,rfl,j1,j2,j3,rfl,rfl,j4,j5⟩ ih2
  dsimp only at ih2
  have em:m<al'.length→IntKind.i64.wrap (m+1)=m+1:=fun h=>aI (m+1) (by omega)
  have out1:Tot (again (a',sp',dp',d0',d1',d2',l',d4',out'++[⟨nm',al',ty',hd2,⟨f0',f1',f2',f3',f4'⟩⟩],IntKind.i64.wrap (i'+1),ts4,e4)) _:=ih (a',sp',dp',d0',d1',d2',l',d4',out'++[⟨nm',al',ty',hd2,⟨f0',f1',f2',f3',f4'⟩⟩],IntKind.i64.wrap (i'+1),ts4,e4)
   (by
    simp only[ew hil,List.length_append,List.length_cons,List.length_nil]
    refine⟨trivial,trivial,trivial,trivial,by omega,by omega,j3,fun h0=>?_⟩
    obtain⟨q1,q2⟩:=j4 h0
    refine⟨by simp;omega,fun f hf=>?_,fun f hf=>?_⟩
    ·rcases List.mem_append.1 hf with hf|hf
     ·exact q1.2.1 f hf
     ·simp only[List.mem_singleton] at hf
      subst hf
      exact⟨q2.1,q2.2,j5⟩
    ·rcases List.mem_append.1 hf with hf|hf
     ·exact q1.2.2 f hf
     ·simp only[List.mem_singleton] at hf
      subst hf
      exact hal2) (by simp only[ew hil];omega)
  have next:∀e5:Int,m<al'.length→bF ts e ts4 e5→(e5=0→e4=0)→Tot (again2 (a',sp',dp',d0',d1',d2',l',d4',out',i',IntKind.i64.wrap (m+1),ts4,e5,nm',al',ty',hd2,f0',f1',f2',f3',f4')) _:=fun e5 hm hg5 he5=>ih2 (a',sp',dp',d0',d1',d2',l',d4',out',i',IntKind.i64.wrap (m+1),ts4,e5,nm',al',ty',hd2,f0',f1',f2',f3',f4')
   (by
    simp only[em hm]
    exact⟨trivial,trivial,trivial,trivial,trivial,trivial,by omega,by omega,hg5,trivial,trivial,fun h0=>j4 (he5 h0),j5⟩) (by simp only[em hm];omega)
  unfold dZ
  dsimp only
  repeat' (first|(with_reducible refine aC ?_ ?_<;>(intro hb;(try simp only[bnl] at hb);(try revert hb;intro _)))|with_reducible refine aJ ?_ ?_|with_reducible refine aF ?_|(refine aE (cZ _ _ _) ?_;rintro _ ⟨-,rfl⟩;try dsimp only)|(refine aE (ajb _ ?_) ?_;rotate_left;intro _ _)|fail)
  all_goals first|(first|(simp only[bnl,lnl];done)|(simp only[bnl,lnl];omega))|exact out1|exact next _ (by omega) j3 (fun h=>h)|exact next _ (by omega) (bF.stuck j3.len j3.cap (nz (by decide))) (fun h=>absurd h (nz (by decide)))|skip
  ·have:=ajz hal m.toNat;omega
 have inner1:∀(ts3:List aA)(e3:Int)(nm:List UInt8),i<l.length→bF ts2 e2 ts3 e3→
   Tot (aR 2000 (fA 2000 again) (a,sp,dp,d0,d1,d2,l,d4,out,i,(List.getD l (Int.toNat i) (aB .jnode)).kind,(List.getD l (Int.toNat i) (aB .jnode)).n,(List.getD l (Int.toNat i) (aB .jnode)).s,(List.getD l (Int.toNat i) (aB .jnode)).l,(List.getD l (Int.toNat i) (aB .jnode)).names,0,ts3,e3,nm,([]:List (List UInt8)),0,false,0,0,([]:List UInt8),([]:List aD),([]:List (List UInt8)))) (fun z=>∃(y0:List aA)(y1:Int)(rest:List aK),z.1.dimR=.tup []∧z.2=some [.ul .atype y0,.int .i64 y1]::rest∧eS ts e c0 c1 c2 c3 c4 a sp dp (y0,y1)):=by
  intro ts3 e3 nm hil hgr
  refine aU (fun x=>match x with|(a',sp',dp',d0',d1',d2',l',d4',out',i',v0,v1,v2,v3,v4,m,ts4,e4,nm',al',ty',hd2,f0',f1',f2',f3',f4')=>a'=a∧sp'=sp∧dp'=dp∧d0'=d0∧d1'=d1∧d2'=d2∧l'=l∧d4'=d4∧out'=out∧i'=i∧bp (.mk v0 v1 v2 v3 v4)∧0≤m∧m≤(out.length:Int)∧bF ts2 e2 ts4 e4) (fun x=>((out.length:Int)-x.2.2.2.2.2.2.2.2.2.2.2.2.2.2.2.1).toNat) ?_ _ _
   ⟨rfl,rfl,rfl,rfl,rfl,rfl,rfl,rfl,rfl,rfl,hkid,by simp,by simp,hgr⟩ (by simp;omega)
  rintro again1 ⟨a',sp',dp',d0',d1',d2',l',d4',out',i',v0,v1,v2,v3,v4,m,ts4,e4,nm',al',ty',hd2,f0',f1',f2',f3',f4'⟩ ⟨rfl,rfl,rfl,rfl,rfl,rfl,rfl,rfl,rfl,rfl,hv,j1,j2,j3⟩ ih1
  dsimp only at ih1
  have em:m<out'.length→IntKind.i64.wrap (m+1)=m+1:=fun h=>aI (m+1) (by omega)
  have next:∀e5:Int,m<out'.length→bF ts2 e2 ts4 e5→Tot (again1 (a',sp',dp',d0',d1',d2',l',d4',out',i',v0,v1,v2,v3,v4,IntKind.i64.wrap (m+1),ts4,e5,nm',al',ty',hd2,f0',f1',f2',f3',f4')) _:=fun e5 hm hg5=>ih1 (a',sp',dp',d0',d1',d2',l',d4',out',i',v0,v1,v2,v3,v4,IntKind.i64.wrap (m+1),ts4,e5,nm',al',ty',hd2,f0',f1',f2',f3',f4')
   (by
    simp only[em hm]
    exact⟨trivial,trivial,trivial,trivial,trivial,trivial,trivial,trivial,trivial,trivial,hv,by omega,by omega,hg5⟩) (by simp only[em hm];omega)
  obtain⟨q1,q2,q3,q4,q5,q6⟩:=hv.kids
  have behind:∀(e5 w0 w1:Int)(w2:List UInt8)(w3:List aD)(w4:List (List UInt8)),bp (.mk w0 w1 w2 w3 w4)→bF ts2 e2 ts4 e5→Tot (aG (cX ts4 e5 w0 w1 w2 w3 w4 sp' (dp'+1)) (fun r12=>
      aG (dJ v0 v1 v2 v3 v4 ([100,101,102,97,117,108,116]:List UInt8)) (fun r13=>
       aG (dK r12.2.1 r12.2.2 v0 v1 v2 v3 v4 ([97,108,105,97,115,101,115]:List UInt8)) (fun r14=>
        (fun z=>aR 2000 (dZ 2000 again) z) (a',sp',dp',d0',d1',d2',l',d4',out',i',0,r14.2.2.1,r14.2.2.2,nm',r14.1,r12.1,r13.2.2.2.2.2,r13.1,r13.2.1,r13.2.2.1,r13.2.2.2.1,r13.2.2.2.2.1))))) (fun z=>∃(y0:List aA)(y1:Int)(rest:List aK),z.1.dimR=.tup []∧z.2=some [.ul .atype y0,.int .i64 y1]::rest∧eS ts e c0 c1 c2 c3 c4 a' sp' dp' (y0,y1)):=by
   intro e5 w0 w1 w2 w3 w4 hw hg5
   refine aE (hT _ _ _ _ _ _ _ _ j3.cap hw (by omega)) ?_
   rintro⟨k,ts5,e6⟩ ⟨-,x1,x2⟩
   dsimp only at x1 x2 ⊢
   refine aE (rT _ _ _ _ _ _ (by omega)) ?_
   rintro r ⟨-,hr⟩
   have hg:=xo (k:=v0) (names:=v4) (name:=[100,101,102,97,117,108,116]) q6
   simp only[dg] at hr
   rw[←hr] at hg
   refine aE (amZ _ _ _ _ _ _ _ _ hv) ?_
   rintro⟨al,is,ts6,e7⟩ ⟨-,t1,t2,rfl,t3⟩
   dsimp only at t1 t2 t3 ⊢
   have hgg:=hg5.trans x1
   have g7:bF ts2 e2 ts6 e7:=by
    by_cases h7:e7=0
    ·have h6:=t3 h7
     rw[h6] at hgg
     rw[h7];exact hgg
    ·exact bF.stuck hgg.len hgg.cap h7
   exact inner2 ts6 e7 _ _ _ _ _ _ _ _ _ hil (i3.trans g7) t2 t1 (fun h0=>⟨(i4 (g7.err h0)).mono g7.len,x2 (t3 h0)⟩) hg
  unfold fA kF
  dsimp only
  repeat' (first|(with_reducible refine aC ?_ ?_<;>(intro hb;(try simp only[bnl] at hb);(try revert hb;intro _)))|with_reducible refine aJ ?_ ?_|with_reducible refine aF ?_|(refine aE (cZ _ _ _) ?_;rintro _ ⟨-,rfl⟩;try dsimp only)|fail)
  all_goals first|(first|(simp only[bnl,lnl];done)|(simp only[bnl,lnl];omega))|exact next _ (by omega) j3|exact next _ (by omega) (bF.stuck j3.len j3.cap (nz (by decide)))|skip
  refine aE (rT _ _ _ _ _ _ (by omega)) ?_
  rintro r ⟨-,hr⟩
  have hg:=xo (k:=v0) (names:=v4) (name:=[116,121,112,101]) q6
  simp only[dg] at hr
  rw[←hr] at hg
  repeat' (first|(with_reducible refine aC ?_ ?_<;>(intro hb;(try simp only[bnl] at hb);(try revert hb;intro _)))|with_reducible refine aJ ?_ ?_|with_reducible refine aF ?_|(refine aE (cZ _ _ _) ?_;rintro _ ⟨-,rfl⟩;try dsimp only)|fail)
  all_goals simp only[ed]
  ·exact behind _ _ _ _ _ _ hg (bF.stuck j3.len j3.cap (nz (by decide)))
  ·exact behind _ _ _ _ _ _ hg j3
 repeat' (first|(with_reducible refine aC ?_ ?_<;>(intro hb;(try simp only[bnl] at hb);(try revert hb;intro _)))|with_reducible refine aJ ?_ ?_|with_reducible refine aF ?_|(refine aE (cZ _ _ _) ?_;rintro _ ⟨-,rfl⟩;try dsimp only)|(refine aE (apJ _ _ _ _ _ _ _ _ _ hkid) ?_;rintro⟨w,ts3,e3⟩ ⟨-,w1,rfl,w2⟩;dsimp only at w1 w2 ⊢)|fail)
 all_goals first|(first|(simp only[bnl,lnl];done)|(simp only[bnl,lnl];omega))|skip
 ·exact⟨_,_,_,rfl,rfl,_,bF.stuck i3.len i3.cap (nz (by decide)),.inl rfl⟩
 ·rename_i he3
  have g0:bF ts3 e2 ts3 e3:=by
   have:=w2 he3
   subst this;rw[he3];exact bF.refl i3.cap
  repeat' (first|(with_reducible refine aC ?_ ?_<;>(intro hb;(try simp only[bnl] at hb);(try revert hb;intro _)))|with_reducible refine aJ ?_ ?_|with_reducible refine aF ?_|(refine aE (ajb _ (by omega)) ?_;intro _ _)|(refine aE (cZ _ _ _) ?_;rintro _ ⟨-,rfl⟩;try dsimp only)|fail)
  ·exact inner1 _ _ _ (by omega) (bF.stuck (Nat.le_refl _) i3.cap (nz (by decide)))
  ·exact inner1 _ _ _ (by omega) g0
 ·rename_i he3
  exact inner1 _ _ _ (by omega) (bF.stuck (Nat.le_refl _) i3.cap he3)
 all_goals first|(exfalso;omega)|skip
 all_goals first|(have:=hat2 (by assumption);first|(simp only[bnl,lnl];done)|(simp only[bnl,lnl];omega))|skip
 ·rename_i he
  exact⟨_,_,_,rfl,rfl,_,i3,.inl rfl⟩
 ·rename_i he
  have hr:=hat2 he
  have hl:a.toNat<ts2.length:=by omega
  refine⟨_,_,_,rfl,rfl,ts2,i3,.inr ⟨out,(i4 he).1,(i4 he).2.1,(i4 he).2.2,_,List.getElem?_eq_getElem hl,?_⟩⟩
  rw[mZ (List.getElem?_eq_getElem hl)]
 ·exact⟨_,_,_,rfl,rfl,_,i3,.inl rfl⟩
end Go.Proofs.Ytdpajabhmmmjoaa
end
noncomputable section
namespace Go.Proofs.Ytdpajabhmmmjoaa
open Go.AM
set_option autoImplicit false
set_option linter.unusedVariables false
set_option linter.unusedSimpArgs false
set_option maxRecDepth 100000
theorem aAe(deep:Int)(hd:1≤deep∧deep≤20)(hT:aec (deep+1))(ts:List aA)(e c0 c1:Int)(c2:List UInt8)(c3:List aD)(c4:List (List UInt8))(k:Int)(space:List UInt8)
  (h:ts.length≤60) (hn:bp (.mk c0 c1 c2 c3 c4)) (hs:(space.length:Int)≤202*deep) (hk:k≠14) (hk2:1≤k∧k≤14):∃r,kL ts e c0 c1 c2 c3 c4 k space deep r:=by
 obtain⟨k1,k2,k3,k4,k5,k6⟩:=hn.kids
 apply air 2000
 unfold aaZ jG
 have last:∀(sp:List UInt8)(e2 o0:Int)(o1:List UInt8)(o2:List (List UInt8)),(sp.length:Int)≤202*deep+201→(e2=0→e=0)→o0=k→o2.length≤100→Tot (fX 2000 (k,sp,deep,c0,c1,c2,c3,c4,ts,e2,o0,o1,o2,0,[],false,[],0,[],[])) (fun z=>∃(y0:Int)(y1:List aA)(y2:Int)(rest:List aK),z.1.dimR=.int .i64 y0∧z.2=some [.ul .atype y1,.int .i64 y2]::rest∧gV ts e c0 c1 c2 c3 c4 k space deep (y0,y1,y2)):=by
  intro sp e2 o0 o1 o2 hsp he ho hna
  unfold fX
  dsimp only
  subst ho
  have tk:o0≠10→gu (ts.length+1) ⟨o0,o1,o2,0,[],false,[],0,[],[]⟩:=fun h10=>⟨by simp only;omega,by simp,by simp,by simp,by simp,by simp,by simp,fun h=>absurd h hk,hk2,fun h=>absurd h h10,fun _=>rfl,hna,by simp,by simp⟩
  repeat' (first|(with_reducible refine aC ?_ ?_<;>(intro hb;(try simp only[bnl] at hb);(try revert hb;intro _)))|with_reducible refine aJ ?_ ?_|with_reducible refine aF ?_|fail)
  ·rename_i h2
   exact⟨_,_,_,_,rfl,rfl,bF.stuck (Nat.le_refl _) h h2,fun h=>absurd h h2⟩
  rename_i h2
  refine aE (ane _ _ _ _ _ _ _ _ _ _ _ _ h) ?_
  rintro r ⟨-,hr⟩
  have ho:=pn.add h hr
  clear hr
  obtain⟨a,ts1,e1⟩:=r
  dsimp only at ho ⊢
  have hr1:e1=0→0≤a∧a<ts1.length:=fun h0=>ho.range h0
  have wk:∀{ts':List aA}{e':Int},bF ts e2 ts' e'→bF ts e ts' e':=fun g=>g.weak he
  have wstuck:∀{c:Int},c≠0→bF ts e ts1 (if e1=0 then c else e1):=fun hc=>bF.stuck ho.len ho.cap (nz hc)
  repeat' (first|(with_reducible refine aC ?_ ?_<;>(intro hb;(try simp only[bnl] at hb);(try revert hb;intro _)))|with_reducible refine aJ ?_ ?_|with_reducible refine aF ?_|(refine aE (azg deep hd hT _ _ _ _ _ _ _ _ _ ho.cap hn hsp hr1) ?_;rintro⟨ts3,e3⟩ ⟨-,ts2,g1,g2⟩;dsimp only at g1 g2 ⊢)|(refine aE (ax4 _ _ _ _ _ _ _ _ hn hr1) ?_;rintro⟨ts3,e3⟩ ⟨-,g1,g2⟩;dsimp only at g1 g2 ⊢)|fail)
  ·rename_i h9
   have h10:o0≠10:=by omega
   have tk:=tk h10
   have ho2:=ho.more g1
   have gk:=ho2.kept tk
   refine⟨_,_,_,_,rfl,rfl,?_⟩
   rcases g2 with rfl|⟨l,l1,l2,l3,t,t1,rfl⟩
   ·exact⟨wk gk,fun h0=>ho2.range h0⟩
   ·by_cases h0:e3=0
    ·rw[ho2.get h0] at t1
     obtain rfl:=Option.some.inj t1
     have hr:=ho2.range h0
     refine⟨wk (ho2.done h0 ⟨by simp only;omega,l2,l1,by simp,by simp,by simp,by simp,tk.done,tk.kind,tk.enum,fun h=>absurd h9 h,hna,l3,by simp⟩),fun _=>?_⟩
     simpa using hr
    ·exact⟨bF.stuck (by simpa using gk.len) (by simpa using gk.cap) h0,fun h=>absurd h h0⟩
  ·refine⟨_,_,_,_,rfl,rfl,?_⟩
   by_cases h0:e3=0
   ·obtain⟨l,h',d,l0,l1,ld,t,t1,rfl⟩:=g2.2 h0
    have h1:=g1 h0
    rw[ho.get h1] at t1
    obtain rfl:=Option.some.inj t1
    have hr:=ho.range h1
    have:=ho.done h1 (t:=⟨o0,o1,o2,0,l,h',d,0,[],[]⟩) ⟨by simp only;omega,by simp,by simp,by simp,by simp,l1,by simp,fun h=>absurd h hk,hk2,fun _=>l0,fun _=>rfl,hna,by simp,ld⟩
    refine⟨wk (by rw[h0];rw[h1] at this;exact this),fun _=>?_⟩
    simpa using hr
   ·have:=g2.1 h0
    subst this
    exact⟨bF.stuck ho.len ho.cap h0,fun h=>absurd h h0⟩
  ·refine aE (rT _ _ _ _ _ _ (by omega)) ?_
   rintro r ⟨-,hr⟩
   clear hr
   repeat' (first|(with_reducible refine aC ?_ ?_<;>(intro hb;(try simp only[bnl] at hb);(try revert hb;intro _)))|with_reducible refine aJ ?_ ?_|with_reducible refine aF ?_|(refine aE (cZ _ _ _) ?_;rintro _ ⟨-,rfl⟩;try dsimp only)|fail)
   all_goals first|exact⟨_,_,_,_,rfl,rfl,wstuck (by decide),fun h=>absurd h (nz (by decide))⟩|(have:=hr1 (by assumption);first|(simp only[bnl,lnl];done)|(simp only[bnl,lnl];omega))|(first|(simp only[bnl,lnl];done)|(simp only[bnl,lnl];omega))|skip
   ·rename_i hz0 hz1 h0
    have hr:=ho.range h0
    have tk:=tk (by assumption)
    rw[mZ (ho.get h0)]
    refine⟨_,_,_,_,rfl,rfl,wk (ho.done h0 ⟨by simp only;omega,by simp,by simp,by simp,by simp,by simp,by simp only;omega,tk.done,tk.kind,tk.enum,fun _=>rfl,hna,by simp,by simp⟩),fun _=>?_⟩
    simpa using hr
   ·rename_i h0
    exact⟨_,_,_,_,rfl,rfl,wk (ho.kept (tk (by assumption))),fun h=>absurd h h0⟩
 have mid:∀(sp:List UInt8)(e2:Int)(nm:List UInt8)(al:List (List UInt8)),(sp.length:Int)≤202*deep+201→(e2=0→e=0)→cE al→al.length≤100→Tot (aR 2000 (fY 2000) (k,sp,deep,c0,c1,c2,c3,c4,al,0,ts,e2,k,nm,[],0,[],false,[],0,[],[])) (fun z=>∃(y0:Int)(y1:List aA)(y2:Int)(rest:List aK),z.1.dimR=.int .i64 y0∧z.2=some [.ul .atype y1,.int .i64 y2]::rest∧gV ts e c0 c1 c2 c3 c4 k space deep (y0,y1,y2)):=by
  intro sp e2 nm al hsp he hal hal2
  refine aU (fun x=>match x with|(k',sp',dp,d0,d1,d2,d3,d4,al',i,ts',e3,o0,o1,o2,o3,o4,o5,o6,o7,o8,o9)=>k'=k∧sp'=sp∧dp=deep∧d0=c0∧d1=c1∧d2=c2∧d3=c3∧d4=c4∧al'=al∧0≤i∧i≤(al.length:Int)∧ts'=ts∧(e3=0→e=0)∧o0=k∧(o2.length:Int)=i∧o3=0∧o4=[]∧o5=false∧o6=[]∧o7=0∧o8=[]∧o9=[]) (fun x=>((al.length:Int)-x.2.2.2.2.2.2.2.2.2.1).toNat) ?_ _ _
   ⟨rfl,rfl,rfl,rfl,rfl,rfl,rfl,rfl,rfl,by simp,by simp,rfl,he,rfl,rfl,rfl,rfl,rfl,rfl,rfl,rfl,rfl⟩ (by simp;omega)
  rintro again ⟨k',sp',dp,d0,d1,d2,d3,d4,al',i,ts',e3,o0,o1,o2,o3,o4,o5,o6,o7,o8,o9⟩ ⟨rfl,rfl,rfl,rfl,rfl,rfl,rfl,rfl,rfl,i1,i2,rfl,i3,rfl,i4,rfl,rfl,rfl,rfl,rfl,rfl,rfl⟩ ih
  dsimp only at ih
  have ew:i<al'.length→IntKind.i64.wrap (i+1)=i+1:=fun h=>aI (i+1) (by omega)
  have next:∀(e5:Int)(w:List UInt8),i<al'.length→(e5=0→e=0)→Tot (again (o0,sp',dp,d0,d1,d2,d3,d4,al',IntKind.i64.wrap (i+1),ts',e5,o0,o1,o2++[w],0,[],false,[],0,[],[])) _:=fun e5 w hi he5=>ih (o0,sp',dp,d0,d1,d2,d3,d4,al',IntKind.i64.wrap (i+1),ts',e5,o0,o1,o2++[w],0,[],false,[],0,[],[])
   (by
    simp only[ew hi,List.length_append,List.length_cons,List.length_nil]
    exact⟨trivial,trivial,trivial,trivial,trivial,trivial,trivial,trivial,trivial,by omega,by omega,trivial,he5,trivial,by omega,trivial,trivial,trivial,trivial,trivial,trivial,trivial⟩) (by simp only[ew hi];omega)
  have lst:∀e4:Int,(e4=0→e=0)→Tot (fX 2000 (o0,sp',dp,d0,d1,d2,d3,d4,ts',e4,o0,o1,o2,0,[],false,[],0,[],[])) _:=fun e4 h4=>last sp' e4 o0 o1 o2 hsp h4 rfl (by omega)
  unfold fY l7
  dsimp only
  have wn:=ajz hal i.toNat
  repeat' (first|(with_reducible refine aC ?_ ?_<;>(intro hb;(try simp only[bnl] at hb);(try revert hb;intro _)))|with_reducible refine aJ ?_ ?_|with_reducible refine aF ?_|(refine aE (cZ _ _ _) ?_;rintro _ ⟨-,rfl⟩;try dsimp only)|(refine aE (atA _ _ _ _ wn (by omega)) ?_;rintro⟨w,ts4,e4⟩ ⟨-,w1,rfl,w2⟩;dsimp only at w1 w2 ⊢)|(refine aE (awu _ _ _ h) ?_;rintro⟨b,c,ts4,e4⟩ ⟨-,hq,hf⟩;simp only[Prod.mk.injEq] at hq;obtain⟨rfl,rfl⟩:=hq;dsimp only at hf ⊢)|fail)
  all_goals first|(first|(simp only[bnl,lnl];done)|(simp only[bnl,lnl];omega))|exact next _ _ (by omega) (fun h=>i3 (w2 h))|exact lst _ i3|exact lst _ (fun h=>absurd h (nz (by decide)))|skip
 refine aE (apJ _ _ _ _ _ _ _ _ _ hn) ?_
 rintro⟨nm,ts',e1⟩ ⟨-,w1,rfl,w2⟩
 dsimp only at w1 w2 ⊢
 refine aE (rT _ _ _ _ _ _ (by omega)) ?_
 rintro r ⟨-,hr⟩
 have hg:=xo (k:=c0) (names:=c4) (name:=[110,97,109,101,115,112,97,99,101]) k6
 simp only[dg] at hr
 rw[←hr] at hg
 have g1:=hg.kids.1
 have first:∀(sp:List UInt8)(e2:Int),(sp.length:Int)≤202*deep→(e2=0→e=0)→Tot (mU 2000 (k,sp,deep,c0,c1,c2,c3,c4,nm,ts',e2)) (fun z=>∃(y0:Int)(y1:List aA)(y2:Int)(rest:List aK),z.1.dimR=.int .i64 y0∧z.2=some [.ul .atype y1,.int .i64 y2]::rest∧gV ts' e c0 c1 c2 c3 c4 k space deep (y0,y1,y2)):=by
  intro sp e2 hsp he
  unfold mU l8
  dsimp only
  repeat' (first|(with_reducible refine aC ?_ ?_<;>(intro hb;(try simp only[bnl] at hb);(try revert hb;intro _)))|with_reducible refine aJ ?_ ?_|with_reducible refine aF ?_|fail)
  ·rename_i h2
   exact⟨_,_,_,_,rfl,rfl,bF.stuck (Nat.le_refl _) h h2,fun h=>absurd h h2⟩
  refine aE (atA _ _ _ _ w1 (by omega)) ?_
  rintro⟨w,ts4,e4⟩ ⟨-,x1,rfl,x2⟩
  dsimp only at x1 x2 ⊢
  refine aE (azf _ (by omega)) ?_
  rintro b ⟨-,hb⟩
  dsimp only[nt] at hb ⊢
  refine aE (amZ _ _ _ _ _ _ _ _ hn) ?_
  rintro⟨al,is,ts6,e7⟩ ⟨-,t1,t2,rfl,t3⟩
  dsimp only at t1 t2 t3 ⊢
  exact mid _ _ _ _ (by omega) (fun h=>he (x2 (t3 h))) t2 t1
 repeat' (first|(with_reducible refine aC ?_ ?_<;>(intro hb;(try simp only[bnl] at hb);(try revert hb;intro _)))|with_reducible refine aJ ?_ ?_|with_reducible refine aF ?_|(refine aE (cZ _ _ _) ?_;rintro _ ⟨-,rfl⟩;try dsimp only)|fail)
 ·exact first _ _ (by omega) (fun h=>absurd h (nz (by decide)))
 ·exact first _ _ (by omega) w2
 ·exact first _ _ hs w2
theorem atC(deep:Int)(hd:1≤deep∧deep≤21)(hT:deep≤20→aec (deep+1)):aec deep:=by
 intro ts e c0 c1 c2 c3 c4 space h hn hs
 obtain⟨k1,k2,k3,k4,k5,k6⟩:=hn.kids
 apply ajy 2000
 unfold abv kZ
 dsimp only
 have stuck:∀{c:Int},c≠0→bF ts e ts (if e=0 then c else e):=fun hc=>bF.stuck (Nat.le_refl _) h (nz hc)
 repeat' (first|(with_reducible refine aC ?_ ?_<;>(intro hb;(try simp only[bnl] at hb);(try revert hb;intro _)))|with_reducible refine aJ ?_ ?_|with_reducible refine aF ?_|(refine aE (cZ _ _ _) ?_;rintro _ ⟨-,rfl⟩;try dsimp only)|(refine aE (atB _ _ _ _ h k1 (by omega)) ?_;rintro⟨a,ts',e'⟩ ⟨-,g1,g2⟩;dsimp only at g1 g2 ⊢)|(refine aE (aAd deep (by omega) (hT (by omega)) _ _ _ _ _ _ _ _ h hn hs) ?_;rintro⟨a,ts',e'⟩ ⟨-,g1,g2⟩;dsimp only at g1 g2 ⊢)|fail)
 all_goals first|exact⟨_,_,_,_,rfl,rfl,stuck (by decide),fun h=>absurd h (nz (by decide))⟩|exact⟨_,_,_,_,rfl,rfl,g1,g2⟩|skip
 ·rename_i he
  exact⟨_,_,_,_,rfl,rfl,bF.refl h,fun h=>absurd h he⟩
 rename_i he hdd _ _ _
 have hT:=hT (by omega)
 have ed:IntKind.i64.wrap (deep+1)=deep+1:=aI (deep+1) (by omega)
 refine aE (rT _ _ _ _ _ _ (by omega)) ?_
 rintro r ⟨-,hr⟩
 have hg:=xo (k:=c0) (names:=c4) (name:=[116,121,112,101]) k6
 simp only[dg] at hr
 rw[←hr] at hg
 have hgk:=hg.kids
 clear hr
 obtain⟨d0,d1,d2,d3,d4,d5⟩:=r
 dsimp only at hg hgk ⊢
 have part:∀(word:List UInt8)(k a:Int)(ts1:List aA)(e1:Int),k≠14→(1≤k∧k≤14)→k≠10→pn ts e ⟨k,[],[],0,[],false,[],0,[],[]⟩ a ts1 e1→Tot (jJ 2000 (space,deep,c0,c1,c2,c3,c4,a,word,ts1,e1)) (fun z=>∃(y0:Int)(y1:List aA)(y2:Int)(rest:List aK),z.1.dimR=.int .i64 y0∧z.2=some [.ul .atype y1,.int .i64 y2]::rest∧fR ts e c0 c1 c2 c3 c4 space deep (y0,y1,y2)):=by
  intro word k a ts1 e1 hk hk2 hk10 ho
  unfold jJ
  dsimp only
  refine aE (rT _ _ _ _ _ _ (by omega)) ?_
  rintro r ⟨-,hr⟩
  have hg:=xo (k:=c0) (names:=c4) (name:=word) k6
  simp only[dg] at hr
  rw[←hr] at hg
  clear hr
  repeat' (first|(with_reducible refine aC ?_ ?_<;>(intro hb;(try simp only[bnl] at hb);(try revert hb;intro _)))|with_reducible refine aJ ?_ ?_|with_reducible refine aF ?_|(refine aE (cZ _ _ _) ?_;rintro _ ⟨-,rfl⟩;try dsimp only)|fail)
  ·exact⟨_,_,_,_,rfl,rfl,bF.stuck ho.len ho.cap (nz (by decide)),fun h=>absurd h (nz (by decide))⟩
  simp only[ed]
  refine aE (hT _ _ _ _ _ _ _ _ ho.cap hg (by omega)) ?_
  rintro⟨i,ts2,e2⟩ ⟨-,x1,x2⟩
  dsimp only at x1 x2 ⊢
  have ho2:=ho.more x1
  have hr2:e2=0→0≤a∧a<ts2.length:=fun h0=>ho2.range h0
  repeat' (first|(with_reducible refine aC ?_ ?_<;>(intro hb;(try simp only[bnl] at hb);(try revert hb;intro _)))|with_reducible refine aJ ?_ ?_|with_reducible refine aF ?_|fail)
  all_goals first|(have:=hr2 (by assumption);first|(simp only[bnl,lnl];done)|(simp only[bnl,lnl];omega))|(first|(simp only[bnl,lnl];done)|(simp only[bnl,lnl];omega))|skip
  ·rename_i h0
   have hr:=ho2.range h0
   rw[mZ (ho2.get h0)]
   refine⟨_,_,_,_,rfl,rfl,ho2.done h0 ⟨x2 h0,by simp,by simp,by simp,by simp,by simp,by simp,fun h=>absurd h hk,hk2,fun h=>absurd h hk10,fun _=>rfl,by simp,by simp,by simp⟩,fun _=>?_⟩
   simpa using hr
  ·rename_i h0
   exact⟨_,_,_,_,rfl,rfl,ho2.stuck h0,fun h=>absurd h h0⟩
 have txt:Tot (jK 2000 (space,d0,d1,d2,d3,d4,ts,e)) (fun z=>∃(y0:Int)(y1:List aA)(y2:Int)(rest:List aK),z.1.dimR=.int .i64 y0∧z.2=some [.ul .atype y1,.int .i64 y2]::rest∧fR ts e c0 c1 c2 c3 c4 space deep (y0,y1,y2)):=by
  unfold jK
  dsimp only
  refine aE (atB _ _ _ _ h hgk.1 (by omega)) ?_
  rintro⟨a,ts',e'⟩ ⟨-,g1,g2⟩
  exact aF ⟨_,_,_,_,rfl,rfl,g1,g2⟩
 have one:∀b:Bool,(b=true→d2=[97,114,114,97,121]∨d2=[109,97,112])→Tot (jL 2000 (space,deep,c0,c1,c2,c3,c4,d0,d1,d2,d3,d4,b,ts,e)) (fun z=>∃(y0:Int)(y1:List aA)(y2:Int)(rest:List aK),z.1.dimR=.int .i64 y0∧z.2=some [.ul .atype y1,.int .i64 y2]::rest∧fR ts e c0 c1 c2 c3 c4 space deep (y0,y1,y2)):=by
  intro b hb
  unfold jL mX
  dsimp only
  refine aC (fun h1=>?_) (fun h1=>txt)
  refine aE (ao8 _) ?_
  rintro(k:Int) ⟨-,hk1,hk2,hk3,hk4,hk5⟩
  have hb:=hb h1
  have hk:k≠14:=fun h=>by have:=hk3 h;subst this;revert hb;decide
  have hk10:k≠10:=fun h=>by have:=hk5 h;subst this;revert hb;decide
  have hk0:k≠0:=fun h=>by
   rcases hb with hb|hb
   ·exact hk4 h 11 (by decide) hb.symm
   ·exact hk4 h 12 (by decide) hb.symm
  refine aE (ane _ _ _ _ _ _ _ _ _ _ _ _ h) ?_
  rintro r ⟨-,hr⟩
  have ho:=pn.add h hr
  clear hr
  obtain⟨a,ts1,e1⟩:=r
  dsimp only at ho ⊢
  repeat' (first|(with_reducible refine aC ?_ ?_<;>(intro hb;(try simp only[bnl] at hb);(try revert hb;intro _)))|with_reducible refine aJ ?_ ?_|with_reducible refine aF ?_|fail)
  all_goals exact part _ k _ _ _ hk (by omega) hk10 ho
 have zero:∀b:Bool,(b=true→d2=[114,101,99,111,114,100]∨d2=[101,110,117,109]∨d2=[102,105,120,101,100])→Tot (om 2000 (space,deep,c0,c1,c2,c3,c4,d0,d1,d2,d3,d4,d2,b,ts,e)) (fun z=>∃(y0:Int)(y1:List aA)(y2:Int)(rest:List aK),z.1.dimR=.int .i64 y0∧z.2=some [.ul .atype y1,.int .i64 y2]::rest∧fR ts e c0 c1 c2 c3 c4 space deep (y0,y1,y2)):=by
  intro b hb
  unfold om mY
  dsimp only
  refine aC (fun h1=>?_) (fun h1=>aC (fun h2=>one _ fun _=>?_) (fun h2=>one _ fun h3=>?_))
  ·refine aE (ao8 _) ?_
   rintro(k:Int) ⟨-,hk1,hk2,hk3,hk4,hk5⟩
   have hb:=hb h1
   have hk:k≠14:=fun h=>by have:=hk3 h;subst this;revert hb;decide
   have hk0:k≠0:=fun h=>by
    rcases hb with hb|hb|hb
    ·exact hk4 h 8 (by decide) hb.symm
    ·exact hk4 h 9 (by decide) hb.symm
    ·exact hk4 h 10 (by decide) hb.symm
   refine aE (aAe deep (by omega) hT _ _ _ _ _ _ _ _ _ h hn hs hk (by omega)) ?_
   rintro⟨a,ts',e'⟩ ⟨-,g1,g2⟩
   exact aF ⟨_,_,_,_,rfl,rfl,g1,g2⟩
  ·exact .inl (of_decide_eq_true h2)
  ·exact .inr (of_decide_eq_true h3)
 repeat' (first|(with_reducible refine aC ?_ ?_<;>(intro hb;(try simp only[bnl] at hb);(try revert hb;intro _)))|with_reducible refine aJ ?_ ?_|with_reducible refine aF ?_|(refine aE (cZ _ _ _) ?_;rintro _ ⟨-,rfl⟩;try dsimp only)|fail)
 ·exact⟨_,_,_,_,rfl,rfl,stuck (by decide),fun h=>absurd h (nz (by decide))⟩
 ·simp only[ed]
  refine aE (hT _ _ _ _ _ _ _ _ h hg (by omega)) ?_
  rintro⟨a,ts',e'⟩ ⟨-,g1,g2⟩
  exact aF ⟨_,_,_,_,rfl,rfl,g1,g2⟩
 all_goals refine zero _ fun hb=>?_
 ·exact .inl (by first|assumption|exact of_decide_eq_true hb)
 ·exact .inr (.inl (by first|assumption|exact of_decide_eq_true hb))
 ·exact .inr (.inr (by first|assumption|exact of_decide_eq_true hb))
theorem aw9:∀(n:Nat)(deep:Int),deep+n=21→1≤deep→aec deep
 |0,deep,h,h1=>atC deep (by omega) (fun h'=>by omega)
 |n+1,deep,h,h1=>atC deep (by omega) (fun _=>aw9 n (deep+1) (by omega) (by omega))
theorem axa(c0 c1:Int)(c2:List UInt8)(c3:List aD)(c4:List (List UInt8))(hn:bp (.mk c0 c1 c2 c3 c4)):∃r,ru c0 c1 c2 c3 c4 r:=by
 apply as9 1
 unfold akD akC
 dsimp only
 refine aE (aw9 20 1 (by omega) (by omega) _ _ _ _ _ _ _ _ (by simp) hn (by simp)) ?_
 rintro⟨a,ts',e'⟩ ⟨-,g1,g2⟩
 dsimp only at g1 g2 ⊢
 repeat' (first|(with_reducible refine aC ?_ ?_<;>(intro hb;(try simp only[bnl] at hb);(try revert hb;intro _)))|with_reducible refine aJ ?_ ?_|with_reducible refine aF ?_|fail)
 ·rename_i h0
  exact⟨_,_,_,rfl,rfl,fun h=>absurd h h0⟩
 ·rename_i h0
  exact⟨_,_,_,rfl,rfl,fun _=>by have g2:=g2 h0;rw[h0] at g1;exact g1.sch (by omega)⟩
end Go.Proofs.Ytdpajabhmmmjoaa
end
noncomputable section
namespace Go.Proofs.Ytdpajabhmmmjoaa
open Go.AM
set_option autoImplicit false
set_option linter.unusedVariables false
set_option linter.unusedSimpArgs false
set_option maxRecDepth 100000
theorem dC(k n:Int)(s:List UInt8)(h:s.length≤100):sJ (.mk k n s [] []):=.mk _ _ _ _ _ h (by simp) (by simp) (by simp) (by simp) (by simp)
theorem aiw(k n:Int)(l:List aD)(h:l.length≤7)(hl:∀c∈l,sJ c)(hk:k≠6):sJ (.mk k n [] l []):=.mk _ _ _ _ _ (by simp) h (by simp) (by simp) (fun h=>absurd h hk) hl
theorem ad7(k n:Int)(l:List aD)(names:List (List UInt8))(hn:names.length=l.length)(h:l.length≤7)(hs:cE names)(hl:∀c∈l,sJ c):sJ (.mk k n [] l names):=.mk _ _ _ _ _ (by simp) h (by omega) hs (fun _=>hn) hl
theorem aix{l:List (List UInt8)}(h:cE l)(i:Nat):(l.getD i (aB .str)).length≤100:=ajz h i
theorem ax5(a:List UInt8)(n c0 c1:Int)(c2:List UInt8)(c3:List aD)(c4:List (List UInt8))(hp:eA a n)(hn:sJ (.mk c0 c1 c2 c3 c4)):∃r,jf a n c0 c1 c2 c3 c4 r:=by
 obtain⟨k1,k2,k3,k4,k5,k6⟩:=hn.kids
 apply agY 1
 unfold zR iN
 dsimp only
 have one:∀(n' x0 x1:Int)(x2:List UInt8)(x3:List aD)(x4:List (List UInt8)),eA a n'→Tot (ij 1 (c0,c1,c2,c3,c4,a,n',x0,x1,x2,x3,x4)) (fun z=>∃(y0 y1:Int)(y2:List UInt8)(y3:List aD)(y4:List (List UInt8))(y5:List UInt8)(y6:Int)(rest:List aK),z.1.dimR=.agg [.int .i64 y0,.int .i64 y1,.str y2,.sl .jnode (.may false) y3,.sl .str (.may false) y4]∧z.2=some [.sl .u8 (.may false) y5,.int .i64 y6]::rest∧gv a n c0 c1 c2 c3 c4 (y0,y1,y2,y3,y4,y5,y6)):=by
  intro n' x0 x1 x2 x3 x4 hp'
  unfold ij
  dsimp only
  repeat' (first|(with_reducible refine aC ?_ ?_<;>(intro hb;(try simp only[bnl] at hb);(try revert hb;intro _)))|with_reducible refine aJ ?_ ?_|with_reducible refine aF ?_|(refine aE (ass _ _ _ _ _ _ k3 (by omega)) ?_;rintro r ⟨-,hr⟩;clear hr)|(refine aE (cC _) ?_;rintro _ ⟨-,rfl⟩;dsimp only)|fail)
  all_goals exact⟨_,_,_,_,_,_,_,_,rfl,rfl,dC _ _ _ (by simp),rfl,hp'⟩
 have two:∀(n' x0 x1:Int)(x2:List UInt8)(x3:List aD)(x4:List (List UInt8)),eA a n'→Tot (lP 1 (c0,c1,c2,c3,c4,a,n',x0,x1,x2,x3,x4)) (fun z=>∃(y0 y1:Int)(y2:List UInt8)(y3:List aD)(y4:List (List UInt8))(y5:List UInt8)(y6:Int)(rest:List aK),z.1.dimR=.agg [.int .i64 y0,.int .i64 y1,.str y2,.sl .jnode (.may false) y3,.sl .str (.may false) y4]∧z.2=some [.sl .u8 (.may false) y5,.int .i64 y6]::rest∧gv a n c0 c1 c2 c3 c4 (y0,y1,y2,y3,y4,y5,y6)):=by
  intro n' x0 x1 x2 x3 x4 hp'
  unfold lP
  dsimp only
  repeat' (first|(with_reducible refine aC ?_ ?_<;>(intro hb;(try simp only[bnl] at hb);(try revert hb;intro _)))|with_reducible refine aJ ?_ ?_|with_reducible refine aF ?_|(refine aE (ass _ _ _ _ _ _ k3 (by omega)) ?_;rintro r ⟨-,hr⟩;clear hr)|(refine aE (cC _) ?_;rintro _ ⟨-,rfl⟩;dsimp only)|fail)
  all_goals exact⟨_,_,_,_,_,_,_,_,rfl,rfl,dC _ _ _ (by simp),rfl,hp'⟩
 have zero:∀(b:Bool),Tot (lO 1 (c0,c1,c2,c3,c4,c2,b,a,n,0,0,[],[],[])) (fun z=>∃(y0 y1:Int)(y2:List UInt8)(y3:List aD)(y4:List (List UInt8))(y5:List UInt8)(y6:Int)(rest:List aK),z.1.dimR=.agg [.int .i64 y0,.int .i64 y1,.str y2,.sl .jnode (.may false) y3,.sl .str (.may false) y4]∧z.2=some [.sl .u8 (.may false) y5,.int .i64 y6]::rest∧gv a n c0 c1 c2 c3 c4 (y0,y1,y2,y3,y4,y5,y6)):=by
  intro b
  unfold lO ku
  dsimp only
  have w3:cE ([([]:List UInt8),([100]:List UInt8),([195,164]:List UInt8)]:List (List UInt8)):=by simp[cE]
  repeat' (first|(with_reducible refine aC ?_ ?_<;>(intro hb;(try simp only[bnl] at hb);(try revert hb;intro _)))|with_reducible refine aJ ?_ ?_|with_reducible refine aF ?_|(refine aE (db _ _ _ hp (by omega) (by omega)) ?_;rintro⟨m,a',n'⟩ ⟨-,m1,m2,rfl,m3⟩;dsimp only at m1 m2 m3 ⊢)|(refine aE (cC _) ?_;rintro _ ⟨-,rfl⟩;dsimp only)|fail)
  all_goals first|exact⟨_,_,_,_,_,_,_,_,rfl,rfl,dC _ _ _ (Nat.zero_le _),rfl,hp⟩|exact⟨_,_,_,_,_,_,_,_,rfl,rfl,dC _ _ _ (Nat.zero_le _),rfl,m3⟩|exact⟨_,_,_,_,_,_,_,_,rfl,rfl,dC _ _ _ (aix w3 _),rfl,m3⟩|exact one _ _ _ _ _ _ hp|exact two _ _ _ _ _ _ hp|(first|(simp only[bnl,lnl];done)|(simp only[bnl,lnl];omega))|skip
 repeat' (first|(with_reducible refine aC ?_ ?_<;>(intro hb;(try simp only[bnl] at hb);(try revert hb;intro _)))|with_reducible refine aJ ?_ ?_|with_reducible refine aF ?_|fail)
 all_goals first|exact zero _|exact two _ _ _ _ _ _ hp
def aru(deep:Int):Prop:=∀(a:List UInt8)(n:Int)(ns:List (List UInt8)),eA a n→cE ns→ns.length+vW (5-deep.toNat)≤100000→∃r,dM a n ns deep r
theorem aha{deep:Int}(h:0≤deep∧deep≤4):vW (5-deep.toNat)=1+4*vW (5-(deep+1).toNat):=by
 have:5-deep.toNat=(5-(deep+1).toNat)+1:=by omega
 rw[this];rfl
theorem azh(deep:Int)(hd:0≤deep∧deep≤3)(hT:aru (deep+1))(a:List UInt8)(n:Int)(ns:List (List UInt8))(hp:eA a n)(hns:cE ns)(hl:ns.length+vW (5-deep.toNat)≤100000):∃r,me a n ns deep r:=by
 have hN:=aha (deep:=deep) (by omega)
 have ed:IntKind.i64.wrap (deep+1)=deep+1:=aI (deep+1) (by omega)
 apply ajj 1
 unfold abp abo
 dsimp only
 have w2:cE ([([105,110,116]:List UInt8),([115,116,114,105,110,103]:List UInt8)]:List (List UInt8)):=by simp[cE]
 refine aE (cC _) ?_
 rintro _ ⟨-,rfl⟩
 refine aE (db _ _ _ hp (by omega) (by omega)) ?_
 rintro⟨m,a',n'⟩ ⟨-,m1,m2,rfl,m3⟩
 dsimp only at m1 m2 m3 ⊢
 refine aC (fun _=>?_) (fun _=>?_)
 ·refine aE (db _ _ _ m3 (by omega) (by omega)) ?_
  rintro⟨m',a',n''⟩ ⟨-,m1',m2',rfl,m3'⟩
  dsimp only at m1' m2' m3' ⊢
  refine vck ?_
  refine aE (cC _) ?_
  rintro _ ⟨-,rfl⟩
  dsimp only
  refine vck ?_
  rw[ed]
  refine aE (hT _ _ _ m3' hns (by omega)) ?_
  rintro⟨t0,t1,t2,t3,t4,a'',n3,ns'⟩ ⟨-,h1,rfl,h3,h4,h5⟩
  dsimp only at h1 h3 h4 h5 ⊢
  have kids2:∀c∈([aD.mk 4 0 [110,117,108,108] [] []]++[aD.mk 4 0 (List.getD ([([105,110,116]:List UInt8),([115,116,114,105,110,103]:List UInt8)]:List (List UInt8)) (Int.toNat m') (aB .str)) [] []]),sJ c:=by
   intro c hc
   simp only[List.cons_append,List.nil_append,List.mem_cons,List.not_mem_nil,or_false] at hc
   rcases hc with rfl|rfl
   ·exact dC _ _ _ (by simp)
   ·exact dC _ _ _ (aix w2 _)
  repeat' (first|(with_reducible refine aC ?_ ?_<;>(intro hb;(try simp only[bnl] at hb);(try revert hb;intro _)))|with_reducible refine aJ ?_ ?_|with_reducible refine aF ?_|fail)
  ·first|(simp only[bnl,lnl];done)|(simp only[bnl,lnl];omega)
  ·refine⟨_,_,_,_,_,_,_,_,_,rfl,rfl,aiw _ _ _ (by simp) ?_ (by simp),rfl,h3,h4,by simp only;omega⟩
   intro c hc
   rcases List.mem_append.1 hc with hc|hc
   ·exact kids2 c hc
   ·simp only[List.mem_singleton] at hc
    subst hc;exact h1
  ·exact⟨_,_,_,_,_,_,_,_,_,rfl,rfl,aiw _ _ _ (by simp) kids2 (by simp),rfl,h3,h4,by simp only;omega⟩
 ·rw[ed]
  refine aE (hT _ _ _ m3 hns (by omega)) ?_
  rintro⟨t0,t1,t2,t3,t4,a'',n3,ns'⟩ ⟨-,h1,rfl,h3,h4,h5⟩
  dsimp only at h1 h3 h4 h5 ⊢
  repeat' (first|(with_reducible refine aC ?_ ?_<;>(intro hb;(try simp only[bnl] at hb);(try revert hb;intro _)))|with_reducible refine aJ ?_ ?_|with_reducible refine aF ?_|fail)
  ·first|(simp only[bnl,lnl];done)|(simp only[bnl,lnl];omega)
  ·refine⟨_,_,_,_,_,_,_,_,_,rfl,rfl,aiw _ _ _ (by simp) ?_ (by simp),rfl,h3,h4,by simp only;omega⟩
   intro c hc
   simp only[List.cons_append,List.nil_append,List.mem_cons,List.not_mem_nil,or_false] at hc
   rcases hc with rfl|rfl
   ·exact dC _ _ _ (by simp)
   ·exact h1
  ·refine⟨_,_,_,_,_,_,_,_,_,rfl,rfl,aiw _ _ _ (by simp) ?_ (by simp),rfl,h3,h4,by simp only;omega⟩
   intro c hc
   simp only[List.mem_singleton] at hc
   subst hc;exact dC _ _ _ (by simp)
theorem aoq(deep:Int)(hd:0≤deep∧deep≤3)(hT:aru (deep+1))(a:List UInt8)(n:Int)(ns:List (List UInt8))(name:List UInt8)(hp:eA a n)(hns:cE ns)(hnm:name.length≤100)(hl:ns.length+vW (5-deep.toNat)≤100001):∃r,gS a n ns name deep r:=by
 have hN:=aha (deep:=deep) (by omega)
 have ed:IntKind.i64.wrap (deep+1)=deep+1:=aI (deep+1) (by omega)
 apply aif 100
 unfold aaT jw
 refine aE (db _ _ _ hp (by omega) (by omega)) ?_
 rintro⟨m,a',n'⟩ ⟨-,m1,m2,rfl,m3⟩
 dsimp only at m1 m2 m3 ⊢
 refine aU (fun x=>match x with|(nm,dp,i,m',a2,n2,ns2,x0,x1,x2,x3,x4,k0,k1,k2,l,k4)=>nm=name∧dp=deep∧0≤i∧i≤m∧m'=m∧a2=a'∧eA a' n2∧cE ns2∧(ns2.length:Int)≤ns.length+i*vW (5-(deep+1).toNat)∧k0=5∧k1=0∧k2=[]∧k4=[]∧(l.length:Int)=i∧∀c∈l,sJ c) (fun x=>(m-x.2.2.1).toNat) ?_ _ _
  ⟨rfl,rfl,by simp,m1,rfl,rfl,m3,hns,by simp,rfl,rfl,rfl,rfl,rfl,by simp⟩ (by simp only;omega)
 rintro again ⟨nm,dp,i,m',a2,n2,ns2,x0,x1,x2,x3,x4,k0,k1,k2,l,k4⟩ ⟨rfl,rfl,i1,i2,rfl,rfl,i3,i4,i5,rfl,rfl,rfl,rfl,i6,i7⟩ ih
 dsimp only at ih
 have ei:i<m'→IntKind.i64.wrap (i+1)=i+1:=fun h=>aI (i+1) (by omega)
 generalize hq:vW (5-(dp+1).toNat)=q at*
 have hi5:i*(q:Int)≤4*q:=Int.mul_le_mul_of_nonneg_right (by omega) (by omega)
 have nnil:cE ([]:List (List UInt8)):=by simp[cE]
 unfold mJ
 dsimp only
 refine aC (fun h=>?_) (fun h=>?_)
 ·have h:=of_decide_eq_true h
  rw[ed]
  have hi4:(i+1)*(q:Int)≤4*q:=Int.mul_le_mul_of_nonneg_right (by omega) (by omega)
  have hi6:(i+1)*(q:Int)=i*q+q:=by rw[Int.add_mul,Int.one_mul]
  refine aE (hT _ _ _ i3 i4 (by rw[hq];omega)) ?_
  rintro⟨t0,t1,t2,t3,t4,a'',n3,ns'⟩ ⟨-,h1,rfl,h3,h4,h5⟩
  dsimp only at h1 h3 h4 h5 ⊢
  rw[hq] at h5
  refine vck ?_
  refine aE (cC _) ?_
  rintro _ ⟨-,rfl⟩
  refine aE (wz _ _ _ _) ?_
  rintro _ ⟨-,rfl⟩
  dsimp only
  refine aE (db _ _ _ h3 (by omega) (by omega)) ?_
  rintro⟨mm,a3,n4⟩ ⟨-,mm1,mm2,rfl,mm3⟩
  dsimp only at mm1 mm2 mm3 ⊢
  have next:∀(n5:Int)(c:aD),eA a3 n5→sJ c→Tot (again (nm,dp,IntKind.i64.wrap (i+1),m',a3,n5,ns',x0,x1,x2,x3,x4,5,0,[],l++[c],[])) _:=fun n5 c hp5 hc=>ih (nm,dp,IntKind.i64.wrap (i+1),m',a3,n5,ns',x0,x1,x2,x3,x4,5,0,[],l++[c],[])
   (by
    simp only[ei h,List.length_append,List.length_cons,List.length_nil]
    refine⟨trivial,trivial,by omega,by omega,trivial,trivial,hp5,h4,by omega,trivial,trivial,trivial,trivial,by omega,?_⟩
    intro d hd
    rcases List.mem_append.1 hd with hd|hd
    ·exact i7 d hd
    ·simp only[List.mem_singleton] at hd
     subst hd;exact hc) (by simp only[ei h];omega)
  have f1:sJ (.mk 4 0 ([102]++[UInt8.ofNat (Int.toNat (IntKind.wrap .u8 (IntKind.wrap .i64 (97+i))))]) [] []):=dC _ _ _ (by simp)
  refine aC (fun _=>?_) (fun _=>?_)
  ·refine vck ?_
   refine aE (ax5 _ _ _ _ _ _ _ mm3 h1) ?_
   rintro⟨d0,d1,d2,d3,d4,a4,n5⟩ ⟨-,q1,rfl,q3⟩
   dsimp only at q1 q3 ⊢
   refine vck ?_
   refine vck ?_
   refine next _ _ q3 (ad7 _ _ _ _ (by simp) (by simp) (by simp[cE]) ?_)
   intro c hc
   simp only[List.cons_append,List.nil_append,List.mem_cons,List.not_mem_nil,or_false] at hc
   rcases hc with rfl|rfl|rfl
   ·exact f1
   ·exact h1
   ·exact q1
  ·refine vck ?_
   refine next _ _ mm3 (ad7 _ _ _ _ (by simp) (by simp) (by simp[cE]) ?_)
   intro c hc
   simp only[List.mem_cons,List.not_mem_nil,or_false] at hc
   rcases hc with rfl|rfl
   ·exact f1
   ·exact h1
 ·refine aE (cC _) ?_
  rintro _ ⟨-,rfl⟩
  refine aE (cC _) ?_
  rintro _ ⟨-,rfl⟩
  refine aE (cC _) ?_
  rintro _ ⟨-,rfl⟩
  refine aE (wz _ _ _ _) ?_
  rintro _ ⟨-,rfl⟩
  dsimp only
  refine aF ⟨_,_,_,_,_,_,_,_,_,rfl,rfl,⟨ad7 _ _ _ _ (by simp) (by simp) (by simp[cE]) ?_,rfl,i3,i4,by simp only;omega⟩,by simp only;omega⟩
  intro c hc
  simp only[List.mem_cons,List.not_mem_nil,or_false] at hc
  rcases hc with rfl|rfl|rfl|rfl
  ·exact dC _ _ _ (by simp)
  ·exact dC _ _ _ hnm
  ·exact dC _ _ _ (by simp)
  ·exact aiw _ _ _ (by omega) i7 (by decide)
theorem arv(deep:Int)(hd:0≤deep∧deep≤4)(hT:deep≤3→aru (deep+1)):aru deep:=by
 intro a n ns hp hns hl
 have hN:=aha (deep:=deep) (by omega)
 have ed:IntKind.i64.wrap (deep+1)=deep+1:=aI (deep+1) (by omega)
 apply ak0 1
 unfold acO mq
 dsimp only
 have w8:cE ([([105,110,116]:List UInt8),([108,111,110,103]:List UInt8),([115,116,114,105,110,103]:List UInt8),([98,121,116,101,115]:List UInt8),([98,111,111,108,101,97,110]:List UInt8),([110,117,108,108]:List UInt8),([102,108,111,97,116]:List UInt8),([100,111,117,98,108,101]:List UInt8)]:List (List UInt8)):=by simp[cE]
 have two:∀(k n':Int),deep≤3→eA a n'→Tot (kW 1 (deep,k,a,n',ns,0,0,[],[],[])) (fun z=>∃(y0 y1:Int)(y2:List UInt8)(y3:List aD)(y4:List (List UInt8))(y5:List UInt8)(y6:Int)(y7:List (List UInt8))(rest:List aK),z.1.dimR=.agg [.int .i64 y0,.int .i64 y1,.str y2,.sl .jnode (.may false) y3,.sl .str (.may false) y4]∧z.2=some [.sl .u8 (.may false) y5,.int .i64 y6]::some [.sl .str .own y7]::rest∧gq a n ns deep (y0,y1,y2,y3,y4,y5,y6,y7)):=by
  intro k n' hd3 hp'
  have hT:=hT hd3
  unfold kW
  dsimp only
  refine vck ?_
  refine vck ?_
  generalize hnm:([78]:List UInt8)++[(UInt8.ofNat (Int.toNat (IntKind.wrap .u8 (IntKind.wrap .i64 (97+(Int.tmod (↑(List.length ns):Int) 26))))))]=nm
  have hnl:nm.length≤100:=by subst hnm;simp
  have hns2:cE (ns++[nm]):=by
   intro x hx
   rcases List.mem_append.1 hx with hx|hx
   ·exact hns x hx
   ·simp only[List.mem_singleton] at hx
    subst hx;exact hnl
  have hlen:(ns++[nm]).length=ns.length+1:=by simp
  refine aC (fun _=>?_) (fun _=>aC (fun _=>?_) (fun _=>?_))
  ·refine aE (cC _) ?_
   rintro _ ⟨-,rfl⟩
   refine aE (cC _) ?_
   rintro _ ⟨-,rfl⟩
   refine aE (db _ _ _ hp' (by omega) (by omega)) ?_
   rintro⟨mm,a3,n4⟩ ⟨-,mm1,mm2,rfl,mm3⟩
   dsimp only at mm1 mm2 mm3 ⊢
   refine aE (wz _ _ _ _) ?_
   rintro _ ⟨-,rfl⟩
   dsimp only
   refine aF ⟨_,_,_,_,_,_,_,_,_,rfl,rfl,ad7 _ _ _ _ (by simp) (by simp) (by simp[cE]) ?_,rfl,mm3,hns2,by simp only[hlen];omega⟩
   intro c hc
   simp only[List.mem_cons,List.not_mem_nil,or_false] at hc
   rcases hc with rfl|rfl|rfl
   ·exact dC _ _ _ (by simp)
   ·exact dC _ _ _ hnl
   ·exact dC _ _ _ (by simp)
  ·refine aE (cC _) ?_
   rintro _ ⟨-,rfl⟩
   refine aE (cC _) ?_
   rintro _ ⟨-,rfl⟩
   refine aE (cC _) ?_
   rintro _ ⟨-,rfl⟩
   refine aE (db _ _ _ hp' (by omega) (by omega)) ?_
   rintro⟨mm,a3,n4⟩ ⟨-,mm1,mm2,rfl,mm3⟩
   dsimp only at mm1 mm2 mm3 ⊢
   have em:IntKind.i64.wrap (1+mm)=1+mm:=aI (1+mm) (by omega)
   rw[em]
   refine vck ?_
   refine aE (cC _) ?_
   rintro _ ⟨-,rfl⟩
   refine aE (cC _) ?_
   rintro _ ⟨-,rfl⟩
   refine aE (wz _ _ _ _) ?_
   rintro _ ⟨-,rfl⟩
   dsimp only
   refine aE (db _ _ _ mm3 (by omega) (by omega)) ?_
   rintro⟨m5,a5,n5⟩ ⟨-,m51,m52,rfl,m53⟩
   dsimp only at m51 m52 m53 ⊢
   have hsub:∀c∈(List.drop 0 (List.take (Int.toNat (1+mm)) ([aD.mk 4 0 [88] [] [],aD.mk 4 0 [89] [] [],aD.mk 4 0 [90] [] []]:List aD))),sJ c:=by
    intro c hc
    rw[List.drop_zero] at hc
    have hc:=List.mem_of_mem_take hc
    simp only[List.mem_cons,List.not_mem_nil,or_false] at hc
    rcases hc with rfl|rfl|rfl<;>exact dC _ _ _ (by simp)
   have hsl:(List.drop 0 (List.take (Int.toNat (1+mm)) ([aD.mk 4 0 [88] [] [],aD.mk 4 0 [89] [] [],aD.mk 4 0 [90] [] []]:List aD))).length≤7:=by
    simp only[List.length_drop,List.length_take,List.length_cons,List.length_nil];omega
   have hsy:=aiw 5 0 _ hsl hsub (by decide)
   refine aC (fun _=>?_) (fun _=>?_)
   ·refine vck ?_
    refine aE (cC _) ?_
    rintro _ ⟨-,rfl⟩
    dsimp only
    refine vck ?_
    refine aF ⟨_,_,_,_,_,_,_,_,_,rfl,rfl,ad7 _ _ _ _ (by simp) (by simp) (by simp[cE]) ?_,rfl,m53,hns2,by simp only[hlen];omega⟩
    intro c hc
    simp only[List.cons_append,List.nil_append,List.mem_cons,List.not_mem_nil,or_false] at hc
    rcases hc with rfl|rfl|rfl|rfl
    ·exact dC _ _ _ (by simp)
    ·exact dC _ _ _ hnl
    ·exact hsy
    ·exact dC _ _ _ (by simp)
   ·refine aF ⟨_,_,_,_,_,_,_,_,_,rfl,rfl,ad7 _ _ _ _ (by simp) (by simp) (by simp[cE]) ?_,rfl,m53,hns2,by simp only[hlen];omega⟩
    intro c hc
    simp only[List.mem_cons,List.not_mem_nil,or_false] at hc
    rcases hc with rfl|rfl|rfl
    ·exact dC _ _ _ (by simp)
    ·exact dC _ _ _ hnl
    ·exact hsy
  ·refine aE (aoq deep (by omega) hT _ _ _ _ hp' hns2 hnl ?_) ?_
   ·rw[hlen];omega
   rintro⟨t0,t1,t2,t3,t4,a'',n3,ns'⟩ ⟨-,⟨h1,rfl,h3,h4,h5⟩,h6⟩
   dsimp only at h1 h3 h4 h5 h6 ⊢
   rw[hlen] at h6
   exact aF ⟨_,_,_,_,_,_,_,_,_,rfl,rfl,h1,rfl,h3,h4,by simp only;omega⟩
 have one:∀(k n':Int)(b:Bool),deep≤3→eA a n'→(b=true→0<ns.length)→Tot (kX 1 (deep,k,b,a,n',ns,0,0,[],[],[])) (fun z=>∃(y0 y1:Int)(y2:List UInt8)(y3:List aD)(y4:List (List UInt8))(y5:List UInt8)(y6:Int)(y7:List (List UInt8))(rest:List aK),z.1.dimR=.agg [.int .i64 y0,.int .i64 y1,.str y2,.sl .jnode (.may false) y3,.sl .str (.may false) y4]∧z.2=some [.sl .u8 (.may false) y5,.int .i64 y6]::some [.sl .str .own y7]::rest∧gq a n ns deep (y0,y1,y2,y3,y4,y5,y6,y7)):=by
  intro k n' b hd3 hp' hb
  unfold kX oe
  dsimp only
  refine aC (fun h1=>?_) (fun h1=>two _ _ hd3 hp')
  have hb:=hb h1
  have numTot:∃r,aQ a n' (ns.length:Int) r:=awp _ _ _ hp' (by omega)
  refine aE numTot ?_
  rintro⟨mm,a3,n4⟩ ⟨-,mm1,mm2,rfl,mm3⟩
  dsimp only at mm1 mm2 mm3 ⊢
  refine vck ?_
  refine aE (cC _) ?_
  rintro _ ⟨-,rfl⟩
  exact aF ⟨_,_,_,_,_,_,_,_,_,rfl,rfl,dC _ _ _ (aix hns _),rfl,mm3,hns,by simp only;omega⟩
 have zero:∀(k n':Int),0≤k→(8≤k→deep≤3)→eA a n'→Tot (pv 1 (deep,k,a,n',ns,0,0,[],[],[])) (fun z=>∃(y0 y1:Int)(y2:List UInt8)(y3:List aD)(y4:List (List UInt8))(y5:List UInt8)(y6:Int)(y7:List (List UInt8))(rest:List aK),z.1.dimR=.agg [.int .i64 y0,.int .i64 y1,.str y2,.sl .jnode (.may false) y3,.sl .str (.may false) y4]∧z.2=some [.sl .u8 (.may false) y5,.int .i64 y6]::some [.sl .str .own y7]::rest∧gq a n ns deep (y0,y1,y2,y3,y4,y5,y6,y7)):=by
  intro k n' hk hk2 hp'
  unfold pv og
  dsimp only
  refine aC (fun h1=>?_) (fun h1=>?_)
  ·have h1:=of_decide_eq_true h1
   refine vck ?_
   refine aE (cC _) ?_
   rintro _ ⟨-,rfl⟩
   exact aF ⟨_,_,_,_,_,_,_,_,_,rfl,rfl,dC _ _ _ (aix w8 _),rfl,hp',hns,by simp only;omega⟩
  have hd3:=hk2 (by have:=of_decide_eq_false h1;omega)
  have hT:=hT hd3
  rw[ed]
  have tab:∀(word w2:List UInt8),word.length≤100→w2.length≤100→∀(nm:List UInt8),nm.length≤100→Tot (aG (bk word) (fun r3=>aG (dM a n' ns (deep+1)) (fun r4=>
     aG (eC true ([nm,w2]:List (List UInt8)) true ([⟨r3.1,r3.2.1,r3.2.2.1,r3.2.2.2.1,r3.2.2.2.2⟩,⟨r4.1,r4.2.1,r4.2.2.1,r4.2.2.2.1,r4.2.2.2.2.1⟩]:List aD)) (fun r5=>
      some (V.agg [.int .i64 r5.1,.int .i64 r5.2.1,.str r5.2.2.1,.sl .jnode (.may r5.2.2.2.1) r5.2.2.2.2.1,.sl .str (.may r5.2.2.2.2.2.1) r5.2.2.2.2.2.2],([some [.sl .u8 (.may false) r4.2.2.2.2.2.1,.int .i64 r4.2.2.2.2.2.2.1],some [.sl .str .own r4.2.2.2.2.2.2.2],some [.int .i64 r5.1,.int .i64 r5.2.1,.str r5.2.2.1,.sl .jnode (.may r5.2.2.2.1) r5.2.2.2.2.1,.sl .str (.may r5.2.2.2.2.2.1) r5.2.2.2.2.2.2]]:List aK)))))) (fun z=>∃(y0 y1:Int)(y2:List UInt8)(y3:List aD)(y4:List (List UInt8))(y5:List UInt8)(y6:Int)(y7:List (List UInt8))(rest:List aK),z.1.dimR=.agg [.int .i64 y0,.int .i64 y1,.str y2,.sl .jnode (.may false) y3,.sl .str (.may false) y4]∧z.2=some [.sl .u8 (.may false) y5,.int .i64 y6]::some [.sl .str .own y7]::rest∧gq a n ns deep (y0,y1,y2,y3,y4,y5,y6,y7)):=by
   intro word w2 hw hw2 nm hnm
   refine aE (cC _) ?_
   rintro _ ⟨-,rfl⟩
   refine aE (hT _ _ _ hp' hns (by omega)) ?_
   rintro⟨t0,t1,t2,t3,t4,a'',n3,ns'⟩ ⟨-,h1,rfl,h3,h4,h5⟩
   dsimp only at h1 h3 h4 h5 ⊢
   refine aE (wz _ _ _ _) ?_
   rintro _ ⟨-,rfl⟩
   dsimp only
   refine aF ⟨_,_,_,_,_,_,_,_,_,rfl,rfl,ad7 _ _ _ _ (by simp) (by simp) ?_ ?_,rfl,h3,h4,by simp only;omega⟩
   ·intro x hx
    simp only[List.mem_cons,List.not_mem_nil,or_false] at hx
    rcases hx with rfl|rfl<;>assumption
   ·intro c hc
    simp only[List.mem_cons,List.not_mem_nil,or_false] at hc
    rcases hc with rfl|rfl
    ·exact dC _ _ _ hw
    ·exact h1
  refine aC (fun _=>?_) (fun _=>aC (fun _=>?_) (fun _=>aC (fun _=>?_) (fun _=>aC (fun _=>one _ _ _ hd3 hp' fun hb=>?_) (fun _=>one _ _ _ hd3 hp' fun hb=>by cases hb))))
  ·exact tab _ _ (by simp) (by simp) _ (by simp)
  ·exact tab _ _ (by simp) (by simp) _ (by simp)
  ·refine aE (azh deep (by omega) hT _ _ _ hp' hns hl) ?_
   rintro⟨t0,t1,t2,t3,t4,a'',n3,ns'⟩ ⟨-,h1,rfl,h3,h4,h5⟩
   exact aF ⟨_,_,_,_,_,_,_,_,_,rfl,rfl,h1,rfl,h3,h4,h5⟩
  ·have:=of_decide_eq_true hb
   omega
 refine aE (db _ _ _ hp (by omega) (by omega)) ?_
 rintro⟨m,a',n'⟩ ⟨-,m1,m2,rfl,m3⟩
 dsimp only at m1 m2 m3 ⊢
 have t8:0≤Int.tmod m 8∧Int.tmod m 8<8:=⟨Int.tmod_nonneg _ m1,Int.tmod_lt_of_pos _ (by omega)⟩
 refine aC (fun h1=>zero _ _ t8.1 (fun h=>by omega) m3) (fun h1=>?_)
 have h1:=of_decide_eq_false h1
 refine aE (awq _ _) ?_
 rintro⟨b,a2,n2⟩ ⟨-,rfl,rfl⟩
 dsimp only
 exact aC (fun _=>zero _ _ t8.1 (fun h=>by omega) m3) (fun _=>zero _ _ m1 (fun _=>by omega) m3)
theorem atD:∀(k:Nat)(deep:Int),deep+k=4→0≤deep→aru deep
 |0,deep,h,h1=>arv deep (by omega) (fun h'=>by omega)
 |k+1,deep,h,h1=>arv deep (by omega) (fun _=>atD k (deep+1) (by omega) (by omega))
theorem azi(a:List UInt8)(n:Int)(hp:eA a n):∃r,kJ a n r:=by
 apply ahK 1
 unfold aaA aaz
 refine aE (aoq 0 (by omega) (atD 3 1 (by omega) (by omega)) _ _ _ _ hp (by simp[cE]) (by simp) (by simp[vW])) ?_
 rintro⟨t0,t1,t2,t3,t4,a'',n3,ns'⟩ ⟨-,⟨h1,rfl,h3,h4,h5⟩,h6⟩
 exact aF ⟨_,_,_,_,_,_,_,_,rfl,rfl,h1,rfl,h3⟩
end Go.Proofs.Ytdpajabhmmmjoaa
end
noncomputable section
namespace Go.Proofs.Ytdpajabhmmmjoaa
open Go.AM
set_option autoImplicit false
set_option linter.unusedVariables false
set_option linter.unusedSimpArgs false
set_option maxRecDepth 100000
theorem aBG(s:List UInt8)(hs:s.length≤1000):∃r,yj s r:=by
 apply au6 2000
 unfold amS wO
 refine aU (fun x=>x.1.length+x.2.length≤s.length) (fun x=>x.1.length) ?_ _ _ (by simp) (by simp;omega)
 rintro again ⟨a,out⟩ h ih
 dsimp only at h ih
 unfold za
 dsimp only
 refine aC (fun h1=>?_) (fun _=>aF ⟨_,_,_,rfl,rfl⟩)
 have h1:=of_decide_eq_true h1
 refine aE (azW _ (by omega)) ?_
 rintro⟨c,n⟩ ⟨-,hp⟩
 obtain⟨p1,p2⟩:=atu a
 rw[←(show (c,n)=ye a from hp)] at p1 p2
 dsimp only at p1 p2 ⊢
 repeat' (first|(with_reducible refine aC ?_ ?_<;>(intro hb;(try simp only[bnl] at hb);(try revert hb;intro _)))|with_reducible refine aJ ?_ ?_|with_reducible refine aF ?_|fail)
 all_goals first|exact⟨_,_,_,rfl,rfl⟩|(first|(simp only[bnl,lnl];done)|(simp only[bnl,lnl];omega))|skip
 rename_i h2 h3
 have hn:0<n:=by omega
 refine ih _ ?_ ?_
 ·simp only[List.length_append,List.length_cons,List.length_nil,List.length_drop,List.length_take];omega
 ·simp only[List.length_append,List.length_cons,List.length_nil,List.length_drop,List.length_take];omega
def am0(ts:List aA)(deep:Int):Prop:=∀(all t c0 c1:Int)(c2:List UInt8)(c3:List aD)(c4:List (List UInt8)),0≤t→t<ts.length→bp (.mk c0 c1 c2 c3 c4)→∃r,ct ts all t c0 c1 c2 c3 c4 deep r
theorem aAf(ts:List aA)(deep:Int)(hd:1≤deep∧deep≤20)(hV:am0 ts (deep+1))(all k0:Int)(k1:List UInt8)(k2:List (List UInt8))(k3:Int)(k4:List (List UInt8))(k5:Bool)(k6:List UInt8)(k7:Int)(k8:List aM)(k9:List Int)
  (c0 c1:Int) (c2:List UInt8) (c3:List aD) (c4:List (List UInt8)) (hk:0≤k3∧k3<ts.length) (hn:bp (.mk c0 c1 c2 c3 c4)) (hm:k0≠12→c4.length=c3.length):∃r,jh ts all k0 k1 k2 k3 k4 k5 k6 k7 k8 k9 c0 c1 c2 c3 c4 deep r:=by
 obtain⟨n1,n2,n3,n4,n5,n6⟩:=hn.kids
 have ed:IntKind.i64.wrap (deep+1)=deep+1:=aI (deep+1) (by omega)
 apply agR 1000
 unfold zO iK
 refine aU (fun x=>match x with
  | .inl (dp,v0,v1,v2,v3,v4,v5,v6,v7,v8,v9,d0,d1,d2,l,ks,i,ts',al,p0,p1,p2,p3,p4,q0,q1,q2,q3,q4)=>dp=deep∧v0=k0∧v3=k3∧l=c3∧ks=c4∧0≤i∧i≤(c3.length:Int)∧ts'=ts∧q3=[]∧(q2.length:Int)=i∧(k0≠12→q2=[])
  | .inr (dp,v0,v1,v2,v3,v4,v5,v6,v7,v8,v9,d0,d1,d2,l,ks,i,ts',al,p0,p1,p2,p3,p4,q0,q1,q2,q3,q4)=>dp=deep∧v0=k0∧v3=k3∧l=c3∧ks=c4∧0≤i∧i≤(c3.length:Int)∧ts'=ts∧k0≠12∧q3.length=q2.length∧(q2.length:Int)≤i)
  (fun x=>match x with
  | .inl x=>((c3.length:Int)-x.2.2.2.2.2.2.2.2.2.2.2.2.2.2.2.2.1).toNat
  | .inr x=>((c3.length:Int)-x.2.2.2.2.2.2.2.2.2.2.2.2.2.2.2.2.1).toNat) ?_ _ _
  ⟨rfl,rfl,rfl,rfl,rfl,by simp,by simp,rfl,rfl,rfl,fun _=>rfl⟩ (by simp;omega)
 rintro again (⟨dp,v0,v1,v2,v3,v4,v5,v6,v7,v8,v9,d0,d1,d2,l,ks,i,ts',al,p0,p1,p2,p3,p4,q0,q1,q2,q3,q4⟩|⟨dp,v0,v1,v2,v3,v4,v5,v6,v7,v8,v9,d0,d1,d2,l,ks,i,ts',al,p0,p1,p2,p3,p4,q0,q1,q2,q3,q4⟩)
 ·rintro⟨rfl,rfl,rfl,rfl,rfl,i1,i2,rfl,rfl,i3,i4⟩ ih
  dsimp only at ih
  have ei:i<l.length→IntKind.i64.wrap (i+1)=i+1:=fun h=>aI (i+1) (by omega)
  unfold hH
  dsimp only
  rw[ed]
  refine aC (fun h0=>?_) (fun _=>aF ⟨_,_,_,_,_,_,_,_,_,rfl,rfl,rfl⟩)
  have h:=of_decide_eq_true h0
  clear h0
  refine vck ?_
  refine aE (hV _ _ _ _ _ _ _ hk.1 hk.2 (bp.eta.2 (bp.getD n6 i.toNat))) ?_
  rintro⟨w0,w1,w2,w3,w4,e,ts2,al2⟩ ⟨-,rfl⟩
  dsimp only
  refine aC (fun _=>aF ⟨_,_,_,_,_,_,_,_,_,rfl,rfl,rfl⟩) (fun _=>aC (fun h12=>?_) (fun h12=>?_))
  ·simp only[bnl] at h12
   refine vck ?_
   refine ih (.inl (dp,v0,v1,v2,v3,v4,v5,v6,v7,v8,v9,d0,d1,d2,l,ks,_,ts2,al2,p0,p1,p2,p3,p4,q0,q1,_,[],q4)) ?_ ?_
   ·simp only[ei h,List.length_append,List.length_cons,List.length_nil]
    exact⟨trivial,trivial,trivial,trivial,trivial,by omega,by omega,trivial,trivial,by omega,fun hh=>absurd h12 hh⟩
   ·simp only[ei h];omega
  ·simp only[bnl] at h12
   have hks:=hm h12
   have hq:=i4 h12
   subst hq
   refine vck ?_
   refine aE (anf _ _ _ _ _ _ _ _ _ _ _ rfl (by simp)) ?_
   rintro⟨x0,x1,x2,x3,x4⟩ ⟨-,y1,y2⟩
   dsimp only at y1 y2 ⊢
   refine ih (.inr (dp,v0,v1,v2,v3,v4,v5,v6,v7,v8,v9,d0,d1,d2,l,ks,_,ts2,al2,p0,p1,p2,p3,p4,x0,x1,x2,x3,x4)) ?_ ?_
   ·simp only[ei h]
    simp only[List.length_nil] at y2
    exact⟨trivial,trivial,trivial,trivial,trivial,by omega,by omega,trivial,h12,y1,by omega⟩
   ·simp only[ei h];omega
 ·rintro⟨rfl,rfl,rfl,rfl,rfl,i1,i2,rfl,i3,i4,i5⟩ ih
  dsimp only at ih
  have ei:i<l.length→IntKind.i64.wrap (i+1)=i+1:=fun h=>aI (i+1) (by omega)
  have hks:=hm i3
  unfold hH
  dsimp only
  rw[ed]
  refine aC (fun h0=>?_) (fun _=>aF ⟨_,_,_,_,_,_,_,_,_,rfl,rfl,rfl⟩)
  have h:=of_decide_eq_true h0
  clear h0
  refine vck ?_
  refine aE (hV _ _ _ _ _ _ _ hk.1 hk.2 (bp.eta.2 (bp.getD n6 i.toNat))) ?_
  rintro⟨w0,w1,w2,w3,w4,e,ts2,al2⟩ ⟨-,rfl⟩
  dsimp only
  refine aC (fun _=>aF ⟨_,_,_,_,_,_,_,_,_,rfl,rfl,rfl⟩) (fun _=>aC (fun h12=>?_) (fun h12=>?_))
  ·simp only[bnl] at h12
   exact absurd h12 i3
  ·refine vck ?_
   refine aE (anf _ _ _ _ _ _ _ _ _ _ _ i4 (by omega)) ?_
   rintro⟨x0,x1,x2,x3,x4⟩ ⟨-,y1,y2⟩
   dsimp only at y1 y2 ⊢
   refine ih (.inr (dp,v0,v1,v2,v3,v4,v5,v6,v7,v8,v9,d0,d1,d2,l,ks,_,ts2,al2,p0,p1,p2,p3,p4,x0,x1,x2,x3,x4)) ?_ ?_
   ·simp only[ei h]
    exact⟨trivial,trivial,trivial,trivial,trivial,by omega,by omega,trivial,i3,y1,by omega⟩
   ·simp only[ei h];omega
theorem ax6(ts:List aA)(deep:Int)(hd:1≤deep∧deep≤20)(hV:am0 ts (deep+1))(all k0:Int)(k1:List UInt8)(k2:List (List UInt8))(k3:Int)(k4:List (List UInt8))(k5:Bool)(k6:List UInt8)(k7:Int)(k8:List aM)(k9:List Int)
  (c0 c1:Int) (c2:List UInt8) (c3:List aD) (c4:List (List UInt8)) (hk:zy ts.length k8) (hn:bp (.mk c0 c1 c2 c3 c4)):∃r,iE ts all k0 k1 k2 k3 k4 k5 k6 k7 k8 k9 c0 c1 c2 c3 c4 deep r:=by
 obtain⟨n1,n2,n3,n4,n5,n6⟩:=hn.kids
 obtain⟨hk1,hk2⟩:=hk
 have ed:IntKind.i64.wrap (deep+1)=deep+1:=aI (deep+1) (by omega)
 apply afB 1000
 unfold yy hJ
 refine aU (fun x=>match x with
  |(dp,v0,v1,v2,v3,v4,v5,v6,v7,v8,v9,d0,d1,d2,l,ks,i,ts',al,p0,p1,p2,p3,p4,q0,q1,q2,q3,q4)=>dp=deep∧v8=k8∧bp (.mk d0 d1 d2 l ks)∧0≤i∧i≤(k8.length:Int)∧ts'=ts∧(q2.length:Int)=i)
  (fun x=>((k8.length:Int)-x.2.2.2.2.2.2.2.2.2.2.2.2.2.2.2.2.1).toNat) ?_ _ _
  ⟨rfl,rfl,hn,by simp,by simp,rfl,rfl⟩ (by simp;omega)
 rintro again ⟨dp,v0,v1,v2,v3,v4,v5,v6,v7,v8,v9,d0,d1,d2,l,ks,i,ts',al,p0,p1,p2,p3,p4,q0,q1,q2,q3,q4⟩ ⟨rfl,rfl,hn',i1,i2,rfl,i3⟩ ih
 dsimp only at ih
 have ei:i<v8.length→IntKind.i64.wrap (i+1)=i+1:=fun h=>aI (i+1) (by omega)
 obtain⟨m1,m2,m3,m4,m5,m6⟩:=hn'.kids
 unfold kh
 dsimp only
 rw[ed]
 refine aC (fun h=>?_) (fun _=>aF ⟨_,_,_,_,_,_,_,_,_,rfl,rfl,rfl⟩)
 have h:=of_decide_eq_true h
 have hl:i.toNat<v8.length:=by omega
 have hf:=hk2.1 v8[i.toNat] (List.getElem_mem hl)
 have hg:v8.getD i.toNat (aB .afield)=v8[i.toNat]:=mZ (List.getElem?_eq_getElem hl)
 refine vck ?_
 refine aE (rT _ _ _ _ _ _ (by omega)) ?_
 rintro r ⟨-,hr⟩
 have hgo:=xo (k:=d0) (names:=ks) (name:=(v8.getD i.toNat (aB .afield)).name) m6
 simp only[dg] at hr
 rw[←hr] at hgo
 clear hr
 have next:∀(al2:Int)(w:aH),Tot (again (dp,v0,v1,v2,v3,v4,v5,v6,v7,v8,v9,d0,d1,d2,l,ks,IntKind.i64.wrap (i+1),ts',al2,p0,p1,p2,p3,p4,q0,q1,q2++[w],q3,q4)) _:=fun al2 w=>ih (dp,v0,v1,v2,v3,v4,v5,v6,v7,v8,v9,d0,d1,d2,l,ks,IntKind.i64.wrap (i+1),ts',al2,p0,p1,p2,p3,p4,q0,q1,q2++[w],q3,q4)
  (by
   simp only[ei h,List.length_append,List.length_cons,List.length_nil]
   exact⟨trivial,trivial,hn',by omega,by omega,trivial,by omega⟩) (by simp only[ei h];omega)
 refine aC (fun _=>aC (fun _=>aF ⟨_,_,_,_,_,_,_,_,_,rfl,rfl,rfl⟩) (fun _=>?_)) (fun _=>?_)
 ·refine aE (hV _ _ _ _ _ _ _ (by rw[hg];exact hf.1) (by rw[hg];exact hf.2.1) (by rw[hg];exact bp.eta.2 hf.2.2)) ?_
  rintro⟨w0,w1,w2,w3,w4,e,ts2,al2⟩ ⟨-,rfl⟩
  dsimp only
  refine aC (fun _=>aF ⟨_,_,_,_,_,_,_,_,_,rfl,rfl,rfl⟩) (fun _=>?_)
  refine vck ?_
  exact next _ _
 ·refine aE (hV _ _ _ _ _ _ _ (by rw[hg];exact hf.1) (by rw[hg];exact hf.2.1) hgo) ?_
  rintro⟨w0,w1,w2,w3,w4,e,ts2,al2⟩ ⟨-,rfl⟩
  dsimp only
  refine aC (fun _=>aF ⟨_,_,_,_,_,_,_,_,_,rfl,rfl,rfl⟩) (fun _=>?_)
  refine vck ?_
  exact next _ _
theorem arw(ts:List aA)(hs:cw ts)(deep:Int)(hd:1≤deep∧deep≤21)(hV:deep≤20→am0 ts (deep+1)):am0 ts deep:=by
 intro all t c0 c1 c2 c3 c4 ht ht2 hn
 obtain⟨n1,n2,n3,n4,n5,n6⟩:=hn.kids
 have ed:IntKind.i64.wrap (deep+1)=deep+1:=aI (deep+1) (by omega)
 apply agV 1000
 unfold zP iL
 dsimp only
 refine aC (fun _=>aF ⟨_,_,_,_,_,_,_,_,_,rfl,rfl,rfl⟩) (fun h20=>aC (fun _=>aF ⟨_,_,_,_,_,_,_,_,_,rfl,rfl,rfl⟩) (fun _=>vck ?_))
 have h20:=of_decide_eq_false h20
 have hV:=hV (by omega)
 have hl:t.toNat<ts.length:=by omega
 have hT:=hs.2 ts[t.toNat] (List.getElem_mem hl)
 rw[mZ (List.getElem?_eq_getElem hl)]
 generalize ts[t.toNat]=k at hT
 obtain⟨k0,k1,k2,k3,k4,k5,k6,k7,k8,k9⟩:=k
 dsimp only
 have three:∀(b:List UInt8)(f:Bool)(al x0:Int)(x1:List UInt8)(x2:List aH)(x3:List (List UInt8))(x4:Int),Tot (hZ 1000 (b,f,ts,al,x0,x1,x2,x3,x4)) (fun z=>∃(y0:Int)(y1:List UInt8)(y2:List aH)(y3:List (List UInt8))(y4 y5:Int)(y6:List aA)(y7:Int)(rest:List aK),z.1.dimR=.tup [.agg [.int .u64 y0,.str y1,.sl .aval (.may false) y2,.sl .str (.may false) y3,.int .i64 y4],.int .i64 y5]∧z.2=some [.sl .atype (.may false) y6,.int .i64 y7]::rest∧di ts all t c0 c1 c2 c3 c4 deep (y0,y1,y2,y3,y4,y5,y6,y7)):=by
  intro b f al x0 x1 x2 x3 x4
  unfold hZ
  dsimp only
  repeat' (first|(with_reducible refine aC ?_ ?_<;>(intro hb;(try simp only[bnl] at hb);(try revert hb;intro _)))|with_reducible refine aJ ?_ ?_|with_reducible refine aF ?_|fail)
  all_goals exact⟨_,_,_,_,_,_,_,_,_,rfl,rfl,rfl⟩
 have four:∀(al x0:Int)(x1:List UInt8)(x2:List aH)(x3:List (List UInt8))(x4:Int),Tot (aR 1000 (fy 1000) (c0,c1,c2,c3,c4,k0,k1,k2,k3,k4,k5,k6,k7,k8,k9,0,ts,al,x0,x1,x2,x3,x4)) (fun z=>∃(y0:Int)(y1:List UInt8)(y2:List aH)(y3:List (List UInt8))(y4 y5:Int)(y6:List aA)(y7:Int)(rest:List aK),z.1.dimR=.tup [.agg [.int .u64 y0,.str y1,.sl .aval (.may false) y2,.sl .str (.may false) y3,.int .i64 y4],.int .i64 y5]∧z.2=some [.sl .atype (.may false) y6,.int .i64 y7]::rest∧di ts all t c0 c1 c2 c3 c4 deep (y0,y1,y2,y3,y4,y5,y6,y7)):=by
  intro al x0 x1 x2 x3 x4
  have hns:k4.length≤100:=hT.ns
  refine aU (fun x=>match x with
   |(d0,d1,d2,d3,d4,v0,v1,v2,v3,v4,v5,v6,v7,v8,v9,i,ts',al,p0,p1,p2,p3,p4)=>v4=k4∧0≤i∧i≤(k4.length:Int)∧ts'=ts)
   (fun x=>((k4.length:Int)-x.2.2.2.2.2.2.2.2.2.2.2.2.2.2.2.1).toNat) ?_ _ _ ⟨rfl,by simp,by simp,rfl⟩ (by simp;omega)
  rintro again ⟨d0,d1,d2,d3,d4,v0,v1,v2,v3,v4,v5,v6,v7,v8,v9,i,ts',al,p0,p1,p2,p3,p4⟩ ⟨rfl,i1,i2,rfl⟩ ih
  dsimp only at ih
  unfold fy
  dsimp only
  repeat' (first|(with_reducible refine aC ?_ ?_<;>(intro hb;(try simp only[bnl] at hb);(try revert hb;intro _)))|with_reducible refine aJ ?_ ?_|with_reducible refine aF ?_|fail)
  all_goals first|(first|(simp only[bnl,lnl];done)|(simp only[bnl,lnl];omega))|exact⟨_,_,_,_,_,_,_,_,_,rfl,rfl,rfl⟩|skip
  have ei:IntKind.i64.wrap (i+1)=i+1:=aI (i+1) (by omega)
  refine ih (d0,d1,d2,d3,d4,v0,v1,v2,v3,v4,v5,v6,v7,v8,v9,_,ts',al,p0,p1,p2,p3,p4) ?_ ?_
  ·simp only[ei];exact⟨trivial,by omega,by omega,trivial⟩
  ·simp only[ei];omega
 have five:∀(f:Bool)(al x0:Int)(x1:List UInt8)(x2:List aH)(x3:List (List UInt8))(x4:Int),(f=true→k0=12∨c0=6)→Tot (ia 1000 (deep,c0,c1,c2,c3,c4,k0,k1,k2,k3,k4,k5,k6,k7,k8,k9,f,ts,al,x0,x1,x2,x3,x4)) (fun z=>∃(y0:Int)(y1:List UInt8)(y2:List aH)(y3:List (List UInt8))(y4 y5:Int)(y6:List aA)(y7:Int)(rest:List aK),z.1.dimR=.tup [.agg [.int .u64 y0,.str y1,.sl .aval (.may false) y2,.sl .str (.may false) y3,.int .i64 y4],.int .i64 y5]∧z.2=some [.sl .atype (.may false) y6,.int .i64 y7]::rest∧di ts all t c0 c1 c2 c3 c4 deep (y0,y1,y2,y3,y4,y5,y6,y7)):=by
  intro f al x0 x1 x2 x3 x4 hf
  unfold ia
  dsimp only
  rw[ed]
  have un:k0=14→0<k9.length∧0≤k9.getD 0 (aB (.num .i64))∧k9.getD 0 (aB (.num .i64))<ts.length:=by
   intro h
   have hne:k9≠[]:=hT.done h
   have hpos:0<k9.length:=List.length_pos_iff.2 hne
   have:=hT.branches k9[0] (List.getElem_mem hpos)
   rw[mZ (List.getElem?_eq_getElem hpos)]
   exact⟨hpos,this⟩
  repeat' (first|(with_reducible refine aC ?_ ?_<;>(intro hb;(try simp only[bnl] at hb);(try revert hb;intro _)))|with_reducible refine aJ ?_ ?_|with_reducible refine aF ?_|(refine aE (aAf ts deep (by omega) hV _ _ _ _ _ _ _ _ _ _ _ _ _ _ _ _ hT.items hn ?_) ?_;rotate_left;rintro⟨w0,w1,w2,w3,w4,e,ts2,al2⟩ ⟨-,rfl⟩;dsimp only)|(refine aE (ax6 ts deep (by omega) hV _ _ _ _ _ _ _ _ _ _ _ _ _ _ _ _ ⟨hT.nf,hT.fields,hT.fal⟩ hn) ?_;rintro⟨w0,w1,w2,w3,w4,e,ts2,al2⟩ ⟨-,rfl⟩;dsimp only)|(refine aE (hV _ _ _ _ _ _ _ (un (by assumption)).2.1 (un (by assumption)).2.2 hn) ?_;rintro⟨w0,w1,w2,w3,w4,e,ts2,al2⟩ ⟨-,rfl⟩;dsimp only)|fail)
  all_goals first|exact⟨_,_,_,_,_,_,_,_,_,rfl,rfl,rfl⟩|(have:=(un (by assumption)).1;first|(simp only[bnl,lnl];done)|(simp only[bnl,lnl];omega))|skip
  ·rename_i h
   intro h12
   rcases hf h with h'|h'
   ·exact absurd h' h12
   ·exact n5 h'
 have two:∀(f:Bool)(al x0:Int)(x1:List UInt8)(x2:List aH)(x3:List (List UInt8))(x4:Int),Tot (ic 1000 (deep,c0,c1,c2,c3,c4,k0,k1,k2,k3,k4,k5,k6,k7,k8,k9,f,ts,al,x0,x1,x2,x3,x4)) (fun z=>∃(y0:Int)(y1:List UInt8)(y2:List aH)(y3:List (List UInt8))(y4 y5:Int)(y6:List aA)(y7:Int)(rest:List aK),z.1.dimR=.tup [.agg [.int .u64 y0,.str y1,.sl .aval (.may false) y2,.sl .str (.may false) y3,.int .i64 y4],.int .i64 y5]∧z.2=some [.sl .atype (.may false) y6,.int .i64 y7]::rest∧di ts all t c0 c1 c2 c3 c4 deep (y0,y1,y2,y3,y4,y5,y6,y7)):=by
  intro f al x0 x1 x2 x3 x4
  unfold ic ko
  dsimp only
  repeat' (first|(with_reducible refine aC ?_ ?_<;>(intro hb;(try simp only[bnl] at hb);(try revert hb;intro _)))|with_reducible refine aJ ?_ ?_|with_reducible refine aF ?_|(refine aE (aBG _ (by omega)) ?_;intro _ _)|fail)
  all_goals first|exact three _ _ _ _ _ _ _ _|exact four _ _ _ _ _ _|(refine five _ _ _ _ _ _ _ ?_)|skip
  all_goals (intro hh;first|exact .inl (by assumption)|(simp at hh;done)|(right;simp at hh;exact hh))
 have one:∀(f g:Bool)(al x0:Int)(x1:List UInt8)(x2:List aH)(x3:List (List UInt8))(x4:Int),Tot (ig 1000 (deep,c0,c1,c2,c3,c4,k0,k1,k2,k3,k4,k5,k6,k7,k8,k9,f,g,ts,al,x0,x1,x2,x3,x4)) (fun z=>∃(y0:Int)(y1:List UInt8)(y2:List aH)(y3:List (List UInt8))(y4 y5:Int)(y6:List aA)(y7:Int)(rest:List aK),z.1.dimR=.tup [.agg [.int .u64 y0,.str y1,.sl .aval (.may false) y2,.sl .str (.may false) y3,.int .i64 y4],.int .i64 y5]∧z.2=some [.sl .atype (.may false) y6,.int .i64 y7]::rest∧di ts all t c0 c1 c2 c3 c4 deep (y0,y1,y2,y3,y4,y5,y6,y7)):=by
  intro f g al x0 x1 x2 x3 x4
  unfold ig kp
  dsimp only
  repeat' (first|(with_reducible refine aC ?_ ?_<;>(intro hb;(try simp only[bnl] at hb);(try revert hb;intro _)))|with_reducible refine aJ ?_ ?_|with_reducible refine aF ?_|(refine aE (att _) ?_;intro _ _)|(refine aE (aqW _) ?_;intro _ _)|fail)
  all_goals first|exact two _ _ _ _ _ _ _|exact⟨_,_,_,_,_,_,_,_,_,rfl,rfl,rfl⟩
 have zero:∀(f g:Bool)(al x0:Int)(x1:List UInt8)(x2:List aH)(x3:List (List UInt8))(x4:Int),Tot (lL 1000 (deep,c0,c1,c2,c3,c4,k0,k1,k2,k3,k4,k5,k6,k7,k8,k9,f,g,ts,al,x0,x1,x2,x3,x4)) (fun z=>∃(y0:Int)(y1:List UInt8)(y2:List aH)(y3:List (List UInt8))(y4 y5:Int)(y6:List aA)(y7:Int)(rest:List aK),z.1.dimR=.tup [.agg [.int .u64 y0,.str y1,.sl .aval (.may false) y2,.sl .str (.may false) y3,.int .i64 y4],.int .i64 y5]∧z.2=some [.sl .atype (.may false) y6,.int .i64 y7]::rest∧di ts all t c0 c1 c2 c3 c4 deep (y0,y1,y2,y3,y4,y5,y6,y7)):=by
  intro f g al x0 x1 x2 x3 x4
  unfold lL kq
  dsimp only
  repeat' (first|(with_reducible refine aC ?_ ?_<;>(intro hb;(try simp only[bnl] at hb);(try revert hb;intro _)))|with_reducible refine aJ ?_ ?_|with_reducible refine aF ?_|fail)
  all_goals exact one _ _ _ _ _ _ _ _
 repeat' (first|(with_reducible refine aC ?_ ?_<;>(intro hb;(try simp only[bnl] at hb);(try revert hb;intro _)))|with_reducible refine aJ ?_ ?_|with_reducible refine aF ?_|fail)
 all_goals first|exact zero _ _ _ _ _ _ _ _|exact⟨_,_,_,_,_,_,_,_,_,rfl,rfl,rfl⟩
theorem atE(ts:List aA)(hs:cw ts):∀(n:Nat)(deep:Int),deep+n=21→1≤deep→am0 ts deep
 |0,deep,h,h1=>arw ts hs deep (by omega) (fun h'=>by omega)
 |n+1,deep,h,h1=>arw ts hs deep (by omega) (fun _=>atE ts hs n (deep+1) (by omega) (by omega))
theorem atF(ts:List aA)(hs:cw ts)(t c0 c1:Int)(c2:List UInt8)(c3:List aD)(c4:List (List UInt8))(ht:0≤t∧t<ts.length)(hn:bp (.mk c0 c1 c2 c3 c4)):∃r,pJ ts t c0 c1 c2 c3 c4 r:=by
 by_cases hok:okV ts t c0 c1 c2 c3 c4
 ·obtain⟨r,h0,h⟩:=hok
  exact⟨r,h,fun _=>h0⟩
 apply aro 1
 unfold aia ah9
 dsimp only
 refine aE (ae0 _ _) ?_
 intro b _
 refine aC (fun _=>aF ⟨_,_,_,_,_,_,_,rfl,rfl,fun h=>absurd h hok⟩) (fun _=>?_)
 refine aE (atE ts hs 20 1 (by omega) (by omega) _ _ _ _ _ _ _ ht.1 ht.2 hn) ?_
 rintro r _
 repeat' (first|(with_reducible refine aC ?_ ?_<;>(intro hb;(try simp only[bnl] at hb);(try revert hb;intro _)))|with_reducible refine aJ ?_ ?_|with_reducible refine aF ?_|fail)
 all_goals exact⟨_,_,_,_,_,_,_,rfl,rfl,fun h=>absurd h hok⟩
def aA4(ts:List aA)(f:aM):Prop:=f.hasdef=true→okV ts f.typ f.df.kind f.df.n f.df.s f.df.l f.df.names
def aCC(ts:List aA)(t:aA):Prop:=∀f∈t.fields,aA4 ts f
theorem aAg(ts:List aA)(hs:cw ts):∃r,tJ ts r:=by
 have h60:=hs.1
 apply arq 1000
 unfold aib sd
 refine aU (fun x=>match x with|(ts',i)=>ts'=ts∧0≤i∧i≤(ts.length:Int)∧∀j:Nat,(j:Int)<i→aCC ts (ts.getD j (aB .atype))) (fun x=>((ts.length:Int)-x.2).toNat) ?_ _ _ ⟨rfl,by simp,by simp,fun j hj=>absurd hj (by omega)⟩ (by simp;omega)
 rintro again ⟨ts',i⟩ ⟨rfl,i1,i2,i3⟩ ih
 dsimp only at i1 i2 ih
 have ei:i<ts'.length→IntKind.i64.wrap (i+1)=i+1:=fun h=>aI (i+1) (by omega)
 unfold vH tv
 dsimp only
 refine aC (fun h=>?_) (fun h=>aF ⟨_,_,_,_,rfl,rfl,fun _=>?_⟩)
 rotate_left
 ·have h:=of_decide_eq_false h
  intro t ht
  obtain⟨j,hj,rfl⟩:=List.getElem_of_mem ht
  have:=i3 j (by omega)
  rwa [mZ (List.getElem?_eq_getElem hj)] at this
 have h:=of_decide_eq_true h
 have hl:i.toNat<ts'.length:=by omega
 have hT:=hs.2 ts'[i.toNat] (List.getElem_mem hl)
 have hg:ts'.getD i.toNat (aB .atype)=ts'[i.toNat]:=mZ (List.getElem?_eq_getElem hl)
 generalize hk:ts'[i.toNat]=k at hT hg
 have hnf:=hT.nf
 refine aU (fun x=>match x with|(ts2,i',j)=>ts2=ts'∧i'=i∧0≤j∧j≤(k.fields.length:Int)∧∀m:Nat,(m:Int)<j→aA4 ts' (k.fields.getD m (aB .afield))) (fun x=>((k.fields.length:Int)-x.2.2).toNat) ?_ _ _ ⟨rfl,rfl,by simp,by simp,fun m hm=>absurd hm (by omega)⟩ (by simp;omega)
 rintro again1 ⟨ts2,i',j⟩ ⟨rfl,rfl,j1,j2,j3⟩ ih1
 dsimp only at j1 j2 ih1
 have ej:j<k.fields.length→IntKind.i64.wrap (j+1)=j+1:=fun h=>aI (j+1) (by omega)
 have next:j<k.fields.length→aA4 ts2 (k.fields.getD j.toNat (aB .afield))→Tot (again1 (ts2,i',IntKind.i64.wrap (j+1))) _:=fun hj hd=>ih1 (ts2,i',IntKind.i64.wrap (j+1)) (by
   simp only[ej hj]
   refine⟨trivial,trivial,by omega,by omega,fun m hm=>?_⟩
   by_cases hmj:(m:Int)<j
   ·exact j3 m hmj
   ·obtain rfl:m=j.toNat:=by omega
    exact hd) (by simp only[ej hj];omega)
 unfold qh
 dsimp only
 rw[hg]
 refine vck (aC (fun hj=>?_) (fun hj=>?_))
 ·have hj:=of_decide_eq_true hj
  have hjl:j.toNat<k.fields.length:=by omega
  have hf:=hT.fields k.fields[j.toNat] (List.getElem_mem hjl)
  refine vck (vck ?_)
  rw[mZ (List.getElem?_eq_getElem hjl)] at next ⊢
  refine aC (fun hd=>next hj (fun h=>absurd h (by simpa using hd))) (fun _=>?_)
  refine aE (atF ts2 hs _ _ _ _ _ _ ⟨hf.1,hf.2.1⟩ (bp.eta.2 hf.2.2)) ?_
  intro r hr
  exact aC (fun hne=>aF ⟨_,_,_,_,rfl,rfl,fun h=>absurd h (by simpa using hne)⟩) (fun h0=>next hj (fun _=>⟨r,by simpa using h0,hr.1⟩))
 ·have hj:=of_decide_eq_false hj
  refine ih (ts2,_) (by
   simp only[ei h]
   refine⟨trivial,by omega,by omega,fun m hm=>?_⟩
   by_cases hmi:(m:Int)<i'
   ·exact i3 m hmi
   ·obtain rfl:m=i'.toNat:=by omega
    rw[hg]
    intro f hf
    obtain⟨q,hq,rfl⟩:=List.getElem_of_mem hf
    have:=j3 q (by omega)
    rwa [mZ (List.getElem?_eq_getElem hq)] at this) (by simp only[ei h];omega)
end Go.Proofs.Ytdpajabhmmmjoaa
end
noncomputable section
namespace Go.Proofs.Ytdpajabhmmmjoaa
open Go.AM
set_option autoImplicit false
set_option linter.unusedVariables false
set_option linter.unusedSimpArgs false
set_option maxRecDepth 100000
theorem am1{ts:List aA}(hs:cw ts):uJ ts (rkB ts):=(aeb (arh ts hs)).2
theorem aA5(ts:List aA)(hs:cw ts):∃l,xx ts l:=by
 apply awZ 1000
 unfold aop yw
 dsimp only
 have hR:=(am1 hs).1
 have hn:=hs.1
 refine as2 (arh ts hs) (fun _=>?_)
 change Tot (aR 1000 (wI 1000) (([]:List Bool),rkB ts,((rkB ts).length:Int),0)) _
 have hl:=hR.len
 refine aU (fun x=>match x with|(l,r,n,i)=>r=rkB ts∧n=((rkB ts).length:Int)∧0≤i∧i≤((rkB ts).length:Int)∧l=((rkB ts).take i.toNat).map fun q=>decide (0≤q))
  (fun x=>(((rkB ts).length:Int)-x.2.2.2).toNat) ?_ _ _ ⟨rfl,rfl,by simp,by simp,by simp⟩ (by simp;omega)
 rintro again ⟨l,r,n,i⟩ ⟨rfl,rfl,i1,i2,rfl⟩ ih
 dsimp only at ih
 unfold wI
 dsimp only
 refine aC (fun h=>?_) (fun h=>?_)
 ·have h:=of_decide_eq_true h
  have ei:IntKind.i64.wrap (i+1)=i+1:=aI (i+1) (by omega)
  have eit:(i+1).toNat=i.toNat+1:=by omega
  have ht:=wE (rkB ts) i.toNat 0 (by omega)
  refine vck (aJ (decide_eq_true (by simp only[List.length_map,List.length_take,List.length_singleton];omega)) ?_)
  refine ih (_,rkB ts,_,_) ?_ (by simp only[ei];omega)
  simp only[ei]
  rw[eit,ht,List.map_append]
  exact⟨trivial,trivial,by omega,by omega,rfl⟩
 ·have h:=of_decide_eq_false h
  refine aF ⟨_,_,rfl,rfl,?_⟩
  rw[List.take_of_length_le (by omega)]
  rfl
end Go.Proofs.Ytdpajabhmmmjoaa
end
noncomputable section
namespace Go.Proofs.Ytdpajabhmmmjoaa
open Go.AM
set_option autoImplicit false
set_option linter.unusedSimpArgs false
set_option linter.unusedVariables false
set_option maxRecDepth 100000
section
variable{ts:List aA}(hs:cw ts)
include hs
theorem apK:(sM ts).length=ts.length:=by rw[sM,List.length_map];exact(am1 hs).1.len
theorem axb(r:List aA)(hr:cw r)(t q:Int):∃x,jU ts r t q x:=azc hs hr t q (aA5 ts hs) (apK hs)
end
end Go.Proofs.Ytdpajabhmmmjoaa
end
noncomputable section
namespace Go.Proofs.Ytdpajabhmmmjoaa
open Go.AM
set_option autoImplicit false
set_option linter.unusedSimpArgs false
set_option linter.unusedVariables false
set_option maxRecDepth 100000
theorem atG(ts:List aA)(t:Int):∀(l:List aH)(i:Nat),bV ts t l=true→i<l.length→bm ts t (l.getD i (aB .aval))=true
 | [],i,h,hi=>by simp at hi
 |v::l,0,h,hi=>by
  simp only[bV,Bool.and_eq_true] at h
  exact h.1
 |v::l,i+1,h,hi=>by
  simp only[bV,Bool.and_eq_true] at h
  exact atG ts t l i h.2 (by simpa using hi)
theorem apL(ts:List aA):∀(fs:List aM)(l:List aH)(i:Nat),oQ ts fs l=true→i<l.length→bm ts (fs.getD i (aB .afield)).typ (l.getD i (aB .aval))=true
 |fs,[],i,h,hi=>by simp at hi
 |fs,v::l,0,h,hi=>by
  simp only[oQ,Bool.and_eq_true] at h
  cases fs<;>exact h.1
 |fs,v::l,i+1,h,hi=>by
  simp only[oQ,Bool.and_eq_true] at h
  have:=apL ts fs.tail l i h.2 (by simpa using hi)
  cases fs<;>simpa using this
section
variable{ts:List aA}{t n:Int}{s:List UInt8}{l:List aH}{ks:List (List UInt8)}{b:Int}
theorem aCD(e:(ts.getD t.toNat (aB .atype)).kind=9)(h:bm ts t (.mk n s l ks b)=true):l.length=(ts.getD t.toNat (aB .atype)).fields.length∧oQ ts (ts.getD t.toNat (aB .atype)).fields l=true:=by
 rw[bm,Bool.and_eq_true] at h
 have h:=h.2
 simp only[e] at h
 have h:((decide (l.length=(ts.getD t.toNat (aB .atype)).fields.length)&&oQ ts (ts.getD t.toNat (aB .atype)).fields l)&&dE n s [] ks b)=true:=h
 simp only[Bool.and_eq_true,decide_eq_true_eq] at h
 exact h.1
theorem aCv(e:(ts.getD t.toNat (aB .atype)).kind=12)(h:bm ts t (.mk n s l ks b)=true):bV ts (ts.getD t.toNat (aB .atype)).items l=true:=by
 rw[bm,Bool.and_eq_true] at h
 have h:=h.2
 simp only[e] at h
 have h:(bV ts (ts.getD t.toNat (aB .atype)).items l&&dE n s [] ks b)=true:=h
 exact(Bool.and_eq_true_iff.1 h).1
theorem aCw(e:(ts.getD t.toNat (aB .atype)).kind=13)(h:bm ts t (.mk n s l ks b)=true):ks.length=l.length∧bV ts (ts.getD t.toNat (aB .atype)).items l=true:=by
 rw[bm,Bool.and_eq_true] at h
 have h:=h.2
 simp only[e] at h
 have h:((((ks.length:Int)==(l.length:Int))&&(je ks&&bV ts (ts.getD t.toNat (aB .atype)).items l))&&dE n s [] [] b)=true:=h
 simp only[Bool.and_eq_true,beq_iff_eq] at h
 exact⟨by omega,h.1.2.2⟩
theorem aCx(e:(ts.getD t.toNat (aB .atype)).kind=14)(h:bm ts t (.mk n s l ks b)=true):0≤b∧b<(ts.getD t.toNat (aB .atype)).branches.length∧∃v,l=[v]∧bm ts ((ts.getD t.toNat (aB .atype)).branches.getD b.toNat 0) v=true:=by
 rw[bm,Bool.and_eq_true] at h
 have h:=h.2
 simp only[e] at h
 have h:((decide (0≤b)&&(decide (b<((ts.getD t.toNat (aB .atype)).branches.length:Int))&&(((l.length:Int)==1)&&bV ts ((ts.getD t.toNat (aB .atype)).branches.getD b.toNat 0) l)))&&dE n s [] ks 0)=true:=h
 simp only[Bool.and_eq_true,decide_eq_true_eq,beq_iff_eq] at h
 obtain⟨⟨h1,h2,h3,h4⟩, -⟩:=h
 match l,h3,h4 with
 | [v],h3,h4=>
   simp only[bV,Bool.and_true] at h4
   exact⟨h1,h2,v,rfl,h4⟩
theorem aAh{v:aH}(h:bm ts t v=true)(e:(ts.getD t.toNat (aB .atype)).kind=9):v.l.length=(ts.getD t.toNat (aB .atype)).fields.length∧oQ ts (ts.getD t.toNat (aB .atype)).fields v.l=true:=by
 cases v;exact aCD e h
theorem aBH{v:aH}(h:bm ts t v=true)(e:(ts.getD t.toNat (aB .atype)).kind=12):bV ts (ts.getD t.toNat (aB .atype)).items v.l=true:=by
 cases v;exact aCv e h
theorem aBI{v:aH}(h:bm ts t v=true)(e:(ts.getD t.toNat (aB .atype)).kind=13):v.keys.length=v.l.length∧bV ts (ts.getD t.toNat (aB .atype)).items v.l=true:=by
 cases v;exact aCw e h
theorem ayr{v:aH}(h:bm ts t v=true)(e:(ts.getD t.toNat (aB .atype)).kind=14):0≤v.branch∧v.branch<(ts.getD t.toNat (aB .atype)).branches.length∧∃x,v.l=[x]∧bm ts ((ts.getD t.toNat (aB .atype)).branches.getD v.branch.toNat 0) x=true:=by
 cases v;exact aCx e h
theorem apM{v:aH}(h:bm ts t v=true):0≤t∧t<ts.length:=by
 cases v
 rw[bm,Bool.and_eq_true] at h
 simpa [isT] using h.1
theorem aBJ{v:aH}(h:bm ts t v=true)(e:(ts.getD t.toNat (aB .atype)).kind=10)(hn:(ts.getD t.toNat (aB .atype)).syms.length≤1000):0≤v.n∧v.n<(ts.getD t.toNat (aB .atype)).syms.length:=by
 obtain⟨n,s,l,ks,b⟩:=v
 rw[bm,Bool.and_eq_true] at h
 have h:=h.2
 simp only[e] at h
 have h:(vV 10 (ts.getD t.toNat (aB .atype)).syms n&&dE 0 s l ks b)=true:=h
 have h:(decide (0≤n)&&decide (n<IntKind.wrap .u64 ((ts.getD t.toNat (aB .atype)).syms.length:Int)))=true:=(Bool.and_eq_true_iff.1 h).1
 rw[oD _ (by omega)] at h
 simp only[Bool.and_eq_true,decide_eq_true_eq] at h
 exact h
end
end Go.Proofs.Ytdpajabhmmmjoaa
end
noncomputable section
namespace Go.Proofs.Ytdpajabhmmmjoaa
open Go.AM
set_option autoImplicit false
set_option linter.unusedSimpArgs false
set_option linter.unusedVariables false
set_option maxRecDepth 100000
section
variable{has:List Bool}{w r:List aA}
theorem arx:∀(n:Nat)(L:List (Int×Int)),left (iz w.length r.length) L<n→pP has w r (oG has w r n L)=oG has w r n L
 |0,L,h=>by omega
 |n+1,L,h=>by
  rw[oG]
  rcases asU (has:=has) (w:=w) (r:=r) (iz w.length r.length) (iz w.length r.length) L (fun _ h=>h) with e|⟨e1,e2⟩
  ·have e:pP has w r L=L:=e
   rw[e,if_pos rfl,e]
  ·have e1:L.length<(pP has w r L).length:=e1
   have e2:left (iz w.length r.length) (pP has w r L)<left (iz w.length r.length) L:=e2
   rw[if_neg (by omega)]
   exact arx n _ (by omega)
theorem atH(L:List (Int×Int))(p:Int×Int):fM has w r L p=L∨fM has w r L p=L++[p]:=by
 unfold fM
 split
 ·exact .inl rfl
 ·exact .inr rfl
theorem axc:∀(ps L:List (Int×Int)),L.length≤(ps.foldl (fM has w r) L).length
 | [],L=>Nat.le_refl _
 |p::ps,L=>by
  have ih:=axc ps (fM has w r L p)
  rw[List.foldl_cons]
  refine Nat.le_trans ?_ ih
  rcases atH (has:=has) (w:=w) (r:=r) L p with e|e<;>rw[e]<;>simp
theorem axd:∀(ps L:List (Int×Int)),ps.foldl (fM has w r) L=L→∀p∈ps,fM has w r L p=L
 | [],L,_,p,hp=>by cases hp
 |a::ps,L,h,p,hp=>by
  rw[List.foldl_cons] at h
  have ha:fM has w r L a=L:=by
   rcases atH (has:=has) (w:=w) (r:=r) L a with e|e
   ·exact e
   ·have:=axc (has:=has) (w:=w) (r:=r) ps (fM has w r L a)
    rw[h,e] at this
    simp at this
    omega
  rw[ha] at h
  rcases List.mem_cons.1 hp with rfl|hp
  ·exact ha
  ·exact axd ps L h p hp
theorem aAi{t q:Int}(ht:isT w t=true)(hq:isT r q=true)(h:inL (oG has w r (w.length*r.length+1) []) (t,q)=false):acq has (inL (oG has w r (w.length*r.length+1) [])) w r t q=true:=by
 have hl0:left (iz w.length r.length) []=w.length*r.length:=by
  rw[left,←awU];congr 1;simp[inL]
 have he:=arx (has:=has) (w:=w) (r:=r) (w.length*r.length+1) [] (by omega)
 generalize oG has w r (w.length*r.length+1) []=L at*
 simp only[isT,Bool.and_eq_true,decide_eq_true_eq] at ht hq
 have hm:(t,q)∈iz w.length r.length:=by
  have:=awV (n:=w.length) (m:=r.length) (i:=t.toNat) (k:=q.toNat) (by omega) (by omega)
  rwa [Int.toNat_of_nonneg ht.1,Int.toNat_of_nonneg hq.1] at this
 have hv:=axd (has:=has) (w:=w) (r:=r) (iz w.length r.length) L he _ hm
 unfold fM at hv
 split at hv
 ·rename_i hc
  simpa [h] using hc
 ·simp at hv
end
section
variable{ts:List aA}(hs:cw ts)
include hs
theorem aA6{t:Nat}(ht:t<ts.length):(sM ts).getD t false=decide (0≤(rkB ts).getD t 0):=by
 have l1:=apK hs
 have l3:=(am1 hs).1.len
 simp only[List.getD_eq_getElem?_getD]
 rw[List.getElem?_eq_getElem (by omega),List.getElem?_eq_getElem (by omega)]
 simp[sM]
theorem am2:∀(n:Nat)(v:aH)(t:Int),szV v<n→bm ts t v=true→0≤rk (rkB ts) t
 |0,_,_,h,_=>by omega
 |n+1,v,t,h,hf=>by
  obtain⟨hB,hF⟩:=am1 hs
  have ht:=apM hf
  rcases Int.lt_or_le (rk (rkB ts) t) 0 with e|e
  ·exfalso
   have hsz:szV v=szL v.l+1:=by cases v;rfl
   rcases hF t.toNat (by omega) e with⟨h9,f,hf9,h4⟩|⟨h14,h4⟩
   ·obtain⟨h1,h2⟩:=aAh hf h9
    obtain⟨i,hi,rfl⟩:=List.getElem_of_mem hf9
    have h3:=apL ts _ _ i h2 (by omega)
    rw[mZ (List.getElem?_eq_getElem hi)] at h3
    have:=am2 n _ _ (by have:=ang v.l i (by omega);omega) h3
    omega
   ·obtain⟨h1,h2,x,h3,h5⟩:=ayr hf h14
    have:=am2 n _ _ (by rw[h3] at hsz;simp only[szL] at hsz;omega) h5
    have h6:=h4 _ (cA _ _ 0 (by omega):(ts.getD t.toNat (aB .atype)).branches.getD v.branch.toNat 0∈_)
    omega
  ·exact e
theorem aAj{v:aH}{t:Int}(hf:bm ts t v=true):(sM ts).getD t.toNat false=true:=by
 have ht:=apM hf
 rw[aA6 hs (by omega)]
 exact decide_eq_true (am2 hs (szV v+1) v t (by omega) hf)
end
end Go.Proofs.Ytdpajabhmmmjoaa
end
noncomputable section
namespace Go.Proofs.Ytdpajabhmmmjoaa
open Go.AM
set_option autoImplicit false
set_option linter.unusedVariables false
set_option maxRecDepth 100000
noncomputable def avb:aN:=tab (P:=Try.prog) [] [] [] [acX,aj0]
def ata:IR:=Rs [Mb 0 false] (Rs [Pp (.bld 3 [vI 0,vS,fu .str true,vI 0,fu .str true,.bool false,vS,vI 0,fu .afield true,fu (.num .i64) true] [(0,1,kI 3)]),Pp (.bsl 4 .atype [3] true),Pp (.bld 5 [nl .atype] [(0,1,4)]),Pp (.alr 1 1),Fz 1 1 5] (Rs [Pp (.bld 6 [vI 0,vS,fu .str true,vI 0,fu .str true,.bool false,vS,vI 0,fu .afield true,fu (.num .i64) true] [(0,1,kI 4)]),Pp (.bsl 7 .atype [6] true),Pp (.bld 8 [nl .atype] [(0,1,7)]),Pp (.alr 2 1),Fz 2 1 8] (Rs [Ld 9 1 true 1,Ld 10 1 true 2,Ca 11 30 [9,10,kI 0,kI 0],Mv 12 11,Gt 12 (.lde 13 1 true 2),Gt 12 (.lde 14 1 true 1),Gt 12 (.call 15 30 [13,14,kI 0,kI 0]),Gt 12 (.un 16 .not 15),Pa 17 12 16,Mv 18 17,Gt 18 (.lde 19 1 true 1),Gt 18 (.lde 20 1 true 2),Gt 18 (.call 21 32 [19,20,kI 0,kI 0]),Pa 22 18 21,Mv 23 22,Gt 23 (.lde 24 1 true 2),Gt 23 (.lde 25 1 true 1),Gt 23 (.call 26 32 [24,25,kI 0,kI 0]),Gt 23 (.un 27 .not 26),Pa 28 23 27,Mv 0 28] .ret)))
def atb:List RV:=[.t 0]
theorem atc:FnC Try.prog avb [] 0 ajV Try.f28 ata atb:=fnC Try.func28
def aiy(N:Nat):Ro:=
 aG (jT ([⟨3,([]:Bs),([]:Bss),0,([]:Bss),false,([]:Bs),0,([]:List aM),([]:List Int)⟩]:List aA) ([⟨4,([]:Bs),([]:Bss),0,([]:Bss),false,([]:Bs),0,([]:List aM),([]:List Int)⟩]:List aA) 0 0) (fun(r1:Bool)=>
  cond r1 (
   aG (jT ([⟨4,([]:Bs),([]:Bss),0,([]:Bss),false,([]:Bs),0,([]:List aM),([]:List Int)⟩]:List aA) ([⟨3,([]:Bs),([]:Bss),0,([]:Bss),false,([]:Bs),0,([]:List aM),([]:List Int)⟩]:List aA) 0 0) (fun(r2:Bool)=>
    cond (!r2) (
     aG (jU ([⟨3,([]:Bs),([]:Bss),0,([]:Bss),false,([]:Bs),0,([]:List aM),([]:List Int)⟩]:List aA) ([⟨4,([]:Bs),([]:Bss),0,([]:Bss),false,([]:Bs),0,([]:List aM),([]:List Int)⟩]:List aA) 0 0) (fun(r3:Bool)=>
      cond r3 (
       aG (jU ([⟨4,([]:Bs),([]:Bss),0,([]:Bss),false,([]:Bs),0,([]:List aM),([]:List Int)⟩]:List aA) ([⟨3,([]:Bs),([]:Bss),0,([]:Bss),false,([]:Bs),0,([]:List aM),([]:List Int)⟩]:List aA) 0 0) (fun(r4:Bool)=>
        some (.bool (!r4),[]))) (
       some (.bool false,[])))) (
     some (.bool false,[])))) (
   some (.bool false,[])))
def aiz(N:Nat):Ro:=aiy N
theorem ary(N:Nat)(h:Tot (aiz N ) (fun z=>∃(y0:Bool)(rest:List aK),z.1.dimR=.bool y0∧z.2=rest∧aez  (y0))):∃r,tR  r:=atc.finP (N:=N) (by kernel_rfl) h fun _ ⟨y0,_,e,_,q⟩=>⟨(y0),e,q⟩
end Go.Proofs.Ytdpajabhmmmjoaa
end
