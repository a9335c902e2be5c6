import Derived.KernelRfl
import Derived.Test.YtdpajabhmmmjoaaGreatZ02
import Derived.Test.YtdpajabhmmmjoaaGreatZ03
noncomputable section
namespace Go.Proofs.YtdpajabhmmmjoaaGreat
open Go.AM
set_option autoImplicit false
set_option linter.unusedVariables false
set_option maxRecDepth 100000
noncomputable def apC:aN:=tab (P:=Tryz.prog) [] [] [] []
def anH:IR:=Rs [Mi 4 0] (Sq (Sq (.reg [Mv 5 0,Nk 6 5,Fa 7 1 6,Fo [0] [] (.ld 8 1 false false 7),Mv 9 0,Nk 10 9,Fa 11 0 10,Fo [0] [] (.ld 12 1 false false 11),Ll 13 12,Bi 14 .geq 8 13] [[],[0],[0,1],[0,1,2],[],[4],[4,5],[4,5,6],rg 4 7,rg 0 8]) (Cn 14 (Rs [Mi 4 0] .ret) .skip)) (Rs [Mv 15 0,Nk 16 15,Fa 17 1 16,Lo 18 17,Bc 19 .add 18 1,Nk 20 15,Fa 21 1 20,Sv 1 21 19] (Sq (.reg [Mv 22 0,Nk 23 22,Fa 24 0 23,Fo [0] [] (.ld 25 1 false false 24),Mv 26 0,Nk 27 26,Fa 28 1 27,Fo [0] [] (.ld 29 1 false false 28),Bc 30 .sub 29 1,Ix 31 .u8 25 30,Lq 32 31,Pp (.cvi 33 .i64 32),Mv 34 1,Bi 35 .rem 33 34,Mv 4 35] [[],[0],[0,1],[0,1,2],[],[4],[4,5],[4,5,6],rg 4 7,rg 0 8,rg 0 9,rg 0 10,[],rg 0 12,rg 0 13]) .ret)))
def anI:List RV:=[.t 4]
theorem anJ:FnC Tryz.prog apC [] 1 adm Tryz.f17 anH anI:=fnC Tryz.func17
def acL(N:Nat)(a:Bs)(b c:Int):Ro:=
 let g:=(↑(List.length a):Int)
 let d:=fun h i=>(some (.int .i64 h,[some [.sl .u8 (.may false) a,.int .i64 i]]):Ro)
 cond (decide (g≤b)) (
 d 0 b) (
 let e:=(IntKind.wrap .i64 (b+1))
 let f:=(IntKind.wrap .i64 (e-1))
 chk (ixl f a) (
 let j:=(List.getD a (Int.toNat f) (aC .u8)).toNat
 chk (!(c==0)) (
 let k:=(Int.tmod (IntKind.wrap .i64 j) c)
 d k e)))
def acM(N:Nat)(a:Bs)(b c:Int):Ro:=acL N a b c
theorem amc(N:Nat)(a:Bs)(b i:Int)(h:Tot (acM N a b i) (fun z=>∃(c:Int)(d:Bs)(g:Int)(rest:List aJ),z.1.dimR=.int .i64 c∧z.2=some [.sl .u8 (.may false) d,.int .i64 g]::rest∧zT a b i (c,d,g))):∃r,aU a b i r:=FnC.finO (css:=[[.sl .u8 (.may false) a,.int .i64 b]]) anJ (N:=N) (by kernel_rfl) h fun _ ⟨c,d,g,_,e,f,q⟩=>⟨(c,d,g),e,⟨_,f⟩,q⟩
noncomputable def anK:aN:=tab (P:=Tryz.prog) [] [] [] []
def amd:IR:=Rs [Mb 2 false] (Sq (.reg [Mv 3 0,Nk 4 3,Fa 5 1 4,Fo [0] [] (.ld 6 1 false false 5),Mv 7 0,Nk 8 7,Fa 9 0 8,Fo [0] [] (.ld 10 1 false false 9),Ll 11 10,Bi 12 .geq 6 11,Mv 2 12] [[],[0],[0,1],[0,1,2],[],[4],[4,5],[4,5,6],rg 4 7,rg 0 8,rg 0 9]) .ret)
def ame:List RV:=[.t 2]
theorem amf:FnC Tryz.prog anK [] 1 aco Tryz.f16 amd ame:=fnC Tryz.func16
def abz(N:Nat)(a:Bs)(b:Int):Ro:=
 let c:=(↑(List.length a):Int)
 some (.bool (decide (c≤b)),[some [.sl .u8 (.may false) a,.int .i64 b]])
def abA(N:Nat)(a:Bs)(b:Int):Ro:=abz N a b
theorem akt(N:Nat)(a:Bs)(b:Int)(h:Tot (abA N a b) (fun z=>∃(c:Bool)(d:Bs)(g:Int)(rest:List aJ),z.1.dimR=.bool c∧z.2=some [.sl .u8 (.may false) d,.int .i64 g]::rest∧yI a b (c,d,g))):∃r,jH a b r:=FnC.finO (css:=[[.sl .u8 (.may false) a,.int .i64 b]]) amf (N:=N) (by kernel_rfl) h fun _ ⟨c,d,g,_,e,f,q⟩=>⟨(c,d,g),e,⟨_,f⟩,q⟩
noncomputable def aom:aN:=tab (P:=Tryz.prog) [] [] [] []
def amg:IR:=Rs [Pp (.mov 2 (.c .nilp))] (Rs [Mv 3 0,Pp (.bld 4 [fu .u8 true,vI 0] [(0,1,3)]),Pp (.box 5 4),Mv 2 5] .ret)
def amh:List RV:=[.t 2]
theorem axu:FnC Tryz.prog aom [] 0 anW Tryz.f5 amg amh:=fnC Tryz.func5
def ami(N:Nat)(a:Bs):Ro:=
 some (.ptr 0 0,[some [.sl .u8 (.may false) a,.int .i64 0]])
def adS(N:Nat)(a:Bs):Ro:=ami N a
theorem avw(N:Nat)(a:Bs):fT aom N 6 amh amg [.sl .u8 (.may false) a] []=adS N a:=by kernel_rfl
theorem avx(N:Nat)(a:Bs)(h:Tot (adS N a) (fun z=>∃(b:Bs)(c:Int)(rest:List aJ),z=(.ptr 0 0,[some [.sl .u8 (.may false) b,.int .i64 c]])∧agj a (b,c))):∃r,pc a r:=by
 obtain⟨z,hz,b,c,rest,rfl,hq⟩:=h
 exact⟨(b,c),axu.newFn (avw N a) hz,hq⟩
noncomputable def ay7:aN:=tab (P:=Tryz.prog) [] [] [] []
def axv:IR:=Rs [Pp (.new 2 [vI 0,vI 0,vS,nl .jnode,nl .str])] (Rs [Mv 3 0,Pp (.bld 4 [vI 0,vI 0,vS,nl .jnode,nl .str] [(0,1,kI 4),(2,1,3)]),Sv 5 2 4] .ret)
def axw:List RV:=[.cell 2 5 true]
theorem axx:FnC Tryz.prog ay7 [] 0 anX Tryz.f63 axv axw:=fnC Tryz.func63
def amj(N:Nat)(a:Bs):Ro:=
 some (.agg [.int .i64 4,.int .i64 0,.str a,.sl .jnode (.may false) ([]:List aH),.sl .str (.may false) ([]:Bss)],[some [.int .i64 4,.int .i64 0,.str a,.sl .jnode .own ([]:List aH),.sl .str .own ([]:Bss)]])
def amk(N:Nat)(a:Bs):Ro:=amj N a
theorem avy(N:Nat)(g:Bs)(h:Tot (amk N g) (fun z=>∃(a:Int)(b:Int)(c:Bs)(d:List aH)(f:Bss)(rest:List aJ),z.1.dimR=.agg [.int .i64 a,.int .i64 b,.str c,.sl .jnode (.may false) d,.sl .str (.may false) f]∧z.2=rest∧agk g (a,b,c,d,f))):∃r,bR g r:=axx.finP (N:=N) (by kernel_rfl) h fun _ ⟨a,b,c,d,f,_,e,_,q⟩=>⟨(a,b,c,d,f),e,q⟩
noncomputable def aml:aN:=tab (P:=Tryz.prog) [] [] [] []
def ajM:IR:=Rs [Pp (.new 4 [vI 0,vI 0,vS,nl .jnode,nl .str])] (Rs [Mv 5 0,Mv 6 1,Pp (.bld 7 [vI 0,vI 0,vS,nl .jnode,nl .str] [(0,1,kI 6),(4,1,5),(3,1,6)]),Sv 5 4 7] .ret)
def ajN:List RV:=[.cell 4 5 true]
theorem avz:FnC Tryz.prog aml [] 0 ak3 Tryz.f62 ajM ajN:=fnC Tryz.func62
def ajO(N:Nat)(a:Bool)(c:Bss)(b:Bool)(d:List aH):Ro:=
 some (.agg [.int .i64 6,.int .i64 0,.str ([]:Bs),.sl .jnode (.may b) d,.sl .str (.may a) c],[some [.int .i64 6,.int .i64 0,.str ([]:Bs),.sl .jnode (.may b) d,.sl .str (.may a) c]])
def acf(N:Nat)(a:Bool)(c:Bss)(b:Bool)(d:List aH):Ro:=ajO N a c b d
theorem as7(N:Nat)(a:Bool)(c:Bss)(b:Bool)(d:List aH):fT aml N 8 ajN ajM [.sl .str (.may a) c,.sl .jnode (.may b) d] []=acf N a c b d:=by kernel_rfl
theorem as8(N:Nat)(a:Bool)(c:Bss)(b:Bool)(d:List aH)(h:Tot (acf N a c b d) (fun z=>∃(e:Int)(f:Int)(g:Bs)(i:Bool)(j:List aH)(k:Bool)(l:Bss)(rest:List aJ),z.1=.agg [.int .i64 e,.int .i64 f,.str g,.sl .jnode (.may i) j,.sl .str (.may k) l]∧z.2=rest∧aeI a c b d (e,f,g,i,j,k,l))):∃r,fY a c b d r:=by
 obtain⟨⟨v,hp⟩,hz,e,f,g,i,j,k,l,rest,e1,e2,hq⟩:=h
 simp only at e1 e2
 subst e2
 subst e1
 exact⟨(e,f,g,i,j,k,l),avz.pure (as7 N a c b d) hz,hq⟩
noncomputable def ais:aN:=tab (P:=Tryz.prog) [] [] [] []
def ajP:IR:=Sq (Rs [Mv 7 6,Fa 8 4 2,Lq 9 8,Ll 10 9,Bi 11 .lss 7 10] (Cn 11 .skip (.exit 0))) (Sq (.block 1 (Rs [Fa 14 4 2,Lq 15 14,Mv 16 6,Ix 17 .str 15 16,Lq 18 17,Mv 19 1,Bi 20 .eql 18 19] (Cn 20 (Rs [Fa 21 3 2,Lq 22 21,Mv 23 6,Ix 24 .jnode 22 23,Ld 25 5 true 24,Sv 5 4 25,Mb 5 true] .ret) .skip))) (Rg [Mv 12 6,Bc 13 .add 12 1,Mv 6 13]))
def ajQ:IR:=Rs [Pp (.bld 26 [vI 0,vI 0,vS,nl .jnode,nl .str] []),Sv 5 4 26,Mb 5 false] .ret
def ay8:IR:=Rs [Bx 2 0,Pp (.new 4 [vI 0,vI 0,vS,nl .jnode,nl .str]),Mb 5 false] (Sq (Rs [Mi 6 0] (.block 0 (.loop [1,2,4,6,1000000] 1 ajP))) ajQ)
def aon:List RV:=[.cell 4 5 true,.t 5]
theorem ay9:FnC Tryz.prog ais [] 0 aqg Tryz.f89 ay8 aon:=fnC Tryz.func89
def axy(R:IR→(Ex→St→Ro)→St→Ro)(a:St→Ro):Ex→St→Ro:=(bF a [1,2,4,6,1000000] 1 (aQ 0 (bv (R ajQ) (fin aon))))
abbrev zw:Type:=(Bs×Int×Int×Bs×List aH×Bss×Int×Int×Int×Bs×List aH×Bss)
def xo:zw→St:=fun(c,d,e,f,g,h,i,j,k,l,a,b)=>{env:=(.undef::.str c::.ea [.int .i64 d,.int .i64 e,.str f,.sl .jnode (.may false) g,.sl .str (.may false) h]::.undef::.ptr 0 0::.undef::.int .i64 i::(U 20 [])),hp:=[some [.int .i64 j,.int .i64 k,.str l,.sl .jnode .own a,.sl .str .own b]]}
def adT(N:Nat):(St→Ro)→St→Ro:=fun a s=>run ais N ajP (axy (run ais N) a) s
def zx(N:Nat)(c:zw→Ro):zw→Ro:=fun(p,f,g,h,b,a,e,i,j,k,m,o)=>
 let v:=(↑(List.length a):Int)
 let q:=fun r t u w x y z g7=>(some (.tup [.agg [.int .i64 r,.int .i64 t,.str u,.sl .jnode (.may false) w,.sl .str (.may false) x],.bool y],[some [.int .i64 r,.int .i64 t,.str u,z,g7]]):Ro)
 cond (decide (e<v)) (
 chk (ixl e a) (
 let x2:=List.getD a (Int.toNat e) (aC .str)
 cond (decide (x2=p)) (
 chk (ixl e b) (
 let d:=(List.getD b (Int.toNat e) (aC .jnode))
 q d.kind d.n d.s d.l d.names true (.sl .jnode (.may false) d.l) (.sl .str (.may false) d.names))) (
 let x4:=(IntKind.wrap .i64 (e+1))
 c (p,f,g,h,b,a,x4,i,j,k,m,o)))) (
 q 0 0 ([]:Bs) ([]:List aH) ([]:Bss) false (.sl .jnode .own ([]:List aH)) (.sl .str .own ([]:Bss)))
theorem avA(N:Nat):LB (adT N) xo (zx N):=fun _ _=>by kernel_rfl
def wD(N:Nat)(a b:Int)(c:Bs)(d:List aH)(e:Bss)(f:Bs)(g:zw→Ro):Ro:=
 g (f,a,b,c,d,e,0,0,0,([]:Bs),([]:List aH),([]:Bss))
def aoo(N:Nat)(a b:Int)(c:Bs)(d:List aH)(e:Bss)(f:Bs):Ro:=wD N a b c d e f (fun z=>aS N (zx N) z)
theorem axz(N:Nat)(a c:Int)(d:Bs)(f:List aH)(g:Bss)(i:Bs)(h:Tot (aoo N a c d f g i) (fun z=>∃(j:Int)(k:Int)(l:Bs)(m:List aH)(n:Bss)(o:Bool)(rest:List aJ),z.1.dimR=.tup [.agg [.int .i64 j,.int .i64 k,.str l,.sl .jnode (.may false) m,.sl .str (.may false) n],.bool o]∧z.2=rest∧w5 a c d f g i (j,k,l,m,n,o))):∃r,uP a c d f g i r:=ay9.finP (N:=N) ((bM _ (by kernel_rfl) rfl (fun C=>wD N a c d f g i (fun z=>C 1000000 (xo z))) (fun C=>by kernel_rfl)).trans (Eq.trans (b:=wD N a c d f g i (fun z=>bo N (adT N) (xo z))) (by kernel_rfl) (congrArg (wD N a c d f g i) (funext fun z=>bk (xo) (adT N) (zx N) (avA N) N z)))) h fun _ ⟨j,k,l,m,n,o,_,e,_,q⟩=>⟨(j,k,l,m,n,o),e,q⟩
noncomputable def aAz:aN:=tab (P:=Tryz.prog) [] [] [] []
def aza:IR:=Rs [Bx 2 0,Mb 4 false] (Rs [Mv 5 1,Bc 6 .geq 5 0,Mv 7 6,Gt 7 (.mov 8 1),Gt 7 (.fad 9 0 2),Gt 7 (.lde 10 1 false 9),Gt 7 (.lenl 11 10),Gt 7 (.bin 12 .lss 8 11),Pa 13 7 12,Mv 4 13] .ret)
def azb:List RV:=[.t 4]
theorem azc:FnC Tryz.prog aAz [] 0 aqh Tryz.f21 aza azb:=fnC Tryz.func21
def aop(N:Nat)(a:List aA)(b:Int):Ro:=
 cond (decide (0≤b)) (
 let c:=(↑(List.length a):Int)
 some (.bool (decide (b<c)),[])) (
 some (.bool false,[]))
def aoq(N:Nat)(a:List aA)(b:Int):Ro:=aop N a b
theorem axA(N:Nat)(a:List aA)(c:Int)(h:Tot (aoq N a c) (fun z=>∃(b:Bool)(rest:List aJ),z.1.dimR=.bool b∧z.2=rest∧w6 a c (b))):∃r,kL a c r:=azc.finP (N:=N) (by kernel_rfl) h fun _ ⟨b,_,e,_,q⟩=>⟨(b),e,q⟩
noncomputable def adU:aN:=tab (P:=Tryz.prog) [] [] [] []
def ae6:IR:=Sq (Rs [Mv 6 4,Mv 7 3,Ll 8 7,Bi 9 .lss 6 8] (Cn 9 .skip (.exit 0))) (Sq (.block 1 (Rs [Mv 12 3,Mv 13 4,Ix 14 .str 12 13,Lq 15 14,Mv 16 0,Bi 17 .eql 15 16] (Cn 17 (Rs [Mv 18 4,Bc 19 .add 18 1,Mv 2 19] .ret) .skip))) (Rg [Mv 10 4,Bc 11 .add 10 1,Mv 4 11]))
def ae7:IR:=Rs [Mi 2 0] .ret
def avB:IR:=Rs [Mi 2 0] (Rs [Pp (.bsl 5 .str [kS [110,117,108,108],kS [98,111,111,108,101,97,110],kS [105,110,116],kS [108,111,110,103],kS [102,108,111,97,116],kS [100,111,117,98,108,101],kS [98,121,116,101,115],kS [115,116,114,105,110,103],kS [114,101,99,111,114,100],kS [101,110,117,109],kS [102,105,120,101,100],kS [97,114,114,97,121],kS [109,97,112],kS [117,110,105,111,110]] true),Mv 3 5] (Sq (Rs [Mi 4 0] (.block 0 (.loop [0,3,4,1000000] 0 ae6))) ae7))
def ajR:List RV:=[.t 2]
theorem avC:FnC Tryz.prog adU [] 0 ala Tryz.f59 avB ajR:=fnC Tryz.func59
def as9(R:IR→(Ex→St→Ro)→St→Ro)(a:St→Ro):Ex→St→Ro:=(bF a [0,3,4,1000000] 0 (aQ 0 (bv (R ae7) (fin ajR))))
abbrev vj:Type:=(Bs×Bool×Bss×Int)
def tl:vj→St:=fun(a,b,c,d)=>{env:=(.str a::.undef::.undef::.sl .str (.may b) c::.int .i64 d::(U 15 [])),hp:=[]}
def aaF(N:Nat):(St→Ro)→St→Ro:=fun a s=>run adU N ae6 (as9 (run adU N) a) s
def vk(N:Nat)(a:vj→Ro):vj→Ro:=fun(e,b,d,c)=>
 let f:=(↑(List.length d):Int)
 cond (decide (c<f)) (
 chk (ixl c d) (
 let g:=List.getD d (Int.toNat c) (aC .str)
 cond (decide (g=e)) (
 let h:=(IntKind.wrap .i64 (c+1))
 some (.int .i64 h,[])) (
 let i:=(IntKind.wrap .i64 (c+1))
 a (e,b,d,i)))) (
 some (.int .i64 0,[]))
theorem arj(N:Nat):LB (aaF N) tl (vk N):=fun _ _=>by kernel_rfl
def sj(N:Nat)(a:Bs)(b:vj→Ro):Ro:=
 b (a,true,([([110,117,108,108]:Bs),([98,111,111,108,101,97,110]:Bs),([105,110,116]:Bs),([108,111,110,103]:Bs),([102,108,111,97,116]:Bs),([100,111,117,98,108,101]:Bs),([98,121,116,101,115]:Bs),([115,116,114,105,110,103]:Bs),([114,101,99,111,114,100]:Bs),([101,110,117,109]:Bs),([102,105,120,101,100]:Bs),([97,114,114,97,121]:Bs),([109,97,112]:Bs),([117,110,105,111,110]:Bs)]:Bss),0)
def ajS(N:Nat)(a:Bs):Ro:=sj N a (fun z=>aS N (vk N) z)
theorem ata(N:Nat)(a:Bs)(h:Tot (ajS N a) (fun z=>∃(c:Int)(rest:List aJ),z.1.dimR=.int .i64 c∧z.2=rest∧aeJ a (c))):∃r,nI a r:=avC.finP (N:=N) ((bM _ (by kernel_rfl) rfl (fun C=>sj N a (fun z=>C 1000000 (tl z))) (fun C=>by kernel_rfl)).trans (Eq.trans (b:=sj N a (fun z=>bo N (aaF N) (tl z))) (by kernel_rfl) (congrArg (sj N a) (funext fun z=>bk (tl) (aaF N) (vk N) (arj N) N z)))) h fun _ ⟨c,_,e,_,q⟩=>⟨(c),e,q⟩
noncomputable def axB:aN:=tab (P:=Tryz.prog) [] [] [] []
def avD:IR:=Rs [Ms 2 []] (Rs [Pp (.bsl 4 .str [kS [],kS [110,117,108,108],kS [98,111,111,108,101,97,110],kS [105,110,116],kS [108,111,110,103],kS [102,108,111,97,116],kS [100,111,117,98,108,101],kS [98,121,116,101,115],kS [115,116,114,105,110,103],kS [114,101,99,111,114,100],kS [101,110,117,109],kS [102,105,120,101,100],kS [97,114,114,97,121],kS [109,97,112],kS [117,110,105,111,110]] true),Mv 3 4] (Sq (Rs [Mv 5 0,Bc 6 .lss 5 1,Mv 7 6,Gf 7 (.mov 8 0),Gf 7 (.bin 9 .gtr 8 (kI 14)),Po 10 7 9] (Cn 10 (Rs [Ms 2 []] .ret) .skip)) (Rs [Mv 11 3,Mv 12 0,Ix 13 .str 11 12,Lq 14 13,Mv 2 14] .ret)))
def avE:List RV:=[.t 2]
theorem avF:FnC Tryz.prog axB [] 0 ak9 Tryz.f99 avD avE:=fnC Tryz.func99
def ajT(N:Nat)(a:Int):Ro:=
 cond (decide (a<1)) (
 some (.str ([]:Bs),[])) (
 cond (decide (14<a)) (
 some (.str ([]:Bs),[])) (
 chk (ixl a ([([]:Bs),([110,117,108,108]:Bs),([98,111,111,108,101,97,110]:Bs),([105,110,116]:Bs),([108,111,110,103]:Bs),([102,108,111,97,116]:Bs),([100,111,117,98,108,101]:Bs),([98,121,116,101,115]:Bs),([115,116,114,105,110,103]:Bs),([114,101,99,111,114,100]:Bs),([101,110,117,109]:Bs),([102,105,120,101,100]:Bs),([97,114,114,97,121]:Bs),([109,97,112]:Bs),([117,110,105,111,110]:Bs)]:Bss)) (
 let b:=List.getD ([([]:Bs),([110,117,108,108]:Bs),([98,111,111,108,101,97,110]:Bs),([105,110,116]:Bs),([108,111,110,103]:Bs),([102,108,111,97,116]:Bs),([100,111,117,98,108,101]:Bs),([98,121,116,101,115]:Bs),([115,116,114,105,110,103]:Bs),([114,101,99,111,114,100]:Bs),([101,110,117,109]:Bs),([102,105,120,101,100]:Bs),([97,114,114,97,121]:Bs),([109,97,112]:Bs),([117,110,105,111,110]:Bs)]:Bss) (Int.toNat a) (aC .str)
 some (.str b,[]))))
def ajU(N:Nat)(a:Int):Ro:=ajT N a
theorem atb(N:Nat)(b:Int)(h:Tot (ajU N b) (fun z=>∃(a:Bs)(rest:List aJ),z.1.dimR=.str a∧z.2=rest)):∃r,t9 b r:=avF.finP0 (N:=N) (by kernel_rfl) h fun _ ⟨a,_,e,_⟩=>⟨(a),e⟩
noncomputable def afF:aN:=tab (P:=Tryz.prog) [] [] [] []
def agW:IR:=Sq (Rs [Mv 8 7,Fa 9 3 3,Lo 10 9,Ll 11 10,Bi 12 .lss 8 11,Mv 13 12,Gt 13 (.fad 14 3 3),Gt 13 (.ld 15 1 false false 14),Gt 13 (.mov 16 7),Gt 13 (.ixa 17 .str 15 16),Gt 13 (.lde 18 1 false 17),Gt 13 (.mov 19 1),Gt 13 (.bin 20 .lss 18 19),Pa 21 13 20] (Cn 21 .skip (.exit 0))) (.block 1 (Rg [Mv 22 7,Bc 23 .add 22 1,Mv 7 23]))
def ae8:IR:=Sq (Rs [Mv 24 7,Fa 25 3 3,Lo 26 25,Ll 27 26,Bi 28 .lss 24 27,Mv 29 28,Gt 29 (.fad 30 3 3),Gt 29 (.ld 31 1 false false 30),Gt 29 (.mov 32 7),Gt 29 (.ixa 33 .str 31 32),Gt 29 (.lde 34 1 false 33),Gt 29 (.mov 35 1),Gt 29 (.bin 36 .eql 34 35),Pa 37 29 36] (Cn 37 (Rs [Pp (.blu 38 .aval),Fa 39 2 3,Lo 40 39,Pp (.apu 41 .aval (.tk 38) 40),Fa 42 2 3,Sk 1 42 41] (Sq (.gh (.opn (.cell 0 2)) (.ghp (.cls (.cell 0 2)) (Rg [Fa 43 2 3,Lo 44 43,Mv 45 7,Ld 46 5 true 5,Pp (.ixw 47 .aval 44 45),Pp (.stw none 5 47 46)]))) (Sq (.gh (.fz (.cell 0 2)) (Rg [Pp (.ld 48 5 true false 3),Sv 5 6 48])) .ret))) .skip)) (Sq (.reg [Pp (.bsl 49 .str [] false),Fa 50 3 3,Fo [0] [] (.ld 51 1 false false 50),Mv 52 7,Pp (.subl 53 .str 51 none (some 52)),Pp (.app 54 .str (.tk 49) 53),Mv 55 1,Pp (.bsl 56 .str [55] true),Pp (.app 57 .str (.tk 54) 56),Fa 58 3 3,Fo [0] [] (.ld 59 1 false false 58),Mv 60 7,Pp (.subl 61 .str 59 (some 60) none),Pp (.app 62 .str (.tk 57) 61),Fa 63 3 3,Fo [] [0] (.st none 1 63 (.tk 62))] [[],[],[1],[],[1,2,3],rg 0 4,[],[6],rg 0 7,[],[9],[],[9,10,11],rg 0 12,rg 0 13,rg 0 14]) (Sq (.reg [Pp (.blu 64 .aval),Fa 65 2 3,Fo [0] [] (.ld 66 1 false false 65),Mv 67 7,Pp (.subl 68 .aval 66 none (some 67)),Pp (.apu 69 .aval (.tk 64) 68),Ld 70 5 true 5,Pp (.bsl 71 .aval [70] true),Pp (.apu 72 .aval (.tk 69) 71),Fa 73 2 3,Fo [0] [] (.ld 74 1 false false 73),Mv 75 7,Pp (.subl 76 .aval 74 (some 75) none),Pp (.apu 77 .aval (.tk 72) 76),Fa 78 2 3,Fo [] [0] (.st none 1 78 (.tk 77))] [[],[],[1],[],[1,2,3],rg 0 4,[],[6],rg 0 7,[],[9],[],[9,10,11],rg 0 12,rg 0 13,rg 0 14]) (Sq (.gh (.fz (.cell 0 2)) (Rg [Pp (.ld 79 5 true false 3),Sv 5 6 79])) .ret)))
def axC:IR:=Rs [Pp (.box 3 0),Bx 5 2,Pp (.new 6 [vU 0,vS,nl .aval,nl .str,vI 0])] (Rs [Mi 7 0] (Sq (.block 0 (.loop [1,3,5,6,7,1000000] 2 agW)) ae8))
def amm:List RV:=[.cell 6 5 true]
theorem axD:FnC Tryz.prog afF [] 0 anZ Tryz.f18 axC amm:=fnC Tryz.func18
def avG(R:IR→(Ex→St→Ro)→St→Ro)(a:St→Ro):Ex→St→Ro:=(bF a [1,3,5,6,7,1000000] 2 (aQ 0 (bv (R ae8) (fin amm))))
abbrev xp:Type:=(Bs×Int×Bs×List aB×Bss×Int×Int×Int×Bs×List aB×Bss×Int×Int×Bs×List aB×Bss×Int)
def vl:xp→St:=fun(h,i,j,k,l,m,n,o,p,q,a,b,c,d,e,f,g)=>{env:=(.undef::.str h::.undef::.ptr 0 0::.undef::.ea [.int .u64 i,.str j,.sl .aval (.may false) k,.sl .str (.may false) l,.int .i64 m]::.ptr 1 0::.int .i64 n::(U 72 [])),hp:=[some [.int .u64 o,.str p,.sl .aval (.may false) q,.sl .str (.may false) a,.int .i64 b],some [.int .u64 c,.str d,.sl .aval .own e,.sl .str .own f,.int .i64 g]]}
def acg(N:Nat):(St→Ro)→St→Ro:=fun a s=>run afF N agW (avG (run afF N) a) s
def xq(N:Nat)(n:xp→Ro):xp→Ro:=fun(l,g,h,i,j,k,c,d,e,b,a,f,ag,ah,ai,aj,ak)=>
 let x1:=(↑(List.length a):Int)
 let z0:=fun g0 g1 g2=>(some (.agg [.int .u64 d,.str e,.sl .aval (.may false) g0,.sl .str (.may false) g1,.int .i64 f],g2):Ro)
 cond (decide (c<x1)) (
 chk (ixl c a) (
 let x2:=List.getD a (Int.toNat c) (aC .str)
 cond (Op.bytesLess x2 l) (
 let x3:=(IntKind.wrap .i64 (c+1))
 n (l,g,h,i,j,k,x3,d,e,b,a,f,ag,ah,ai,aj,ak)) (
 let x4:=(↑(List.length a):Int)
 cond (decide (c<x4)) (
 chk (ixl c a) (
 let x5:=List.getD a (Int.toNat c) (aC .str)
 cond (decide (x5=l)) (
 chk (decide ((List.length ([]:List aB)+List.length b)*80≤140737488355328)) (
 let x6:=(([]:List aB)++b)
 chk (decide (0<List.length x6)) (
 chk (decide (0≤c)&&decide (c<↑(List.length x6))) (
 chk (decide ((Int.toNat c)<List.length x6)) (
 let x7:=(List.set x6 (Int.toNat c) ⟨g,h,i,j,k⟩)
 chk (Nat.beq (List.length x6) (List.length x7)) (
 z0 x7 a [some [.int .u64 d,.str e,.sl .aval .own x7,.sl .str (.may false) a,.int .i64 f],some [.int .u64 d,.str e,.sl .aval (.may false) x7,.sl .str (.may false) a,.int .i64 f],none,none])))))) (
 chk (decide (0≤c)&&decide (c≤(↑(List.length a):Int))) (
 let x8:=(List.drop 0 (List.take (Int.toNat c) a))
 chk (decide ((List.length ([]:Bss)+List.length x8)*16≤140737488355328)) (
 let x9:=(([]:Bss)++x8)
 chk (decide ((List.length x9+List.length ([l]:Bss))*16≤140737488355328)) (
 let o:=(x9++([l]:Bss))
 chk (decide (0≤c)&&decide (c≤(↑(List.length a):Int))) (
 let p:=(List.drop (Int.toNat c) (List.take (List.length a) a))
 chk (decide ((List.length o+List.length p)*16≤140737488355328)) (
 chk (decide (0≤c)&&decide (c≤(↑(List.length b):Int))) (
 let am:=(List.drop 0 (List.take (Int.toNat c) b))
 chk (decide ((List.length ([]:List aB)+List.length am)*80≤140737488355328)) (
 let an:=(([]:List aB)++am)
 chk (decide ((List.length an+List.length ([⟨g,h,i,j,k⟩]:List aB))*80≤140737488355328)) (
 let q:=(an++([⟨g,h,i,j,k⟩]:List aB))
 chk (decide (0≤c)&&decide (c≤(↑(List.length b):Int))) (
 let r:=(List.drop (Int.toNat c) (List.take (List.length b) b))
 chk (decide ((List.length q+List.length r)*80≤140737488355328)) (
 z0 (q++r) (o++p) [some [.int .u64 d,.str e,.sl .aval .own (q++r),.sl .str .own (o++p),.int .i64 f],some [.int .u64 d,.str e,.sl .aval (.may false) (q++r),.sl .str (.may false) (o++p),.int .i64 f]]))))))))))))) (
 chk (decide (0≤c)&&decide (c≤(↑(List.length a):Int))) (
 let ao:=(List.drop 0 (List.take (Int.toNat c) a))
 chk (decide ((List.length ([]:Bss)+List.length ao)*16≤140737488355328)) (
 let ap:=(([]:Bss)++ao)
 chk (decide ((List.length ap+List.length ([l]:Bss))*16≤140737488355328)) (
 let s:=(ap++([l]:Bss))
 chk (decide (0≤c)&&decide (c≤(↑(List.length a):Int))) (
 let t:=(List.drop (Int.toNat c) (List.take (List.length a) a))
 chk (decide ((List.length s+List.length t)*16≤140737488355328)) (
 chk (decide (0≤c)&&decide (c≤(↑(List.length b):Int))) (
 let aq:=(List.drop 0 (List.take (Int.toNat c) b))
 chk (decide ((List.length ([]:List aB)+List.length aq)*80≤140737488355328)) (
 let ar:=(([]:List aB)++aq)
 chk (decide ((List.length ar+List.length ([⟨g,h,i,j,k⟩]:List aB))*80≤140737488355328)) (
 let u:=(ar++([⟨g,h,i,j,k⟩]:List aB))
 chk (decide (0≤c)&&decide (c≤(↑(List.length b):Int))) (
 let v:=(List.drop (Int.toNat c) (List.take (List.length b) b))
 chk (decide ((List.length u+List.length v)*80≤140737488355328)) (
 z0 (u++v) (s++t) [some [.int .u64 d,.str e,.sl .aval .own (u++v),.sl .str .own (s++t),.int .i64 f],some [.int .u64 d,.str e,.sl .aval (.may false) (u++v),.sl .str (.may false) (s++t),.int .i64 f]])))))))))))))) (
 let a3:=(↑(List.length a):Int)
 cond (decide (c<a3)) (
 chk (ixl c a) (
 let a4:=List.getD a (Int.toNat c) (aC .str)
 cond (decide (a4=l)) (
 chk (decide ((List.length ([]:List aB)+List.length b)*80≤140737488355328)) (
 let m:=(([]:List aB)++b)
 chk (decide (0<List.length m)) (
 chk (decide (0≤c)&&decide (c<↑(List.length m))) (
 chk (decide ((Int.toNat c)<List.length m)) (
 let w:=(List.set m (Int.toNat c) ⟨g,h,i,j,k⟩)
 chk (Nat.beq (List.length m) (List.length w)) (
 z0 w a [some [.int .u64 d,.str e,.sl .aval .own w,.sl .str (.may false) a,.int .i64 f],some [.int .u64 d,.str e,.sl .aval (.may false) w,.sl .str (.may false) a,.int .i64 f],none,none])))))) (
 chk (decide (0≤c)&&decide (c≤(↑(List.length a):Int))) (
 let au:=(List.drop 0 (List.take (Int.toNat c) a))
 chk (decide ((List.length ([]:Bss)+List.length au)*16≤140737488355328)) (
 let av:=(([]:Bss)++au)
 chk (decide ((List.length av+List.length ([l]:Bss))*16≤140737488355328)) (
 let x:=(av++([l]:Bss))
 chk (decide (0≤c)&&decide (c≤(↑(List.length a):Int))) (
 let y:=(List.drop (Int.toNat c) (List.take (List.length a) a))
 chk (decide ((List.length x+List.length y)*16≤140737488355328)) (
 chk (decide (0≤c)&&decide (c≤(↑(List.length b):Int))) (
 let aw:=(List.drop 0 (List.take (Int.toNat c) b))
 chk (decide ((List.length ([]:List aB)+List.length aw)*80≤140737488355328)) (
 let ax:=(([]:List aB)++aw)
 chk (decide ((List.length ax+List.length ([⟨g,h,i,j,k⟩]:List aB))*80≤140737488355328)) (
 let z:=(ax++([⟨g,h,i,j,k⟩]:List aB))
 chk (decide (0≤c)&&decide (c≤(↑(List.length b):Int))) (
 let aa:=(List.drop (Int.toNat c) (List.take (List.length b) b))
 chk (decide ((List.length z+List.length aa)*80≤140737488355328)) (
 z0 (z++aa) (x++y) [some [.int .u64 d,.str e,.sl .aval .own (z++aa),.sl .str .own (x++y),.int .i64 f],some [.int .u64 d,.str e,.sl .aval (.may false) (z++aa),.sl .str (.may false) (x++y),.int .i64 f]]))))))))))))) (
 chk (decide (0≤c)&&decide (c≤(↑(List.length a):Int))) (
 let ay:=(List.drop 0 (List.take (Int.toNat c) a))
 chk (decide ((List.length ([]:Bss)+List.length ay)*16≤140737488355328)) (
 let az:=(([]:Bss)++ay)
 chk (decide ((List.length az+List.length ([l]:Bss))*16≤140737488355328)) (
 let ab:=(az++([l]:Bss))
 chk (decide (0≤c)&&decide (c≤(↑(List.length a):Int))) (
 let ac:=(List.drop (Int.toNat c) (List.take (List.length a) a))
 chk (decide ((List.length ab+List.length ac)*16≤140737488355328)) (
 chk (decide (0≤c)&&decide (c≤(↑(List.length b):Int))) (
 let a0:=(List.drop 0 (List.take (Int.toNat c) b))
 chk (decide ((List.length ([]:List aB)+List.length a0)*80≤140737488355328)) (
 let a1:=(([]:List aB)++a0)
 chk (decide ((List.length a1+List.length ([⟨g,h,i,j,k⟩]:List aB))*80≤140737488355328)) (
 let ad:=(a1++([⟨g,h,i,j,k⟩]:List aB))
 chk (decide (0≤c)&&decide (c≤(↑(List.length b):Int))) (
 let ae:=(List.drop (Int.toNat c) (List.take (List.length b) b))
 chk (decide ((List.length ad+List.length ae)*80≤140737488355328)) (
 z0 (ad++ae) (ab++ac) [some [.int .u64 d,.str e,.sl .aval .own (ad++ae),.sl .str .own (ab++ac),.int .i64 f],some [.int .u64 d,.str e,.sl .aval (.may false) (ad++ae),.sl .str (.may false) (ab++ac),.int .i64 f]]))))))))))))
theorem atc(N:Nat):LB (acg N) vl (xq N):=fun _ _=>by kernel_rfl
def uj(N:Nat)(a:Int)(b:Bs)(c:List aB)(d:Bss)(e:Int)(k:Bs)(f:Int)(g:Bs)(h:List aB)(i:Bss)(j:Int)(l:xp→Ro):Ro:=
 l (k,f,g,h,i,j,0,a,b,c,d,e,0,([]:Bs),([]:List aB),([]:Bss),0)
def amn(N:Nat)(a:Int)(b:Bs)(c:List aB)(d:Bss)(e:Int)(k:Bs)(f:Int)(g:Bs)(h:List aB)(i:Bss)(j:Int):Ro:=uj N a b c d e k f g h i j (fun z=>aS N (xq N) z)
theorem avH(N:Nat)(a:Int)(c:Bs)(d:List aB)(f:Bss)(g:Int)(n:Bs)(i:Int)(j:Bs)(k:List aB)(l:Bss)(m:Int)(h:Tot (amn N a c d f g n i j k l m) (fun z=>∃(o:Int)(p:Bs)(s:List aB)(t:Bss)(u:Int)(rest:List aJ),z.1.dimR=.agg [.int .u64 o,.str p,.sl .aval (.may false) s,.sl .str (.may false) t,.int .i64 u]∧z.2=rest∧agl a c d f g n i j k l m (o,p,s,t,u))):∃r,fy a c d f g n i j k l m r:=axD.finP (N:=N) ((bM _ (by kernel_rfl) rfl (fun C=>uj N a c d f g n i j k l m (fun z=>C 1000000 (vl z))) (fun C=>by kernel_rfl)).trans (Eq.trans (b:=uj N a c d f g n i j k l m (fun z=>bo N (acg N) (vl z))) (by kernel_rfl) (congrArg (uj N a c d f g n i j k l m) (funext fun z=>bk (vl) (acg N) (xq N) (atc N) N z)))) h fun _ ⟨o,p,s,t,u,_,e,_,q⟩=>⟨(o,p,s,t,u),e,q⟩
noncomputable def amo:aN:=tab (P:=Tryz.prog) [] [] [] []
def aku:IR:=Rs [Mi 4 0] (Sq (Rs [Mv 5 0,Nk 6 5,Fa 7 1 6,Lo 8 7,Bc 9 .eql 8 0] (Cn 9 (Rg [Mv 10 0,Mv 11 1,Nk 12 10,Fa 13 1 12,Sv 1 13 11]) .skip)) (Rs [Mi 4 0] .ret))
def akv:List RV:=[.t 4]
theorem akw:FnC Tryz.prog amo [] 1 abc Tryz.f54 aku akv:=fnC Tryz.func54
def aab(N:Nat)(b:List aA)(a d:Int):Ro:=
 let c:=fun e=>(some (.int .i64 0,[some [.ul .atype b,.int .i64 e]]):Ro)
 cond (a==0) (
 c d) (
 c a)
def aac(N:Nat)(a:List aA)(b c:Int):Ro:=aab N a b c
theorem ait(N:Nat)(a:List aA)(b i:Int)(h:Tot (aac N a b i) (fun z=>∃(c:Int)(d:List aA)(g:Int)(rest:List aJ),z.1.dimR=.int .i64 c∧z.2=some [.ul .atype d,.int .i64 g]::rest∧lO a b i (c,d,g))):∃r,aK a b i r:=FnC.finO (css:=[[.ul .atype a,.int .i64 b]]) akw (N:=N) (by kernel_rfl) h fun _ ⟨c,d,g,_,e,f,q⟩=>⟨(c,d,g),e,⟨_,f⟩,q⟩
noncomputable def anL:aN:=tab (P:=Tryz.prog) [] [dO] [] []
def amp:IR:=Rs [Bx 3 1,Mi 4 0] (Sq (Rs [Mv 5 0,Nk 6 5,Fa 7 0 6,Fa 8 0 7,Lo 9 8,Pp (.lnw 10 9),Bc 11 .geq 10 60] (Cn 11 (Rs [Mv 12 0,Ca 13 54 [12,kI 3],Mv 4 13] .ret) .skip)) (Sq (.reg [Mv 14 0,Mv 15 0,Nk 16 15,Fa 17 0 16,Fa 18 0 17,Fo [] [0] (.ld 19 1 false true 18),Ld 20 10 true 3,Pp (.bsl 21 .atype [20] true),Pp (.apu 22 .atype (.tk 19) 21),Nk 23 14,Fa 24 0 23,Fa 25 0 24,Fo [] [0] (.st none 1 25 (.tk 22))] [[],[],[1],[1,2],[1,2,3],rg 1 4,[],[6],rg 1 7,rg 0 8,rg 0 9,rg 0 10,rg 0 11]) (Rs [Mv 26 0,Nk 27 26,Fa 28 0 27,Fa 29 0 28,Lo 30 29,Pp (.lnw 31 30),Bc 32 .sub 31 1,Mv 4 32] .ret)))
def amq:List RV:=[.t 4]
theorem amr:FnC Tryz.prog anL [54,2000054] 1 acq Tryz.f60 amp amq:=fnC Tryz.func60
def abB(N:Nat)(a:List aA)(b c:Int)(d:Bs)(e:Bss)(f:Int)(g:Bss)(h:Bool)(i:Bs)(j:Int)(k:List aO)(l:List Int):Ro:=
 let o:=(↑(List.length a):Int)
 cond (decide (60≤o)) (
 aE (aK a b 3) (fun m=>
 some (.int .i64 m.1,[some [.ul .atype m.2.1,.int .i64 m.2.2]]))) (
 chk (decide ((List.length a+List.length ([⟨c,d,e,f,g,h,i,j,k,l⟩]:List aA))*160≤140737488355328)) (
 let n:=(a++([⟨c,d,e,f,g,h,i,j,k,l⟩]:List aA))
 let p:=(↑(List.length n):Int)
 let q:=(IntKind.wrap .i64 (p-1))
 some (.int .i64 q,[some [.ul .atype n,.int .i64 b]])))
def abC(N:Nat)(a:List aA)(b c:Int)(d:Bs)(e:Bss)(f:Int)(g:Bss)(h:Bool)(i:Bs)(j:Int)(k:List aO)(l:List Int):Ro:=abB N a b c d e f g h i j k l
theorem akx(N:Nat)(a:List aA)(b c:Int)(d:Bs)(g:Bss)(i:Int)(j:Bss)(k:Bool)(l:Bs)(m:Int)(n:List aO)(o:List Int)(h:Tot (abC N a b c d g i j k l m n o) (fun z=>∃(p:Int)(s:List aA)(t:Int)(rest:List aJ),z.1.dimR=.int .i64 p∧z.2=some [.ul .atype s,.int .i64 t]::rest∧mU a b c d g i j k l m n o (p,s,t))):∃r,fF a b c d g i j k l m n o r:=FnC.finO (css:=[[.ul .atype a,.int .i64 b]]) amr (N:=N) (by kernel_rfl) h fun _ ⟨p,s,t,_,e,f,q⟩=>⟨(p,s,t),e,⟨_,f⟩,q⟩
noncomputable def uk:aN:=tab (P:=Tryz.prog) [] [] [] []
def ye:IR:=Sq (Rs [Mv 8 6,Mv 9 0,Nk 10 9,Fa 11 0 10,Fa 12 0 11,Lo 13 12,Pp (.lnw 14 13),Bi 15 .lss 8 14] (Cn 15 .skip (.exit 0))) (Sq (.block 1 (Sq (.gh (.opn (.cell 0 0)) (.ghp (.cls (.cell 0 0)) (Rg [Mv 18 0,Nk 19 18,Fa 20 0 19,Fa 21 0 20,Lo 22 21,Mv 23 6,Pp (.ixw 24 .atype 22 23),Pp (.ldw 25 10 true 24),Pp (.alr 7 10),Fz 7 10 25]))) (Rs [Fa 26 1 7,Lq 27 26,Mv 28 1,Bi 29 .eql 27 28,Mv 30 29,Gt 30 (.fad 31 0 7),Gt 30 (.lde 32 1 false 31),Gt 30 (.bin 33 .geq 32 (kI 9)),Pa 34 30 33,Mv 35 34,Gt 35 (.fad 36 0 7),Gt 35 (.lde 37 1 false 36),Gt 35 (.bin 38 .leq 37 (kI 11)),Pa 39 35 38] (Cn 39 (Rs [Mv 40 6,Mv 4 40,Mb 5 true] .ret) .skip)))) (Rg [Mv 16 6,Bc 17 .add 16 1,Mv 6 17]))
def yf:IR:=Rs [Mi 4 0,Mb 5 false] .ret
def aky:IR:=Rs [Mi 4 0,Mb 5 false] (Sq (Rs [Mi 6 0] (.block 0 (.loop [0,1,6,1000000] 1 ye))) yf)
def aad:List RV:=[.t 4,.t 5]
theorem akz:FnC Tryz.prog uk [] 1 abd Tryz.f80 aky aad:=fnC Tryz.func80
def aiu(R:IR→(Ex→St→Ro)→St→Ro)(a:St→Ro):Ex→St→Ro:=(bF a [0,1,6,1000000] 1 (aQ 0 (bv (R yf) (fin aad))))
abbrev nc:Type:=(Bs×Int×List aA×Int)
def lZ:nc→St:=fun(a,b,c,d)=>{env:=(.ptr 0 0::.str a::(U 4 (.int .i64 b::(U 34 [])))),hp:=[some [.ul .atype c,.int .i64 d]]}
def rA(N:Nat):(St→Ro)→St→Ro:=fun a s=>run uk N ye (aiu (run uk N) a) s
def nd(N:Nat)(b:nc→Ro):nc→Ro:=fun(e,d,a,c)=>
 let g:=(↑(List.length a):Int)
 cond (decide (d<g)) (
 chk (decide (0<List.length a)) (
 chk (decide (0≤d)&&decide (d<↑(List.length a))) (
 chk (decide ((Int.toNat d)<List.length a)) (
 let f:=(List.getD a (Int.toNat d) (aC .atype))
 chk (Nat.beq (List.length a) (List.length a)) (
 cond (decide (f.name=e)) (
 cond (decide (9≤f.kind)) (
 cond (decide (f.kind≤11)) (
 some (.tup [.int .i64 d,.bool true],[some [.ul .atype a,.int .i64 c],none,none])) (
 let h:=(IntKind.wrap .i64 (d+1))
 b (e,h,a,c))) (
 let i:=(IntKind.wrap .i64 (d+1))
 b (e,i,a,c))) (
 let j:=(IntKind.wrap .i64 (d+1))
 b (e,j,a,c))))))) (
 some (.tup [.int .i64 0,.bool false],[some [.ul .atype a,.int .i64 c]]))
theorem agX(N:Nat):LB (rA N) lZ (nd N):=fun _ _=>by kernel_rfl
def kq(N:Nat)(a:List aA)(b:Int)(c:Bs)(d:nc→Ro):Ro:=
 d (c,0,a,b)
def aae(N:Nat)(a:List aA)(b:Int)(c:Bs):Ro:=kq N a b c (fun z=>aS N (nd N) z)
theorem aiv(N:Nat)(a:List aA)(c:Int)(d:Bs)(h:Tot (aae N a c d) (fun z=>∃(g:Int)(i:Bool)(j:List aA)(k:Int)(rest:List aJ),z.1.dimR=.tup [.int .i64 g,.bool i]∧z.2=some [.ul .atype j,.int .i64 k]::rest∧xV a c d (g,i,j,k))):∃r,dP a c d r:=FnC.finO (css:=[[.ul .atype a,.int .i64 c]]) akz (N:=N) ((bM _ (by kernel_rfl) rfl (fun C=>kq N a c d (fun z=>C 1000000 (lZ z))) (fun C=>by kernel_rfl)).trans (Eq.trans (b:=kq N a c d (fun z=>bo N (rA N) (lZ z))) (by kernel_rfl) (congrArg (kq N a c d) (funext fun z=>bk (lZ) (rA N) (nd N) (agX N) N z)))) h fun _ ⟨g,i,j,k,_,e,f,q⟩=>⟨(g,i,j,k),e,⟨_,f⟩,q⟩
noncomputable def akA:aN:=tab (P:=Tryz.prog) [] [z4] [] []
def aiw:IR:=Rs [Pp (.new 2 [vI 0,vI 0,vS,nl .jnode,nl .str])] (Rs [Pp (.bsl 4 .str [kS [84,111,112]] false),Pp (.new 3 [nl .str]),Sk 1 3 4] (Rs [Mv 5 0,Ca 6 26 [5,kS [84,111,112],kI 0,3],Sv 5 2 6] .ret))
def aix:List RV:=[.cell 2 5 true]
theorem aiy:FnC Tryz.prog akA [26,2000026] 1 zU Tryz.f13 aiw aix:=fnC Tryz.func13
def zy(N:Nat)(b:Bs)(c:Int):Ro:=
 aE (gK b c ([([84,111,112]:Bs)]:Bss) ([84,111,112]:Bs) 0) (fun a=>
 some (.agg [.int .i64 a.1,.int .i64 a.2.1,.str a.2.2.1,.sl .jnode (.may false) a.2.2.2.1,.sl .str (.may false) a.2.2.2.2.1],[some [.sl .u8 (.may false) a.2.2.2.2.2.1,.int .i64 a.2.2.2.2.2.2.1],some [.int .i64 a.1,.int .i64 a.2.1,.str a.2.2.1,.sl .jnode (.may false) a.2.2.2.1,.sl .str (.may false) a.2.2.2.2.1],some [.sl .str .own a.2.2.2.2.2.2.2]]))
def zA(N:Nat)(a:Bs)(b:Int):Ro:=zy N a b
theorem agY(N:Nat)(a:Bs)(b:Int)(h:Tot (zA N a b) (fun z=>∃(c:Int)(d:Int)(g:Bs)(i:List aH)(j:Bss)(k:Bs)(l:Int)(rest:List aJ),z.1.dimR=.agg [.int .i64 c,.int .i64 d,.str g,.sl .jnode (.may false) i,.sl .str (.may false) j]∧z.2=some [.sl .u8 (.may false) k,.int .i64 l]::rest∧wm a b (c,d,g,i,j,k,l))):∃r,kj a b r:=FnC.finO (css:=[[.sl .u8 (.may false) a,.int .i64 b]]) aiy (N:=N) (by kernel_rfl) h fun _ ⟨c,d,g,i,j,k,l,_,e,f,q⟩=>⟨(c,d,g,i,j,k,l),e,⟨_,f⟩,q⟩
end Go.Proofs.YtdpajabhmmmjoaaGreat
end
noncomputable section
namespace Go.Proofs.YtdpajabhmmmjoaaGreat
open Go.AM
set_option autoImplicit false
set_option linter.unusedVariables false
set_option linter.unusedSimpArgs false
set_option maxRecDepth 100000
theorem aiz(l:List UInt8)(n m:Int)(h:eH l n)(hm:0<m):∃r,aU l n m r:=by
 obtain⟨h1,h2,h3⟩:=h
 apply amc 1
 unfold acM acL
 dsimp only
 repeat' (first|(with_reducible refine aD ?_ ?_<;>(intro hb;(try simp only[bnl] at hb);(try revert hb;intro _)))|with_reducible refine aP ?_ ?_|with_reducible refine aG ?_|fail)
 ·exact⟨_,_,_,_,rfl,rfl,by simp,by simpa using hm,rfl,h1,h2,h3⟩
 ·simp(disch:=omega) only[bC,bnl]
 ·simp only[bnl];omega
 ·refine⟨_,_,_,_,rfl,rfl,?_,?_,rfl,?_,?_,h3⟩
  ·simp only
   have:=UInt8.toNat_lt (l.getD (IntKind.i64.wrap (IntKind.i64.wrap (n+1)-1)).toNat (aC .u8))
   rw[aI _ (by omega)]
   exact Int.tmod_nonneg _ (by omega)
  ·simp only
   exact Int.tmod_lt_of_pos _ hm
  ·simp only;rw[aI _ (by omega)];omega
  ·simp only;rw[aI _ (by omega)];omega
theorem eY(l:List UInt8)(n m:Int)(h:eH l n)(hm:0<m)(hm2:m≤1000):∃r,aU l n m r:=aiz l n m h hm
theorem axE(l:List UInt8)(n:Int):∃r,jH l n r:=by
 apply akt 1
 unfold abA abz
 dsimp only
 repeat' (first|(with_reducible refine aD ?_ ?_<;>(intro hb;(try simp only[bnl] at hb);(try revert hb;intro _)))|with_reducible refine aP ?_ ?_|with_reducible refine aG ?_|fail)
 exact⟨_,_,_,_,rfl,rfl,rfl,rfl⟩
theorem apD(l:List UInt8):∃r,pc l r:=by
 apply avx 1
 unfold adS ami
 repeat' (first|(with_reducible refine aD ?_ ?_<;>(intro hb;(try simp only[bnl] at hb);(try revert hb;intro _)))|with_reducible refine aP ?_ ?_|with_reducible refine aG ?_|fail)
 exact⟨_,_,[],rfl,rfl⟩
theorem eO(s:List UInt8):∃r,bR s r:=by
 apply avy 1
 unfold amk amj
 repeat' (first|(with_reducible refine aD ?_ ?_<;>(intro hb;(try simp only[bnl] at hb);(try revert hb;intro _)))|with_reducible refine aP ?_ ?_|with_reducible refine aG ?_|fail)
 exact⟨_,_,_,_,_,_,rfl,rfl,rfl⟩
theorem abD(f0:Bool)(names:List (List UInt8))(f1:Bool)(l:List aH):∃r,fY f0 names f1 l r:=by
 apply as8 1
 unfold acf ajO
 repeat' (first|(with_reducible refine aD ?_ ?_<;>(intro hb;(try simp only[bnl] at hb);(try revert hb;intro _)))|with_reducible refine aP ?_ ?_|with_reducible refine aG ?_|fail)
 exact⟨_,_,_,_,_,_,_,_,rfl,rfl,rfl⟩
theorem atd:∀(names:List (List UInt8))(l:List aH)(name:List UInt8)(i:Nat),(∀j,j<i→names.getD j []≠name)→oZ names l name=oZ (names.drop i) (l.drop i) name
 |names,l,name,0,_=>rfl
 | [],l,name,i+1,h=>by simp[oZ]
 |x::ns,[],name,i+1,h=>by
  have:∀ns:List (List UInt8),oZ ns [] name=none:=fun ns=>by cases ns<;>rfl
  simp[oZ,this]
 |x::ns,c::l,name,i+1,h=>by
  have h0:=h 0 (by omega)
  simp only[List.getD_cons_zero] at h0
  simp only[oZ,if_neg h0,List.drop_succ_cons]
  exact atd ns l name i fun j hj=>by simpa using h (j+1) (by omega)
theorem axF{names:List (List UInt8)}{l:List aH}{name:List UInt8}{i:Nat}(h1:i<names.length)(h2:i<l.length)(h:∀j,j<i→names.getD j []≠name)(he:names.getD i []=name):
  oZ names l name=some (l.getD i (aC .jnode)):=by
 rw[atd names l name i h,List.drop_eq_getElem_cons h1,List.drop_eq_getElem_cons h2]
 simp only[oZ]
 rw[List.getD_eq_getElem?_getD,List.getElem?_eq_getElem h1,Option.getD_some] at he
 rw[if_pos he,List.getD_eq_getElem?_getD,List.getElem?_eq_getElem h2,Option.getD_some]
theorem ams{names:List (List UInt8)}{l:List aH}{name:List UInt8}{i:Nat}(h:∀j,j<i→names.getD j []≠name)(hi:names.length≤i∨l.length≤i):oZ names l name=none:=by
 rw[atd names l name i h]
 rcases hi with hi|hi
 ·rw[List.drop_eq_nil_of_le hi];rfl
 ·rw[List.drop_of_length_le (l:=l) hi]
  cases names.drop i<;>rfl
theorem azK(k n:Int)(s:List UInt8)(l:List aH)(names:List (List UInt8))(name:List UInt8)(h:names.length≤l.length)(hl:names.length≤1000):∃r,uP k n s l names name r:=by
 apply axz 2000
 unfold aoo wD
 refine bm (fun x=>x.1=name∧x.2.2.2.2.1=l∧x.2.2.2.2.2.1=names∧0≤x.2.2.2.2.2.2.1∧x.2.2.2.2.2.2.1≤(names.length:Int)∧∀j:Nat,(j:Int)<x.2.2.2.2.2.2.1→names.getD j []≠name)
  (fun x=>((names.length:Int)-x.2.2.2.2.2.2.1).toNat) ?_ _ _ ⟨rfl,rfl,rfl,by simp,by simp,fun j hj=>by simp at hj;omega⟩ (by simp;omega)
 rintro again ⟨a0,a1,a2,a3,a4,a5,i,b0,b1,b2,b3,b4⟩ ⟨rfl,rfl,rfl,i1,i2,i3⟩ ih
 simp only at i1 i2 i3 ih h hl ⊢
 unfold zx
 dsimp only
 repeat' (first|(with_reducible refine aD ?_ ?_<;>(intro hb;(try simp only[bnl] at hb);(try revert hb;intro _)))|with_reducible refine aP ?_ ?_|with_reducible refine aG ?_|fail)
 ·simp only[bnl];omega
 ·simp only[bnl];omega
 ·rename_i hb hb2
  have e:=axF (names:=a5) (l:=a4) (name:=a0) (i:=i.toNat) (by omega) (by omega) (fun j hj=>i3 j (by omega)) hb2
  refine⟨_,_,_,_,_,_,_,rfl,rfl,?_⟩
  simp only[w5]
  rw[e];rfl
 ·rename_i hb hb2
  have ew:=aI (i+1) (by omega)
  refine ih _ ⟨rfl,rfl,rfl,?_,?_,?_⟩ ?_
  ·simp only[ew];omega
  ·simp only[ew];omega
  ·simp only[ew]
   intro j hj
   by_cases e:(j:Int)=i
   ·have:i.toNat=j:=by omega
    rw[this] at hb2
    exact hb2
   ·exact i3 j (by omega)
  ·simp only[ew];omega
 ·rename_i hb
  refine⟨_,_,_,_,_,_,_,rfl,rfl,?_⟩
  simp only[w5]
  rw[ams (i:=i.toNat) (fun j hj=>i3 j (by omega)) (.inl (by omega))]
  rfl
theorem dx(ts:List aA)(e c:Int):∃r,aK ts e c r:=by
 apply ait 1
 unfold aac aab
 dsimp only
 repeat' (first|(with_reducible refine aD ?_ ?_<;>(intro hb;(try simp only[bnl] at hb);(try revert hb;intro _)))|with_reducible refine aP ?_ ?_|with_reducible refine aG ?_|fail)
 ·rename_i hb;exact⟨_,_,_,_,rfl,rfl,by simp[lO,hb]⟩
 ·rename_i hb;exact⟨_,_,_,_,rfl,rfl,by simp[lO,hb]⟩
end Go.Proofs.YtdpajabhmmmjoaaGreat
end
noncomputable section
namespace Go.Proofs.YtdpajabhmmmjoaaGreat
open Go.AM
set_option autoImplicit false
set_option linter.unusedSimpArgs false
theorem acY:∀(a b:List UInt8),(Op.bytesLess a b||decide (a=b))= !Op.bytesLess b a
 | [],[]=>by simp[Op.bytesLess]
 | [],b::y=>by simp[Op.bytesLess]
 |a::x,[]=>by simp[Op.bytesLess]
 |a::x,b::y=>by
  have ih:=acY x y
  simp only[Op.bytesLess]
  by_cases h1:a<b
  ·have h2:¬b<a:=fun h=>absurd (UInt8.lt_trans h1 h) (UInt8.lt_irrefl a)
   have h3:¬b=a:=fun h=>by subst h;exact UInt8.lt_irrefl _ h1
   simp[h1,h2,h3]
  ·by_cases h2:b<a
   ·have h3:¬a=b:=fun h=>by subst h;exact UInt8.lt_irrefl _ h2
    simp[h1,h2,h3]
   ·have h3:a=b:=by
     have:=UInt8.le_antisymm (UInt8.not_lt.1 h2) (UInt8.not_lt.1 h1)
     exact this
    subst h3
    simp only[h1,decide_false,Bool.false_or,beq_self_eq_true,Bool.true_and,List.cons.injEq,true_and]
    exact ih
end Go.Proofs.YtdpajabhmmmjoaaGreat
end
noncomputable section
namespace Go.Proofs.YtdpajabhmmmjoaaGreat
open Go.AM
set_option autoImplicit false
set_option linter.unusedVariables false
theorem iR.mono{m m':Nat}{t:aA}(h:iR m t)(hm:m≤m'):iR m' t:=
 ⟨⟨h.items.1,by have:=h.items.2;omega⟩,fun f hf=>⟨(h.fields f hf).1,by have:=(h.fields f hf).2.1;omega,(h.fields f hf).2.2⟩,h.nf,
   fun b hb=>⟨(h.branches b hb).1,by have:=(h.branches b hb).2;omega⟩,h.nb,h.ns,h.size,h.done,h.kind,h.enum,h.only⟩
theorem bX.refl{ts:List aA}{e:Int}(h:ts.length≤60):bX ts e ts e:=
 ⟨Nat.le_refl _,h,fun h=>h,fun _ _ _=>rfl,fun _ i t hi ht=>by
  have:=(List.getElem?_eq_some_iff.1 ht).1;omega⟩
theorem bX.bad{ts:List aA}{e e':Int}(h:ts.length≤60)(he:e'≠0):bX ts e ts e':=
 ⟨Nat.le_refl _,h,fun h=>absurd h he,fun h=>absurd h he,fun h=>absurd h he⟩
theorem bX.fail{ts ts':List aA}{e e':Int}(h:bX ts e ts' e')(c:Int)(hc:c≠0):bX ts e ts' (if e'=0 then c else e'):=by
 have:(if e'=0 then c else e')≠0:=by split<;>assumption
 exact⟨h.len,h.cap,fun h=>absurd h this,fun h=>absurd h this,fun h=>absurd h this⟩
theorem bX.trans{ts ts1 ts2:List aA}{e e1 e2:Int}(h:bX ts e ts1 e1)(h':bX ts1 e1 ts2 e2):bX ts e ts2 e2 where
 len:=Nat.le_trans h.len h'.len
 cap:=h'.cap
 err:=fun he=>h.err (h'.err he)
 old:=fun he i hi=>by
  have:=h.len
  rw[h'.old he i (by omega),h.old (h'.err he) i hi]
 new:=fun he i t hi ht=>by
  rcases Nat.lt_or_ge i ts1.length with hl|hl
  ·rw[h'.old he i hl] at ht
   exact(h.new (h'.err he) i t hi ht).mono h'.len
  ·exact h'.new he i t hl ht
theorem bX.weak{ts ts':List aA}{e e1 e':Int}(h:bX ts e1 ts' e')(he:e1=0→e=0):bX ts e ts' e':=
 ⟨h.len,h.cap,fun h'=>he (h.err h'),h.old,h.new⟩
theorem bX.push{ts:List aA}{e:Int}(h:ts.length<60)(t:aA)(ht:iR (ts.length+1) t):bX ts e (ts++[t]) e where
 len:=by simp
 cap:=by simp;omega
 err:=fun h=>h
 old:=fun _ i hi=>by rw[List.getElem?_append_left hi]
 new:=fun _ i t' hi ht'=>by
  rw[List.getElem?_append_right hi] at ht'
  have hl:=(List.getElem?_eq_some_iff.1 ht').1
  simp only[List.length_singleton] at hl
  have:i-ts.length=0:=by omega
  rw[this] at ht'
  simp only[List.getElem?_cons_zero,Option.some.injEq] at ht'
  subst ht'
  simpa using ht
theorem bX.close{ts ts2:List aA}{e e2:Int}{t0 t:aA}(h:bX (ts++[t0]) e ts2 e2)(ht:iR ts2.length t):bX ts e (ts2.set ts.length t) e2 where
 len:=by have:=h.len;simp at this ⊢;omega
 cap:=by simpa using h.cap
 err:=h.err
 old:=fun he i hi=>by
  rw[List.getElem?_set_ne (by omega),h.old he i (by simp;omega),List.getElem?_append_left hi]
 new:=fun he i t' hi ht'=>by
  have hlen:=h.len
  simp only[List.length_append,List.length_singleton] at hlen
  simp only[List.length_set] at ht' ⊢
  rcases Nat.lt_or_eq_of_le hi with hl|hl
  ·rw[List.getElem?_set_ne (by omega)] at ht'
   exact h.new he i t' (by simp;omega) ht'
  ·subst hl
   rw[List.getElem?_set_self (by omega)] at ht'
   cases ht'
   exact ht
theorem bX.at_open{ts ts2:List aA}{e e2:Int}{t0:aA}(h:bX (ts++[t0]) e ts2 e2)(he:e2=0):ts2[ts.length]? =some t0:=by
 rw[h.old he ts.length (by simp),List.getElem?_append_right (Nat.le_refl _)]
 simp
theorem bX.sch{ts:List aA}(h:bX [] 0 ts 0)(h0:0<ts.length):dJ ts:=by
 refine⟨⟨h0,h.cap⟩,fun t ht=>?_⟩
 obtain⟨i,hi,rfl⟩:=List.mem_iff_getElem.1 ht
 exact h.new rfl i _ (by simp) (List.getElem?_eq_getElem hi)
theorem bx.kids{k n:Int}{s:List UInt8}{l:List aH}{names:List (List UInt8)}(h:bx (.mk k n s l names)):
  s.length≤100∧l.length≤8∧names.length≤l.length∧(∀x∈names,x.length≤100)∧(k=6→names.length=l.length)∧∀c∈l,bx c:=by
 cases h with
 |mk _ _ _ _ _ h1 h2 h3 h4 h5 h6=>exact⟨h1,h2,h3,h4,h5,h6⟩
theorem bx.eta{c:aH}:bx (.mk c.kind c.n c.s c.l c.names)↔bx c:=by
 cases c;exact Iff.rfl
theorem bx.zero:bx (.mk 0 0 [] [] []):=.mk _ _ _ _ _ (by simp) (by simp) (by simp) (by simp) (by simp) (by simp)
theorem bx.getD{l:List aH}(h:∀c∈l,bx c)(i:Nat):bx (l.getD i (aC .jnode)):=by
 rw[List.getD_eq_getElem?_getD]
 cases hi:l[i]? with
 |none=>exact bx.zero
 |some c=>exact h c (List.mem_of_getElem? hi)
theorem axG:∀{names:List (List UInt8)}{l:List aH}{name:List UInt8}{c:aH},oZ names l name=some c→c∈l
 | [],l,_,_,h=>by simp[oZ] at h
 |x::ns,[],_,_,h=>by simp[oZ] at h
 |x::ns,d::l,name,c,h=>by
  simp only[oZ] at h
  split at h
  ·simp at h;simp[h]
  ·exact List.mem_cons_of_mem _ (axG h)
theorem aDe{o:Option aH}{l:List aH}(h:∀c∈l,bx c)(ho:∀c,o=some c→c∈l):bx (.mk (abP o).1 (abP o).2.1 (abP o).2.2.1 (abP o).2.2.2.1 (abP o).2.2.2.2.1):=by
 cases o with
 |none=>exact bx.zero
 |some c=>exact bx.eta.2 (h c (ho c rfl))
theorem vm{k:Int}{names:List (List UInt8)}{l:List aH}{name:List UInt8}(h:∀c∈l,bx c):
  bx (.mk (abP (if k=6 then oZ names l name else none)).1 (abP (if k=6 then oZ names l name else none)).2.1 (abP (if k=6 then oZ names l name else none)).2.2.1 (abP (if k=6 then oZ names l name else none)).2.2.2.1 (abP (if k=6 then oZ names l name else none)).2.2.2.2.1):=
 aDe h fun c hc=>by
  split at hc
  ·exact axG hc
  ·cases hc
end Go.Proofs.YtdpajabhmmmjoaaGreat
end
noncomputable section
namespace Go.Proofs.YtdpajabhmmmjoaaGreat
open Go.AM
set_option autoImplicit false
set_option linter.unusedVariables false
set_option linter.unusedSimpArgs false
set_option maxRecDepth 100000
theorem amt(ts:List aA)(t:Int):∃r,kL ts t r:=by
 apply axA 1
 unfold aoq aop
 dsimp only
 repeat' (first|(with_reducible refine aD ?_ ?_<;>(intro hb;(try simp only[bnl] at hb);(try revert hb;intro _)))|with_reducible refine aP ?_ ?_|with_reducible refine aG ?_|fail)
 all_goals rename_i h
 ·exact⟨_,_,rfl,rfl,by simp[w6,isT,h]⟩
 ·exact⟨_,_,rfl,rfl,by simp only[w6,isT];rw[decide_eq_false (by omega)];rfl⟩
theorem apE(s:List UInt8):∃r,nI s r:=by
 apply ata 100
 unfold ajS sj
 refine bm (fun x=>match x with|(a,f,w,i)=>a=s∧w=aqf∧0≤i∧i≤14∧∀j:Nat,(j:Int)<i→aqf.getD j []≠s) (fun x=>(14-x.2.2.2).toNat) ?_ _ _ ⟨rfl,rfl,by simp,by simp,fun j hj=>by omega⟩ (by simp)
 rintro again ⟨a,f,w,i⟩ ⟨rfl,rfl,i1,i2,i3⟩ ih
 dsimp only at ih
 have e:=aI (i+1) (by omega)
 unfold vk
 dsimp only
 have hw:aqf.length=14:=rfl
 rw[hw]
 repeat' (first|(with_reducible refine aD ?_ ?_<;>(intro hb;(try simp only[bnl] at hb);(try revert hb;intro _)))|with_reducible refine aP ?_ ?_|with_reducible refine aG ?_|fail)
 ·simp only[bnl];omega
 ·rename_i h1 h2
  refine⟨_,_,rfl,rfl,?_,?_,?_,?_,?_⟩
  ·simp only[e];omega
  ·simp only[e];omega
  ·simp only[e]
   intro h3
   have:i=13:=by omega
   subst this
   rw[←h2];rfl
  ·simp only[e]
   intro h3;omega
  ·simp only[e]
   intro h3
   have:i=9:=by omega
   subst this
   rw[←h2];rfl
 ·rename_i h1 h2
  refine ih (a,f,aqf,_) ?_ ?_
  ·simp only[e]
   refine⟨trivial,trivial,by omega,by omega,fun j hj=>?_⟩
   by_cases hji:(j:Int)=i
   ·have:i.toNat=j:=by omega
    rw[this] at h2
    exact h2
   ·exact i3 j (by omega)
  ·simp only[e];omega
 ·rename_i h1
  exact⟨_,_,rfl,rfl,by simp,by simp,by simp,fun _ j hj=>i3 j (by omega),by simp⟩
theorem aCp(k:Int):∃r,t9 k r:=by
 apply atb 1
 unfold ajU ajT
 dsimp only
 repeat' (first|(with_reducible refine aD ?_ ?_<;>(intro hb;(try simp only[bnl] at hb);(try revert hb;intro _)))|with_reducible refine aP ?_ ?_|with_reducible refine aG ?_|fail)
 ·exact⟨_,_,rfl,rfl⟩
 ·exact⟨_,_,rfl,rfl⟩
 ·simp only[bnl,List.length_cons,List.length_nil];omega
 ·exact⟨_,_,rfl,rfl⟩
theorem am6(ts:List aA)(e a0:Int)(a1:List UInt8)(a2:List (List UInt8))(a3:Int)(a4:List (List UInt8))(a5:Bool)(a6:List UInt8)(a7:Int)(a8:List aO)(a9:List Int)(h:ts.length≤60):
  ∃r,fF ts e a0 a1 a2 a3 a4 a5 a6 a7 a8 a9 r:=by
 apply akx 1
 unfold abC abB
 dsimp only
 repeat' (first|(with_reducible refine aD ?_ ?_<;>(intro hb;(try simp only[bnl] at hb);(try revert hb;intro _)))|with_reducible refine aP ?_ ?_|with_reducible refine aG ?_|(refine aF (dx _ _ _) ?_;rintro _ ⟨-,rfl⟩;try dsimp only)|fail)
 ·rename_i hb
  refine⟨_,_,_,_,rfl,rfl,?_⟩
  simp only[mU]
  simp only[if_pos (show 60≤ts.length by omega)]
 ·first|(simp only[bnl,lnl];done)|(simp only[bnl,lnl];omega)
 ·rename_i hb
  refine⟨_,_,_,_,rfl,rfl,?_⟩
  simp only[mU,List.length_append,List.length_cons,List.length_nil]
  rw[if_neg (by omega),aI _ (by omega)]
  simp
theorem axH(ts:List aA)(e:Int)(s:List UInt8)(h:ts.length≤60):∃r,dP ts e s r:=by
 apply aiv 100
 unfold aae kq
 refine bm (fun x=>x.1=s∧x.2.2.1=ts∧x.2.2.2=e∧0≤x.2.1∧x.2.1≤(ts.length:Int)) (fun x=>((ts.length:Int)-x.2.1).toNat) ?_ _ _ ⟨rfl,rfl,rfl,by simp,by simp⟩ (by simp;omega)
 rintro again ⟨s,i,ts,e⟩ ⟨rfl,rfl,rfl,i1,i2⟩ ih
 simp only at i1 i2 ih h ⊢
 unfold nd
 dsimp only
 have next:i<ts.length→Tot (again (s,IntKind.i64.wrap (i+1),ts,e)) _:=fun hl=>ih (s,IntKind.i64.wrap (i+1),ts,e) (by simp only[aI (i+1) (by omega)];exact⟨trivial,trivial,trivial,by omega,by omega⟩) (by simp only[aI (i+1) (by omega)];omega)
 repeat' (first|(with_reducible refine aD ?_ ?_<;>(intro hb;(try simp only[bnl] at hb);(try revert hb;intro _)))|with_reducible refine aP ?_ ?_|with_reducible refine aG ?_|(exact next (by omega))|fail)
 all_goals first|(first|(simp only[bnl,lnl];done)|(simp only[bnl,lnl];omega))|(refine⟨_,_,_,_,_,rfl,rfl,rfl,?_⟩;simp;try omega)
theorem aBp{a b:List UInt8}(h1:Op.bytesLess a b=false)(h2:¬a=b):Op.bytesLess b a=true:=by
 have h:=acY a b
 rw[h1,decide_eq_false h2] at h
 simpa using h.symm
theorem axI{a b:List UInt8}(h:Op.bytesLess a b=true):Op.bytesLess b a=false:=by
 have h2:=acY a b
 rw[h,Bool.true_or] at h2
 simpa using h2.symm
theorem aue:∀(i:Nat)(ks:List (List UInt8))(p key:List UInt8),lN p ks=true→Op.bytesLess p key=true→cJ key=true→(∀j,j<i→j<ks.length→Op.bytesLess (ks.getD j []) key=true)→
  (∀_:i<ks.length,Op.bytesLess key (ks.getD i [])=true)→lN p (ks.take i++(key::ks.drop i))=true
 |0,[],p,key,h,hp,hv,_,_=>by simp[lN,hv,hp]
 |0,k::ks,p,key,h,hp,hv,_,hl=>by
  have:=hl (by simp)
  simp only[lN,Bool.and_eq_true] at h
  simp only[List.getD_cons_zero] at this
  simp[lN,hv,hp,h.1,h.2.2,this]
 |i+1,[],p,key,h,hp,hv,_,_=>by simp[lN,hv,hp]
 |i+1,k::ks,p,key,h,hp,hv,hb,hl=>by
  simp only[lN,Bool.and_eq_true] at h
  have ih:=aue i ks k key h.2.2 (by have:=hb 0 (by omega) (by simp);simpa using this) hv
   (fun j h1 h2=>by have:=hb (j+1) (by omega) (by simp;omega);simpa using this) (fun h1=>by have:=hl (by simp;omega);simpa using this)
  simp[lN,h.1,h.2.1,ih]
theorem aBq(i:Nat)(ks:List (List UInt8))(key:List UInt8)(h:dl ks=true)(hv:cJ key=true)(hb:∀j,j<i→j<ks.length→Op.bytesLess (ks.getD j []) key=true)
  (hl:∀_:i<ks.length,Op.bytesLess key (ks.getD i [])=true):dl (ks.take i++(key::ks.drop i))=true:=by
 match i,ks,h,hb,hl with
 |0,[],h,hb,hl=>simp[dl,lN,hv]
 |0,k::ks,h,hb,hl=>
  have:=hl (by simp)
  simp only[dl,Bool.and_eq_true] at h
  simp only[List.getD_cons_zero] at this
  simp[dl,lN,hv,h.1,h.2,this]
 |i+1,[],h,hb,hl=>simp[dl,lN,hv]
 |i+1,k::ks,h,hb,hl=>
  simp only[dl,Bool.and_eq_true] at h
  have:=aue i ks k key h.2 (by have:=hb 0 (by omega) (by simp);simpa using this) hv
   (fun j h1 h2=>by have:=hb (j+1) (by omega) (by simp;omega);simpa using this) (fun h1=>by have:=hl (by simp;omega);simpa using this)
  simp[dl,h.1,this]
theorem ae9(ts:List aA)(t:Int):∀l m:List aB,bA ts t (l++m)=(bA ts t l&&bA ts t m)
 | [],m=>by simp[bA]
 |v::l,m=>by simp[bA,ae9 ts t l m,Bool.and_assoc]
theorem um:∀l m:List aB,wL (l++m)=wL l+wL m
 | [],m=>by simp[wL]
 |v::l,m=>by simp[wL,um l m];omega
theorem adV:∀l m:List (List UInt8),eo (l++m)=eo l+eo m
 | [],m=>by simp[eo]
 |v::l,m=>by simp[eo,adV l m];omega
theorem auf(ts:List aA)(t:Int)(w:aB)(hw:aX ts t w=true):∀(l:List aB)(i:Nat),bA ts t l=true→bA ts t (l.set i w)=true
 | [],i,h=>by simp[bA]
 |v::l,0,h=>by simp only[bA,Bool.and_eq_true] at h;simp[bA,hw,h.2]
 |v::l,i+1,h=>by simp only[bA,Bool.and_eq_true] at h;simp[bA,h.1,auf ts t w hw l i h.2]
theorem aBr(w:aB):∀(l:List aB)(i:Nat),wL (l.set i w)≤wL l+wV w
 | [],i=>by simp[wL]
 |v::l,0=>by simp[wL];omega
 |v::l,i+1=>by have:=aBr w l i;simp only[List.set_cons_succ,wL];omega
theorem agZ(n:Int)(s:List UInt8)(l:List aB)(ks:List (List UInt8))(b:Int)(key:List UInt8)(w0:Int)(w1:List UInt8)(w2:List aB)(w3:List (List UInt8))(w4:Int)(h:ks.length=l.length)(hl:l.length≤10000):
  ∃r,fy n s l ks b key w0 w1 w2 w3 w4 r:=by
 apply avH 20000
 unfold amn uj
 refine bm (fun x=>match x with
  |(c0,c1,c2,c3,c4,c5,i,c6,c7,l',ks',c8,c9,c10,c11,c12,c13)=>c0=key∧(c1,c2,c3,c4,c5)=(w0,w1,w2,w3,w4)∧(c6,c7,c8)=(n,s,b)∧0≤i∧i≤(l.length:Int)∧ks'=ks∧l'=l∧∀j:Nat,(j:Int)<i→Op.bytesLess (ks.getD j []) key=true)
  (fun x=>((l.length:Int)-x.2.2.2.2.2.2.1).toNat) ?_ _ _ ⟨rfl,rfl,rfl,by simp,by simp,rfl,rfl,fun j hj=>by omega⟩ (by simp;omega)
 rintro again ⟨c0,c1,c2,c3,c4,c5,i,c6,c7,l,ks,c8,c9,c10,c11,c12,c13⟩ ⟨rfl,e1,e2,i1,i2,rfl,rfl,i3⟩ ih
 simp only[Prod.mk.injEq] at e1 e2
 obtain⟨rfl,rfl,rfl,rfl,rfl⟩:=e1
 obtain⟨rfl,rfl,rfl⟩:=e2
 simp only at i1 i2 ih h hl ⊢
 unfold xq
 dsimp only
 have next:i<l.length→Op.bytesLess (ks.getD i.toNat []) c0=true→Tot (again (c0,c1,c2,c3,c4,c5,IntKind.i64.wrap (i+1),c6,c7,l,ks,c8,c9,c10,c11,c12,c13)) _:=fun hl hb=>ih (c0,c1,c2,c3,c4,c5,IntKind.i64.wrap (i+1),c6,c7,l,ks,c8,c9,c10,c11,c12,c13)
  (by
   simp only[aI (i+1) (by omega)]
   refine⟨trivial,trivial,trivial,by omega,by omega,trivial,trivial,fun j hj=>?_⟩
   by_cases hji:(j:Int)<i
   ·exact i3 j hji
   ·have:j=i.toNat:=by omega
    rw[this];exact hb) (by simp only[aI (i+1) (by omega)];omega)
 have i4:∀j,j<i.toNat→j<ks.length→Op.bytesLess (ks.getD j []) c0=true:=fun j hj _=>i3 j (by omega)
 have ins:(∀_:i.toNat<ks.length,Op.bytesLess c0 (ks.getD i.toNat [])=true)→aCm c6 c7 l ks c8 c0 (.mk c1 c2 c3 c4 c5) (c6,c7,l.take i.toNat++((.mk c1 c2 c3 c4 c5)::l.drop i.toNat),ks.take i.toNat++(c0::ks.drop i.toNat),c8):=fun hlt=>by
  refine⟨rfl,rfl,rfl,?_,?_,fun h1 h2=>aBq _ _ _ h1 h2 i4 hlt,fun ts t h1 h2=>?_,fun h1 h2=>?_⟩
  ·simp only[um]
   have:=um (l.take i.toNat) (l.drop i.toNat)
   rw[List.take_append_drop] at this
   simp only[wL];omega
  ·simp only[adV]
   have:=adV (ks.take i.toNat) (ks.drop i.toNat)
   rw[List.take_append_drop] at this
   simp only[eo];omega
  ·have:=ae9 ts t (l.take i.toNat) (l.drop i.toNat)
   rw[List.take_append_drop,h1] at this
   have this:=(Bool.and_eq_true _ _▸this.symm:_∧_)
   simp[ae9,bA,this.1,this.2,h2]
  ·by_cases hi:i.toNat<ks.length
   ·have h3:=h1 (ks.getD i.toNat []) (by simp[List.getD,hi])
    rw[axI h3] at hlt
    simp at hlt;omega
   ·rw[List.take_of_length_le (by omega),List.drop_eq_nil_of_le (by omega),List.take_of_length_le (by omega),List.drop_eq_nil_of_le (by omega)]
    exact⟨rfl,rfl⟩
 have same:(i.toNat<ks.length∧ks.getD i.toNat []=c0)→aCm c6 c7 l ks c8 c0 (.mk c1 c2 c3 c4 c5) (c6,c7,l.set i.toNat (.mk c1 c2 c3 c4 c5),ks,c8):=fun hsame=>by
  refine⟨rfl,rfl,rfl,aBr _ _ _,by simp only;omega,fun h1 _=>h1,fun ts t h1 h2=>auf ts t _ h2 _ _ h1,fun h1 _=>?_⟩
  have h3:=h1 (ks.getD i.toNat []) (by simp[List.getD,hsame.1])
  rw[hsame.2] at h3
  have h4:=axI h3
  rw[h3] at h4;cases h4
 repeat' (first|(with_reducible refine aD ?_ ?_<;>(intro hb;(try simp only[bnl] at hb);(try revert hb;intro _)))|with_reducible refine aP ?_ ?_|with_reducible refine aG ?_|(exact next (by omega) (by assumption))|fail)
 all_goals first|(first|(simp only[bnl,lnl];done)|(simp only[bnl,lnl];omega))|skip
 all_goals
  refine⟨_,_,_,_,_,_,rfl,rfl,?_,?_,?_⟩
  ·simp only[List.length_append,List.length_cons,List.length_nil,List.length_drop,List.length_take,List.length_set];omega
  ·simp only[List.length_append,List.length_cons,List.length_nil,List.length_drop,List.length_take,List.length_set];omega
 ·exact same ⟨by omega,by assumption⟩
 ·simpa using ins fun _=>aBp (by assumption) (by assumption)
 ·simpa using ins fun hh=>by omega
end Go.Proofs.YtdpajabhmmmjoaaGreat
end
noncomputable section
namespace Go.Proofs.YtdpajabhmmmjoaaGreat
open Go.AM
set_option autoImplicit false
set_option linter.unusedVariables false
set_option linter.unusedSimpArgs false
set_option maxRecDepth 100000
theorem azL{R R':Type}{Q:R→Prop}[Inhabited R']{C:R'→Prop}{K:R'→Option R}(h:∃r,C r)(hK:C (pick C)→Tot (K (pick C)) Q):Tot (aE C K) Q:=aP (aqd h) (hK (agi h))
theorem acZ{m:Nat}{k:aA}(hk:iR m k):k.kind=1∨k.kind=2∨k.kind=3∨k.kind=4∨k.kind=5∨k.kind=6∨k.kind=7∨k.kind=8∨k.kind=9∨k.kind=10∨k.kind=11∨k.kind=12∨k.kind=13∨k.kind=14:=by
 have:=hk.kind;omega
theorem amu{ts:List aA}{t:Int}(h:0≤t∧t<ts.length):isT ts t=true:=by
 simp only[isT,Bool.and_eq_true,decide_eq_true_eq];exact h
theorem aBs{m:Nat}(ts:List aA)(t:Int)(ht:isT ts t=true)(hk:iR m (ts.getD t.toNat (aC .atype)))(h9:(ts.getD t.toNat (aC .atype)).kind≠9)(h11:(ts.getD t.toNat (aC .atype)).kind≠11)(h14:(ts.getD t.toNat (aC .atype)).kind≠14):
  aX ts t (.mk 0 [] [] [] 0)=true:=by
 rw[aX,ht]
 simp only[Bool.true_and]
 generalize ts.getD t.toNat (aC .atype)=k at*
 have he:=hk.enum
 have hns:=hk.ns
 rcases acZ hk with e|e|e|e|e|e|e|e|e|e|e|e|e|e
 all_goals first|exact absurd e h9|exact absurd e h11|exact absurd e h14|skip
 all_goals rw[e]
 all_goals first|rfl|skip
 ·have h0:0<k.syms.length:=List.length_pos_iff.2 (he e)
  have hw:IntKind.wrap .u64 (k.syms.length:Int)=(k.syms.length:Int):=dN _ (by omega)
  show ((decide ((0:Int)≤0)&&decide ((0:Int)<IntKind.wrap .u64 (k.syms.length:Int)))&&true)=true
  rw[hw];simp;omega
theorem aAA{m:Nat}(ts:List aA)(t:Int)(ht:isT ts t=true)(hk:iR m (ts.getD t.toNat (aC .atype)))(h11:(ts.getD t.toNat (aC .atype)).kind=11)(s:List UInt8)(hs:(s.length:Int)=(ts.getD t.toNat (aC .atype)).size):
  aX ts t (.mk 0 s [] [] 0)=true:=by
 rw[aX,ht]
 simp only[Bool.true_and]
 rw[h11,←hs]
 show (((s.length:Int)==(s.length:Int))&&true)=true
 simp
theorem axJ(ts:List aA)(t:Int)(ht:isT ts t=true)(h9:(ts.getD t.toNat (aC .atype)).kind=9)(l:List aB)(hl:l.length=(ts.getD t.toNat (aC .atype)).fields.length)(hf:gP ts (ts.getD t.toNat (aC .atype)).fields l=true):
  aX ts t (.mk 0 [] l [] 0)=true:=by
 rw[aX,ht]
 simp only[Bool.true_and]
 rw[h9]
 show ((decide (l.length=(ts.getD t.toNat (aC .atype)).fields.length)&&gP ts (ts.getD t.toNat (aC .atype)).fields l)&&true)=true
 rw[hf,hl];simp
theorem axK(ts:List aA)(t:Int)(ht:isT ts t=true)(h14:(ts.getD t.toNat (aC .atype)).kind=14)(b:Int)(v:aB)(hb:0≤b∧b<(ts.getD t.toNat (aC .atype)).branches.length)(hv:aX ts ((ts.getD t.toNat (aC .atype)).branches.getD b.toNat 0) v=true):
  aX ts t (.mk 0 [] [v] [] b)=true:=by
 rw[aX,ht]
 simp only[Bool.true_and]
 rw[h14]
 show ((decide (0≤b)&&(decide (b<((ts.getD t.toNat (aC .atype)).branches.length:Int))&&(((([v]:List aB).length:Int)==1)&&bA ts ((ts.getD t.toNat (aC .atype)).branches.getD b.toNat 0) [v])))&&true)=true
 generalize ts.getD t.toNat (aC .atype)=k at*
 simp only[bA,hv,decide_eq_true hb.1,decide_eq_true hb.2,Bool.and_true,Bool.true_and,List.length_singleton]
 rfl
theorem amv(ts:List aA):∀(fs:List aO)(l:List aB)(f:aO)(v:aB),fs.length=l.length→gP ts fs l=true→aX ts f.typ v=true→gP ts (fs++[f]) (l++[v])=true
 | [],[],f,v,_,_,hv=>by simp[gP,hv]
 |f'::fs,v'::l,f,v,hl,h,hv=>by
  simp only[gP,List.headD_cons,List.tail_cons,Bool.and_eq_true] at h
  simp[gP,h.1,amv ts fs l f v (by simpa using hl) h.2 hv]
theorem aaG:eo []=0:=rfl
theorem amw(ts:List aA)(hs:dJ ts)(r:List Int)(hR:jI ts r ts.length):∀(n:Nat)(t:Int),0≤t∧t<ts.length→0≤rk r t→rk r t<n→∃v,jK ts t r v
 |0=>fun t _ h1 h2=>by omega
 |n+1=>by
  intro t ht h1 h2
  have hrl:=hR.len
  have hk:=hs.at (i:=t.toNat) (by omega)
  have hT:=amu ht
  have hok:=hR.ok t.toNat (by omega)
  have hnul:=hR.nul t.toNat (by omega)
  have ewt:r.getD t.toNat 0=rk r t:=rfl
  rw[ewt] at hok hnul
  have hw:∀w,xZ ts r w→mz (ts.getD t.toNat (aC .atype)) r w (rk w t):=fun w hw=>hw.ok t.toNat (by omega) h1
  apply aq9 1000
  unfold aaC qn
  dsimp only
  refine vck (aD (fun h11=>?_) (fun h11=>aD (fun h9=>?_) (fun h9=>aD (fun h14=>?_) (fun h14=>?_))))
  ·have h11:(ts.getD t.toNat (aC .atype)).kind=11:=by simp only[bnl] at h11;exact h11
   have hz:=hk.size
   refine vck ?_
   refine aG ⟨_,_,_,_,_,_,_,_,rfl,rfl,aAA ts t hT hk h11 _ (by rw[List.length_replicate];omega),fun _=>⟨rfl,fun _=>⟨rfl,rfl⟩⟩,fun w hwo _=>?_⟩
   have:=(hw w hwo).pos
   simp only[wV,wL,aaG,List.length_replicate]
   omega
  ·have h9:(ts.getD t.toNat (aC .atype)).kind=9:=by simp only[bnl] at h9;exact h9
   have h1':1≤rk r t:=by
    by_cases h0:rk r t=0
    ·exact absurd h9 (hnul h0).1
    ·omega
   have hro:=hok h1'
   have hrc:=hro.rcd (by omega)
   have hnf:=hk.nf
   generalize hkk:ts.getD t.toNat (aC .atype)=k at*
   refine bm (fun x=>match x with
    |(r',ts',k',i,a0,a1,a2,a3,a4,b0,b1,l,ks,b4)=>r'=r∧ts'=ts∧k'=k∧0≤i∧i≤(k.fields.length:Int)∧b0=0∧b1=[]∧ks=[]∧b4=0∧(l.length:Int)=i∧gP ts (k.fields.take i.toNat) l=true∧
     ∀w,xZ ts r w→rk w t≤2000→(wL l:Int)≤6000*nK w (k.fields.take i.toNat))
    (fun x=>((k.fields.length:Int)-x.2.2.2.1).toNat) ?_ _ _ ⟨rfl,rfl,rfl,by simp,by simp,rfl,rfl,rfl,rfl,rfl,rfl,fun w _ _=>by simp[wL,nK]⟩ (by simp;omega)
   rintro again ⟨r',ts',k',i,a0,a1,a2,a3,a4,b0,b1,l,ks,b4⟩ ⟨rfl,rfl,rfl,i1,i2,rfl,rfl,rfl,rfl,i3,i4,i5⟩ ih
   dsimp only at ih
   unfold te
   dsimp only
   refine aD (fun h=>?_) (fun h=>?_)
   ·have h:=of_decide_eq_true h
    have hi:i.toNat<k'.fields.length:=by omega
    have hmem:=fH k'.fields i.toNat (aC .afield) hi
    have hf:=hk.fields _ hmem
    have hfr:=hrc _ hmem
    have htk:=ae5 k'.fields i.toNat (aC .afield) hi
    generalize k'.fields.getD i.toNat (aC .afield)=f at*
    refine vck ?_
    refine aF (amw ts' hs r' hR n f.typ ⟨hf.1,hf.2.1⟩ hfr.1 (by omega)) ?_
    rintro⟨v0,v1,vf,v2,vg,v3,v4⟩ ⟨-,q1,q2,q3⟩
    dsimp only at q1 q3 ⊢
    have ei:IntKind.i64.wrap (i+1)=i+1:=aI (i+1) (by omega)
    have eit:(i+1).toNat=i.toNat+1:=by omega
    refine vck ?_
    refine ih (r',ts',k',_,a0,a1,a2,a3,a4,0,[],_,[],0) ?_ (by simp only[ei];omega)
    simp only[ei]
    rw[eit,htk]
    refine⟨trivial,trivial,trivial,by omega,by omega,trivial,trivial,trivial,trivial,by simp;omega,amv ts' _ _ _ _ (by simp;omega) i4 q1,fun w hw1 hw2=>?_⟩
    rw[apB,um]
    have:=i5 w hw1 hw2
    have hwf:=hw w hw1
    have hsum:=hwf.rcd h9
    have hpos:∀g∈k'.fields,0≤rk w g.typ:=fun g hg=>by
     have hg1:=hrc g hg
     have hg2:=hk.fields g hg
     have:=(hw1.ok g.typ.toNat (by omega) hg1.1).pos
     unfold rk;omega
    have hle:=apA hpos f hmem
    have hq:=q3 w hw1 (by omega)
    simp only[wL,nK] at hq ⊢
    omega
   ·have h:=of_decide_eq_false h
    rw[List.take_of_length_le (by omega)] at i4 i5
    refine aG ⟨_,_,_,_,_,_,_,_,rfl,rfl,axJ ts' t hT (by rw[hkk];exact h9) l (by rw[hkk];omega) (by rw[hkk];exact i4),fun hh=>absurd h9 (by rw[hkk] at hh;exact hh),fun w hw1 hw2=>?_⟩
    have hwf:=hw w hw1
    have hsum:=hwf.rcd h9
    have:=i5 w hw1 hw2
    simp only[wV,aaG,List.length_nil]
    omega
  ·have h14:(ts.getD t.toNat (aC .atype)).kind=14:=by simp only[bnl] at h14;exact h14
   have h1':1≤rk r t:=by
    by_cases h0:rk r t=0
    ·exact absurd h14 (hnul h0).2
    ·omega
   have hro:=hok h1'
   refine aF (ari _ _ hk h14 r hrl) ?_
   rintro(b:Int) ⟨-,hb⟩
   have hbl:=hb.lt
   have hbn:=hb.nn
   have hbm:=hk.branches _ (fH _ b.toNat 0 (by omega))
   have hc:=aby (ts:=ts) (m:=0) hro h14 hb
   refine vck ?_
   refine aF (amw ts hs r hR n (brT (ts.getD t.toNat (aC .atype)) b.toNat) hbm hc.1 (by omega)) ?_
   rintro⟨v0,v1,vf,v2,vg,v3,v4⟩ ⟨-,q1,q2,q3⟩
   dsimp only at q1 q3 ⊢
   refine aG ⟨_,_,_,_,_,_,_,_,rfl,rfl,axK ts t hT h14 b _ ⟨hbn,hbl⟩ q1,fun _=>⟨rfl,fun h=>absurd h14 h⟩,fun w hw1 hw2=>?_⟩
   have hwf:=hw w hw1
   have hu:=hwf.uni h14 b hb
   have q3:∀w,xZ ts r w→rk w (brT (ts.getD t.toNat (aC .atype)) b.toNat)≤2000→(wV (.mk v0 v1 v2 v3 v4):Int)≤6000*rk w (brT (ts.getD t.toNat (aC .atype)) b.toNat):=q3
   have hq:=q3 w hw1 (by omega)
   simp only[wV,wL,aaG,List.length_nil] at hq ⊢
   omega
  ·have h11:(ts.getD t.toNat (aC .atype)).kind≠11:=by simp only[bnl] at h11;exact h11
   have h9:(ts.getD t.toNat (aC .atype)).kind≠9:=by simp only[bnl] at h9;exact h9
   have h14:(ts.getD t.toNat (aC .atype)).kind≠14:=by simp only[bnl] at h14;exact h14
   refine aG ⟨_,_,_,_,_,_,_,_,rfl,rfl,aBs ts t hT hk h9 h11 h14,fun _=>⟨rfl,fun _=>⟨rfl,rfl⟩⟩,fun w hwo _=>?_⟩
   have:=(hw w hwo).pos
   simp only[wV,wL,aaG,List.length_nil]
   omega
theorem axL(ts:List aA)(hs:dJ ts):jI ts (rkS ts) ts.length:=(agi (aud ts hs)).2
theorem aBt(ts:List aA)(hs:dJ ts):xZ ts (rkS ts) (wtS ts):=(agi (aol ts hs (rkS ts) (axL ts hs))).2
theorem aBu(ts:List aA)(hs:dJ ts)(t:Int):∃v,rY ts t v:=by
 apply arb 1
 unfold aaD agU
 dsimp only
 have hR:=axL ts hs
 have hW:=aBt ts hs
 refine azL (aud ts hs) ?_
 rintro -
 change Tot (aE (kL ts t) _) _
 refine aF (amt ts t) ?_
 rintro r ⟨-,hr⟩
 have hr:r=isT ts t:=hr
 have hrl:=hR.len
 have hwl:=hW.len
 refine aD (fun h=>aG ⟨_,_,_,_,_,_,_,_,_,rfl,rfl,?_,fun hh=>by cases hh⟩) (fun h=>?_)
 ·have:isT ts t=false:=by rw[←hr];simpa using h
  simp[xD,this]
 have hT:isT ts t=true:=by rw[←hr];simpa using h
 have ht:0≤t∧t<(ts.length:Int):=by simpa [isT] using hT
 change Tot (chk (decide (0≤t)&&decide (t<((rkS ts).length:Int))) (cond (decide (rk (rkS ts) t<0)) _ (aE (iV ts (rkS ts)) _))) _
 refine vck (aD (fun h0=>aG ⟨_,_,_,_,_,_,_,_,_,rfl,rfl,?_,fun hh=>by cases hh⟩) (fun h0=>?_))
 ·have h0:=of_decide_eq_true h0
  simp only[xD]
  rw[decide_eq_false (show ¬0≤rk (rkS ts) t by omega)];simp
 have h0:=of_decide_eq_false h0
 refine azL (aol ts hs (rkS ts) hR) ?_
 rintro -
 change Tot (chk (decide (0≤t)&&decide (t<((wtS ts).length:Int))) (cond (decide (2000<rk (wtS ts) t)) _ (aE (jK ts t (rkS ts)) _))) _
 refine vck (aD (fun h1=>aG ⟨_,_,_,_,_,_,_,_,_,rfl,rfl,?_,fun hh=>by cases hh⟩) (fun h1=>?_))
 ·have h1:=of_decide_eq_true h1
  simp only[xD]
  rw[decide_eq_false (show ¬rk (wtS ts) t≤2000 by omega)];simp
 have h1:=of_decide_eq_false h1
 have hrt:=hR.top t.toNat (by omega)
 have e:rk (rkS ts) t=(rkS ts).getD t.toNat 0:=rfl
 refine aF (amw ts hs (rkS ts) hR 100 t ht (by omega) (by have:=hs.1;omega)) ?_
 rintro⟨v0,v1,vf,v2,vg,v3,v4⟩ ⟨-,q1,q2,q3⟩
 refine aG ⟨_,_,_,_,_,_,_,_,_,rfl,rfl,?_,fun _=>⟨⟨q1,?_⟩,q2⟩⟩
 ·simp only[xD,hT]
  rw[decide_eq_true (show 0≤rk (rkS ts) t by omega),decide_eq_true (show rk (wtS ts) t≤2000 by omega)];rfl
 ·have:=q3 (wtS ts) hW (by omega)
  dsimp only at this ⊢
  omega
end Go.Proofs.YtdpajabhmmmjoaaGreat
end
noncomputable section
namespace Go.Proofs.YtdpajabhmmmjoaaGreat
open Go.AM
set_option autoImplicit false
set_option linter.unusedVariables false
set_option linter.unusedSimpArgs false
set_option maxRecDepth 100000
theorem awn:∀k,12000000≤bW k
 |0=>Nat.le_refl _
 |k+1=>by have:=awn k;simp only[bW];omega
theorem wE:∀l:List aB,40*l.length≤wL l
 | []=>by simp
 | .mk n s l ks b::m=>by have:=wE m;simp only[wL,wV,List.length_cons];omega
theorem amx{a b c:Bool}(h:(a&&b)=true)(hc:c=true):(c&&b)=true:=by
 cases a<;>cases b<;>simp_all
section
variable{ts:List aA}{t:Int}
theorem aCq{m:Nat}(hk:iR m (ts.getD t.toNat (aC .atype)))(hq:(ts.getD t.toNat (aC .atype)).kind=2∨(ts.getD t.toNat (aC .atype)).kind=3∨(ts.getD t.toNat (aC .atype)).kind=4∨(ts.getD t.toNat (aC .atype)).kind=5∨(ts.getD t.toNat (aC .atype)).kind=6∨(ts.getD t.toNat (aC .atype)).kind=10)
  {n x:Int} {s:List UInt8} {l:List aB} {ks:List (List UInt8)} {b:Int} (h:aX ts t (.mk n s l ks b)=true) (hx:mT (ts.getD t.toNat (aC .atype)).kind (ts.getD t.toNat (aC .atype)).syms x=true):aX ts t (.mk x s l ks b)=true:=by
 rw[aX,Bool.and_eq_true] at h ⊢
 refine⟨h.1,?_⟩
 have h:=h.2
 generalize ts.getD t.toNat (aC .atype)=k at*
 rcases hq with e|e|e|e|e|e<;>simp only[e] at h hx ⊢
 ·exact amx (a:=mT 2 k.syms n) (b:=cA 0 s l ks b) h hx
 ·exact amx (a:=mT 3 k.syms n) (b:=cA 0 s l ks b) h hx
 ·exact amx (a:=mT 4 k.syms n) (b:=cA 0 s l ks b) h hx
 ·exact amx (a:=mT 5 k.syms n) (b:=cA 0 s l ks b) h hx
 ·exact amx (a:=mT 6 k.syms n) (b:=cA 0 s l ks b) h hx
 ·exact amx (a:=mT 10 k.syms n) (b:=cA 0 s l ks b) h hx
theorem aBv{m:Nat}(hk:iR m (ts.getD t.toNat (aC .atype)))(hq:(ts.getD t.toNat (aC .atype)).kind=7∨(ts.getD t.toNat (aC .atype)).kind=8)
  {n:Int} {s x:List UInt8} {l:List aB} {ks:List (List UInt8)} {b:Int} (h:aX ts t (.mk n s l ks b)=true) (hx:uN (ts.getD t.toNat (aC .atype)).kind (ts.getD t.toNat (aC .atype)).size x=true):aX ts t (.mk n x l ks b)=true:=by
 rw[aX,Bool.and_eq_true] at h ⊢
 refine⟨h.1,?_⟩
 have h:=h.2
 generalize ts.getD t.toNat (aC .atype)=k at*
 rcases hq with e|e<;>simp only[e] at h hx ⊢
 ·exact amx (a:=uN 7 k.size s) (b:=cA n [] l ks b) h hx
 ·exact amx (a:=uN 8 k.size s) (b:=cA n [] l ks b) h hx
theorem aaH{n:Int}{s:List UInt8}{l:List aB}{ks:List (List UInt8)}{b:Int}(h:cA n s l ks b=true):n=0∧s=[]∧l=[]∧ks=[]∧b=0:=by
 simp only[cA,Bool.and_eq_true,beq_iff_eq,decide_eq_true_eq] at h
 obtain⟨h1,h2,h3,h4,h5⟩:=h
 exact⟨h1,h2,List.length_eq_zero_iff.1 (by omega),List.length_eq_zero_iff.1 (by omega),h5⟩
theorem aBw(e:(ts.getD t.toNat (aC .atype)).kind=9){n:Int}{s:List UInt8}{l:List aB}{ks:List (List UInt8)}{b:Int}(h:aX ts t (.mk n s l ks b)=true):n=0∧s=[]∧ks=[]∧b=0:=by
 rw[aX,Bool.and_eq_true] at h
 have h:=h.2
 simp only[e] at h
 have h:((decide (l.length=(ts.getD t.toNat (aC .atype)).fields.length)&&gP ts (ts.getD t.toNat (aC .atype)).fields l)&&cA n s [] ks b)=true:=h
 have:=aaH (Bool.and_eq_true_iff.1 h).2
 exact⟨this.1,this.2.1,this.2.2.2.1,this.2.2.2.2⟩
theorem azM(e:(ts.getD t.toNat (aC .atype)).kind=12){n:Int}{s:List UInt8}{l:List aB}{ks:List (List UInt8)}{b:Int}(h:aX ts t (.mk n s l ks b)=true):n=0∧s=[]∧ks=[]∧b=0:=by
 rw[aX,Bool.and_eq_true] at h
 have h:=h.2
 simp only[e] at h
 have h:(bA ts (ts.getD t.toNat (aC .atype)).items l&&cA n s [] ks b)=true:=h
 have:=aaH (Bool.and_eq_true_iff.1 h).2
 exact⟨this.1,this.2.1,this.2.2.2.1,this.2.2.2.2⟩
theorem azN(e:(ts.getD t.toNat (aC .atype)).kind=13){n:Int}{s:List UInt8}{l:List aB}{ks:List (List UInt8)}{b:Int}(h:aX ts t (.mk n s l ks b)=true):n=0∧s=[]∧b=0:=by
 rw[aX,Bool.and_eq_true] at h
 have h:=h.2
 simp only[e] at h
 have h:((((ks.length:Int)==(l.length:Int))&&(dl ks&&bA ts (ts.getD t.toNat (aC .atype)).items l))&&cA n s [] [] b)=true:=h
 have:=aaH (Bool.and_eq_true_iff.1 h).2
 exact⟨this.1,this.2.1,this.2.2.2.2⟩
theorem azO(e:(ts.getD t.toNat (aC .atype)).kind=14){n:Int}{s:List UInt8}{l:List aB}{ks:List (List UInt8)}{b:Int}(h:aX ts t (.mk n s l ks b)=true):n=0∧s=[]∧ks=[]:=by
 rw[aX,Bool.and_eq_true] at h
 have h:=h.2
 simp only[e] at h
 have h:((decide (0≤b)&&(decide (b<((ts.getD t.toNat (aC .atype)).branches.length:Int))&&(((l.length:Int)==1)&&bA ts ((ts.getD t.toNat (aC .atype)).branches.getD b.toNat 0) l)))&&cA n s [] ks 0)=true:=h
 have:=aaH (Bool.and_eq_true_iff.1 h).2
 exact⟨this.1,this.2.1,this.2.2.2.1⟩
theorem aCr(ht:isT ts t=true)(e:(ts.getD t.toNat (aC .atype)).kind=12){l:List aB}(h:bA ts (ts.getD t.toNat (aC .atype)).items l=true):aX ts t (.mk 0 [] l [] 0)=true:=by
 rw[aX,ht]
 simp only[Bool.true_and]
 rw[e]
 show (bA ts (ts.getD t.toNat (aC .atype)).items l&&true)=true
 rw[h];rfl
theorem aCs(ht:isT ts t=true)(e:(ts.getD t.toNat (aC .atype)).kind=13){l:List aB}{ks:List (List UInt8)}(hl:ks.length=l.length)(hk:dl ks=true)(h:bA ts (ts.getD t.toNat (aC .atype)).items l=true):aX ts t (.mk 0 [] l ks 0)=true:=by
 rw[aX,ht]
 simp only[Bool.true_and]
 rw[e]
 show ((((ks.length:Int)==(l.length:Int))&&(dl ks&&bA ts (ts.getD t.toNat (aC .atype)).items l))&&true)=true
 rw[h,hk,hl];simp
end
theorem ark{ts:List aA}{t:Int}(h:xD ts t=true):0≤t∧t<ts.length∧0≤rk (rkS ts) t∧rk (wtS ts) t≤2000:=by
 simp only[xD,isT,Bool.and_eq_true,decide_eq_true_eq] at h;omega
theorem aAB{ts:List aA}(hs:dJ ts){t:Int}(h:xD ts t=true)(h9:(ts.getD t.toNat (aC .atype)).kind=9){f:aO}(hf:f∈(ts.getD t.toNat (aC .atype)).fields):xD ts f.typ=true:=by
 obtain⟨h1,h2,h3,h4⟩:=ark h
 have hR:=axL ts hs
 have hW:=aBt ts hs
 have hrl:=hR.len
 have hk:=hs.at (i:=t.toNat) (by omega)
 have h3':0≤(rkS ts).getD t.toNat 0:=h3
 have hp:1≤(rkS ts).getD t.toNat 0:=by
  by_cases h0:(rkS ts).getD t.toNat 0=0
  ·exact absurd h9 (hR.nul t.toNat (by omega) h0).1
  ·omega
 have hro:=hR.ok t.toNat (by omega) hp
 have hrc:=hro.rcd (by omega)
 have hty:=hk.fields f hf
 have hpos:∀g∈(ts.getD t.toNat (aC .atype)).fields,0≤rk (wtS ts) g.typ:=fun g hg=>by
  have hg1:=hrc g hg
  have hg2:=hk.fields g hg
  have:=(hW.ok g.typ.toNat (by omega) hg1.1).pos
  unfold rk;omega
 have hle:=apA hpos f hf
 have hwt:=(hW.ok t.toNat (by omega) h3').rcd h9
 have h4':(wtS ts).getD t.toNat 0≤2000:=h4
 have hfr:=(hrc f hf).1
 simp only[xD,isT,Bool.and_eq_true,decide_eq_true_eq]
 exact⟨⟨hty.1,hty.2.1⟩,hfr,by omega⟩
theorem aug(m:Int)(h:0≤m∧m<5):cJ (([107]:List UInt8)++[UInt8.ofNat (Int.toNat (IntKind.wrap .u8 (IntKind.wrap .i64 (97+m))))])=true:=by
 have:m=0∨m=1∨m=2∨m=3∨m=4:=by omega
 rcases this with rfl|rfl|rfl|rfl|rfl<;>decide
def ag0(ts:List aA)(deep:Int):Prop:=∀(l:List UInt8)(n t:Int),eH l n→∃r,dG l n ts t deep r
theorem aCt(ts:List aA)(hs:dJ ts)(deep:Int)(hd:0≤deep∧deep≤5)(hV:ag0 ts (deep+1))(t:Int)(hL:xD ts t=true)(h9:(ts.getD t.toNat (aC .atype)).kind=9)(a0 a4:Int)(a1:List UInt8)(a2:List aB)(a3:List (List UInt8))(kf:Bool)(l:List UInt8)(n:Int)(hp:eH l n):
  Tot (aS 1000 (ko 1000) (deep,ts,ts.getD t.toNat (aC .atype),0,l,n,a0,a1,a2,a3,a4,0,[],[],kf,[],0)) (fun z=>∃(y0:aB)(y1:Bool)(y2:Bs)(y3:Int)(rest:List aJ),z.1.dimR=.tup [.agg (enc .aval y0),.bool y1]∧z.2=some [.sl .u8 (.may false) y2,.int .i64 y3]::rest∧dK l n ts t deep (y0,y1,y2,y3)):=by
 obtain⟨t1,t2, -, -⟩:=ark hL
 have hk:=hs.at (i:=t.toNat) (by omega)
 have hnf:=hk.nf
 have hfl:∀f∈(ts.getD t.toNat (aC .atype)).fields,xD ts f.typ=true:=fun f hf=>aAB hs hL h9 hf
 have ed:IntKind.i64.wrap (deep+1)=deep+1:=aI (deep+1) (by omega)
 generalize hkk:ts.getD t.toNat (aC .atype)=k at*
 have hbw:bW (6-deep.toNat)=8*bW (6-(deep+1).toNat)+1000:=by
  have:6-deep.toNat=(6-(deep+1).toNat)+1:=by omega
  rw[this];rfl
 refine bm (fun x=>match x with
  |(d,ts',k',i,l',n',b0,b1,b2,b3,b4,c0,c1,c2,cf,c3,c4)=>d=deep∧ts'=ts∧k'=k∧0≤i∧i≤(k.fields.length:Int)∧l'=l∧eH l n'∧c0=0∧c1=[]∧c3=[]∧c4=0∧(c2.length:Int)=i∧gP ts (k.fields.take i.toNat) c2=true∧wL c2≤i.toNat*bW (6-(deep+1).toNat))
  (fun x=>((k.fields.length:Int)-x.2.2.2.1).toNat) ?_ _ _ ⟨rfl,rfl,rfl,by simp,by simp,rfl,hp,rfl,rfl,rfl,rfl,rfl,rfl,by simp[wL]⟩ (by simp;omega)
 rintro again ⟨d,ts',k',i,l',n',b0,b1,b2,b3,b4,c0,c1,c2,cf,c3,c4⟩ ⟨rfl,rfl,rfl,i1,i2,rfl,i3,rfl,rfl,rfl,rfl,i4,i5,i6⟩ ih
 dsimp only at ih
 unfold ko
 dsimp only
 rw[ed]
 refine aD (fun h=>?_) (fun h=>?_)
 ·have h:=of_decide_eq_true h
  have hi:i.toNat<k'.fields.length:=by omega
  have hmem:=fH k'.fields i.toNat (aC .afield) hi
  have htk:=ae5 k'.fields i.toNat (aC .afield) hi
  have hff:=hfl _ hmem
  generalize k'.fields.getD i.toNat (aC .afield)=f at*
  refine vck ?_
  refine aF (hV l' n' f.typ i3) ?_
  rintro⟨v,is,l2,n2⟩ ⟨-,q1,q2,q3,q4⟩
  dsimp only at q1 q2 q3 q4 ⊢
  subst q3
  obtain⟨q5,q6⟩:=q2 (by rw[q1];exact hff)
  have ei:IntKind.i64.wrap (i+1)=i+1:=aI (i+1) (by omega)
  have eit:(i+1).toNat=i.toNat+1:=by omega
  refine vck ?_
  refine ih (d,ts',k',_,l2,n2,b0,b1,b2,b3,b4,0,[],_,cf,[],0) ?_ (by simp only[ei];omega)
  simp only[ei,dX]
  rw[eit,htk]
  refine⟨trivial,trivial,trivial,by omega,by omega,trivial,q4,trivial,trivial,trivial,trivial,by simp;omega,amv ts' _ _ _ _ (by simp;omega) i5 q5,?_⟩
  rw[um,Nat.add_mul]
  simp only[wL];omega
 ·have h:=of_decide_eq_false h
  rw[List.take_of_length_le (by omega)] at i5
  refine aG ⟨.mk 0 [] c2 [] 0,_,_,_,_,rfl,rfl,hL.symm,fun _=>⟨axJ ts' t (amu ⟨t1,t2⟩) (by rw[hkk];exact h9) c2 (by rw[hkk];omega) (by rw[hkk];exact i5),?_⟩,rfl,i3⟩
  have:i.toNat*bW (6-(d+1).toNat)≤8*bW (6-(d+1).toNat):=Nat.mul_le_mul_right _ (by omega)
  simp only[wV,aaG,List.length_nil]
  omega
theorem arl(ts:List aA)(hs:dJ ts)(deep:Int)(hd:0≤deep∧deep≤5)(hV:ag0 ts (deep+1))(t:Int)(hL:xD ts t=true)(hkd:(ts.getD t.toNat (aC .atype)).kind=12∨(ts.getD t.toNat (aC .atype)).kind=13)(a0 a4:Int)(a1:List UInt8)(a2:List aB)(a3:List (List UInt8))(kf:Bool)(l:List UInt8)(n m:Int)(hm:0≤m∧m≤3)(hp:eH l n):
  Tot (aS 1000 (fI 1000) (Sum.inl (deep,ts,ts.getD t.toNat (aC .atype),m,l,n,a0,a1,a2,a3,a4,0,[],true,[],kf,[],0))) (fun z=>∃(y0:aB)(y1:Bool)(y2:Bs)(y3:Int)(rest:List aJ),z.1.dimR=.tup [.agg (enc .aval y0),.bool y1]∧z.2=some [.sl .u8 (.may false) y2,.int .i64 y3]::rest∧dK l n ts t deep (y0,y1,y2,y3)):=by
 obtain⟨t1,t2, -, -⟩:=ark hL
 have hT:=amu ⟨t1,t2⟩
 have hk:=hs.at (i:=t.toNat) (by omega)
 have ed:IntKind.i64.wrap (deep+1)=deep+1:=aI (deep+1) (by omega)
 generalize hkk:ts.getD t.toNat (aC .atype)=k at*
 have hbw:bW (6-deep.toNat)=8*bW (6-(deep+1).toNat)+1000:=by
  have:6-deep.toNat=(6-(deep+1).toNat)+1:=by omega
  rw[this];rfl
 have hbg:=awn (6-(deep+1).toNat)
 generalize hB:bW (6-(deep+1).toNat)=W at*
 have fin:∀(c2:List aB)(c3:List (List UInt8)),((k.kind=12∧c3=[])∨(k.kind=13∧c3.length=c2.length∧dl c3=true))→bA ts k.items c2=true→wL c2≤3*W→eo c3≤100→aAi ts t (.mk 0 [] c2 c3 0) (bW (6-deep.toNat)):=fun c2 c3 h1 h2 h3 h4=>by
  refine⟨?_,?_⟩
  ·rcases h1 with⟨e,rfl⟩|⟨e,h5,h6⟩
   ·exact aCr hT (by rw[hkk];exact e) (by rw[hkk];exact h2)
   ·exact aCs hT (by rw[hkk];exact e) h5 h6 (by rw[hkk];exact h2)
  ·rw[hbw];simp only[wV,List.length_nil];omega
 have hkey:∀c:UInt8,eo [([107]:List UInt8)++[c]]=12:=fun c=>rfl
 refine bm (fun x=>match x with
  | .inl (d,ts',k',i,l',n',b0,b1,b2,b3,b4,c0,c1,lf,c2,cf,c3,c4)=>d=deep∧ts'=ts∧k'=k∧0≤i∧i≤3∧l'=l∧eH l n'∧c0=0∧c1=[]∧c4=0∧lf=true∧c2=[]∧c3=[]
  | .inr (.inl (d,ts',k',i,l',n',b0,b1,b2,b3,b4,c0,c1,c2,cf,c3,c4))=>d=deep∧ts'=ts∧k'=k∧0≤i∧i≤3∧l'=l∧eH l n'∧c0=0∧c1=[]∧c4=0∧k.kind=12∧c3=[]∧(c2.length:Int)+i≤3∧bA ts k.items c2=true∧wL c2+i.toNat*W≤3*W
  | .inr (.inr (d,ts',k',i,l',n',b0,b1,b2,b3,b4,c0,c1,c2,c3,c4))=>d=deep∧ts'=ts∧k'=k∧0≤i∧i≤3∧l'=l∧eH l n'∧c0=0∧c1=[]∧c4=0∧k.kind=13∧c3.length=c2.length∧(c2.length:Int)+i≤3∧bA ts k.items c2=true∧wL c2+i.toNat*W≤3*W∧dl c3=true∧eo c3+12*i.toNat≤36)
  (fun x=>match x with
  | .inl (d,ts',k',i,_)=>i.toNat
  | .inr (.inl (d,ts',k',i,_))=>i.toNat
  | .inr (.inr (d,ts',k',i,_))=>i.toNat) ?_ _ _ ⟨rfl,rfl,rfl,hm.1,hm.2,rfl,hp,rfl,rfl,rfl,rfl,rfl,rfl⟩ (by simp only;omega)
 have mulW:∀i:Int,0<i→(i-1).toNat*W+W=i.toNat*W:=fun i hi=>by
  have:i.toNat=(i-1).toNat+1:=by omega
  rw[this,Nat.add_mul];omega
 rintro again (⟨d,ts',k',i,l',n',b0,b1,b2,b3,b4,c0,c1,lf,c2,cf,c3,c4⟩|⟨d,ts',k',i,l',n',b0,b1,b2,b3,b4,c0,c1,c2,cf,c3,c4⟩|⟨d,ts',k',i,l',n',b0,b1,b2,b3,b4,c0,c1,c2,c3,c4⟩)
 ·rintro⟨rfl,rfl,rfl,i1,i2,rfl,i3,rfl,rfl,rfl,rfl,rfl,rfl⟩ ih
  dsimp only at ih
  unfold fI
  dsimp only
  rw[ed]
  have finish:∀(n2:Int),eH l' n2→dK l' n ts' t d (.mk 0 [] [] [] 0,true,l',n2):=fun n2 h2=>⟨hL.symm,fun _=>fin [] [] (by rcases hkd with e|e;exact .inl ⟨e,rfl⟩;exact .inr ⟨e,rfl,rfl⟩) rfl (by simp[wL]) (by simp[eo]),rfl,h2⟩
  refine aD (fun h=>?_) (fun h=>aG ⟨.mk 0 [] [] [] 0,_,_,_,_,rfl,rfl,finish _ i3⟩)
  have h0:=of_decide_eq_true h
  refine aF (hV l' n' k'.items i3) ?_
  rintro⟨v,is,l2,n2⟩ ⟨-,q1,q2,q3,q4⟩
  dsimp only at q1 q2 q3 q4 ⊢
  subst q3
  refine aD (fun hn=>aG ⟨.mk 0 [] [] [] 0,_,_,_,_,rfl,rfl,finish _ q4⟩) (fun hy=>?_)
  simp only[bnl] at hy
  obtain⟨q5,q6⟩:=q2 hy
  rw[hB] at q6
  have ei:IntKind.i64.wrap (i-1)=i-1:=aI (i-1) (by omega)
  have hmw:=mulW i h0
  have h3w:i.toNat*W≤3*W:=Nat.mul_le_mul_right _ (by omega)
  refine aD (fun h12=>?_) (fun h12=>?_)
  ·simp only[bnl] at h12
   refine aP (by simp) ?_
   refine ih (.inr (.inl (d,ts',k',_,l2,n2,b0,b1,b2,b3,b4,0,[],_,cf,[],0))) ?_ (by simp only[ei];omega)
   simp only[ei,dX,List.nil_append]
   refine⟨trivial,trivial,trivial,by omega,by omega,trivial,q4,trivial,trivial,trivial,h12,trivial,by simp;omega,by simp[bA,q5],by simp only[wL];omega⟩
  ·simp only[bnl] at h12
   have h13:k'.kind=13:=by rcases hkd with e|e;exact absurd e h12;exact e
   refine aF (eY l2 n2 5 q4 (by omega) (by omega)) ?_
   rintro⟨m2,l3,n3⟩ ⟨-,p1,p2,p3,p4⟩
   dsimp only at p1 p2 p3 p4 ⊢
   subst p3
   refine aP (by simp) ?_
   have hkv:=aug m2 ⟨p1,p2⟩
   refine aF (agZ 0 [] [] [] 0 _ _ _ _ _ _ rfl (by simp)) ?_
   rintro⟨x0,x1,x2,x3,x4⟩ ⟨-,r1,r2,r3,r4,r5,r6,r7,r8,r9, -⟩
   dsimp only at r1 r2 r3 r4 r5 r6 r7 r8 r9 ⊢
   subst r3;subst r4;subst r5
   refine ih (.inr (.inr (d,ts',k',_,l3,n3,b0,b1,b2,b3,b4,0,[],x2,x3,0))) ?_ (by simp only[ei];omega)
   simp only[ei]
   have hrv:(aB.mk v.n v.s v.l v.keys v.branch)=v:=dX v
   rw[hrv] at r6 r9
   simp only[List.length_nil,wL,eo,List.length_append,List.length_cons] at r2 r6 r7
   refine⟨trivial,trivial,trivial,by omega,by omega,trivial,p4,trivial,trivial,trivial,h13,r1,by omega,r9 _ _ rfl q5,by omega,r8 rfl hkv,by omega⟩
 ·rintro⟨rfl,rfl,rfl,i1,i2,rfl,i3,rfl,rfl,rfl,h12,rfl,i4,i5,i6⟩ ih
  dsimp only at ih
  unfold fI
  dsimp only
  rw[ed]
  have finish:∀(n2:Int),eH l' n2→dK l' n ts' t d (.mk 0 [] c2 [] 0,true,l',n2):=fun n2 h2=>⟨hL.symm,fun _=>fin c2 [] (.inl ⟨h12,rfl⟩) i5 (by omega) (by simp[eo]),rfl,h2⟩
  refine aD (fun h=>?_) (fun h=>aG ⟨.mk 0 [] c2 [] 0,_,_,_,_,rfl,rfl,finish _ i3⟩)
  have h0:=of_decide_eq_true h
  refine aF (hV l' n' k'.items i3) ?_
  rintro⟨v,is,l2,n2⟩ ⟨-,q1,q2,q3,q4⟩
  dsimp only at q1 q2 q3 q4 ⊢
  subst q3
  refine aD (fun hn=>aG ⟨.mk 0 [] c2 [] 0,_,_,_,_,rfl,rfl,finish _ q4⟩) (fun hy=>?_)
  simp only[bnl] at hy
  obtain⟨q5,q6⟩:=q2 hy
  rw[hB] at q6
  have ei:IntKind.i64.wrap (i-1)=i-1:=aI (i-1) (by omega)
  have hmw:=mulW i h0
  refine aD (fun _=>?_) (fun hc=>absurd h12 (by simp only[bnl] at hc;exact hc))
  refine vck ?_
  refine ih (.inr (.inl (d,ts',k',_,l2,n2,b0,b1,b2,b3,b4,0,[],_,cf,[],0))) ?_ (by simp only[ei];omega)
  simp only[ei,dX]
  refine⟨trivial,trivial,trivial,by omega,by omega,trivial,q4,trivial,trivial,trivial,h12,trivial,by simp;omega,by rw[ae9,i5];simp[bA,q5],by rw[um];simp only[wL];omega⟩
 ·rintro⟨rfl,rfl,rfl,i1,i2,rfl,i3,rfl,rfl,rfl,h13,i7,i4,i5,i6,i8,i9⟩ ih
  dsimp only at ih
  unfold fI
  dsimp only
  rw[ed]
  have finish:∀(n2:Int),eH l' n2→dK l' n ts' t d (.mk 0 [] c2 c3 0,true,l',n2):=fun n2 h2=>⟨hL.symm,fun _=>fin c2 c3 (.inr ⟨h13,i7,i8⟩) i5 (by omega) (by omega),rfl,h2⟩
  refine aD (fun h=>?_) (fun h=>aG ⟨.mk 0 [] c2 c3 0,_,_,_,_,rfl,rfl,finish _ i3⟩)
  have h0:=of_decide_eq_true h
  refine aF (hV l' n' k'.items i3) ?_
  rintro⟨v,is,l2,n2⟩ ⟨-,q1,q2,q3,q4⟩
  dsimp only at q1 q2 q3 q4 ⊢
  subst q3
  refine aD (fun hn=>aG ⟨.mk 0 [] c2 c3 0,_,_,_,_,rfl,rfl,finish _ q4⟩) (fun hy=>?_)
  simp only[bnl] at hy
  obtain⟨q5,q6⟩:=q2 hy
  rw[hB] at q6
  have ei:IntKind.i64.wrap (i-1)=i-1:=aI (i-1) (by omega)
  have hmw:=mulW i h0
  refine aD (fun hc=>?_) (fun _=>?_)
  ·simp only[bnl] at hc;omega
  refine aF (eY l2 n2 5 q4 (by omega) (by omega)) ?_
  rintro⟨m2,l3,n3⟩ ⟨-,p1,p2,p3,p4⟩
  dsimp only at p1 p2 p3 p4 ⊢
  subst p3
  refine aP (by simp) ?_
  have hkv:=aug m2 ⟨p1,p2⟩
  refine aF (agZ 0 [] c2 c3 0 _ _ _ _ _ _ i7 (by omega)) ?_
  rintro⟨x0,x1,x2,x3,x4⟩ ⟨-,r1,r2,r3,r4,r5,r6,r7,r8,r9, -⟩
  dsimp only at r1 r2 r3 r4 r5 r6 r7 r8 r9 ⊢
  subst r3;subst r4;subst r5
  refine ih (.inr (.inr (d,ts',k',_,l3,n3,b0,b1,b2,b3,b4,0,[],x2,x3,0))) ?_ (by simp only[ei];omega)
  simp only[ei]
  have hrv:(aB.mk v.n v.s v.l v.keys v.branch)=v:=dX v
  rw[hrv] at r6 r9
  simp only[List.length_append,List.length_cons,List.length_nil] at r7
  refine⟨trivial,trivial,trivial,by omega,by omega,trivial,p4,trivial,trivial,trivial,h13,r1,by omega,r9 _ _ i5 q5,by omega,r8 i8 hkv,by omega⟩
theorem auh(ts:List aA)(hs:dJ ts)(deep:Int)(hd:0≤deep∧deep≤6)(hV:deep≤5→ag0 ts (deep+1)):ag0 ts deep:=by
 intro l n t hp
 have ed:IntKind.i64.wrap (deep+1)=deep+1:=aI (deep+1) (by omega)
 apply aks 1000
 unfold abr lG
 dsimp only
 refine aF (aBu ts hs t) ?_
 rintro⟨n0,s0,lf,l0,kf,ks0,b0,is⟩ ⟨-,g1,g2⟩
 dsimp only at g1 g2 ⊢
 have hbg:=awn (6-deep.toNat)
 refine aD (fun h0=>?_) (fun h0=>?_)
 ·simp only[bnl] at h0
  exact aG ⟨.mk n0 s0 l0 ks0 b0,_,_,_,_,rfl,rfl,g1,fun hh=>absurd hh (by simp[h0]),rfl,hp⟩
 simp only[bnl] at h0
 obtain⟨⟨g3,g4⟩,g5⟩:=g2 h0
 have keep:aAi ts t (.mk n0 s0 l0 ks0 b0) (bW (6-deep.toNat)):=⟨g3,by omega⟩
 have hL:xD ts t=true:=by rw[←g1];exact h0
 refine aD (fun h5=>aG ⟨.mk n0 s0 l0 ks0 b0,_,_,_,_,rfl,rfl,g1,fun _=>keep,rfl,hp⟩) (fun h5=>?_)
 have h5:=of_decide_eq_false h5
 have hV:=hV (by omega)
 refine aF (axE l n) ?_
 rintro⟨ov,l2,n2⟩ ⟨-,o1,o2⟩
 dsimp only at o1 o2 ⊢
 subst o1;subst o2
 refine aD (fun _=>aG ⟨.mk n0 s0 l0 ks0 b0,_,_,_,_,rfl,rfl,g1,fun _=>keep,rfl,hp⟩) (fun _=>?_)
 obtain⟨t1,t2, -, -⟩:=ark hL
 have hT:=amu ⟨t1,t2⟩
 have hk:=hs.at (i:=t.toNat) (by omega)
 have hbw:bW (6-deep.toNat)=8*bW (6-(deep+1).toNat)+1000:=by
  have:6-deep.toNat=(6-(deep+1).toNat)+1:=by omega
  rw[this];rfl
 have hbg':=awn (6-(deep+1).toNat)
 refine vck ?_
 rw[ed]
 have num:∀(x n3:Int),eH l2 n3→((ts.getD t.toNat (aC .atype)).kind=2∨(ts.getD t.toNat (aC .atype)).kind=3∨(ts.getD t.toNat (aC .atype)).kind=4∨(ts.getD t.toNat (aC .atype)).kind=5∨(ts.getD t.toNat (aC .atype)).kind=6∨(ts.getD t.toNat (aC .atype)).kind=10)→
   mT (ts.getD t.toNat (aC .atype)).kind (ts.getD t.toNat (aC .atype)).syms x=true→dK l2 n2 ts t deep (.mk x s0 l0 ks0 b0,true,l2,n3):=fun x n3 h1 h2 h3=>⟨hL.symm,fun _=>⟨aCq hk h2 g3 h3,keep.2⟩,rfl,h1⟩
 have txt:∀(x:List UInt8)(n3:Int),eH l2 n3→((ts.getD t.toNat (aC .atype)).kind=7∨(ts.getD t.toNat (aC .atype)).kind=8)→x.length≤4→
   uN (ts.getD t.toNat (aC .atype)).kind (ts.getD t.toNat (aC .atype)).size x=true→dK l2 n2 ts t deep (.mk n0 x l0 ks0 b0,true,l2,n3):=fun x n3 h1 h2 h4 h3=>⟨hL.symm,fun _=>⟨aBv hk h2 g3 h3,by simp only[wV] at g4 ⊢;omega⟩,rfl,h1⟩
 refine aD (fun h2=>?_) (fun h2=>aD (fun h3=>?_) (fun h3=>aD (fun h4=>?_) (fun h4=>aD (fun h5=>?_) (fun h5=>aD (fun h6=>?_) (fun h6=>aD (fun h8=>?_) (fun h8=>aD (fun h7=>?_) (fun h7=>aD (fun h10=>?_) (fun h10=>aD (fun h14=>?_) (fun h14=>aD (fun h9=>?_) (fun h9=>aD (fun h12=>?_) (fun h12=>aD (fun h13=>?_) (fun h13=>?_))))))))))))
 ·have h2:(ts.getD t.toNat (aC .atype)).kind=2:=by simp only[bnl] at h2;exact h2
  refine aF (eY l2 n2 2 hp (by omega) (by omega)) ?_
  rintro⟨m2,l3,n3⟩ ⟨-,p1,p2,p3,p4⟩
  dsimp only at p1 p2 p3 p4 ⊢
  subst p3
  refine aG ⟨.mk (IntKind.wrap .u64 m2) s0 l0 ks0 b0,_,_,_,_,rfl,rfl,num _ _ p4 (by omega) ?_⟩
  rw[h2,dN _ (by omega)]
  show (decide (0≤m2)&&decide (m2≤1))=true
  simp;omega
 ·have h3:(ts.getD t.toNat (aC .atype)).kind=3:=by simp only[bnl] at h3;exact h3
  refine aF (eY l2 n2 7 hp (by omega) (by omega)) ?_
  rintro⟨m2,l3,n3⟩ ⟨-,p1,p2,p3,p4⟩
  dsimp only at p1 p2 p3 p4 ⊢
  subst p3
  refine vck (aG ⟨.mk _ s0 l0 ks0 b0,_,_,_,_,rfl,rfl,num _ _ p4 (by omega) ?_⟩)
  rw[h3]
  have:m2=0∨m2=1∨m2=2∨m2=3∨m2=4∨m2=5∨m2=6:=by omega
  rcases this with rfl|rfl|rfl|rfl|rfl|rfl|rfl<;>rfl
 ·have h4:(ts.getD t.toNat (aC .atype)).kind=4:=by simp only[bnl] at h4;exact h4
  refine aF (eY l2 n2 7 hp (by omega) (by omega)) ?_
  rintro⟨m2,l3,n3⟩ ⟨-,p1,p2,p3,p4⟩
  dsimp only at p1 p2 p3 p4 ⊢
  subst p3
  refine vck (aG ⟨.mk _ s0 l0 ks0 b0,_,_,_,_,rfl,rfl,num _ _ p4 (by omega) ?_⟩)
  rw[h4]
  have:m2=0∨m2=1∨m2=2∨m2=3∨m2=4∨m2=5∨m2=6:=by omega
  rcases this with rfl|rfl|rfl|rfl|rfl|rfl|rfl<;>rfl
 ·have h5:(ts.getD t.toNat (aC .atype)).kind=5:=by simp only[bnl] at h5;exact h5
  refine aF (eY l2 n2 7 hp (by omega) (by omega)) ?_
  rintro⟨m2,l3,n3⟩ ⟨-,p1,p2,p3,p4⟩
  dsimp only at p1 p2 p3 p4 ⊢
  subst p3
  refine vck (aG ⟨.mk _ s0 l0 ks0 b0,_,_,_,_,rfl,rfl,num _ _ p4 (by omega) ?_⟩)
  rw[h5]
  have:m2=0∨m2=1∨m2=2∨m2=3∨m2=4∨m2=5∨m2=6:=by omega
  rcases this with rfl|rfl|rfl|rfl|rfl|rfl|rfl<;>rfl
 ·have h6:(ts.getD t.toNat (aC .atype)).kind=6:=by simp only[bnl] at h6;exact h6
  refine aF (eY l2 n2 5 hp (by omega) (by omega)) ?_
  rintro⟨m2,l3,n3⟩ ⟨-,p1,p2,p3,p4⟩
  dsimp only at p1 p2 p3 p4 ⊢
  subst p3
  refine vck (aG ⟨.mk _ s0 l0 ks0 b0,_,_,_,_,rfl,rfl,num _ _ p4 (by omega) ?_⟩)
  rw[h6]
  have:m2=0∨m2=1∨m2=2∨m2=3∨m2=4:=by omega
  rcases this with rfl|rfl|rfl|rfl|rfl<;>rfl
 ·have h8:(ts.getD t.toNat (aC .atype)).kind=8:=by simp only[bnl] at h8;exact h8
  refine aF (eY l2 n2 4 hp (by omega) (by omega)) ?_
  rintro⟨m2,l3,n3⟩ ⟨-,p1,p2,p3,p4⟩
  dsimp only at p1 p2 p3 p4 ⊢
  subst p3
  have hm:m2=0∨m2=1∨m2=2∨m2=3:=by omega
  refine vck (aG ⟨.mk n0 _ l0 ks0 b0,_,_,_,_,rfl,rfl,txt _ _ p4 (by omega) ?_ ?_⟩)
  ·rcases hm with rfl|rfl|rfl|rfl<;>decide
  ·rw[h8]
   rcases hm with rfl|rfl|rfl|rfl
   ·show cJ []=true;decide
   ·show cJ [97]=true;decide
   ·show cJ [195,164]=true;decide
   ·show cJ [116,101,120,116]=true;decide
 ·have h7:(ts.getD t.toNat (aC .atype)).kind=7:=by simp only[bnl] at h7;exact h7
  refine aF (eY l2 n2 4 hp (by omega) (by omega)) ?_
  rintro⟨m2,l3,n3⟩ ⟨-,p1,p2,p3,p4⟩
  dsimp only at p1 p2 p3 p4 ⊢
  subst p3
  have hm:m2=0∨m2=1∨m2=2∨m2=3:=by omega
  refine vck (aG ⟨.mk n0 _ l0 ks0 b0,_,_,_,_,rfl,rfl,txt _ _ p4 (by omega) ?_ ?_⟩)
  ·rcases hm with rfl|rfl|rfl|rfl<;>decide
  ·rw[h7];rfl
 ·have h10:(ts.getD t.toNat (aC .atype)).kind=10:=by simp only[bnl] at h10;exact h10
  have hsy:0<(ts.getD t.toNat (aC .atype)).syms.length:=List.length_pos_iff.2 (hk.enum h10)
  have hns:=hk.ns
  refine aF (eY l2 n2 _ hp (by omega) (by omega)) ?_
  rintro⟨m2,l3,n3⟩ ⟨-,p1,p2,p3,p4⟩
  dsimp only at p1 p2 p3 p4 ⊢
  subst p3
  refine aG ⟨.mk (IntKind.wrap .u64 m2) s0 l0 ks0 b0,_,_,_,_,rfl,rfl,num _ _ p4 (by omega) ?_⟩
  rw[h10,dN _ (by omega)]
  show (decide (0≤m2)&&decide (m2<IntKind.wrap .u64 ((ts.getD t.toNat (aC .atype)).syms.length:Int)))=true
  rw[dN _ (by omega),decide_eq_true p1,decide_eq_true p2];rfl
 ·have h14:(ts.getD t.toNat (aC .atype)).kind=14:=by simp only[bnl] at h14;exact h14
  have hbr:0<(ts.getD t.toNat (aC .atype)).branches.length:=List.length_pos_iff.2 (hk.done h14)
  have hnb:=hk.nb
  refine aF (eY l2 n2 _ hp (by omega) (by omega)) ?_
  rintro⟨m2,l3,n3⟩ ⟨-,p1,p2,p3,p4⟩
  dsimp only at p1 p2 p3 p4 ⊢
  subst p3
  refine vck ?_
  refine aF (hV l3 n3 _ p4) ?_
  rintro⟨v,is2,l4,n4⟩ ⟨-,q1,q2,q3,q4⟩
  dsimp only at q1 q2 q3 q4 ⊢
  subst q3
  refine aD (fun hy=>?_) (fun hy=>aG ⟨.mk n0 s0 l0 ks0 b0,_,_,_,_,rfl,rfl,hL.symm,fun _=>keep,rfl,q4⟩)
  obtain⟨q5,q6⟩:=q2 hy
  obtain⟨rfl,rfl,rfl⟩:=azO h14 g3
  refine aG ⟨.mk 0 [] [reA v] [] m2,_,_,_,_,rfl,rfl,hL.symm,fun _=>⟨?_,?_⟩,rfl,q4⟩
  ·rw[dX];exact axK ts t hT h14 m2 v ⟨p1,p2⟩ q5
  ·rw[dX,hbw];simp only[wV,wL,aaG,List.length_nil];omega
 ·have h9:(ts.getD t.toNat (aC .atype)).kind=9:=by simp only[bnl] at h9;exact h9
  obtain⟨rfl,rfl,rfl,rfl⟩:=aBw h9 g3
  exact aCt ts hs deep ⟨hd.1,by omega⟩ hV t hL h9 0 0 [] [] [] kf l2 n2 hp
 ·have h12:(ts.getD t.toNat (aC .atype)).kind=12:=by simp only[bnl] at h12;exact h12
  obtain⟨rfl,rfl,rfl,rfl⟩:=azM h12 g3
  obtain⟨g6,g7⟩:=g5 (by omega)
  obtain⟨g8, -⟩:=g7 (by omega)
  subst g6;subst g8
  refine aF (eY l2 n2 4 hp (by omega) (by omega)) ?_
  rintro⟨m2,l3,n3⟩ ⟨-,p1,p2,p3,p4⟩
  dsimp only at p1 p2 p3 p4 ⊢
  subst p3
  exact arl ts hs deep ⟨hd.1,by omega⟩ hV t hL (.inl h12) 0 0 [] [] [] kf l3 n3 m2 ⟨p1,by omega⟩ p4
 ·have h13:(ts.getD t.toNat (aC .atype)).kind=13:=by simp only[bnl] at h13;exact h13
  obtain⟨rfl,rfl,rfl⟩:=azN h13 g3
  obtain⟨g6,g7⟩:=g5 (by omega)
  obtain⟨g8,g9⟩:=g7 (by omega)
  subst g6;subst g8;subst g9
  refine aF (eY l2 n2 4 hp (by omega) (by omega)) ?_
  rintro⟨m2,l3,n3⟩ ⟨-,p1,p2,p3,p4⟩
  dsimp only at p1 p2 p3 p4 ⊢
  subst p3
  exact arl ts hs deep ⟨hd.1,by omega⟩ hV t hL (.inr h13) 0 0 [] [] [] kf l3 n3 m2 ⟨p1,by omega⟩ p4
 ·exact aG ⟨.mk n0 s0 l0 ks0 b0,_,_,_,_,rfl,rfl,hL.symm,fun _=>keep,rfl,hp⟩
theorem axM(ts:List aA)(hs:dJ ts):∀(n:Nat)(deep:Int),deep+n=6→0≤deep→ag0 ts deep
 |0,deep,h,h1=>auh ts hs deep (by omega) (fun h'=>by omega)
 |n+1,deep,h,h1=>auh ts hs deep (by omega) (fun _=>axM ts hs n (deep+1) (by omega) (by omega))
theorem aCu(ts:List aA)(hs:dJ ts)(l:List UInt8)(n t:Int)(hp:eH l n):∃r,dG l n ts t 0 r:=axM ts hs 6 0 (by omega) (by omega) l n t hp
end Go.Proofs.YtdpajabhmmmjoaaGreat
end
noncomputable section
namespace Go.Proofs.YtdpajabhmmmjoaaGreat
open Go.AM
set_option autoImplicit false
set_option linter.unusedVariables false
set_option maxRecDepth 100000
noncomputable def uo:aN:=tab (P:=Tryz.prog) [] [] [] [yQ,yR,auG]
def adW:IR:=Rs [Mv 97 11,Mv 98 97,Gt 98 (.mov 99 8),Gt 98 (.mov 100 99),Gf 100 (.fad 101 0 5),Gf 100 (.lde 102 1 false 101),Gf 100 (.bin 103 .eql 102 (kU 0)),Gt 98 (.pick 104 100 (kB true) 103),Pa 105 98 104,Mv 106 105,Gt 106 (.mov 107 9),Gt 106 (.mov 108 107),Gf 108 (.fad 109 1 5),Gf 108 (.lde 110 1 false 109),Gf 108 (.bin 111 .eql 110 (kS [])),Gt 106 (.pick 112 108 (kB true) 111),Pa 113 106 112,Mv 114 113,Gt 114 (.mov 115 10),Gt 114 (.mov 116 115),Gf 116 (.fad 117 2 5),Gf 116 (.lde 118 1 false 117),Gf 116 (.lenl 119 118),Gf 116 (.bin 120 .eql 119 (kI 0)),Gt 114 (.pick 121 116 (kB true) 120),Pa 122 114 121,Mv 6 122] .ret
def rB:IR:=Sq (Rs [Fa 78 0 7,Lq 79 78,Bc 80 .neq 79 13,Mv 81 80,Gt 81 (.fad 82 3 5),Gt 81 (.lde 83 1 false 82),Gt 81 (.lenl 84 83),Gt 81 (.bin 85 .gtr 84 (kI 0)),Pa 86 81 85,Mv 87 86,Gf 87 (.fad 88 0 7),Gf 87 (.lde 89 1 false 88),Gf 87 (.bin 90 .neq 89 (kI 14)),Gf 87 (.mov 91 90),Gt 91 (.fad 92 4 5),Gt 91 (.lde 93 1 false 92),Gt 91 (.bin 94 .neq 93 (kI 0)),Gf 87 (.pick 95 91 94 (kB false)),Po 96 87 95] (Cn 96 (Rs [Mb 6 false] .ret) .skip)) (.cut [5,8,9,10,11,1000000] 0 adW)
def avI:IR:=Rs [Bx 3 0,Bx 5 2,Mb 6 false] (Sq (Rs [Ld 12 1 true 3,Mv 13 1,Ca 14 21 [12,13],Un 15 14] (Cn 15 (Rs [Mb 6 false] .ret) .skip)) (Rs [Fa 16 0 3,Lq 17 16,Mv 18 1,Ix 19 .atype 17 18,Ld 20 10 true 19,Pp (.alr 7 10),Fz 7 10 20] (Rs [Mb 8 false,Mb 9 false,Mb 10 false] (Rs [Mb 11 true] (Sq (Rs [Fa 21 0 7,Lq 22 21] (.block 0 (Rs [Bc 28 .eql 22 1,Mv 27 28] (Cn 27 .skip (Rs [Bc 30 .eql 22 2,Mv 29 30] (Cn 29 (.reg [Fa 31 0 5,Lq 32 31,Pp (.bin 33 .leq 32 (kU 1)),Mb 8 true,Mv 11 33] [[],[0],[0,1],[],rg 0 3]) (Rs [Bc 35 .eql 22 3,Mv 34 35] (Cn 34 (.reg [Fa 36 0 5,Lq 37 36,Pp (.cvi 38 .i64 37),Pp (.bin 39 .geq 38 (kI (-2147483648))),Mv 40 39,Gt 40 (.fad 41 0 5),Gt 40 (.lde 42 1 false 41),Gt 40 (.cvi 43 .i64 42),Gt 40 (.bin 44 .lss 43 (kI 2147483648)),Pa 45 40 44,Mb 8 true,Mv 11 45] [[],[0],[0,1],[0,1,2],rg 0 3,rg 0 4,rg 0 5,rg 0 6,rg 0 7,rg 0 8,rg 0 4,rg 0 10]) (Sq (Rs [Bc 47 .eql 22 4,Mv 46 47] (Cn 46 .skip (Rg [Bc 48 .eql 22 6,Mv 46 48]))) (Cn 46 (Rg [Mb 8 true]) (Rs [Bc 50 .eql 22 5,Mv 49 50] (Cn 49 (.reg [Fa 51 0 5,Lq 52 51,Pp (.bin 53 .lss 52 (kU 4294967296)),Mb 8 true,Mv 11 53] [[],[0],[0,1],[],rg 0 3]) (Rs [Bc 55 .eql 22 10,Mv 54 55] (Cn 54 (.reg [Fa 56 0 5,Lq 57 56,Fa 58 4 7,Lq 59 58,Ll 60 59,Pp (.cvi 61 .u64 60),Bi 62 .lss 57 61,Mb 8 true,Mv 11 62] [[],[0],[],[2],[2,3],[2,3,4],rg 0 5,[],rg 0 7]) (Rs [Bc 64 .eql 22 7,Mv 63 64] (Cn 63 (Rg [Mb 9 true]) (Rs [Bc 66 .eql 22 8,Mv 65 66] (Cn 65 (Rg [Fa 67 1 5,Lq 68 67,Ca 69 46 [68],Mb 9 true,Mv 11 69]) (Rs [Bc 71 .eql 22 11,Mv 70 71] (Cn 70 (.reg [Fa 72 1 5,Lq 73 72,Pp (.lens 74 73),Fa 75 7 7,Lq 76 75,Bi 77 .eql 74 76,Mb 9 true,Mv 11 77] [[],[0],[0,1],[],[3],rg 0 4,[],rg 0 6]) (Rg [Ld 23 1 true 3,Ld 24 10 true 7,Ld 25 5 true 5,Ca 26 78 [23,24,25],Mb 10 true,Mv 11 26]))))))))))))))))))))) (.cut [5,7,8,9,10,11,1000001] 0 rB))))))
def sk:List RV:=[.t 6]
theorem avJ:FnC Tryz.prog uo [] 0 alb Tryz.f52 avI sk:=fnC Tryz.func52
abbrev qr:Type:=(Int×Bs×List aB×Bss×Int×Int×Bs×Bss×Int×Bss×Bool×Bs×Int×List aO×List Int×Bool×Bool×Bool×Bool)
def oT:qr→St:=fun(j,k,l,m,n,o,p,q,r,s,a,b,c,d,e,f,g,h,i)=>{env:=(U 5 (.ea [.int .u64 j,.str k,.sl .aval (.may false) l,.sl .str (.may false) m,.int .i64 n]::.undef::.ea [.int .i64 o,.str p,.sl .str (.may false) q,.int .i64 r,.sl .str (.may false) s,.bool a,.str b,.int .i64 c,.sl .afield (.may false) d,.sl (.num .i64) (.may false) e]::.bool f::.bool g::.bool h::.bool i::(U 111 []))),hp:=[]}
abbrev aaI:Type:=(Int×Bs×List aB×Bss×Int×Bool×Bool×Bool×Bool)
def tm:aaI→St:=fun(a,b,c,d,e,f,g,h,i)=>{env:=(U 5 (.ea [.int .u64 a,.str b,.sl .aval (.may false) c,.sl .str (.may false) d,.int .i64 e]::.undef::.undef::.bool f::.bool g::.bool h::.bool i::(U 111 []))),hp:=[]}
def aaJ(N:Nat):St→Ro:=fun s=>run uo N adW (fin sk) s
def qt(N:Nat):aaI→Ro:=fun(d,c,a,_,_,g,f,b,e)=>
 cond e (
 cond g (
 cond f (
 cond b (
 some (.bool true,[])) (
 let h:=(↑(List.length a):Int)
 some (.bool (h==0),[]))) (
 let i:=decide (c=([]:Bs))
 cond i (
 cond b (
 some (.bool true,[])) (
 let j:=(↑(List.length a):Int)
 some (.bool (j==0),[]))) (
 some (.bool false,[])))) (
 cond (d==0) (
 cond f (
 cond b (
 some (.bool true,[])) (
 let k:=(↑(List.length a):Int)
 some (.bool (k==0),[]))) (
 let l:=decide (c=([]:Bs))
 cond l (
 cond b (
 some (.bool true,[])) (
 let m:=(↑(List.length a):Int)
 some (.bool (m==0),[]))) (
 some (.bool false,[])))) (
 some (.bool false,[])))) (
 some (.bool false,[]))
theorem arm(N:Nat):LJ (aaJ N) tm (qt N):=fun _=>by kernel_rfl
def aaK(N:Nat):St→Ro:=fun s=>run uo N rB (fin sk) s
def tn(N:Nat)(j:aaI→Ro):qr→Ro:=fun(d,e,f,c,a,b,_,_,_,_,_,_,_,_,_,k,l,h,i)=>
 let g:=j (d,e,f,c,a,k,l,h,i)
 cond (!(b==13)) (
 let m:=(↑(List.length c):Int)
 cond (decide (0<m)) (
 some (.bool false,[])) (
 cond (!(b==14)) (
 cond (!(a==0)) (
 some (.bool false,[])) (
 g)) (
 g))) (
 cond (!(b==14)) (
 cond (!(a==0)) (
 some (.bool false,[])) (
 g)) (
 g))
def qu(N:Nat)(x:qr):Ro:=tn N (fun z=>qt N z) x
def ag1(N:Nat):List (Nat×(St→Ro)):=(bP uo N rB (fin sk)++[])
theorem arn(N:Nat):∀(x:qr),aaK N (oT x)=qu N x:=by
 intro x
 have hX:∀C:Nat→St→Ro,cE C uo N rB (fin sk) (oT x)=tn N (fun z=>C 1000000 (tm z)) x:=by
  intro C
  kernel_rfl
 have h:aaK N (oT x)=tn N (fun z=>aaJ N (tm z)) x:=(dh (C:=eJ (ag1 N)) (bU (aY (l:=(ag1 N)) (by kernel_rfl))) rfl _).trans ((hX _).trans (by kernel_rfl))
 have e1:(fun z=>aaJ N (tm z))=(fun z=>qt N z):=funext fun z=>arm N z
 rw[h,e1]
 rfl
def sm(N:Nat)(g:List aA)(i b:Int)(c:Bs)(d:List aB)(e:Bss)(f:Int)(h:qr→Ro):Ro:=
 aE (kL g i) (fun(o:Bool)=>
 cond (!o) (
 some (.bool false,[])) (
 chk (ixl i g) (
 let a:=(List.getD g (Int.toNat i) (aC .atype))
 cond (a.kind==1) (
 h (b,c,d,e,f,a.kind,a.name,a.aliases,a.items,a.syms,a.hasdef,a.df,a.size,a.fields,a.branches,false,false,false,true)) (
 cond (a.kind==2) (
 h (b,c,d,e,f,a.kind,a.name,a.aliases,a.items,a.syms,a.hasdef,a.df,a.size,a.fields,a.branches,true,false,false,decide (b≤1))) (
 cond (a.kind==3) (
 let p:=decide ((-2147483648)≤(IntKind.wrap .i64 b))
 cond p (
 let j:=decide ((IntKind.wrap .i64 b)<2147483648)
 h (b,c,d,e,f,a.kind,a.name,a.aliases,a.items,a.syms,a.hasdef,a.df,a.size,a.fields,a.branches,true,false,false,(cond true j false))) (
 h (b,c,d,e,f,a.kind,a.name,a.aliases,a.items,a.syms,a.hasdef,a.df,a.size,a.fields,a.branches,true,false,false,false))) (
 cond (a.kind==4) (
 h (b,c,d,e,f,a.kind,a.name,a.aliases,a.items,a.syms,a.hasdef,a.df,a.size,a.fields,a.branches,true,false,false,true)) (
 cond (a.kind==6) (
 h (b,c,d,e,f,a.kind,a.name,a.aliases,a.items,a.syms,a.hasdef,a.df,a.size,a.fields,a.branches,true,false,false,true)) (
 cond (a.kind==5) (
 let k:=decide (b<4294967296)
 h (b,c,d,e,f,a.kind,a.name,a.aliases,a.items,a.syms,a.hasdef,a.df,a.size,a.fields,a.branches,true,false,false,k)) (
 cond (a.kind==10) (
 let l:=(↑(List.length a.syms):Int)
 let m:=decide (b<(IntKind.wrap .u64 l))
 h (b,c,d,e,f,a.kind,a.name,a.aliases,a.items,a.syms,a.hasdef,a.df,a.size,a.fields,a.branches,true,false,false,m)) (
 cond (a.kind==7) (
 h (b,c,d,e,f,a.kind,a.name,a.aliases,a.items,a.syms,a.hasdef,a.df,a.size,a.fields,a.branches,false,true,false,true)) (
 cond (a.kind==8) (
 aE (ez c) (fun(q:Bool)=>
 h (b,c,d,e,f,a.kind,a.name,a.aliases,a.items,a.syms,a.hasdef,a.df,a.size,a.fields,a.branches,false,true,false,q))) (
 cond (a.kind==11) (
 let n:=(↑(List.length c):Int)
 h (b,c,d,e,f,a.kind,a.name,a.aliases,a.items,a.syms,a.hasdef,a.df,a.size,a.fields,a.branches,false,true,false,(n==a.size))) (
 aE (rV g a.kind a.name a.aliases a.items a.syms a.hasdef a.df a.size a.fields a.branches b c d e f) (fun(r:Bool)=>
 h (b,c,d,e,f,a.kind,a.name,a.aliases,a.items,a.syms,a.hasdef,a.df,a.size,a.fields,a.branches,false,false,true,r)))))))))))))))
def ajV(N:Nat)(a:List aA)(g b:Int)(c:Bs)(d:List aB)(e:Bss)(f:Int):Ro:=sm N a g b c d e f (fun z=>qu N z)
theorem ate(N:Nat)(a:List aA)(j c:Int)(d:Bs)(f:List aB)(g:Bss)(i:Int)(h:Tot (ajV N a j c d f g i) (fun z=>∃(k:Bool)(rest:List aJ),z.1.dimR=.bool k∧z.2=rest∧sU a j c d f g i (k))):∃r,fX a j c d f g i r:=avJ.finP (N:=N) ((bM _ (by kernel_rfl) rfl (fun C=>sm N a j c d f g i (fun z=>C 1000001 (oT z))) (fun C=>by kernel_rfl)).trans (Eq.trans (b:=sm N a j c d f g i (fun z=>aaK N (oT z))) (by kernel_rfl) (congrArg (sm N a j c d f g i) (funext fun z=>arn N z)))) h fun _ ⟨k,_,e,_,q⟩=>⟨(k),e,q⟩
noncomputable def eL:aN:=tab (P:=Tryz.prog) [] [] [] [yR,alh]
def rC:IR:=Sq (Rs [Mv 30 7,Fa 31 3 5,Lq 32 31,Ll 33 32,Bi 34 .lss 30 33] (Cn 34 .skip (.exit 1))) (Sq (.block 2 (Sq (.reg [Fa 37 3 5,Lq 38 37,Mv 39 7,Ix 40 .str 38 39,Lq 41 40,Ca 42 46 [41],Un 43 42,Mv 44 43,Gf 44 (.mov 45 7),Gf 44 (.bin 46 .gtr 45 (kI 0)),Gf 44 (.mov 47 46),Gt 47 (.fad 48 3 5),Gt 47 (.lde 49 1 false 48),Gt 47 (.mov 50 7),Gt 47 (.ixa 51 .str 49 50),Gt 47 (.lde 52 1 false 51),Gt 47 (.fad 53 3 5),Gt 47 (.lde 54 1 false 53),Gt 47 (.mov 55 7),Gt 47 (.bin 56 .sub 55 (kI 1)),Gt 47 (.ixa 57 .str 54 56),Gt 47 (.lde 58 1 false 57),Gt 47 (.bin 59 .leq 52 58),Gf 44 (.pick 60 47 59 (kB false)),Po 61 44 60] [[],[0],[],[0,1,2],rg 0 3,rg 0 4,rg 0 5,rg 0 6,rg 0 7,rg 0 8,rg 0 9,rg 0 10,rg 0 11,rg 0 10,rg 0 13,rg 0 14,rg 0 10,rg 0 10++[16],rg 0 10,rg 0 10++[18],rg 0 10++rg 16 19,rg 0 10++rg 16 20,rg 0 21,rg 0 22,rg 0 23]) (Cn 61 (Rs [Mb 6 false] .ret) .skip))) (Rg [Mv 35 7,Bc 36 .add 35 1,Mv 7 36]))
def wd:IR:=Sq (Rs [Mv 95 8,Fa 96 2 5,Lq 97 96,Ll 98 97,Bi 99 .lss 95 98] (Cn 99 .skip (.exit 3))) (Sq (.block 4 (Rs [Fa 102 3 4,Lq 103 102,Mv 9 103] (Sq (Rs [Fa 104 0 4,Lq 105 104,Bc 106 .eql 105 9] (Cn 106 (Rg [Fa 107 8 4,Lq 108 107,Mv 109 8,Ix 110 .afield 108 109,Fa 111 2 110,Lo 112 111,Mv 9 112]) .skip)) (Sq (.reg [Ld 113 1 true 3,Mv 114 9,Fa 115 2 5,Lq 116 115,Mv 117 8,Ix 118 .aval 116 117,Ld 119 5 true 118,Ca 120 52 [113,114,119],Un 121 120] [[],[],[],[2],[],[2,3,4],rg 2 5,rg 0 6,rg 0 7]) (Cn 121 (Rs [Mb 6 false] .ret) .skip))))) (Rg [Mv 100 8,Bc 101 .add 100 1,Mv 8 101]))
def we:IR:=Rs [Mb 6 true] .ret
def wg:IR:=Sq (Rs [Mi 8 0] (.block 3 (.loop [3,4,5,8,1000001] 0 wd))) we
def atf:IR:=Rs [Bx 3 0,Bx 4 1,Bx 5 2,Mb 6 false] (Sq (Rs [Fa 10 0 4,Lq 11 10] (.block 0 (Rs [Bc 13 .eql 11 9,Mv 12 13] (Cn 12 (Rs [Fa 14 2 5,Lq 15 14,Ll 16 15,Fa 17 8 4,Lq 18 17,Ll 19 18,Bi 20 .neq 16 19] (Cn 20 (Rs [Mb 6 false] .ret) .skip)) (Rs [Bc 22 .eql 11 13,Mv 21 22] (Cn 21 (Sq (Rs [Fa 23 2 5,Lq 24 23,Ll 25 24,Fa 26 3 5,Lq 27 26,Ll 28 27,Bi 29 .neq 25 28] (Cn 29 (Rs [Mb 6 false] .ret) .skip)) (Rs [Mi 7 0] (.block 1 (.loop [3,4,5,7,1000000] 0 rC)))) (Rs [Bc 63 .eql 11 14,Mv 62 63] (Cn 62 (Sq (.reg [Fa 64 4 5,Lq 65 64,Bc 66 .geq 65 0,Mv 67 66,Gt 67 (.fad 68 4 5),Gt 67 (.lde 69 1 false 68),Gt 67 (.fad 70 9 4),Gt 67 (.lde 71 1 false 70),Gt 67 (.lenl 72 71),Gt 67 (.bin 73 .lss 69 72),Pa 74 67 73,Mv 75 74,Gt 75 (.fad 76 2 5),Gt 75 (.lde 77 1 false 76),Gt 75 (.lenl 78 77),Gt 75 (.bin 79 .eql 78 (kI 1)),Pa 80 75 79,Mv 81 80,Gt 81 (.lde 82 1 true 3),Gt 81 (.fad 83 9 4),Gt 81 (.lde 84 1 false 83),Gt 81 (.fad 85 4 5),Gt 81 (.lde 86 1 false 85),Gt 81 (.ixa 87 (.num .i64) 84 86),Gt 81 (.lde 88 1 false 87),Gt 81 (.fad 89 2 5),Gt 81 (.lde 90 1 false 89),Gt 81 (.ixa 91 .aval 90 (kI 0)),Gt 81 (.lde 92 5 true 91),Gt 81 (.call 93 52 [82,88,92]),Pa 94 81 93,Mv 6 94] [[],[0],[0,1],[0,1,2],rg 0 3,rg 0 4,rg 0 3,[0,1,2,3,6],[0,1,2,3,6,7],rg 0 8,rg 0 9,rg 0 10,rg 0 11,rg 0 12,rg 0 13,rg 0 14,rg 0 15,rg 0 16,rg 0 17,rg 0 17,rg 0 17++[19],rg 0 17,rg 0 17++[21],rg 0 17++rg 19 22,rg 0 17++rg 19 23,rg 0 17,rg 0 17++[25],rg 0 17++[25,26],rg 0 17++[25,26,27],rg 0 28,rg 0 29,rg 0 30]) .ret) .skip)))))))) wg)
def qv:List RV:=[.t 6]
theorem atg:FnC Tryz.prog eL [] 0 ajg Tryz.f78 atf qv:=fnC Tryz.func78
def aro(R:IR→(Ex→St→Ro)→St→Ro)(a:St→Ro):Ex→St→Ro:=(bF a [3,4,5,8,1000001] 0 (aQ 3 (bv (R we) (fin qv))))
abbrev tp:Type:=(List aA×Int×Bs×Bss×Int×Bss×Bool×Bs×Int×List aO×List Int×Int×Bs×List aB×Bss×Int×Int)
def rD:tp→St:=fun(h,i,j,k,l,m,n,o,p,q,a,b,c,d,e,f,g)=>{env:=(U 3 (.ea [.sl .atype (.may false) h]::.ea [.int .i64 i,.str j,.sl .str (.may false) k,.int .i64 l,.sl .str (.may false) m,.bool n,.str o,.int .i64 p,.sl .afield (.may false) q,.sl (.num .i64) (.may false) a]::.ea [.int .u64 b,.str c,.sl .aval (.may false) d,.sl .str (.may false) e,.int .i64 f]::.undef::.undef::.int .i64 g::(U 113 []))),hp:=[]}
def zB(N:Nat):(St→Ro)→St→Ro:=fun a s=>run eL N wd (aro (run eL N) a) s
def l7(N:Nat)(d:tp→Ro):tp→Ro:=fun(b,f,h,i,g,j,k,m,o,c,p,q,r,a,t,u,e)=>
 let y:=(↑(List.length a):Int)
 let x:=fun z=>d (b,f,h,i,g,j,k,m,o,c,p,q,r,a,t,u,z)
 cond (decide (e<y)) (
 cond (f==9) (
 chk (ixl e c) (
 let x4:=(List.getD c (Int.toNat e) (aC .afield))
 chk (ixl e a) (
 let v:=(List.getD a (Int.toNat e) (aC .aval))
 aE (fX b x4.typ v.n v.s v.l v.keys v.branch) (fun(r1:Bool)=>
 cond (!r1) (
 some (.bool false,[])) (
 let x6:=(IntKind.wrap .i64 (e+1))
 x x6))))) (
 chk (ixl e a) (
 let w:=(List.getD a (Int.toNat e) (aC .aval))
 aE (fX b g w.n w.s w.l w.keys w.branch) (fun(r2:Bool)=>
 cond (!r2) (
 some (.bool false,[])) (
 let x8:=(IntKind.wrap .i64 (e+1))
 x x8))))) (
 some (.bool true,[]))
theorem apF(N:Nat):LB (zB N) rD (l7 N):=fun _ _=>by kernel_rfl
def zC(R:IR→(Ex→St→Ro)→St→Ro)(a:St→Ro):Ex→St→Ro:=(bF a [3,4,5,7,1000000] 0 (aQ 1 (aQ 0 (bv (R wg) (fin qv)))))
abbrev jd:Type:=(List aA×Int×Bs×Bss×Int×Bss×Bool×Bs×Int×List aO×List Int×Int×Bs×List aB×Bss×Int×Int)
def ff:jd→St:=fun(h,i,j,k,l,m,n,o,p,q,a,b,c,d,e,f,g)=>{env:=(U 3 (.ea [.sl .atype (.may false) h]::.ea [.int .i64 i,.str j,.sl .str (.may false) k,.int .i64 l,.sl .str (.may false) m,.bool n,.str o,.int .i64 p,.sl .afield (.may false) q,.sl (.num .i64) (.may false) a]::.ea [.int .u64 b,.str c,.sl .aval (.may false) d,.sl .str (.may false) e,.int .i64 f]::.undef::.int .i64 g::(U 114 []))),hp:=[]}
def arp(R:IR→(Ex→St→Ro)→St→Ro)(a:St→Ro):Ex→St→Ro:=(bF a [3,4,5,8,1000001] 0 (aQ 3 (bv (R we) (fin qv))))
abbrev tq:Type:=(List aA×Int×Bs×Bss×Int×Bss×Bool×Bs×Int×List aO×List Int×Int×Bs×List aB×Bss×Int×Int)
def nR:tq→St:=fun(h,i,j,k,l,m,n,o,p,q,a,b,c,d,e,f,g)=>{env:=(U 3 (.ea [.sl .atype (.may false) h]::.ea [.int .i64 i,.str j,.sl .str (.may false) k,.int .i64 l,.sl .str (.may false) m,.bool n,.str o,.int .i64 p,.sl .afield (.may false) q,.sl (.num .i64) (.may false) a]::.ea [.int .u64 b,.str c,.sl .aval (.may false) d,.sl .str (.may false) e,.int .i64 f]::.undef::.undef::.int .i64 g::(U 113 []))),hp:=[]}
def tr(N:Nat):(St→Ro)→St→Ro:=fun a s=>run eL N wd (arp (run eL N) a) s
def oU(N:Nat)(f:tq→Ro):tq→Ro:=fun(b,h,j,k,i,m,o,p,q,c,r,t,u,a,v,w,g)=>
 let x:=(↑(List.length a):Int)
 let z0:=fun g0=>f (b,h,j,k,i,m,o,p,q,c,r,t,u,a,v,w,g0)
 cond (decide (g<x)) (
 cond (h==9) (
 chk (ixl g c) (
 let y:=(List.getD c (Int.toNat g) (aC .afield))
 chk (ixl g a) (
 let d:=(List.getD a (Int.toNat g) (aC .aval))
 aE (fX b y.typ d.n d.s d.l d.keys d.branch) (fun(r4:Bool)=>
 cond (!r4) (
 some (.bool false,[])) (
 let z:=(IntKind.wrap .i64 (g+1))
 z0 z))))) (
 chk (ixl g a) (
 let e:=(List.getD a (Int.toNat g) (aC .aval))
 aE (fX b i e.n e.s e.l e.keys e.branch) (fun(r5:Bool)=>
 cond (!r5) (
 some (.bool false,[])) (
 let aa:=(IntKind.wrap .i64 (g+1))
 z0 aa))))) (
 some (.bool true,[]))
theorem apG(N:Nat):LB (tr N) nR (oU N):=fun _ _=>by kernel_rfl
def tt(N:Nat):(St→Ro)→St→Ro:=fun a s=>run eL N rC (zC (run eL N) a) s
def rE(N:Nat)(b:jd→Ro)(q2:tq→Ro):jd→Ro:=fun(d,e,f,g,h,i,j,k,l,m,n,o,p,q,a,r,c)=>
 let v:=(↑(List.length a):Int)
 let z0:=fun g0=>b (d,e,f,g,h,i,j,k,l,m,n,o,p,q,a,r,g0)
 cond (decide (c<v)) (
  chk (ixl c a) (
   let w:=List.getD a (Int.toNat c) (aC .str)
   aE (ez w) (fun(r3:Bool)=>
    cond (!r3) (
     some (.bool false,[])) (
     cond (decide (0<c)) (
      chk (ixl c a) (
       let s:=List.getD a (Int.toNat c) (aC .str)
       let t:=(IntKind.wrap .i64 (c-1))
       chk (ixl t a) (
        let u:=List.getD a (Int.toNat t) (aC .str)
        let x:=(Op.bytesLess s u||decide (s=u))
        cond x (
         some (.bool false,[])) (
         let y:=(IntKind.wrap .i64 (c+1))
         z0 y)))) (
      let z:=(IntKind.wrap .i64 (c+1))
      z0 z))))) (
  q2 (d,e,f,g,h,i,j,k,l,m,n,o,p,q,a,r,0))
def tu(N:Nat)(a:jd→Ro)(x:jd):Ro:=rE N a (fun z=>aS N (oU N) z) x
def zD(N:Nat)(a:St→Ro):List (Nat×(St→Ro)):=(bP eL N rC (zC (run eL N) a)++(bP eL N wg (fin qv)++[]))
theorem apH(N:Nat):∀(a:St→Ro)(x:jd),tt N a (ff x)=tu N (fun y=>a (ff y)) x:=by
 intro a x
 have hX:∀C:Nat→St→Ro,cE C eL N rC (zC (cE C eL N) a) (ff x)=rE N (fun y=>a (ff y)) (fun z=>C 1000001 (nR z)) x:=by
  intro C
  kernel_rfl
 have h:tt N a (ff x)=rE N (fun y=>a (ff y)) (fun z=>bo N (tr N) (nR z)) x:=(dh (C:=eJ (zD N a)) (bU (aY (l:=(zD N a)) (by kernel_rfl))) (mH (de (de (eR (bU (dF (aY (l:=(zD N a)) (by kernel_rfl)))) rfl)))) _).trans ((hX _).trans (by kernel_rfl))
 have e2:(fun z=>bo N (tr N) (nR z))=(fun z=>aS N (oU N) z):=funext fun z=>bk (nR) (tr N) (oU N) (apG N) N z
 rw[h,e2]
 rfl
def qw(N:Nat)(e:List aA)(c:Int)(i:Bs)(j:Bss)(k:Int)(m:Bss)(o:Bool)(p:Bs)(q:Int)(f:List aO)(d:List Int)(r:Int)(t:Bs)(a:List aB)(g:Bss)(b:Int)(z:tp→Ro)(q1:jd→Ro):Ro:=
 let y:=z (e,c,i,j,k,m,o,p,q,f,d,r,t,a,g,b,0)
 cond (c==9) (
 let x1:=(↑(List.length a):Int)
 let x2:=(↑(List.length f):Int)
 cond (!(x1==x2)) (
 some (.bool false,[])) (
 y)) (
 cond (c==13) (
 let x9:=(↑(List.length a):Int)
 let u:=(↑(List.length g):Int)
 cond (!(x9==u)) (
 some (.bool false,[])) (
 q1 (e,c,i,j,k,m,o,p,q,f,d,r,t,a,g,b,0))) (
 cond (c==14) (
 cond (decide (0≤b)) (
 let v:=(↑(List.length d):Int)
 cond (decide (b<v)) (
 let w:=(↑(List.length a):Int)
 cond (w==1) (
 chk (ixl b d) (
 let x:=List.getD d (Int.toNat b) (aC (.num .i64))
 chk (decide ((0:Int)<↑(List.length a))) (
 let h:=(List.getD a (Int.toNat 0) (aC .aval))
 aE (fX e x h.n h.s h.l h.keys h.branch) (fun(r6:Bool)=>
 some (.bool r6,[]))))) (
 some (.bool false,[]))) (
 some (.bool false,[]))) (
 some (.bool false,[]))) (
 y)))
def ag2(N:Nat)(a:List aA)(b:Int)(c:Bs)(d:Bss)(e:Int)(f:Bss)(g:Bool)(h:Bs)(i:Int)(j:List aO)(k:List Int)(l:Int)(m:Bs)(n:List aB)(o:Bss)(p:Int):Ro:=qw N a b c d e f g h i j k l m n o p (fun z=>aS N (l7 N) z) (fun z=>aS N (tu N) z)
theorem arq(N:Nat)(a:List aA)(c:Int)(d:Bs)(f:Bss)(g:Int)(i:Bss)(j:Bool)(k:Bs)(l:Int)(m:List aO)(n:List Int)(o:Int)(p:Bs)(s:List aB)(t:Bss)(u:Int)(h:Tot (ag2 N a c d f g i j k l m n o p s t u) (fun z=>∃(v:Bool)(rest:List aJ),z.1.dimR=.bool v∧z.2=rest∧eB a c d f g i j k l m n o p s t u (v))):∃r,rV a c d f g i j k l m n o p s t u r:=atg.finP (N:=N) ((bM _ (by kernel_rfl) rfl (fun C=>qw N a c d f g i j k l m n o p s t u (fun z=>C 1000001 (rD z)) (fun z=>C 1000000 (ff z))) (fun C=>by kernel_rfl)).trans (Eq.trans (b:=qw N a c d f g i j k l m n o p s t u (fun z=>bo N (zB N) (rD z)) (fun z=>bo N (tt N) (ff z))) (by kernel_rfl) (congr (congrArg (qw N a c d f g i j k l m n o p s t u) (funext fun z=>bk (rD) (zB N) (l7 N) (apF N) N z)) (funext fun z=>bk (ff) (tt N) (tu N) (apH N) N z)))) h fun _ ⟨v,_,e,_,q⟩=>⟨(v),e,q⟩
noncomputable def gT:aN:=tab (P:=Tryz.prog) [] [] [] [alf]
def tv:IR:=Sq (Rs [Mv 44 5,Fa 45 3 2,Lq 46 45,Ll 47 46,Bi 48 .lss 44 47] (Cn 48 .skip (.exit 0))) (Sq (.block 1 (Sq (.reg [Fa 51 3 2,Lq 52 51,Mv 53 5,Ix 54 .str 52 53,Lq 55 54,Fa 56 3 3,Lq 57 56,Mv 58 5,Ix 59 .str 57 58,Lq 60 59,Bi 61 .neq 55 60] [[],[0],[],[0,1,2],rg 0 3,[],[5],[],[5,6,7],rg 5 8,rg 0 9]) (Cn 61 (Rs [Mb 4 false] .ret) .skip))) (Rg [Mv 49 5,Bc 50 .add 49 1,Mv 5 50]))
def adX:IR:=Sq (Rs [Mv 62 6,Fa 63 2 2,Lq 64 63,Ll 65 64,Bi 66 .lss 62 65] (Cn 66 .skip (.exit 2))) (Sq (.block 3 (Sq (.reg [Fa 69 2 2,Lq 70 69,Mv 71 6,Ix 72 .aval 70 71,Ld 73 5 true 72,Fa 74 2 3,Lq 75 74,Mv 76 6,Ix 77 .aval 75 76,Ld 78 5 true 77,Ca 79 11 [73,78],Un 80 79] [[],[0],[],[0,1,2],rg 0 3,[],[5],[],[5,6,7],rg 5 8,rg 0 9,rg 0 10]) (Cn 80 (Rs [Mb 4 false] .ret) .skip))) (Rg [Mv 67 6,Bc 68 .add 67 1,Mv 6 68]))
def adY:IR:=Rs [Mb 4 true] .ret
def xM:IR:=Sq (Rs [Mi 6 0] (.block 2 (.loop [2,3,6,1000001] 0 adX))) adY
def avK:IR:=Rs [Bx 2 0,Bx 3 1,Mb 4 false] (Sq (Rs [Fa 7 0 2,Lq 8 7,Fa 9 0 3,Lq 10 9,Bi 11 .neq 8 10,Mv 12 11,Gf 12 (.fad 13 1 2),Gf 12 (.lde 14 1 false 13),Gf 12 (.fad 15 1 3),Gf 12 (.lde 16 1 false 15),Gf 12 (.bin 17 .neq 14 16),Po 18 12 17,Mv 19 18,Gf 19 (.fad 20 4 2),Gf 19 (.lde 21 1 false 20),Gf 19 (.fad 22 4 3),Gf 19 (.lde 23 1 false 22),Gf 19 (.bin 24 .neq 21 23),Po 25 19 24,Mv 26 25,Gf 26 (.fad 27 2 2),Gf 26 (.lde 28 1 false 27),Gf 26 (.lenl 29 28),Gf 26 (.fad 30 2 3),Gf 26 (.lde 31 1 false 30),Gf 26 (.lenl 32 31),Gf 26 (.bin 33 .neq 29 32),Po 34 26 33,Mv 35 34,Gf 35 (.fad 36 3 2),Gf 35 (.lde 37 1 false 36),Gf 35 (.lenl 38 37),Gf 35 (.fad 39 3 3),Gf 35 (.lde 40 1 false 39),Gf 35 (.lenl 41 40),Gf 35 (.bin 42 .neq 38 41),Po 43 35 42] (Cn 43 (Rs [Mb 4 false] .ret) .skip)) (Sq (Rs [Mi 5 0] (.block 0 (.loop [2,3,5,1000000] 0 tv))) xM))
def xr:List RV:=[.t 4]
theorem avL:FnC Tryz.prog gT [] 0 alc Tryz.f11 avK xr:=fnC Tryz.func11
def aaL(R:IR→(Ex→St→Ro)→St→Ro)(a:St→Ro):Ex→St→Ro:=(bF a [2,3,5,1000000] 0 (aQ 0 (bv (R xM) (fin xr))))
abbrev kH:Type:=(Int×Bs×List aB×Bss×Int×Int×Bs×List aB×Bss×Int×Int)
def fM:kH→St:=fun(b,c,d,e,f,g,h,i,j,k,a)=>{env:=(.undef::.undef::.ea [.int .u64 b,.str c,.sl .aval (.may false) d,.sl .str (.may false) e,.int .i64 f]::.ea [.int .u64 g,.str h,.sl .aval (.may false) i,.sl .str (.may false) j,.int .i64 k]::.undef::.int .i64 a::(U 75 [])),hp:=[]}
def ath(R:IR→(Ex→St→Ro)→St→Ro)(a:St→Ro):Ex→St→Ro:=(bF a [2,3,6,1000001] 0 (aQ 2 (bv (R adY) (fin xr))))
abbrev vn:Type:=(Int×Bs×List aB×Bss×Int×Int×Bs×List aB×Bss×Int×Int)
def oV:vn→St:=fun(b,c,d,e,f,g,h,i,j,k,a)=>{env:=(.undef::.undef::.ea [.int .u64 b,.str c,.sl .aval (.may false) d,.sl .str (.may false) e,.int .i64 f]::.ea [.int .u64 g,.str h,.sl .aval (.may false) i,.sl .str (.may false) j,.int .i64 k]::.undef::.undef::.int .i64 a::(U 74 [])),hp:=[]}
def vo(N:Nat):(St→Ro)→St→Ro:=fun a s=>run gT N adX (ath (run gT N) a) s
def qz(N:Nat)(e:vn→Ro):vn→Ro:=fun(g,h,a,i,j,k,m,b,o,p,f)=>
 let r:=(↑(List.length a):Int)
 cond (decide (f<r)) (
 chk (ixl f a) (
 let c:=(List.getD a (Int.toNat f) (aC .aval))
 chk (ixl f b) (
 let d:=(List.getD b (Int.toNat f) (aC .aval))
 aE (nH c.n c.s c.l c.keys c.branch d.n d.s d.l d.keys d.branch) (fun(t:Bool)=>
 cond (!t) (
 some (.bool false,[])) (
 let q:=(IntKind.wrap .i64 (f+1))
 e (g,h,a,i,j,k,m,b,o,p,q)))))) (
 some (.bool true,[]))
theorem ars(N:Nat):LB (vo N) oV (qz N):=fun _ _=>by kernel_rfl
def vp(N:Nat):(St→Ro)→St→Ro:=fun a s=>run gT N tv (aaL (run gT N) a) s
def tw(N:Nat)(c:kH→Ro)(m:vn→Ro):kH→Ro:=fun(d,e,f,a,g,h,i,j,b,k,l)=>
 let n:=(↑(List.length a):Int)
 cond (decide (l<n)) (
 chk (ixl l a) (
 let o:=List.getD a (Int.toNat l) (aC .str)
 chk (ixl l b) (
 let p:=List.getD b (Int.toNat l) (aC .str)
 cond (!decide (o=p)) (
 some (.bool false,[])) (
 let q:=(IntKind.wrap .i64 (l+1))
 c (d,e,f,a,g,h,i,j,b,k,q))))) (
 m (d,e,f,a,g,h,i,j,b,k,0))
def vq(N:Nat)(a:kH→Ro)(x:kH):Ro:=tw N a (fun z=>aS N (qz N) z) x
def aaM(N:Nat)(a:St→Ro):List (Nat×(St→Ro)):=(bP gT N tv (aaL (run gT N) a)++(bP gT N xM (fin xr)++[]))
theorem art(N:Nat):∀(a:St→Ro)(x:kH),vp N a (fM x)=vq N (fun y=>a (fM y)) x:=by
 intro a x
 have hX:∀C:Nat→St→Ro,cE C gT N tv (aaL (cE C gT N) a) (fM x)=tw N (fun y=>a (fM y)) (fun z=>C 1000001 (oV z)) x:=by
  intro C
  kernel_rfl
 have h:vp N a (fM x)=tw N (fun y=>a (fM y)) (fun z=>bo N (vo N) (oV z)) x:=(dh (C:=eJ (aaM N a)) (bU (aY (l:=(aaM N a)) (by kernel_rfl))) (mH (de (eR (bU (dF (aY (l:=(aaM N a)) (by kernel_rfl)))) rfl))) _).trans ((hX _).trans (by kernel_rfl))
 have e1:(fun z=>bo N (vo N) (oV z))=(fun z=>aS N (qz N) z):=funext fun z=>bk (oV) (vo N) (qz N) (ars N) N z
 rw[h,e1]
 rfl
def sq(N:Nat)(a:Int)(b:Bs)(c:List aB)(d:Bss)(e f:Int)(g:Bs)(h:List aB)(i:Bss)(j:Int)(k:kH→Ro):Ro:=
 cond (!(a==f)) (
 some (.bool false,[])) (
 cond (!decide (b=g)) (
 some (.bool false,[])) (
 cond (!(e==j)) (
 some (.bool false,[])) (
 let l:=(↑(List.length c):Int)
 let m:=(↑(List.length h):Int)
 cond (!(l==m)) (
 some (.bool false,[])) (
 let n:=(↑(List.length d):Int)
 let o:=(↑(List.length i):Int)
 cond (!(n==o)) (
 some (.bool false,[])) (
 k (a,b,c,d,e,f,g,h,i,j,0))))))
def ajW(N:Nat)(a:Int)(b:Bs)(c:List aB)(d:Bss)(e f:Int)(g:Bs)(h:List aB)(i:Bss)(j:Int):Ro:=sq N a b c d e f g h i j (fun z=>aS N (vq N) z)
theorem ati(N:Nat)(a:Int)(c:Bs)(d:List aB)(f:Bss)(g i:Int)(j:Bs)(k:List aB)(l:Bss)(m:Int)(h:Tot (ajW N a c d f g i j k l m) (fun z=>∃(n:Bool)(rest:List aJ),z.1.dimR=.bool n∧z.2=rest∧oG a c d f g i j k l m (n))):∃r,nH a c d f g i j k l m r:=avL.finP (N:=N) ((bM _ (by kernel_rfl) rfl (fun C=>sq N a c d f g i j k l m (fun z=>C 1000000 (fM z))) (fun C=>by kernel_rfl)).trans (Eq.trans (b:=sq N a c d f g i j k l m (fun z=>bo N (vp N) (fM z))) (by kernel_rfl) (congrArg (sq N a c d f g i j k l m) (funext fun z=>bk (fM) (vp N) (vq N) (art N) N z)))) h fun _ ⟨n,_,e,_,q⟩=>⟨(n),e,q⟩
noncomputable def adZ:aN:=tab (P:=Tryz.prog) [] [] [] [alo]
def afa:IR:=Sq (Rs [Mv 5 0,Pp (.lens 6 5),Bc 7 .gtr 6 0] (Cn 7 .skip (.exit 0))) (.block 1 (Rs [Mv 9 0,Ca 10 75 [9],Mv 8 10,Ex_ 11 0 8,Ex_ 12 1 8,Mv 3 11,Mv 4 12] (Sq (Rs [Mv 13 4,Bc 14 .eql 13 0] (Cn 14 (Rs [Mb 2 false] .ret) .skip)) (Rg [Mv 15 0,Mv 16 4,Pp (.subs 17 15 (some 16) none),Mv 0 17]))))
def afb:IR:=Rs [Mb 2 true] .ret
def avM:IR:=Rs [Mb 2 false] (Sq (.block 0 (.loop [0,1000000] 0 afa)) afb)
def ajX:List RV:=[.t 2]
theorem avN:FnC Tryz.prog adZ [] 0 ak6 Tryz.f46 avM ajX:=fnC Tryz.func46
def atj(R:IR→(Ex→St→Ro)→St→Ro)(a:St→Ro):Ex→St→Ro:=(bF a [0,1000000] 0 (aQ 0 (bv (R afb) (fin ajX))))
abbrev vr:Type:=(Bs)
def tz(x:vr):St:={env:=(.str x::(U 17 [])),hp:=[]}
def aaN(N:Nat):(St→Ro)→St→Ro:=fun a s=>run adZ N afa (atj (run adZ N) a) s
def vt(N:Nat)(a:vr→Ro)(x:vr):Ro:=
 let b:Bs:=x
 let d:=(↑(List.length b):Int)
 cond (decide (0<d)) (
 aE (nJ b) (fun c=>
 cond (c.2==0) (
 some (.bool false,[])) (
 chk (decide (0≤c.2)&&decide (c.2≤(↑(List.length b):Int))) (
 let e:=(List.drop (Int.toNat c.2) (List.take (List.length b) b))
 a (e))))) (
 some (.bool true,[]))
theorem aru(N:Nat):LB (aaN N) tz (vt N):=fun _ _=>by kernel_rfl
def ss(N:Nat)(a:Bs)(b:vr→Ro):Ro:=
 b (a)
def ajY(N:Nat)(a:Bs):Ro:=ss N a (fun z=>aS N (vt N) z)
theorem atk(N:Nat)(a:Bs)(h:Tot (ajY N a) (fun z=>∃(c:Bool)(rest:List aJ),z.1.dimR=.bool c∧z.2=rest∧yL a (c))):∃r,ez a r:=avN.finP (N:=N) ((bM _ (by kernel_rfl) rfl (fun C=>ss N a (fun z=>C 1000000 (tz z))) (fun C=>by kernel_rfl)).trans (Eq.trans (b:=ss N a (fun z=>bo N (aaN N) (tz z))) (by kernel_rfl) (congrArg (ss N a) (funext fun z=>bk (tz) (aaN N) (vt N) (aru N) N z)))) h fun _ ⟨c,_,e,_,q⟩=>⟨(c),e,q⟩
end Go.Proofs.YtdpajabhmmmjoaaGreat
end
noncomputable section
namespace Go.Proofs.YtdpajabhmmmjoaaGreat
open Go.AM
set_option autoImplicit false
set_option linter.unusedVariables false
set_option maxRecDepth 100000
noncomputable def aiA:aN:=tab (P:=Tryz.prog) [] [] [] []
def ajZ:IR:=Sq (Rs [Fa 7 0 2,Lq 8 7,Bc 9 .eql 8 6,Mv 10 9,Gt 10 (.mov 11 6),Gt 10 (.fad 12 4 2),Gt 10 (.lde 13 1 false 12),Gt 10 (.lenl 14 13),Gt 10 (.bin 15 .lss 11 14),Pa 16 10 15,Mv 17 16,Gt 17 (.mov 18 6),Gt 17 (.fad 19 3 2),Gt 17 (.lde 20 1 false 19),Gt 17 (.lenl 21 20),Gt 17 (.bin 22 .lss 18 21),Pa 23 17 22] (Cn 23 .skip (.exit 0))) (Sq (.block 1 (Rs [Fa 26 4 2,Lq 27 26,Mv 28 6,Ix 29 .str 27 28,Lq 30 29,Mv 31 1,Bi 32 .eql 30 31] (Cn 32 (Rs [Fa 33 3 2,Lq 34 33,Mv 35 6,Ix 36 .jnode 34 35,Ld 37 5 true 36,Sv 5 4 37,Mb 5 true] .ret) .skip))) (Rg [Mv 24 6,Bc 25 .add 24 1,Mv 6 25]))
def aj0:IR:=Rs [Pp (.bld 38 [vI 0,vI 0,vS,nl .jnode,nl .str] []),Sv 5 4 38,Mb 5 false] .ret
def azd:IR:=Rs [Bx 2 0,Pp (.new 4 [vI 0,vI 0,vS,nl .jnode,nl .str]),Mb 5 false] (Sq (Rs [Mi 6 0] (.block 0 (.loop [1,2,4,6,1000000] 1 ajZ))) aj0)
def aor:List RV:=[.cell 4 5 true,.t 5]
theorem aze:FnC Tryz.prog aiA [] 0 aqi Tryz.f57 azd aor:=fnC Tryz.func57
def axN(R:IR→(Ex→St→Ro)→St→Ro)(a:St→Ro):Ex→St→Ro:=(bF a [1,2,4,6,1000000] 1 (aQ 0 (bv (R aj0) (fin aor))))
abbrev zE:Type:=(Bs×Int×Int×Bs×List aH×Bss×Int×Int×Int×Bs×List aH×Bss)
def xt:zE→St:=fun(c,d,e,f,g,h,i,j,k,l,a,b)=>{env:=(.undef::.str c::.ea [.int .i64 d,.int .i64 e,.str f,.sl .jnode (.may false) g,.sl .str (.may false) h]::.undef::.ptr 0 0::.undef::.int .i64 i::(U 32 [])),hp:=[some [.int .i64 j,.int .i64 k,.str l,.sl .jnode .own a,.sl .str .own b]]}
def ad0(N:Nat):(St→Ro)→St→Ro:=fun a s=>run aiA N ajZ (axN (run aiA N) a) s
def zF(N:Nat)(c:zE→Ro):zE→Ro:=fun(q,d,g,h,a,b,e,i,j,k,m,o)=>
 let p:=fun r t u v w x y z=>(some (.tup [.agg [.int .i64 r,.int .i64 t,.str u,.sl .jnode (.may false) v,.sl .str (.may false) w],.bool x],[some [.int .i64 r,.int .i64 t,.str u,y,z]]):Ro)
 cond (d==6) (
 let x1:=(↑(List.length b):Int)
 cond (decide (e<x1)) (
 let x2:=(↑(List.length a):Int)
 cond (decide (e<x2)) (
 chk (ixl e b) (
 let x3:=List.getD b (Int.toNat e) (aC .str)
 cond (decide (x3=q)) (
 chk (ixl e a) (
 let f:=(List.getD a (Int.toNat e) (aC .jnode))
 p f.kind f.n f.s f.l f.names true (.sl .jnode (.may false) f.l) (.sl .str (.may false) f.names))) (
 let x5:=(IntKind.wrap .i64 (e+1))
 c (q,d,g,h,a,b,x5,i,j,k,m,o)))) (
 p 0 0 ([]:Bs) ([]:List aH) ([]:Bss) false (.sl .jnode .own ([]:List aH)) (.sl .str .own ([]:Bss)))) (
 p 0 0 ([]:Bs) ([]:List aH) ([]:Bss) false (.sl .jnode .own ([]:List aH)) (.sl .str .own ([]:Bss)))) (
 p 0 0 ([]:Bs) ([]:List aH) ([]:Bss) false (.sl .jnode .own ([]:List aH)) (.sl .str .own ([]:Bss)))
theorem avO(N:Nat):LB (ad0 N) xt (zF N):=fun _ _=>by kernel_rfl
def wF(N:Nat)(a b:Int)(c:Bs)(d:List aH)(e:Bss)(f:Bs)(g:zE→Ro):Ro:=
 g (f,a,b,c,d,e,0,0,0,([]:Bs),([]:List aH),([]:Bss))
def aos(N:Nat)(a b:Int)(c:Bs)(d:List aH)(e:Bss)(f:Bs):Ro:=wF N a b c d e f (fun z=>aS N (zF N) z)
theorem axO(N:Nat)(a c:Int)(d:Bs)(f:List aH)(g:Bss)(i:Bs)(h:Tot (aos N a c d f g i) (fun z=>∃(j:Int)(k:Int)(l:Bs)(m:List aH)(n:Bss)(o:Bool)(rest:List aJ),z.1.dimR=.tup [.agg [.int .i64 j,.int .i64 k,.str l,.sl .jnode (.may false) m,.sl .str (.may false) n],.bool o]∧z.2=rest∧dA a c d f g i (j,k,l,m,n,o))):∃r,eb a c d f g i r:=aze.finP (N:=N) ((bM _ (by kernel_rfl) rfl (fun C=>wF N a c d f g i (fun z=>C 1000000 (xt z))) (fun C=>by kernel_rfl)).trans (Eq.trans (b:=wF N a c d f g i (fun z=>bo N (ad0 N) (xt z))) (by kernel_rfl) (congrArg (wF N a c d f g i) (funext fun z=>bk (xt) (ad0 N) (zF N) (avO N) N z)))) h fun _ ⟨j,k,l,m,n,o,_,e,_,q⟩=>⟨(j,k,l,m,n,o),e,q⟩
noncomputable def afG:aN:=tab (P:=Tryz.prog) [] [] [] [auK,aw1]
def ag3:IR:=Sq (Rs [Mv 4 3,Mv 5 0,Pp (.lens 6 5),Bi 7 .lss 4 6] (Cn 7 .skip (.exit 0))) (Sq (.block 1 (Rs [Mv 10 0,Mv 11 3,Pp (.idx 12 10 11),Ca 13 106 [12],Un 14 13,Mv 15 14,Gt 15 (.mov 16 3),Gt 15 (.bin 17 .eql 16 (kI 0)),Gt 15 (.mov 18 17),Gf 18 (.mov 19 0),Gf 18 (.mov 20 3),Gf 18 (.idx 21 19 20),Gf 18 (.call 22 107 [21]),Gf 18 (.un 23 .not 22),Gt 15 (.pick 24 18 (kB true) 23),Pa 25 15 24] (Cn 25 (Rs [Mb 2 false] .ret) .skip))) (Rg [Mv 8 3,Bc 9 .add 8 1,Mv 3 9]))
def ag4:IR:=Rs [Mv 26 0,Pp (.lens 27 26),Bc 28 .gtr 27 0,Mv 2 28] .ret
def axP:IR:=Rs [Mb 2 false] (Sq (Rs [Mi 3 0] (.block 0 (.loop [0,3,1000000] 0 ag3))) ag4)
def amy:List RV:=[.t 2]
theorem axQ:FnC Tryz.prog afG [] 0 an2 Tryz.f102 axP amy:=fnC Tryz.func102
def avP(R:IR→(Ex→St→Ro)→St→Ro)(a:St→Ro):Ex→St→Ro:=(bF a [0,3,1000000] 0 (aQ 0 (bv (R ag4) (fin amy))))
abbrev xu:Type:=(Bs×Int)
def vu:xu→St:=fun(a,b)=>{env:=(.str a::.undef::.undef::.int .i64 b::(U 25 [])),hp:=[]}
def ach(N:Nat):(St→Ro)→St→Ro:=fun a s=>run afG N ag3 (avP (run afG N) a) s
def xv(N:Nat)(a:xu→Ro):xu→Ro:=fun(b,c)=>
 let d:=(↑(List.length b):Int)
 cond (decide (c<d)) (
 chk (ixl c b) (
 let e:=(↑(UInt8.toNat (List.getD b (Int.toNat c) 0)):Int)
 aE (rW e) (fun(f:Bool)=>
 cond (!f) (
 cond (c==0) (
 some (.bool false,[])) (
 chk (ixl c b) (
 let g:=(↑(UInt8.toNat (List.getD b (Int.toNat c) 0)):Int)
 aE (uc g) (fun(h:Bool)=>
 cond (!h) (
 some (.bool false,[])) (
 let i:=(IntKind.wrap .i64 (c+1))
 a (b,i)))))) (
 let j:=(IntKind.wrap .i64 (c+1))
 a (b,j))))) (
 let k:=(↑(List.length b):Int)
 some (.bool (decide (0<k)),[]))
theorem atl(N:Nat):LB (ach N) vu (xv N):=fun _ _=>by kernel_rfl
def uq(N:Nat)(a:Bs)(b:xu→Ro):Ro:=
 b (a,0)
def amz(N:Nat)(a:Bs):Ro:=uq N a (fun z=>aS N (xv N) z)
theorem avQ(N:Nat)(a:Bs)(h:Tot (amz N a) (fun z=>∃(c:Bool)(rest:List aJ),z.1.dimR=.bool c∧z.2=rest)):∃r,kM a r:=axQ.finP0 (N:=N) ((bM _ (by kernel_rfl) rfl (fun C=>uq N a (fun z=>C 1000000 (vu z))) (fun C=>by kernel_rfl)).trans (Eq.trans (b:=uq N a (fun z=>bo N (ach N) (vu z))) (by kernel_rfl) (congrArg (uq N a) (funext fun z=>bk (vu) (ach N) (xv N) (atl N) N z)))) h fun _ ⟨c,_,e,_⟩=>⟨(c),e⟩
noncomputable def avR:aN:=tab (P:=Tryz.prog) [] [] [] []
def atm:IR:=Rs [Mb 2 false] (Rs [Mv 3 0,Pp (.bin 4 .geq 3 (.c (.int .u8 97))),Mv 5 4,Gt 5 (.mov 6 0),Gt 5 (.bin 7 .leq 6 (.c (.int .u8 122))),Pa 8 5 7,Mv 9 8,Gf 9 (.mov 10 0),Gf 9 (.bin 11 .geq 10 (.c (.int .u8 65))),Gf 9 (.mov 12 11),Gt 12 (.mov 13 0),Gt 12 (.bin 14 .leq 13 (.c (.int .u8 90))),Gf 9 (.pick 15 12 14 (kB false)),Po 16 9 15,Mv 17 16,Gf 17 (.mov 18 0),Gf 17 (.bin 19 .eql 18 (.c (.int .u8 95))),Po 20 17 19,Mv 2 20] .ret)
def atn:List RV:=[.t 2]
theorem ato:FnC Tryz.prog avR [] 0 ajh Tryz.f106 atm atn:=fnC Tryz.func106
def ag5(N:Nat)(a:Int):Ro:=
 let b:=(some (.bool (a==95),[]):Ro)
 cond (decide (97≤a)) (
 cond (decide (a≤122)) (
 some (.bool true,[])) (
 cond (decide (65≤a)) (
 cond (decide (a≤90)) (
 some (.bool true,[])) (
 b)) (
 b))) (
 cond (decide (65≤a)) (
 cond (decide (a≤90)) (
 some (.bool true,[])) (
 b)) (
 b))
def ag6(N:Nat)(a:Int):Ro:=ag5 N a
theorem arv(N:Nat)(b:Int)(h:Tot (ag6 N b) (fun z=>∃(a:Bool)(rest:List aJ),z.1.dimR=.bool a∧z.2=rest)):∃r,rW b r:=ato.finP0 (N:=N) (by kernel_rfl) h fun _ ⟨a,_,e,_⟩=>⟨(a),e⟩
noncomputable def axR:aN:=tab (P:=Tryz.prog) [] [] [] []
def avS:IR:=Rs [Mb 2 false] (Rs [Mv 3 0,Pp (.bin 4 .geq 3 (.c (.int .u8 48))),Mv 5 4,Gt 5 (.mov 6 0),Gt 5 (.bin 7 .leq 6 (.c (.int .u8 57))),Pa 8 5 7,Mv 2 8] .ret)
def avT:List RV:=[.t 2]
theorem avU:FnC Tryz.prog axR [] 0 ald Tryz.f107 avS avT:=fnC Tryz.func107
def aj1(N:Nat)(a:Int):Ro:=
 cond (decide (48≤a)) (
 some (.bool (decide (a≤57)),[])) (
 some (.bool false,[]))
def aj2(N:Nat)(a:Int):Ro:=aj1 N a
theorem atp(N:Nat)(b:Int)(h:Tot (aj2 N b) (fun z=>∃(a:Bool)(rest:List aJ),z.1.dimR=.bool a∧z.2=rest)):∃r,uc b r:=avU.finP0 (N:=N) (by kernel_rfl) h fun _ ⟨a,_,e,_⟩=>⟨(a),e⟩
noncomputable def azf:aN:=tab (P:=Tryz.prog) [] [] [] []
def axS:IR:=Rs [Ms 4 []] (Sq (Rs [Mv 5 0,Pp (.bin 6 .eql 5 (kS [])),Mv 7 6,Gf 7 (.mov 8 1),Gf 7 (.bin 9 .eql 8 (kS [])),Po 10 7 9] (Cn 10 (Rs [Mv 11 0,Mv 12 1,Bi 13 .add 11 12,Mv 4 13] .ret) .skip)) (Rs [Mv 14 0,Pp (.bin 15 .add 14 (kS [46])),Mv 16 1,Bi 17 .add 15 16,Mv 4 17] .ret))
def axT:List RV:=[.t 4]
theorem axU:FnC Tryz.prog azf [] 0 an3 Tryz.f100 axS axT:=fnC Tryz.func100
def amA(N:Nat)(a b:Bs):Ro:=
 let d:=decide (a=([]:Bs))
 cond d (
 chk (decide (List.length a+List.length b≤9223372036854775807)) (
 some (.str (a++b),[]))) (
 let e:=decide (b=([]:Bs))
 cond e (
 chk (decide (List.length a+List.length b≤9223372036854775807)) (
 some (.str (a++b),[]))) (
 chk (decide (List.length a+List.length ([46]:Bs)≤9223372036854775807)) (
 let c:=(a++([46]:Bs))
 chk (decide (List.length c+List.length b≤9223372036854775807)) (
 some (.str (c++b),[])))))
def amB(N:Nat)(a b:Bs):Ro:=amA N a b
theorem avV(N:Nat)(b c:Bs)(h:Tot (amB N b c) (fun z=>∃(a:Bs)(rest:List aJ),z.1.dimR=.str a∧z.2=rest∧uO b c (a))):∃r,wt b c r:=axU.finP (N:=N) (by kernel_rfl) h fun _ ⟨a,_,e,_,q⟩=>⟨(a),e,q⟩
noncomputable def ad1:aN:=tab (P:=Tryz.prog) [] [] [] [afn]
def afc:IR:=Sq (Rs [Mv 5 4,Mv 6 0,Pp (.lens 7 6),Bi 8 .leq 5 7] (Cn 8 .skip (.exit 0))) (Sq (.block 1 (Sq (Rs [Mv 11 4,Mv 12 0,Pp (.lens 13 12),Bi 14 .lss 11 13,Mv 15 14,Gt 15 (.mov 16 0),Gt 15 (.mov 17 4),Gt 15 (.idx 18 16 17),Gt 15 (.bin 19 .neq 18 (.c (.int .u8 46))),Pa 20 15 19] (Cn 20 (Rs [Mv 21 3,Mv 22 0,Mv 23 4,Mv 24 4,Bc 25 .add 24 1,Pp (.subs 26 22 (some 23) (some 25)),Bi 27 .add 21 26,Mv 3 27] (.exit 1)) .skip)) (Sq (Rs [Mv 28 3,Ca 29 102 [28],Un 30 29] (Cn 30 (Rs [Mb 2 false] .ret) .skip)) (Rg [Ms 3 []])))) (Rg [Mv 9 4,Bc 10 .add 9 1,Mv 4 10]))
def ad2:IR:=Rs [Mb 2 true] .ret
def avW:IR:=Rs [Mb 2 false] (Rs [Ms 3 []] (Sq (Rs [Mi 4 0] (.block 0 (.loop [0,3,4,1000000] 0 afc))) ad2))
def aj3:List RV:=[.t 2]
theorem avX:FnC Tryz.prog ad1 [] 0 ale Tryz.f101 avW aj3:=fnC Tryz.func101
def atq(R:IR→(Ex→St→Ro)→St→Ro)(a:St→Ro):Ex→St→Ro:=(bF a [0,3,4,1000000] 0 (aQ 0 (bv (R ad2) (fin aj3))))
abbrev vv:Type:=(Bs×Bs×Int)
def tA:vv→St:=fun(a,b,c)=>{env:=(.str a::.undef::.undef::.str b::.int .i64 c::(U 26 [])),hp:=[]}
def aaO(N:Nat):(St→Ro)→St→Ro:=fun a s=>run ad1 N afc (atq (run ad1 N) a) s
def vw(N:Nat)(a:vv→Ro):vv→Ro:=fun(c,d,b)=>
 let g:=(↑(List.length c):Int)
 cond (decide (b≤g)) (
 let h:=(↑(List.length c):Int)
 cond (decide (b<h)) (
 chk (ixl b c) (
 let i:=(↑(UInt8.toNat (List.getD c (Int.toNat b) 0)):Int)
 cond (!(i==46)) (
 let e:=(IntKind.wrap .i64 (b+1))
 chk (decide (0≤e)&&decide (e≤(↑(List.length c):Int))&&(decide (0≤b)&&decide (b≤e))) (
 let f:=(List.drop (Int.toNat b) (List.take (Int.toNat e) c))
 chk (decide (List.length d+List.length f≤9223372036854775807)) (
 let j:=(IntKind.wrap .i64 (b+1))
 a (c,(d++f),j)))) (
 aE (kM d) (fun(k:Bool)=>
 cond (!k) (
 some (.bool false,[])) (
 let l:=(IntKind.wrap .i64 (b+1))
 a (c,([]:Bs),l)))))) (
 aE (kM d) (fun(m:Bool)=>
 cond (!m) (
 some (.bool false,[])) (
 let n:=(IntKind.wrap .i64 (b+1))
 a (c,([]:Bs),n))))) (
 some (.bool true,[]))
theorem arw(N:Nat):LB (aaO N) tA (vw N):=fun _ _=>by kernel_rfl
def su(N:Nat)(a:Bs)(b:vv→Ro):Ro:=
 b (a,([]:Bs),0)
def aj4(N:Nat)(a:Bs):Ro:=su N a (fun z=>aS N (vw N) z)
theorem atr(N:Nat)(a:Bs)(h:Tot (aj4 N a) (fun z=>∃(c:Bool)(rest:List aJ),z.1.dimR=.bool c∧z.2=rest)):∃r,ua a r:=avX.finP0 (N:=N) ((bM _ (by kernel_rfl) rfl (fun C=>su N a (fun z=>C 1000000 (tA z))) (fun C=>by kernel_rfl)).trans (Eq.trans (b:=su N a (fun z=>bo N (aaO N) (tA z))) (by kernel_rfl) (congrArg (su N a) (funext fun z=>bk (tA) (aaO N) (vw N) (arw N) N z)))) h fun _ ⟨c,_,e,_⟩=>⟨(c),e⟩
noncomputable def axV:aN:=tab (P:=Tryz.prog) [] [] [] [alo]
def avY:IR:=Rs [Pp (.mov 2 (.c (.int .u32 0))),Mi 3 0] (Rs [Mv 4 0,Ca 5 75 [4],Ex_ 6 0 5,Ex_ 7 1 5,Mv 2 6,Mv 3 7] .ret)
def avZ:List RV:=[.t 2,.t 3]
theorem av0:FnC Tryz.prog axV [] 0 ak5 Tryz.f104 avY avZ:=fnC Tryz.func104
def aj5(N:Nat)(b:Bs):Ro:=
 aE (nJ b) (fun a=>
 some (.tup [.int .u32 a.1,.int .i64 a.2],[]))
def aj6(N:Nat)(a:Bs):Ro:=aj5 N a
theorem att(N:Nat)(c:Bs)(h:Tot (aj6 N c) (fun z=>∃(a:Int)(b:Int)(rest:List aJ),z.1.dimR=.tup [.int .u32 a,.int .i64 b]∧z.2=rest∧aeK c (a,b))):∃r,ub c r:=av0.finP (N:=N) (by kernel_rfl) h fun _ ⟨a,b,_,e,_,q⟩=>⟨(a,b),e,q⟩
noncomputable def ad3:aN:=tab (P:=Tryz.prog) [] [] [] []
def ad4:IR:=Sq (Rs [Mv 50 8,Mv 51 5,Bi 52 .lss 50 51] (Cn 52 .skip (.exit 1))) (Sq (.block 2 (Sq (Rs [Mv 55 0,Mv 56 8,Pp (.idx 57 55 56),Pp (.bin 58 .lss 57 (.c (.int .u8 128))),Mv 59 58,Gf 59 (.mov 60 0),Gf 59 (.mov 61 8),Gf 59 (.idx 62 60 61),Gf 59 (.bin 63 .gtr 62 (.c (.int .u8 191))),Po 64 59 63] (Cn 64 (Rs [Pp (.mov 2 (.c (.int .u32 0))),Mi 3 0] .ret) .skip)) (Rg [Mv 65 6,Pp (.bin 66 .mul 65 (.c (.int .u32 64))),Mv 67 0,Mv 68 8,Pp (.idx 69 67 68),Pp (.bin 70 .sub 69 (.c (.int .u8 128))),Pp (.cvi 71 .u32 70),Bi 72 .add 66 71,Mv 6 72]))) (Rg [Mv 53 8,Bc 54 .add 53 1,Mv 8 54]))
def ad5:IR:=Sq (Rs [Mv 73 6,Mv 74 7,Bi 75 .lss 73 74,Mv 76 75,Gf 76 (.mov 77 6),Gf 76 (.bin 78 .gtr 77 (.c (.int .u32 1114111))),Po 79 76 78,Mv 80 79,Gf 80 (.mov 81 6),Gf 80 (.bin 82 .geq 81 (.c (.int .u32 55296))),Gf 80 (.mov 83 82),Gt 83 (.mov 84 6),Gt 83 (.bin 85 .leq 84 (.c (.int .u32 57343))),Gf 80 (.pick 86 83 85 (kB false)),Po 87 80 86] (Cn 87 (Rs [Pp (.mov 2 (.c (.int .u32 0))),Mi 3 0] .ret) .skip)) (Rs [Mv 88 6,Mv 89 5,Mv 2 88,Mv 3 89] .ret)
def av1:IR:=Rs [Pp (.mov 2 (.c (.int .u32 0))),Mi 3 0] (Sq (Rs [Mv 9 0,Pp (.lens 10 9),Bc 11 .eql 10 0] (Cn 11 (Rs [Pp (.mov 2 (.c (.int .u32 0))),Mi 3 0] .ret) .skip)) (Rs [Mv 12 0,Pp (.idx 13 12 (kI 0)),Pp (.cvi 14 .u32 13),Mv 4 14] (Rs [Mi 5 0,Pp (.mov 6 (.c (.int .u32 0))),Pp (.mov 7 (.c (.int .u32 0)))] (Sq (.block 0 (Rs [Mv 16 4,Pp (.bin 17 .lss 16 (.c (.int .u32 128))),Mv 15 17] (Cn 15 (Rs [Mv 18 4,Mv 2 18,Mi 3 1] .ret) (Rs [Mv 20 4,Pp (.bin 21 .geq 20 (.c (.int .u32 192))),Mv 22 21,Gt 22 (.mov 23 4),Gt 22 (.bin 24 .lss 23 (.c (.int .u32 224))),Pa 25 22 24,Mv 19 25] (Cn 19 (Rg [Mv 26 4,Pp (.bin 27 .sub 26 (.c (.int .u32 192))),Mi 5 2,Mv 6 27,Pp (.mov 7 (.c (.int .u32 128)))]) (Rs [Mv 29 4,Pp (.bin 30 .geq 29 (.c (.int .u32 224))),Mv 31 30,Gt 31 (.mov 32 4),Gt 31 (.bin 33 .lss 32 (.c (.int .u32 240))),Pa 34 31 33,Mv 28 34] (Cn 28 (Rg [Mv 35 4,Pp (.bin 36 .sub 35 (.c (.int .u32 224))),Mi 5 3,Mv 6 36,Pp (.mov 7 (.c (.int .u32 2048)))]) (Rs [Mv 38 4,Pp (.bin 39 .geq 38 (.c (.int .u32 240))),Mv 40 39,Gt 40 (.mov 41 4),Gt 40 (.bin 42 .lss 41 (.c (.int .u32 248))),Pa 43 40 42,Mv 37 43] (Cn 37 (Rg [Mv 44 4,Pp (.bin 45 .sub 44 (.c (.int .u32 240))),Mi 5 4,Mv 6 45,Pp (.mov 7 (.c (.int .u32 65536)))]) (Rs [Pp (.mov 2 (.c (.int .u32 0))),Mi 3 0] .ret)))))))))) (Sq (Rs [Mv 46 0,Pp (.lens 47 46),Mv 48 5,Bi 49 .lss 47 48] (Cn 49 (Rs [Pp (.mov 2 (.c (.int .u32 0))),Mi 3 0] .ret) .skip)) (Sq (Rs [Mi 8 1] (.block 1 (.loop [0,5,6,7,8,1000000] 0 ad4))) ad5))))))
def aj7:List RV:=[.t 2,.t 3]
theorem av2:FnC Tryz.prog ad3 [] 0 ak7 Tryz.f75 av1 aj7:=fnC Tryz.func75
def atu(R:IR→(Ex→St→Ro)→St→Ro)(a:St→Ro):Ex→St→Ro:=(bF a [0,5,6,7,8,1000000] 0 (aQ 1 (bv (R ad5) (fin aj7))))
abbrev vx:Type:=(Bs×Int×Int×Int×Int)
def tB:vx→St:=fun(a,b,c,d,e)=>{env:=(.str a::(U 4 (.int .i64 b::.int .u32 c::.int .u32 d::.int .i64 e::(U 81 [])))),hp:=[]}
def aaP(N:Nat):(St→Ro)→St→Ro:=fun a s=>run ad3 N ad4 (atu (run ad3 N) a) s
def fA(N:Nat)(a:vx→Ro):vx→Ro:=fun(c,f,d,l,b)=>
 let e:=(some (.tup [.int .u32 0,.int .i64 0],[]):Ro)
 let m:=(some (.tup [.int .u32 d,.int .i64 f],[]):Ro)
 cond (decide (b<f)) (
 chk (ixl b c) (
 let n:=(↑(UInt8.toNat (List.getD c (Int.toNat b) 0)):Int)
 cond (decide (n<128)) (
 e) (
 chk (ixl b c) (
 let o:=(↑(UInt8.toNat (List.getD c (Int.toNat b) 0)):Int)
 cond (decide (191<o)) (
 e) (
 let g:=(IntKind.wrap .u32 (d*64))
 chk (ixl b c) (
 let h:=(↑(UInt8.toNat (List.getD c (Int.toNat b) 0)):Int)
 let i:=(IntKind.wrap .u8 (h-128))
 let j:=(IntKind.wrap .u32 (g+(IntKind.wrap .u32 i)))
 let k:=(IntKind.wrap .i64 (b+1))
 a (c,f,j,l,k))))))) (
 cond (decide (d<l)) (
 e) (
 cond (decide (1114111<d)) (
 e) (
 cond (decide (55296≤d)) (
 cond (decide (d≤57343)) (
 e) (
 m)) (
 m))))
theorem arx(N:Nat):LB (aaP N) tB (fA N):=fun _ _=>by kernel_rfl
def sv(N:Nat)(b:Bs)(d:vx→Ro):Ro:=
 let x1:=(↑(List.length b):Int)
 let c:=(some (.tup [.int .u32 0,.int .i64 0],[]):Ro)
 cond (x1==0) (
 c) (
 chk (decide ((0:Int)<↑(List.length b))) (
 let a:=(↑(UInt8.toNat (List.getD b (Int.toNat 0) 0)):Int)
 let x3:=decide ((IntKind.wrap .u32 a)<128)
 cond x3 (
 some (.tup [.int .u32 (IntKind.wrap .u32 a),.int .i64 1],[])) (
 let x4:=decide (192≤(IntKind.wrap .u32 a))
 cond x4 (
 let x5:=decide ((IntKind.wrap .u32 a)<224)
 cond x5 (
 let x6:=(IntKind.wrap .u32 ((IntKind.wrap .u32 a)-192))
 let x7:=(↑(List.length b):Int)
 cond (decide (x7<2)) (
 c) (
 d (b,2,x6,128,1))) (
 let e:=decide (224≤(IntKind.wrap .u32 a))
 cond e (
 let f:=decide ((IntKind.wrap .u32 a)<240)
 cond f (
 let g:=(IntKind.wrap .u32 ((IntKind.wrap .u32 a)-224))
 let h:=(↑(List.length b):Int)
 cond (decide (h<3)) (
 c) (
 d (b,3,g,2048,1))) (
 let i:=decide (240≤(IntKind.wrap .u32 a))
 cond i (
 let j:=decide ((IntKind.wrap .u32 a)<248)
 cond j (
 let k:=(IntKind.wrap .u32 ((IntKind.wrap .u32 a)-240))
 let l:=(↑(List.length b):Int)
 cond (decide (l<4)) (
 c) (
 d (b,4,k,65536,1))) (
 c)) (
 c))) (
 let m:=decide (240≤(IntKind.wrap .u32 a))
 cond m (
 let n:=decide ((IntKind.wrap .u32 a)<248)
 cond n (
 let o:=(IntKind.wrap .u32 ((IntKind.wrap .u32 a)-240))
 let p:=(↑(List.length b):Int)
 cond (decide (p<4)) (
 c) (
 d (b,4,o,65536,1))) (
 c)) (
 c)))) (
 let q:=decide (224≤(IntKind.wrap .u32 a))
 cond q (
 let r:=decide ((IntKind.wrap .u32 a)<240)
 cond r (
 let s:=(IntKind.wrap .u32 ((IntKind.wrap .u32 a)-224))
 let t:=(↑(List.length b):Int)
 cond (decide (t<3)) (
 c) (
 d (b,3,s,2048,1))) (
 let u:=decide (240≤(IntKind.wrap .u32 a))
 cond u (
 let v:=decide ((IntKind.wrap .u32 a)<248)
 cond v (
 let w:=(IntKind.wrap .u32 ((IntKind.wrap .u32 a)-240))
 let x:=(↑(List.length b):Int)
 cond (decide (x<4)) (
 c) (
 d (b,4,w,65536,1))) (
 c)) (
 c))) (
 let y:=decide (240≤(IntKind.wrap .u32 a))
 cond y (
 let z:=decide ((IntKind.wrap .u32 a)<248)
 cond z (
 let aa:=(IntKind.wrap .u32 ((IntKind.wrap .u32 a)-240))
 let ab:=(↑(List.length b):Int)
 cond (decide (ab<4)) (
 c) (
 d (b,4,aa,65536,1))) (
 c)) (
 c))))))
def aci(N:Nat)(a:Bs):Ro:=sv N a (fun z=>aS N (fA N) z)
theorem ag7(N:Nat)(a:Bs)(h:Tot (aci N a) (fun z=>∃(c:Int)(d:Int)(rest:List aJ),z.1.dimR=.tup [.int .u32 c,.int .i64 d]∧z.2=rest∧aeL a (c,d))):∃r,nJ a r:=av2.finP (N:=N) ((bM _ (by kernel_rfl) rfl (fun C=>sv N a (fun z=>C 1000000 (tB z))) (fun C=>by kernel_rfl)).trans (Eq.trans (b:=sv N a (fun z=>bo N (aaP N) (tB z))) (by kernel_rfl) (congrArg (sv N a) (funext fun z=>bk (tB) (aaP N) (fA N) (arx N) N z)))) h fun _ ⟨c,d,_,e,_,q⟩=>⟨(c,d),e,q⟩
noncomputable def afH:aN:=tab (P:=Tryz.prog) [] [] [] []
def ag8:IR:=Sq (Rs [Mv 14 0,Mv 15 7,Bi 16 .shr 14 15,Pp (.bin 17 .eql 16 (kU 0))] (Cn 17 .skip (.exit 0))) (.block 1 (Rg [Mv 18 7,Bc 19 .sub 18 1,Mv 7 19]))
def afd:IR:=Rs [Mv 20 0,Mv 8 20] (Sq (Rs [Mv 21 7,Mv 22 1,Bi 23 .leq 21 22] (Cn 23 (Rg [Mv 24 0,Mv 25 1,Mv 26 7,Bi 27 .sub 25 26,Bi 28 .shl 24 27,Mv 8 28]) (Rs [Mv 29 7,Mv 30 1,Bi 31 .sub 29 30,Mv 9 31] (Rs [Mv 32 9,Bc 33 .sub 32 1,Pp (.bin 34 .shl (kU 1) 33),Mv 10 34] (Rs [Mv 35 0,Mv 36 9,Pp (.bin 37 .shl (kU 1) 36),Bi 38 .rem 35 37,Mv 11 38] (Rs [Mv 39 0,Mv 40 9,Bi 41 .shr 39 40,Mv 8 41] (Rs [Mv 42 11,Mv 43 10,Bi 44 .gtr 42 43,Mv 45 44,Gf 45 (.mov 46 11),Gf 45 (.mov 47 10),Gf 45 (.bin 48 .eql 46 47),Gf 45 (.mov 49 48),Gt 49 (.mov 50 8),Gt 49 (.bin 51 .rem 50 (kU 2)),Gt 49 (.bin 52 .eql 51 (kU 1)),Gf 45 (.pick 53 49 52 (kB false)),Po 54 45 53] (Cn 54 (Rg [Mv 55 8,Pp (.bin 56 .add 55 (kU 1)),Mv 8 56]) .skip)))))))) (Sq (.reg [Mv 57 7,Mv 58 2,Bi 59 .add 57 58,Pp (.cvi 60 .u64 59),Mv 61 1,Bi 62 .shl 60 61,Mv 63 8,Mv 64 1,Pp (.bin 65 .shl (kU 1) 64),Bi 66 .sub 63 65,Bi 67 .add 62 66,Mv 6 67] [[],[],[0,1],[0,1,2],[],rg 0 4,[],[],[7],[6,7,8],rg 0 9,rg 0 10]) .ret))
def axW:IR:=Rs [Pp (.mov 6 (kU 0))] (Sq (Rs [Mv 12 0,Pp (.bin 13 .eql 12 (kU 0))] (Cn 13 (Rs [Pp (.mov 6 (kU 0))] .ret) .skip)) (Rs [Mi 7 63] (Sq (.block 0 (.loop [0,1,2,7,1000000] 0 ag8)) afd)))
def amC:List RV:=[.t 6]
theorem axX:FnC Tryz.prog afH [] 0 anY Tryz.f103 axW amC:=fnC Tryz.func103
def av3(R:IR→(Ex→St→Ro)→St→Ro)(a:St→Ro):Ex→St→Ro:=(bF a [0,1,2,7,1000000] 0 (aQ 0 (bv (R afd) (fin amC))))
abbrev xw:Type:=(Int×Int×Int×Int)
def vy:xw→St:=fun(a,b,c,d)=>{env:=(.int .u64 a::.int .i64 b::.int .i64 c::(U 4 (.int .i64 d::(U 60 [])))),hp:=[]}
def acj(N:Nat):(St→Ro)→St→Ro:=fun a s=>run afH N ag8 (av3 (run afH N) a) s
def xx(N:Nat)(d:xw→Ro):xw→Ro:=fun(e,a,f,b)=>
 chk (decide (0≤b)) (
 cond ((dI .u64 e b)==0) (
 let x1:=(IntKind.wrap .i64 (b-1))
 d (e,a,f,x1)) (
 cond (decide (b≤a)) (
 let x2:=(IntKind.wrap .i64 (a-b))
 chk (decide (0≤x2)) (
 let x3:=(IntKind.wrap .i64 (b+f))
 chk (decide (0≤a)) (
 let x4:=(eV .u64 (IntKind.wrap .u64 x3) a)
 chk (decide (0≤a)) (
 let x5:=(IntKind.wrap .u64 ((eV .u64 e x2)-(eV .u64 1 a)))
 let x6:=(IntKind.wrap .u64 (x4+x5))
 some (.int .u64 x6,[]))))) (
 let c:=(IntKind.wrap .i64 (b-a))
 let g:=(IntKind.wrap .i64 (c-1))
 chk (decide (0≤g)) (
 chk (decide (0≤c)) (
 chk (!((eV .u64 1 c)==0)) (
 let x9:=(Int.tmod e (eV .u64 1 c))
 chk (decide (0≤c)) (
 let h:=decide ((eV .u64 1 g)<x9)
 cond h (
 let i:=(IntKind.wrap .u64 ((dI .u64 e c)+1))
 let j:=(IntKind.wrap .i64 (b+f))
 chk (decide (0≤a)) (
 let k:=(eV .u64 (IntKind.wrap .u64 j) a)
 chk (decide (0≤a)) (
 let l:=(IntKind.wrap .u64 (i-(eV .u64 1 a)))
 let m:=(IntKind.wrap .u64 (k+l))
 some (.int .u64 m,[])))) (
 cond (x9==(eV .u64 1 g)) (
 let n:=(Int.tmod (dI .u64 e c) 2)
 cond (n==1) (
 let o:=(IntKind.wrap .u64 ((dI .u64 e c)+1))
 let p:=(IntKind.wrap .i64 (b+f))
 chk (decide (0≤a)) (
 let q:=(eV .u64 (IntKind.wrap .u64 p) a)
 chk (decide (0≤a)) (
 let r:=(IntKind.wrap .u64 (o-(eV .u64 1 a)))
 let s:=(IntKind.wrap .u64 (q+r))
 some (.int .u64 s,[])))) (
 let t:=(IntKind.wrap .i64 (b+f))
 chk (decide (0≤a)) (
 let u:=(eV .u64 (IntKind.wrap .u64 t) a)
 chk (decide (0≤a)) (
 let v:=(IntKind.wrap .u64 ((dI .u64 e c)-(eV .u64 1 a)))
 let w:=(IntKind.wrap .u64 (u+v))
 some (.int .u64 w,[]))))) (
 let x:=(IntKind.wrap .i64 (b+f))
 chk (decide (0≤a)) (
 let y:=(eV .u64 (IntKind.wrap .u64 x) a)
 chk (decide (0≤a)) (
 let z:=(IntKind.wrap .u64 ((dI .u64 e c)-(eV .u64 1 a)))
 let aa:=(IntKind.wrap .u64 (y+z))
 some (.int .u64 aa,[]))))))))))))
theorem atv(N:Nat):LB (acj N) vy (xx N):=fun _ _=>by kernel_rfl
def ur(N:Nat)(a b c:Int)(d:xw→Ro):Ro:=
 cond (a==0) (
 some (.int .u64 0,[])) (
 d (a,b,c,63))
def amD(N:Nat)(a b c:Int):Ro:=ur N a b c (fun z=>aS N (xx N) z)
theorem av4(N:Nat)(a c d:Int)(h:Tot (amD N a c d) (fun z=>∃(f:Int)(rest:List aJ),z.1.dimR=.int .u64 f∧z.2=rest)):∃r,nw a c d r:=axX.finP0 (N:=N) ((bM _ (by kernel_rfl) rfl (fun C=>ur N a c d (fun z=>C 1000000 (vy z))) (fun C=>by kernel_rfl)).trans (Eq.trans (b:=ur N a c d (fun z=>bo N (acj N) (vy z))) (by kernel_rfl) (congrArg (ur N a c d) (funext fun z=>bk (vy) (acj N) (xx N) (atv N) N z)))) h fun _ ⟨f,_,e,_⟩=>⟨(f),e⟩
noncomputable def axY:aN:=tab (P:=Tryz.prog) [] [] [] [an4]
def av5:IR:=Rs [Pp (.mov 2 (.c (.int .u32 0)))] (Sq (Rs [Mv 3 0,Bc 4 .lss 3 0] (Cn 4 (Rs [Mv 5 0,Bc 6 .add 5 1,Pp (.un 7 .neg 6),Pp (.cvi 8 .u64 7),Pp (.bin 9 .add 8 (kU 1)),Ca 10 103 [9,kI 23,kI 127],Pp (.cvi 11 .u32 10),Pp (.bin 12 .or (.c (.int .u32 2147483648)) 11),Mv 2 12] .ret) .skip)) (Rs [Mv 13 0,Pp (.cvi 14 .u64 13),Ca 15 103 [14,kI 23,kI 127],Pp (.cvi 16 .u32 15),Mv 2 16] .ret))
def av6:List RV:=[.t 2]
theorem av7:FnC Tryz.prog axY [] 0 ak4 Tryz.f90 av5 av6:=fnC Tryz.func90
def aj8(N:Nat)(a:Int):Ro:=
 cond (decide (a<0)) (
 let b:=(IntKind.wrap .i64 (a+1))
 let c:=(IntKind.wrap .i64 (0-b))
 let d:=(IntKind.wrap .u64 ((IntKind.wrap .u64 c)+1))
 aE (nw d 23 127) (fun(e:Int)=>
 let f:=(bJ .or .u32 2147483648 (IntKind.wrap .u32 e))
 some (.int .u32 f,[]))) (
 aE (nw (IntKind.wrap .u64 a) 23 127) (fun(g:Int)=>
 some (.int .u32 (IntKind.wrap .u32 g),[])))
def aj9(N:Nat)(a:Int):Ro:=aj8 N a
theorem atw(N:Nat)(b:Int)(h:Tot (aj9 N b) (fun z=>∃(a:Int)(rest:List aJ),z.1.dimR=.int .u32 a∧z.2=rest)):∃r,t7 b r:=av7.finP0 (N:=N) (by kernel_rfl) h fun _ ⟨a,_,e,_⟩=>⟨(a),e⟩
noncomputable def av8:aN:=tab (P:=Tryz.prog) [] [] [] [an4]
def atx:IR:=Rs [Pp (.mov 2 (kU 0))] (Sq (Rs [Mv 3 0,Bc 4 .lss 3 0] (Cn 4 (Rs [Mv 5 0,Bc 6 .add 5 1,Pp (.un 7 .neg 6),Pp (.cvi 8 .u64 7),Pp (.bin 9 .add 8 (kU 1)),Ca 10 103 [9,kI 52,kI 1023],Pp (.bin 11 .or (kU 9223372036854775808) 10),Mv 2 11] .ret) .skip)) (Rs [Mv 12 0,Pp (.cvi 13 .u64 12),Ca 14 103 [13,kI 52,kI 1023],Mv 2 14] .ret))
def aty:List RV:=[.t 2]
theorem atz:FnC Tryz.prog av8 [] 0 ajd Tryz.f91 atx aty:=fnC Tryz.func91
def ag9(N:Nat)(a:Int):Ro:=
 cond (decide (a<0)) (
 let b:=(IntKind.wrap .i64 (a+1))
 let c:=(IntKind.wrap .i64 (0-b))
 let d:=(IntKind.wrap .u64 ((IntKind.wrap .u64 c)+1))
 aE (nw d 52 1023) (fun(e:Int)=>
 let f:=(bJ .or .u64 9223372036854775808 e)
 some (.int .u64 f,[]))) (
 aE (nw (IntKind.wrap .u64 a) 52 1023) (fun(g:Int)=>
 some (.int .u64 g,[])))
def aha(N:Nat)(a:Int):Ro:=ag9 N a
theorem ary(N:Nat)(b:Int)(h:Tot (aha N b) (fun z=>∃(a:Int)(rest:List aJ),z.1.dimR=.int .u64 a∧z.2=rest)):∃r,ou b r:=atz.finP0 (N:=N) (by kernel_rfl) h fun _ ⟨a,_,e,_⟩=>⟨(a),e⟩
end Go.Proofs.YtdpajabhmmmjoaaGreat
end
noncomputable section
namespace Go.Proofs.YtdpajabhmmmjoaaGreat
open Go.AM
set_option autoImplicit false
set_option linter.unusedVariables false
set_option linter.unusedSimpArgs false
set_option maxRecDepth 100000
theorem rF{α R:Type}(n:Nat)(B:(α→Option R)→α→Option R)(x:α):aS (n+1) B x=B (aS n B) x:=rfl
theorem qA(N:Nat)(rec:(List UInt8×Int×Int×Int×Int)→Option (V×List aJ))(s:List UInt8)(v n i:Nat)(l:Int)(x:UInt8)(hx:s.getD i 0=x)(hv:v<2^20)(hi:i<n)(hn:n≤s.length)(h4:n≤4):
  fA N rec (s,(n:Int),(v:Int),l,(i:Int))=if 128≤x.toNat∧x.toNat≤191 then rec (s,(n:Int),((v*64+x.toNat%64:Nat):Int),l,((i+1:Nat):Int)) else some (.tup [.int .u32 0,.int .i64 0],[]):=by
 have hb:=UInt8.toNat_lt x
 simp only[fA,Int.toNat_natCast,hx]
 by_cases h1:x.toNat<128
 ·rw[if_neg (by omega)]
  simp(disch:=omega) only[bC,]
 by_cases h2:191<x.toNat
 ·rw[if_neg (by omega)]
  simp(disch:=omega) only[bC,]
 ·rw[if_pos (by omega)]
  simp(disch:=omega) only[bC,]
  rw[show (v:Int)*64+((x.toNat:Int)-128)=((v*64+x.toNat%64:Nat):Int) by omega]
  rfl
theorem aiB(N:Nat)(rec:(List UInt8×Int×Int×Int×Int)→Option (V×List aJ))(s:List UInt8)(v n l:Nat):
  fA N rec (s,(n:Int),(v:Int),(l:Int),(n:Int))=if l≤v∧v≤1114111∧¬(55296≤v∧v≤57343) then some (.tup [.int .u32 v,.int .i64 n],[]) else some (.tup [.int .u32 0,.int .i64 0],[]):=by
 simp only[fA]
 by_cases h1:v<l
 ·rw[if_neg (by omega)];simp(disch:=omega) only[bC,]
 by_cases h2:1114111<v
 ·rw[if_neg (by omega)];simp(disch:=omega) only[bC,]
 by_cases h3:55296≤v
 ·by_cases h4:v≤57343
  ·rw[if_neg (by omega)];simp(disch:=omega) only[bC,]
  ·rw[if_pos (by omega)];simp(disch:=omega) only[bC,]
 ·rw[if_pos (by omega)];simp(disch:=omega) only[bC,]
theorem aCv(M:Nat)(a b:UInt8)(t:List UInt8)(v:Nat)(hv:v<32)(ha:a.toNat=192+v):
  aS (M+5) (fA (M+5)) (a::b::t,((2:Nat):Int),(v:Int),((128:Nat):Int),((1:Nat):Int))=some (.tup [.int .u32 (ey 2 v (a::b::t)).1,.int .i64 (ey 2 v (a::b::t)).2],[]):=by
 have hg:=aEs a b v hv ha
 rw[rF,qA _ _ _ _ 2 1 _ b rfl (by omega) (by omega) (by simp) (by omega),rF,aiB]
 simp only[ey]
 rw[if_neg (show ¬(a::b::t).length<2 by simp)]
 simp only[List.take_succ_cons,List.take_zero,List.tail_cons,List.foldl_cons,List.foldl_nil,hg]
 by_cases h1:128≤b.toNat∧b.toNat≤191
 ·rw[if_pos h1]
  by_cases h2:128≤v*64+b.toNat%64
  ·rw[if_pos (by omega),if_pos (by omega)]
  ·rw[if_neg (by omega),if_neg (by omega)];rfl
 ·rw[if_neg h1,if_neg (by omega)];rfl
theorem aCw(M:Nat)(a b c:UInt8)(t:List UInt8)(v:Nat)(hv:v<16)(ha:a.toNat=224+v):
  aS (M+5) (fA (M+5)) (a::b::c::t,((3:Nat):Int),(v:Int),((2048:Nat):Int),((1:Nat):Int))=some (.tup [.int .u32 (ey 3 v (a::b::c::t)).1,.int .i64 (ey 3 v (a::b::c::t)).2],[]):=by
 have hg:=aEt a b c v hv ha _ rfl
 rw[rF,qA _ _ _ _ 3 1 _ b rfl (by omega) (by omega) (by simp) (by omega),rF,qA _ _ _ _ 3 2 _ c rfl (by omega) (by omega) (by simp) (by omega),rF,aiB]
 simp only[ey]
 rw[if_neg (show ¬(a::b::c::t).length<3 by simp)]
 simp only[List.take_succ_cons,List.take_zero,List.tail_cons,List.foldl_cons,List.foldl_nil,hg]
 by_cases h1:128≤b.toNat∧b.toNat≤191
 ·rw[if_pos h1]
  by_cases h2:128≤c.toNat∧c.toNat≤191
  ·rw[if_pos h2]
   by_cases h3:2048≤(v*64+b.toNat%64)*64+c.toNat%64∧¬(55296≤(v*64+b.toNat%64)*64+c.toNat%64∧(v*64+b.toNat%64)*64+c.toNat%64≤57343)
   ·rw[if_pos (by omega),if_pos (by omega)]
   ·rw[if_neg (by omega),if_neg (by omega)];rfl
  ·rw[if_neg h2,if_neg (by omega)];rfl
 ·rw[if_neg h1,if_neg (by omega)];rfl
theorem aCx(M:Nat)(a b c d:UInt8)(t:List UInt8)(v:Nat)(hv:v<8)(ha:a.toNat=240+v):
  aS (M+5) (fA (M+5)) (a::b::c::d::t,((4:Nat):Int),(v:Int),((65536:Nat):Int),((1:Nat):Int))=some (.tup [.int .u32 (ey 4 v (a::b::c::d::t)).1,.int .i64 (ey 4 v (a::b::c::d::t)).2],[]):=by
 have hg:=aEu a b c d v hv ha _ rfl
 rw[rF,qA _ _ _ _ 4 1 _ b rfl (by omega) (by omega) (by simp) (by omega),rF,qA _ _ _ _ 4 2 _ c rfl (by omega) (by omega) (by simp) (by omega),rF,qA _ _ _ _ 4 3 _ d rfl (by omega) (by omega) (by simp) (by omega),rF,aiB]
 simp only[ey]
 rw[if_neg (show ¬(a::b::c::d::t).length<4 by simp)]
 simp only[List.take_succ_cons,List.take_zero,List.tail_cons,List.foldl_cons,List.foldl_nil,hg]
 by_cases h1:128≤b.toNat∧b.toNat≤191
 ·rw[if_pos h1]
  by_cases h2:128≤c.toNat∧c.toNat≤191
  ·rw[if_pos h2]
   by_cases h3:128≤d.toNat∧d.toNat≤191
   ·rw[if_pos h3]
    by_cases h4:65536≤((v*64+b.toNat%64)*64+c.toNat%64)*64+d.toNat%64∧((v*64+b.toNat%64)*64+c.toNat%64)*64+d.toNat%64≤1114111
    ·rw[if_pos (by omega),if_pos (by omega)]
    ·rw[if_neg (by omega),if_neg (by omega)];rfl
   ·rw[if_neg h3,if_neg (by omega)];rfl
  ·rw[if_neg h2,if_neg (by omega)];rfl
 ·rw[if_neg h1,if_neg (by omega)];rfl
theorem ad6(M:Nat)(s:List UInt8)(hl:s.length≤9223372036854775807):
  aci (M+5) s=some (.tup [.int .u32 (fm s).1,.int .i64 (fm s).2],[]):=by
 match s with
 | []=>rfl
 |c::t=>
  have hc:c.toNat<256:=UInt8.toNat_lt _
  rw[List.length_cons] at hl
  simp only[aci,sv,fm,gp,List.length_cons,Int.toNat_zero,List.getD_cons_zero]
  by_cases h1:c.toNat<128
  ·simp(disch:=omega) only[bC,]
   rfl
  by_cases h0:c.toNat<192
  ·simp(disch:=omega) only[bC,]
   rfl
  by_cases h2:c.toNat<224
  ·have e:c.toNat / 32=6:=by omega
   match t with
   | []=>simp(disch:=omega) only[bC,ey,List.length_cons,List.length_nil];rfl
   |b::t=>
    rw[List.length_cons] at hl
    simp(disch:=omega) only[bC,e,List.length_cons]
    rw[show (c.toNat:Int)-192=((c.toNat%32:Nat):Int) by omega]
    exact aCv M c b t _ (by omega) (by omega)
  by_cases h3:c.toNat<240
  ·have e:c.toNat / 16=14:=by omega
   match t with
   | []=>simp(disch:=omega) only[bC,ey,List.length_cons,List.length_nil];rfl
   | [b]=>simp(disch:=omega) only[bC,ey,List.length_cons,List.length_nil];rfl
   |b::d::t=>
    rw[List.length_cons,List.length_cons] at hl
    simp(disch:=omega) only[bC,e,List.length_cons]
    rw[show (c.toNat:Int)-224=((c.toNat%16:Nat):Int) by omega]
    exact aCw M c b d t _ (by omega) (by omega)
  by_cases h4:c.toNat<248
  ·have e:c.toNat / 8=30:=by omega
   match t with
   | []=>simp(disch:=omega) only[bC,ey,List.length_cons,List.length_nil];rfl
   | [b]=>simp(disch:=omega) only[bC,ey,List.length_cons,List.length_nil];rfl
   | [b,d]=>simp(disch:=omega) only[bC,ey,List.length_cons,List.length_nil];rfl
   |b::d::f::t=>
    rw[List.length_cons,List.length_cons,List.length_cons] at hl
    simp(disch:=omega) only[bC,e,List.length_cons]
    rw[show (c.toNat:Int)-240=((c.toNat%8:Nat):Int) by omega]
    exact aCx M c b d f t _ (by omega) (by omega)
  ·simp(disch:=omega) only[bC,]
   rfl
end Go.Proofs.YtdpajabhmmmjoaaGreat
end
noncomputable section
namespace Go.Proofs.YtdpajabhmmmjoaaGreat
open Go.AM
set_option autoImplicit false
set_option linter.unusedVariables false
set_option linter.unusedSimpArgs false
set_option maxRecDepth 100000
theorem aAC(c:Int):∃r,rW c r:=by
 apply arv 1
 unfold ag6 ag5
 dsimp only
 repeat' (first|(with_reducible refine aD ?_ ?_<;>(intro hb;(try simp only[bnl] at hb);(try revert hb;intro _)))|with_reducible refine aP ?_ ?_|with_reducible refine aG ?_|fail)
 all_goals exact⟨_,_,rfl,rfl⟩
theorem aBx(c:Int):∃r,uc c r:=by
 apply atp 1
 unfold aj2 aj1
 repeat' (first|(with_reducible refine aD ?_ ?_<;>(intro hb;(try simp only[bnl] at hb);(try revert hb;intro _)))|with_reducible refine aP ?_ ?_|with_reducible refine aG ?_|fail)
 all_goals exact⟨_,_,rfl,rfl⟩
theorem aiC(s:List UInt8)(hs:s.length≤1000000):∃r,kM s r:=by
 apply avQ 2000000
 unfold amz uq
 refine bm (fun x=>x.1=s∧0≤x.2∧x.2≤(s.length:Int)) (fun x=>((s.length:Int)-x.2).toNat) ?_ _ _ ⟨rfl,by simp,by simp⟩ (by simp;omega)
 rintro again ⟨a,i⟩ ⟨rfl,i1,i2⟩ ih
 simp only at i1 i2 ih hs ⊢
 have next:i<a.length→Tot (again (a,IntKind.i64.wrap (i+1))) _:=fun h=>ih (a,IntKind.i64.wrap (i+1)) (by simp only[aI (i+1) (by omega)];exact⟨trivial,by omega,by omega⟩) (by simp only[aI (i+1) (by omega)];omega)
 unfold xv
 dsimp only
 repeat' (first|(with_reducible refine aD ?_ ?_<;>(intro hb;(try simp only[bnl] at hb);(try revert hb;intro _)))|with_reducible refine aP ?_ ?_|with_reducible refine aG ?_|(refine aF (aAC _) ?_;intro _ _)|(refine aF (aBx _) ?_;intro _ _)|(exact next (by assumption))|fail)
 all_goals first|exact⟨_,_,rfl,rfl⟩|(simp only[bnl];omega)
theorem aCy(a b:List UInt8)(ha:a.length≤1000000)(hb:b.length≤1000000):∃r,wt a b r:=by
 apply avV 1
 unfold amB amA
 dsimp only
 repeat' (first|(with_reducible refine aD ?_ ?_<;>(intro hb;(try simp only[bnl] at hb);(try revert hb;intro _)))|with_reducible refine aP ?_ ?_|with_reducible refine aG ?_|fail)
 all_goals first|exact⟨_,_,rfl,rfl,by simp only[uO,List.length_append,List.length_cons,List.length_nil];omega⟩|(simp only[bnl,List.length_append,List.length_cons,List.length_nil];omega)
theorem aBy(s:List UInt8)(hs:s.length≤1000000):∃r,ua s r:=by
 apply atr 2000000
 unfold aj4 su
 refine bm (fun x=>x.1=s∧0≤x.2.2∧x.2.2≤(s.length:Int)+1∧(x.2.1.length:Int)≤x.2.2) (fun x=>((s.length:Int)+1-x.2.2).toNat) ?_ _ _ ⟨rfl,by simp,by simp;omega,by simp⟩ (by simp;omega)
 rintro again ⟨a,p,i⟩ ⟨rfl,i1,i2,i3⟩ ih
 simp only at i1 i2 i3 ih hs ⊢
 have next:∀q:List UInt8,i≤a.length→(q.length:Int)≤i+1→Tot (again (a,q,IntKind.i64.wrap (i+1))) _:=fun q h hq=>ih (a,q,IntKind.i64.wrap (i+1)) (by simp only[aI (i+1) (by omega)];exact⟨trivial,by omega,by omega,by omega⟩) (by simp only[aI (i+1) (by omega)];omega)
 unfold vw
 dsimp only
 repeat' (first|(with_reducible refine aD ?_ ?_<;>(intro hb;(try simp only[bnl] at hb);(try revert hb;intro _)))|with_reducible refine aP ?_ ?_|with_reducible refine aG ?_|(refine aF (aiC _ (by omega)) ?_;intro _ _)|fail)
 all_goals first|exact⟨_,_,rfl,rfl⟩|(refine next _ (by omega) ?_)|skip
 all_goals try simp(disch:=omega) only[bC,bnl,List.length_append,List.length_cons,List.length_nil,List.length_drop,List.length_take]
 all_goals first|omega|skip
theorem aEv(v k:Int)(hk:0≤k)(h:(dI .u64 v k==0)=true)(hv:0<v):0<k:=by
 rcases Int.lt_or_eq_of_le hk with h1|h1
 ·exact h1
 ·subst h1
  simp[dI] at h
  omega
theorem aD9:∀k:Nat,k<64→(!(eV .u64 1 (k:Int)==0))=true:=by
 intro k hk
 have:∀k:Fin 64,(!(eV .u64 1 ((k:Nat):Int)==0))=true:=by decide
 exact this ⟨k,hk⟩
theorem axZ(v a b:Int)(hv:0≤v)(ha:0≤a)(ha2:a≤60)(hb:0≤b)(hb2:b≤2000):∃r,nw v a b r:=by
 apply av4 100
 unfold amD ur
 repeat' (first|(with_reducible refine aD ?_ ?_<;>(intro hb;(try simp only[bnl] at hb);(try revert hb;intro _)))|with_reducible refine aP ?_ ?_|with_reducible refine aG ?_|fail)
 ·exact⟨_,_,rfl,rfl⟩
 rename_i hne
 refine bm (fun x=>x.1=v∧x.2.1=a∧x.2.2.1=b∧0≤x.2.2.2∧x.2.2.2≤63) (fun x=>x.2.2.2.toNat) ?_ _ _ ⟨rfl,rfl,rfl,by simp,by simp⟩ (by simp)
 rintro again ⟨v,a,b,k⟩ ⟨rfl,rfl,rfl,i1,i2⟩ ih
 simp only at i1 i2 ih hne hv ha ha2 hb hb2 ⊢
 unfold xx
 dsimp only
 have e1:=aI (k-1) (by omega)
 have e2:=aI (a-k) (by omega)
 have e3:=aI (k-a) (by omega)
 refine aP (by simp only[bnl];omega) (aD (fun h=>?_) (fun h=>aD (fun h1=>?_) (fun h1=>?_)))
 ·have:=aEv v k i1 h (by omega)
  exact ih (v,a,b,_) (by simp only[e1];exact⟨trivial,trivial,trivial,by omega,by omega⟩) (by simp only[e1];omega)
 ·simp only[bnl] at h1
  repeat' (first|(with_reducible refine aD ?_ ?_<;>(intro hb;(try simp only[bnl] at hb);(try revert hb;intro _)))|with_reducible refine aP ?_ ?_|with_reducible refine aG ?_|fail)
  all_goals first|exact⟨_,_,rfl,rfl⟩|(simp only[bnl,e2];omega)
 ·simp only[bnl] at h1
  have e4:=aI (k-a-1) (by omega)
  have:=aD9 (k-a).toNat (by omega)
  rw[Int.toNat_of_nonneg (by omega)] at this
  simp only[e3,e4]
  repeat' (first|(with_reducible refine aD ?_ ?_<;>(intro hb;(try simp only[bnl] at hb);(try revert hb;intro _)))|with_reducible refine aP ?_ ?_|with_reducible refine aG ?_|fail)
  all_goals first|exact⟨_,_,rfl,rfl⟩|exact this|(simp only[bnl];omega)
theorem afe(n:Int):0≤IntKind.u64.wrap n:=by
 simp only[IntKind.wrap,IntKind.signed,IntKind.bits,Bool.false_and,Bool.false_eq_true,if_false]
 exact Int.emod_nonneg _ (by decide)
theorem aBz(n:Int):∃r,t7 n r:=by
 apply atw 1
 unfold aj9 aj8
 dsimp only
 repeat' (first|(with_reducible refine aD ?_ ?_<;>(intro hb;(try simp only[bnl] at hb);(try revert hb;intro _)))|with_reducible refine aP ?_ ?_|with_reducible refine aG ?_|(refine aF (axZ _ _ _ (afe _) (by omega) (by omega) (by omega) (by omega)) ?_;intro _ _)|fail)
 all_goals exact⟨_,_,rfl,rfl⟩
theorem aAD(n:Int):∃r,ou n r:=by
 apply ary 1
 unfold aha ag9
 dsimp only
 repeat' (first|(with_reducible refine aD ?_ ?_<;>(intro hb;(try simp only[bnl] at hb);(try revert hb;intro _)))|with_reducible refine aP ?_ ?_|with_reducible refine aG ?_|(refine aF (axZ _ _ _ (afe _) (by omega) (by omega) (by omega) (by omega)) ?_;intro _ _)|fail)
 all_goals exact⟨_,_,rfl,rfl⟩
theorem aBA(s:List UInt8)(hs:s.length≤1000000):∃r,nJ s r:=by
 apply ag7 100
 exact⟨_,ad6 95 s (by omega),_,_,_,rfl,rfl,rfl⟩
theorem aui(s:List UInt8):0≤(fm s).2 ∧(fm s).2 ≤s.length:=by
 have:=aw9 s
 simp only[fm]
 omega
theorem aBB(s:List UInt8)(hs:s.length≤1000000):∃r,ub s r:=by
 apply att 1
 unfold aj6 aj5
 refine aF (aBA s hs) ?_
 rintro⟨a,b⟩ ⟨-,h⟩
 exact aG ⟨_,_,_,rfl,rfl,h⟩
theorem qB(k n:Int)(s:List UInt8)(l:List aH)(names:List (List UInt8))(name:List UInt8)(hl:names.length≤1000):∃r,eb k n s l names name r:=by
 apply axO 2000
 unfold aos wF
 refine bm (fun x=>x.1=name∧x.2.1=k∧x.2.2.2.2.1=l∧x.2.2.2.2.2.1=names∧0≤x.2.2.2.2.2.2.1∧x.2.2.2.2.2.2.1≤(names.length:Int)∧∀j:Nat,(j:Int)<x.2.2.2.2.2.2.1→names.getD j []≠name)
  (fun x=>((names.length:Int)-x.2.2.2.2.2.2.1).toNat) ?_ _ _ ⟨rfl,rfl,rfl,rfl,by simp,by simp,fun j hj=>by simp at hj;omega⟩ (by simp;omega)
 rintro again ⟨a0,a1,a2,a3,a4,a5,i,b0,b1,b2,b3,b4⟩ ⟨rfl,rfl,rfl,rfl,i1,i2,i3⟩ ih
 simp only at i1 i2 i3 ih hl ⊢
 unfold zF
 dsimp only
 repeat' (first|(with_reducible refine aD ?_ ?_<;>(intro hb;(try simp only[bnl] at hb);(try revert hb;intro _)))|with_reducible refine aP ?_ ?_|with_reducible refine aG ?_|fail)
 ·simp only[bnl];omega
 ·simp only[bnl];omega
 ·rename_i hk hb hc hb2
  have e:=axF (names:=a5) (l:=a4) (name:=a0) (i:=i.toNat) (by omega) (by omega) (fun j hj=>i3 j (by omega)) hb2
  refine⟨_,_,_,_,_,_,_,rfl,rfl,?_⟩
  simp only[dA]
  rw[if_pos hk,e];rfl
 ·rename_i hk hb hc hb2
  have ew:=aI (i+1) (by omega)
  refine ih _ ⟨rfl,rfl,rfl,rfl,?_,?_,?_⟩ ?_
  ·simp only[ew];omega
  ·simp only[ew];omega
  ·simp only[ew]
   intro j hj
   by_cases e:(j:Int)=i
   ·have:i.toNat=j:=by omega
    rw[this] at hb2
    exact hb2
   ·exact i3 j (by omega)
  ·simp only[ew];omega
 ·rename_i hk hb hc
  refine⟨_,_,_,_,_,_,_,rfl,rfl,?_⟩
  simp only[dA]
  rw[if_pos hk,ams (i:=i.toNat) (fun j hj=>i3 j (by omega)) (.inr (by omega))]
  rfl
 ·rename_i hk hb
  refine⟨_,_,_,_,_,_,_,rfl,rfl,?_⟩
  simp only[dA]
  rw[if_pos hk,ams (i:=i.toNat) (fun j hj=>i3 j (by omega)) (.inl (by omega))]
  rfl
 ·rename_i hk
  refine⟨_,_,_,_,_,_,_,rfl,rfl,?_⟩
  simp only[dA]
  rw[if_neg hk];rfl
end Go.Proofs.YtdpajabhmmmjoaaGreat
end
noncomputable section
namespace Go.Proofs.YtdpajabhmmmjoaaGreat
open Go.AM
set_option autoImplicit false
set_option linter.unusedVariables false
set_option linter.unusedSimpArgs false
set_option maxRecDepth 100000
theorem zG{P:Program}{f:FuncId}{vs:List V}{R:Type}{ret:R→V}{r0:R}(h:(∀x∈vs,x.fits)→∃r,aL P f vs (ret r)∧r=r0):∃r,aL P f vs (ret r)∧r=r0:=
 ⟨r0,aL.fits fun hf=>by obtain⟨r,h1,rfl⟩:=h hf;exact h1,rfl⟩
theorem yg(s:List UInt8):∃r,ez s r:=by
 refine zG (ret:=fun r=>.bool r) fun hf=>?_
 have hs:s.length≤9223372036854775807:=hf (.str s) (by simp)
 have hp:∀t:List UInt8,∃r,nJ t r:=fun t=>by
  refine zG (ret:=fun(r:Int×Int)=>.tup [.int .u32 r.1,.int .i64 r.2]) fun hf=>?_
  have ht:t.length≤9223372036854775807:=hf (.str t) (by simp)
  exact ag7 100 t ⟨_,ad6 95 t ht,_,_,_,rfl,rfl,rfl⟩
 refine atk (s.length+1) s ?_
 unfold ajY ss
 refine bm (fun x=>x.length≤s.length∧cJ x=cJ s) (fun x=>x.length) ?_ _ _ ⟨Nat.le_refl _,rfl⟩ (by omega)
 rintro again t ⟨h1,h2⟩ ih
 unfold vt
 dsimp only
 cases t with
 |nil=>
  simp only[List.length_nil]
  exact aD (fun h=>by simp at h) (fun _=>aG ⟨_,_,rfl,rfl,h2⟩)
 |cons c t=>
  refine aD (fun _=>?_) (fun h=>by simp only[List.length_cons,decide_eq_false_iff_not] at h;omega)
  refine aF (hp _) ?_
  rintro⟨c',n'⟩ ⟨-,hp'⟩
  have hle:=aui (c::t)
  have hv:=aob c t
  have hp':(c',n')=fm (c::t):=hp'
  rw[←hp'] at hle
  have hn:n'=((gp (c::t)).2 :Int):=congrArg Prod.snd hp'
  simp only[List.length_cons] at hle h1
  dsimp only at hle ⊢
  repeat' (first|(with_reducible refine aD ?_ ?_<;>(intro hb;(try simp only[bnl] at hb);(try revert hb;intro _)))|with_reducible refine aP ?_ ?_|with_reducible refine aG ?_|fail)
  ·rename_i h
   rw[if_pos (by omega)] at hv
   exact⟨_,_,rfl,rfl,by rw[yL,←h2,hv]⟩
  ·simp only[bnl,List.length_cons];exact hle
  ·rename_i h
   rw[if_neg (by omega)] at hv
   refine ih _ ⟨?_,?_⟩ ?_
   ·simp only[List.length_drop,List.length_take,List.length_cons];omega
   ·rw[List.take_length,hn,Int.toNat_natCast,←hv,h2]
   ·simp only[List.length_drop,List.length_take,List.length_cons];omega
def pQ(ts:List aA)(kind items:Int)(fields:List aO)(l:List aB)(i:Nat):Bool:=
 cond (kind==9) (gP ts (fields.drop i) (l.drop i)) (bA ts items (l.drop i))
theorem aCz{α:Type}{l:List α}{i:Nat}{x d:α}(h:l[i]? =some x):l.getD i d=x:=by
 rw[List.getD_eq_getElem?_getD,h];rfl
def ahb(ts:List aA)(n:Nat):Prop:=∀(t m:Int)(s:List UInt8)(l:List aB)(ks:List (List UInt8))(b:Int),szL l+1≤n→∃r,fX ts t m s l ks b r
theorem aiD(ts:List aA)(n:Nat)(hF:ahb ts n)(N:Nat)(k0 k3:Int)(k8:List aO)(l:List aB)(hl:l.length≤9223372036854775807)(hN:l.length<N)(hs:szL l≤n)(hr:k0=9→l.length=k8.length)(Q:V×List aJ→Prop)(hQ:Q (.bool (pQ ts k0 k3 k8 l 0),[]))
  (B:((List aA×Int×List UInt8×List (List UInt8)×Int×List (List UInt8)×Bool×List UInt8×Int×List aO×List Int×Int×List UInt8×List aB×List (List UInt8)×Int×Int)→Option (V×List aJ))→(List aA×Int×List UInt8×List (List UInt8)×Int×List (List UInt8)×Bool×List UInt8×Int×List aO×List Int×Int×List UInt8×List aB×List (List UInt8)×Int×Int)→Option (V×List aJ))
  (hB:B=l7 N∨B=oU N)
  (k1:List UInt8) (k2:List (List UInt8)) (k4:List (List UInt8)) (k5:Bool) (k6:List UInt8) (k7:Int) (k9:List Int) (m:Int) (s:List UInt8) (ks:List (List UInt8)) (b:Int):
  Tot (aS N B (ts,k0,k1,k2,k3,k4,k5,k6,k7,k8,k9,m,s,l,ks,b,0)) Q:=by
 refine bm (fun x=>match x with|(ts',v0,v1,v2,v3,v4,v5,v6,v7,v8,v9,m',s',l',ks',b',i)=>ts'=ts∧v0=k0∧v3=k3∧v8=k8∧l'=l∧0≤i∧i≤(l.length:Int)∧pQ ts k0 k3 k8 l i.toNat=pQ ts k0 k3 k8 l 0)
  (fun x=>((l.length:Int)-x.2.2.2.2.2.2.2.2.2.2.2.2.2.2.2.2).toNat) ?_ _ _ ⟨rfl,rfl,rfl,rfl,rfl,by simp,by simp,rfl⟩ (by simp;omega)
 rintro again ⟨ts',v0,v1,v2,v3,v4,v5,v6,v7,v8,v9,m',s',l',ks',b',i⟩ ⟨rfl,rfl,rfl,rfl,rfl,i1,i2,i3⟩ ih
 dsimp only at ih
 have eqB:B again (ts',v0,v1,v2,v3,v4,v5,v6,v7,v8,v9,m',s',l',ks',b',i)=l7 N again (ts',v0,v1,v2,v3,v4,v5,v6,v7,v8,v9,m',s',l',ks',b',i):=by
  rcases hB with rfl|rfl<;>rfl
 rw[eqB]
 unfold l7
 dsimp only
 refine aD (fun h=>?_) (fun h=>?_)
 ·have h:=of_decide_eq_true h
  have hil:i.toNat<l'.length:=by omega
  have hsz:=am5 l' i.toNat hil
  have hsz2:=adA (l'.getD i.toNat (aC .aval))
  have ew:IntKind.i64.wrap (i+1)=i+1:=aI (i+1) (by omega)
  have et:(i+1).toNat=i.toNat+1:=by omega
  have next:pQ ts' v0 v3 v8 l' (i.toNat+1)=pQ ts' v0 v3 v8 l' 0→Tot (again (ts',v0,v1,v2,v3,v4,v5,v6,v7,v8,v9,m',s',l',ks',b',IntKind.i64.wrap (i+1))) _:=fun hh=>ih (ts',v0,v1,v2,v3,v4,v5,v6,v7,v8,v9,m',s',l',ks',b',IntKind.i64.wrap (i+1))
   (by simp only[ew,et];exact⟨trivial,trivial,trivial,trivial,trivial,by omega,by omega,hh⟩) (by simp only[ew];omega)
  have hd:=eg l' i.toNat (aC .aval) hil
  refine aD (fun h9=>?_) (fun h9=>?_)
  ·have h9':v0=9:=by simpa using h9
   have hlen:=hr h9'
   refine vck (vck ?_)
   refine aF (hF _ _ _ _ _ _ (by omega)) ?_
   rintro _ ⟨-,rfl⟩
   have hfd:=eg v8 i.toNat (aC .afield) (by omega)
   have step:pQ ts' v0 v3 v8 l' i.toNat=(aX ts' (v8.getD i.toNat (aC .afield)).typ (l'.getD i.toNat (aC .aval))&&pQ ts' v0 v3 v8 l' (i.toNat+1)):=by
    simp only[pQ,h9,cond_true]
    rw[hd,hfd]
    simp only[gP,List.headD_cons,List.tail_cons]
   rw[aB.eta]
   refine aD (fun hb=>aG ?_) (fun hb=>?_)
   ·have hb':aX ts' (v8.getD i.toNat (aC .afield)).typ (l'.getD i.toNat (aC .aval))=false:=by simpa using hb
    rw[step,hb',Bool.false_and] at i3
    rw[←i3] at hQ;exact hQ
   ·have hb':aX ts' (v8.getD i.toNat (aC .afield)).typ (l'.getD i.toNat (aC .aval))=true:=by simpa using hb
    rw[step,hb',Bool.true_and] at i3
    exact next i3
  ·refine vck ?_
   refine aF (hF _ _ _ _ _ _ (by omega)) ?_
   rintro _ ⟨-,rfl⟩
   have step:pQ ts' v0 v3 v8 l' i.toNat=(aX ts' v3 (l'.getD i.toNat (aC .aval))&&pQ ts' v0 v3 v8 l' (i.toNat+1)):=by
    simp only[pQ,h9,cond_false]
    rw[hd]
    simp only[bA]
   rw[aB.eta]
   refine aD (fun hb=>aG ?_) (fun hb=>?_)
   ·have hb':aX ts' v3 (l'.getD i.toNat (aC .aval))=false:=by simpa using hb
    rw[step,hb',Bool.false_and] at i3
    rw[←i3] at hQ;exact hQ
   ·have hb':aX ts' v3 (l'.getD i.toNat (aC .aval))=true:=by simpa using hb
    rw[step,hb',Bool.true_and] at i3
    exact next i3
 ·have h:=of_decide_eq_false h
  have:i.toNat=l'.length:=by omega
  rw[this] at i3
  have e:pQ ts' v0 v3 v8 l' l'.length=true:=by
   simp only[pQ,List.drop_length]
   cases v0==9<;>simp[gP,bA]
  rw[e] at i3
  refine aG ?_
  rw[←i3] at hQ;exact hQ
theorem aBC(ts:List aA)(n:Nat)(hF:ahb ts n)(k0:Int)(k1:List UInt8)(k2:List (List UInt8))(k3:Int)(k4:List (List UInt8))(k5:Bool)(k6:List UInt8)(k7:Int)(k8:List aO)(k9:List Int)(m:Int)(s:List UInt8)(l:List aB)(ks:List (List UInt8))(b:Int)(hs:szL l≤n):
  ∃r,rV ts k0 k1 k2 k3 k4 k5 k6 k7 k8 k9 m s l ks b r:=by
 refine zG (ret:=fun r=>.bool r) fun hf=>?_
 have hl:l.length≤9223372036854775807:=hf (.agg [.int .u64 m,.str s,.sl .aval (.may false) l,.sl .str (.may false) ks,.int .i64 b]) (by simp) (.sl .aval (.may false) l) (by simp)
 have hk:ks.length≤9223372036854775807:=hf (.agg [.int .u64 m,.str s,.sl .aval (.may false) l,.sl .str (.may false) ks,.int .i64 b]) (by simp) (.sl .str (.may false) ks) (by simp)
 refine arq (l.length+ks.length+2) _ _ _ _ _ _ _ _ _ _ _ _ _ _ _ _ ?_
 generalize hN:l.length+ks.length+2=N
 unfold ag2 qw
 dsimp only
 refine aD (fun h9=>aD (fun hb=>aG ⟨_,_,rfl,rfl,?_⟩) (fun hb=>?_)) (fun h9=>aD (fun h13=>aD (fun hb=>aG ⟨_,_,rfl,rfl,?_⟩) (fun hb=>?_)) (fun h13=>aD (fun h14=>?_) (fun h14=>?_)))
 ·have:¬l.length=k8.length:=by simp at hb;omega
  simp only[eB,adl,h9,cond_true,this,decide_false,Bool.false_and]
 ·have:l.length=k8.length:=by simp at hb;omega
  refine aiD ts n hF N k0 k3 k8 l hl (by omega) hs (fun _=>this) _ ⟨_,_,rfl,rfl,?_⟩ _ (.inl rfl) _ _ _ _ _ _ _ _ _ _ _
  simp only[eB,adl,pQ,h9,cond_true,this,decide_true,Bool.true_and,List.drop_zero]
 ·have:¬(ks.length:Int)=l.length:=by simp at hb;omega
  simp only[eB,adl,h9,h13,cond_true,cond_false,beq_eq_false_iff_ne.2 this,Bool.false_and]
 ·have hlk:(l.length:Int)=ks.length:=by simpa using hb
  have goalE:∀r:Bool,r=(dl ks&&bA ts k3 l)→eB ts k0 k1 k2 k3 k4 k5 k6 k7 k8 k9 m s l ks b r:=by
   intro r hr
   simp only[eB,adl,h9,h13,cond_true,cond_false,hlk.symm,beq_self_eq_true,Bool.true_and]
   exact hr
  refine bm (fun x=>match x with|(ts',v0,v1,v2,v3,v4,v5,v6,v7,v8,v9,m',s',l',ks',b',i)=>ts'=ts∧v0=k0∧v3=k3∧v8=k8∧l'=l∧ks'=ks∧0≤i∧i≤(ks.length:Int)∧pf ks i.toNat=dl ks)
   (fun x=>((ks.length:Int)-x.2.2.2.2.2.2.2.2.2.2.2.2.2.2.2.2).toNat) ?_ _ _ ⟨rfl,rfl,rfl,rfl,rfl,rfl,by simp,by simp,rfl⟩ (by simp;omega)
  rintro again ⟨ts',v0,v1,v2,v3,v4,v5,v6,v7,v8,v9,m',s',l',ks',b',i⟩ ⟨rfl,rfl,rfl,rfl,rfl,rfl,i1,i2,i3⟩ ih
  dsimp only at ih
  unfold tu rE
  dsimp only
  refine aD (fun h=>?_) (fun h=>?_)
  ·have h:=of_decide_eq_true h
   have ew:IntKind.i64.wrap (i+1)=i+1:=aI (i+1) (by omega)
   have et:(i+1).toNat=i.toNat+1:=by omega
   have hst:=ajw ks' i.toNat (by omega)
   rw[i3] at hst
   have next:pf ks' (i.toNat+1)=dl ks'→Tot (again (ts',v0,v1,v2,v3,v4,v5,v6,v7,v8,v9,m',s',l',ks',b',IntKind.i64.wrap (i+1))) _:=fun hh=>ih (ts',v0,v1,v2,v3,v4,v5,v6,v7,v8,v9,m',s',l',ks',b',IntKind.i64.wrap (i+1))
    (by simp only[ew,et];exact⟨trivial,trivial,trivial,trivial,trivial,trivial,by omega,by omega,hh⟩) (by simp only[ew];omega)
   refine vck ?_
   refine aF (yg _) ?_
   rintro _ ⟨-,rfl⟩
   change Tot (cond (!cJ (ks'.getD i.toNat [])) _ _) _
   refine aD (fun hv=>aG ⟨_,_,rfl,rfl,goalE _ ?_⟩) (fun hv=>?_)
   ·have hv:cJ (ks'.getD i.toNat [])=false:=by simpa using hv
    rw[hst,hv];rfl
   ·have hv:cJ (ks'.getD i.toNat [])=true:=by simpa using hv
    rw[hv,Bool.true_and] at hst
    refine aD (fun hp=>?_) (fun hp=>?_)
    ·have hp:=of_decide_eq_true hp
     have em:IntKind.i64.wrap (i-1)=i-1:=aI (i-1) (by omega)
     have e1:(i-1).toNat=i.toNat-1:=by omega
     have hz:decide (i.toNat=0)=false:=decide_eq_false (by omega)
     rw[hz,Bool.false_or] at hst
     rw[em,e1]
     refine vck (vck ?_)
     change Tot (cond (Op.bytesLess (ks'.getD i.toNat []) (ks'.getD (i.toNat-1) [])||decide (ks'.getD i.toNat []=ks'.getD (i.toNat-1) [])) _ _) _
     rw[acY]
     refine aD (fun hv=>aG ⟨_,_,rfl,rfl,goalE _ ?_⟩) (fun hv=>?_)
     ·have hv:Op.bytesLess (ks'.getD (i.toNat-1) []) (ks'.getD i.toNat [])=false:=by simpa using hv
      rw[hst,hv];rfl
     ·have hv:Op.bytesLess (ks'.getD (i.toNat-1) []) (ks'.getD i.toNat [])=true:=by simpa using hv
      rw[hv,Bool.true_and] at hst
      exact next hst.symm
    ·have hp:=of_decide_eq_false hp
     have hz:decide (i.toNat=0)=true:=decide_eq_true (by omega)
     rw[hz,Bool.true_or,Bool.true_and] at hst
     exact next hst.symm
  ·have h:=of_decide_eq_false h
   have hi:i.toNat=ks'.length:=by omega
   rw[hi,alO] at i3
   refine aiD ts' n hF N v0 v3 v8 l' hl (by omega) hs (fun h=>by simp[h] at h9) _ ⟨_,_,rfl,rfl,goalE _ ?_⟩ _ (.inr rfl) _ _ _ _ _ _ _ _ _ _ _
   rw[←i3,Bool.true_and]
   simp only[pQ,h9,cond_false,List.drop_zero]
 ·
  have goalE:∀r:Bool,r=(decide (0≤b)&&(decide (b<(k9.length:Int))&&(((l.length:Int)==1)&&bA ts (k9.getD b.toNat 0) l)))→eB ts k0 k1 k2 k3 k4 k5 k6 k7 k8 k9 m s l ks b r:=by
   intro r hr
   simp only[eB,adl,h9,h13,h14,cond_true,cond_false]
   exact hr
  refine aD (fun hb=>aD (fun hb2=>aD (fun hb3=>?_) (fun hb3=>aG ⟨_,_,rfl,rfl,goalE _ ?_⟩)) (fun hb2=>aG ⟨_,_,rfl,rfl,goalE _ ?_⟩)) (fun hb=>aG ⟨_,_,rfl,rfl,goalE _ ?_⟩)
  ·have hb1:=of_decide_eq_true hb
   have hb2':=of_decide_eq_true hb2
   have hb3':(l.length:Int)=1:=by simpa using hb3
   obtain⟨v,rfl⟩:∃v,l=[v]:=by
    match l,hb3' with
    | [v],_=>exact⟨v,rfl⟩
   have hsz:=adA v
   simp only[szL] at hs
   refine vck (aP (by simp) ?_)
   refine aF (hF _ _ _ _ _ _ (by simp only[Int.toNat_zero,List.getD_cons_zero];omega)) ?_
   rintro _ ⟨-,rfl⟩
   refine aG ⟨_,_,rfl,rfl,goalE _ ?_⟩
   simp only[hb,hb2,hb3,Bool.true_and,Int.toNat_zero,List.getD_cons_zero,aB.eta,bA,Bool.and_true]
   rfl
  ·rw[hb3];simp
  ·rw[hb2];simp
  ·rw[hb];simp
 ·refine aiD ts n hF N k0 k3 k8 l hl (by omega) hs (fun h=>by simp[h] at h9) _ ⟨_,_,rfl,rfl,?_⟩ _ (.inl rfl) _ _ _ _ _ _ _ _ _ _ _
  simp only[eB,adl,pQ,h9,h13,h14,cond_false,List.drop_zero]
def xN(kind n:Int)(s:List UInt8)(l:List aB)(ks:List (List UInt8))(b:Int)(num txt prt ok:Bool):Bool:=
 cond (!(kind==13)&&decide ((0:Int)<(ks.length:Int))) false (cond (!(kind==14)&& !(b==0)) false (ok&&((num||(n==0))&&((txt||decide (s=[]))&&(prt||((l.length:Int)==0))))))
theorem atA(ks:List (List UInt8)):(((ks.length:Int))==0)= !decide ((0:Int)<(ks.length:Int)):=by
 cases ks with
 |nil=>rfl
 |cons a l=>simp;omega
theorem lt0:decide ((0:Int)<0)=false:=rfl
theorem xO(kind m:Int)(s:List UInt8)(l:List aB)(ks:List (List UInt8))(b:Int)(ok:Bool)(h1:kind≠13)(h2:kind≠14):xN kind m s l ks b true false false ok=(ok&&cA 0 s l ks b):=by
 simp only[xN,cA,beq_eq_false_iff_ne.2 h1,beq_eq_false_iff_ne.2 h2,atA ks,Bool.not_false,Bool.not_true,Bool.true_and,Bool.false_and,Bool.true_or,Bool.false_or,beq_self_eq_true,decide_true,List.length_nil,Int.ofNat_zero,Int.natCast_zero,Bool.and_true,cond_false,lt0]
 generalize decide ((0:Int)<(ks.length:Int))=p
 generalize (b==0)=q
 generalize (m==0)=r
 generalize decide (s=[])=t
 generalize ((l.length:Int)==0)=u
 cases ok<;>cases p<;>cases q<;>cases r<;>cases t<;>cases u<;>rfl
theorem apI(kind m:Int)(s:List UInt8)(l:List aB)(ks:List (List UInt8))(b:Int)(ok:Bool)(h1:kind≠13)(h2:kind≠14):xN kind m s l ks b false true false ok=(ok&&cA m [] l ks b):=by
 simp only[xN,cA,beq_eq_false_iff_ne.2 h1,beq_eq_false_iff_ne.2 h2,atA ks,Bool.not_false,Bool.not_true,Bool.true_and,Bool.false_and,Bool.true_or,Bool.false_or,beq_self_eq_true,decide_true,List.length_nil,Int.ofNat_zero,Int.natCast_zero,Bool.and_true,cond_false,lt0]
 generalize decide ((0:Int)<(ks.length:Int))=p
 generalize (b==0)=q
 generalize (m==0)=r
 generalize decide (s=[])=t
 generalize ((l.length:Int)==0)=u
 cases ok<;>cases p<;>cases q<;>cases r<;>cases t<;>cases u<;>rfl
theorem aBD(m:Int)(s:List UInt8)(l:List aB)(ks:List (List UInt8))(b:Int):xN 1 m s l ks b false false false true=(cA m s l ks b):=by
 simp only[xN,cA,Int.reduceBEq,atA ks,Bool.not_false,Bool.not_true,Bool.true_and,Bool.false_and,Bool.true_or,Bool.false_or,beq_self_eq_true,decide_true,List.length_nil,Int.ofNat_zero,Int.natCast_zero,Bool.and_true,cond_false,lt0]
 generalize decide ((0:Int)<(ks.length:Int))=p
 generalize (b==0)=q
 generalize (m==0)=r
 generalize decide (s=[])=t
 generalize ((l.length:Int)==0)=u
 cases p<;>cases q<;>cases r<;>cases t<;>cases u<;>rfl
theorem ax0(kind m:Int)(s:List UInt8)(l:List aB)(ks:List (List UInt8))(b:Int)(ok:Bool)(h1:kind≠13)(h2:kind≠14):xN kind m s l ks b false false true ok=(ok&&cA m s [] ks b):=by
 simp only[xN,cA,beq_eq_false_iff_ne.2 h1,beq_eq_false_iff_ne.2 h2,atA ks,Bool.not_false,Bool.not_true,Bool.true_and,Bool.false_and,Bool.true_or,Bool.false_or,beq_self_eq_true,decide_true,List.length_nil,Int.ofNat_zero,Int.natCast_zero,Bool.and_true,cond_false,lt0]
 generalize decide ((0:Int)<(ks.length:Int))=p
 generalize (b==0)=q
 generalize (m==0)=r
 generalize decide (s=[])=t
 generalize ((l.length:Int)==0)=u
 cases ok<;>cases p<;>cases q<;>cases r<;>cases t<;>cases u<;>rfl
theorem aCA(m:Int)(s:List UInt8)(l:List aB)(ks:List (List UInt8))(b:Int)(ok:Bool):xN 13 m s l ks b false false true ok=(ok&&cA m s [] [] b):=by
 simp only[xN,cA,Int.reduceBEq,atA ks,Bool.not_false,Bool.not_true,Bool.true_and,Bool.false_and,Bool.true_or,Bool.false_or,beq_self_eq_true,decide_true,List.length_nil,Int.ofNat_zero,Int.natCast_zero,Bool.and_true,cond_false,lt0]
 generalize decide ((0:Int)<(ks.length:Int))=p
 generalize (b==0)=q
 generalize (m==0)=r
 generalize decide (s=[])=t
 generalize ((l.length:Int)==0)=u
 cases ok<;>cases p<;>cases q<;>cases r<;>cases t<;>cases u<;>rfl
theorem aCB(m:Int)(s:List UInt8)(l:List aB)(ks:List (List UInt8))(b:Int)(ok:Bool):xN 14 m s l ks b false false true ok=(ok&&cA m s [] ks 0):=by
 simp only[xN,cA,Int.reduceBEq,atA ks,Bool.not_false,Bool.not_true,Bool.true_and,Bool.false_and,Bool.true_or,Bool.false_or,beq_self_eq_true,decide_true,List.length_nil,Int.ofNat_zero,Int.natCast_zero,Bool.and_true,cond_false,lt0]
 generalize decide ((0:Int)<(ks.length:Int))=p
 generalize (b==0)=q
 generalize (m==0)=r
 generalize decide (s=[])=t
 generalize ((l.length:Int)==0)=u
 cases ok<;>cases p<;>cases q<;>cases r<;>cases t<;>cases u<;>rfl
theorem aDf(m:Int)(h:0≤m∧m≤18446744073709551615):(m==IntKind.wrap .u64 (IntKind.wrap .i64 (IntKind.wrap .i32 (IntKind.wrap .u32 m))))=(decide ((-2147483648)≤IntKind.wrap .i64 m)&&decide (IntKind.wrap .i64 m<2147483648)):=by
 rw[Bool.eq_iff_iff]
 simp only[beq_iff_eq,Bool.and_eq_true,decide_eq_true_eq]
 rw[qX,iQ,iQ,aoO,aao]
 omega
theorem aBE(m:Int)(h:0≤m∧m≤18446744073709551615):(dI .u64 m 32==0)=decide (m<4294967296):=by
 rw[Bool.eq_iff_iff]
 simp only[beq_iff_eq,decide_eq_true_eq,dI,IntKind.bits]
 rw[show (2:Int)^(min (Int.toNat 32) 64)=4294967296 by decide,Int.fdiv_eq_ediv_of_nonneg _ (by decide)]
 omega
theorem aBF(ts:List aA)(hts:dJ ts)(n:Nat)(hF:ahb ts n):ahb ts (n+1):=by
 intro t m s l ks b hs
 refine zG (ret:=fun r=>.bool r) fun hf=>?_
 have hm:=adi (hf (.agg [.int .u64 m,.str s,.sl .aval (.may false) l,.sl .str (.may false) ks,.int .i64 b]) (by simp)) m (by simp)
 refine ate 1 _ _ _ _ _ _ _ ?_
 unfold ajV sm
 dsimp only
 have last:∀(num txt prt ok:Bool),Tot (qt 1 (m,s,l,ks,b,num,txt,prt,ok)) (fun z=>z=(.bool (ok&&((num||(m==0))&&((txt||decide (s=[]))&&(prt||((l.length:Int)==0))))),[])):=by
  intro num txt prt ok
  unfold qt
  dsimp only
  repeat' (first|(with_reducible refine aD ?_ ?_<;>(intro hb;(try simp only[bnl] at hb);(try revert hb;intro _)))|with_reducible refine aP ?_ ?_|with_reducible refine aG ?_|fail)
  all_goals simp[*]
 have zero:∀(k0:Int)(k1:List UInt8)(k2:List (List UInt8))(k3:Int)(k4:List (List UInt8))(k5:Bool)(k6:List UInt8)(k7:Int)(k8:List aO)(k9:List Int)(num txt prt ok:Bool),xN k0 m s l ks b num txt prt ok=aX ts t (.mk m s l ks b)→
   Tot (qu 1 (m,s,l,ks,b,k0,k1,k2,k3,k4,k5,k6,k7,k8,k9,num,txt,prt,ok)) (fun z=>∃(y0:Bool)(rest:List aJ),z.1.dimR=.bool y0∧z.2=rest∧sU ts t m s l ks b y0):=by
  intro k0 k1 k2 k3 k4 k5 k6 k7 k8 k9 num txt prt ok hr
  have key:Tot (qu 1 (m,s,l,ks,b,k0,k1,k2,k3,k4,k5,k6,k7,k8,k9,num,txt,prt,ok)) (fun z=>z=(.bool (xN k0 m s l ks b num txt prt ok),[])):=by
   have last:=last num txt prt ok
   unfold qu tn
   dsimp only
   simp only[xN]
   cases hA:(k0==13)<;>cases hB:decide ((0:Int)<(ks.length:Int))<;>cases hC:(k0==14)<;>cases hD:(b==0)<;>
    simp only[Bool.not_true,Bool.not_false,cond_true,cond_false,Bool.true_and,Bool.false_and,Bool.and_true,Bool.and_false]<;>first|exact last|exact aG rfl
  refine aCi key ?_
  rintro _ rfl
  exact⟨_,_,rfl,rfl,hr⟩
 refine aF (amt ts t) ?_
 rintro _ ⟨-,rfl⟩
 refine aD (fun h=>aG ⟨_,_,rfl,rfl,?_⟩) (fun h=>?_)
 ·have h:isT ts t=false:=by simpa using h
  simp only[sU,aX,h,Bool.false_and]
 have h:isT ts t=true:=by simpa using h
 have hr:0≤t∧t<ts.length:=by simpa [isT] using h
 have hl:t.toNat<ts.length:=by omega
 have hK:=(hts.2 ts[t.toNat] (List.getElem_mem hl)).kind
 have hg:ts.getD t.toNat (aC .atype)=ts[t.toNat]:=aCz (List.getElem?_eq_getElem hl)
 refine vck ?_
 have hfit:aX ts t (.mk m s l ks b)=aX ts t (.mk m s l ks b):=rfl
 conv at hfit=>rhs;rw[aX,h,Bool.true_and]
 rw[hg] at hfit ⊢
 generalize ts[t.toNat]=k at hfit hK
 obtain⟨k0,k1,k2,k3,k4,k5,k6,k7,k8,k9⟩:=k
 dsimp only at hK hfit ⊢
 have hcases:k0=1∨k0=2∨k0=3∨k0=4∨k0=5∨k0=6∨k0=7∨k0=8∨k0=9∨k0=10∨k0=11∨k0=12∨k0=13∨k0=14:=by omega
 have hin:=aBC ts n hF k0 k1 k2 k3 k4 k5 k6 k7 k8 k9 m s l ks b (by omega)
 rcases hcases with rfl|rfl|rfl|rfl|rfl|rfl|rfl|rfl|rfl|rfl|rfl|rfl|rfl|rfl
 all_goals simp only[Int.reduceBEq,Bool.or_true,Bool.true_or,Bool.or_false,Bool.false_or,cond_true,cond_false] at hfit ⊢
 ·exact zero _ _ _ _ _ _ _ _ _ _ _ _ _ _ (by rw[hfit,aBD])
 ·exact zero _ _ _ _ _ _ _ _ _ _ _ _ _ _ (by rw[hfit,xO _ _ _ _ _ _ _ (by decide) (by decide)];simp only[mT,Int.reduceBEq,cond_true,cond_false,decide_eq_true hm.1,decide_eq_true hm.2,Bool.true_and])
 ·have e:=aDf m hm
  refine aD (fun hx=>zero _ _ _ _ _ _ _ _ _ _ _ _ _ _ ?_) (fun hx=>zero _ _ _ _ _ _ _ _ _ _ _ _ _ _ ?_)
  ·rw[hfit,xO _ _ _ _ _ _ _ (by decide) (by decide)]
   simp only[mT,Int.reduceBEq,cond_true,cond_false,e,hx,Bool.true_and]
  ·rw[hfit,xO _ _ _ _ _ _ _ (by decide) (by decide)]
   simp only[mT,Int.reduceBEq,cond_true,cond_false,e,hx,Bool.false_and]
 ·exact zero _ _ _ _ _ _ _ _ _ _ _ _ _ _ (by rw[hfit,xO _ _ _ _ _ _ _ (by decide) (by decide)];simp only[mT,Int.reduceBEq,cond_true,cond_false,decide_eq_true hm.1,decide_eq_true hm.2,Bool.true_and])
 ·exact zero _ _ _ _ _ _ _ _ _ _ _ _ _ _ (by rw[hfit,xO _ _ _ _ _ _ _ (by decide) (by decide)];simp only[mT,Int.reduceBEq,cond_true,cond_false,aBE m hm])
 ·exact zero _ _ _ _ _ _ _ _ _ _ _ _ _ _ (by rw[hfit,xO _ _ _ _ _ _ _ (by decide) (by decide)];simp only[mT,Int.reduceBEq,cond_true,cond_false,decide_eq_true hm.1,decide_eq_true hm.2,Bool.true_and])
 ·exact zero _ _ _ _ _ _ _ _ _ _ _ _ _ _ (by rw[hfit,apI _ _ _ _ _ _ _ (by decide) (by decide)];rfl)
 ·refine aF (yg s) ?_
  rintro _ ⟨-,rfl⟩
  exact zero _ _ _ _ _ _ _ _ _ _ _ _ _ _ (by rw[hfit,apI _ _ _ _ _ _ _ (by decide) (by decide)];rfl)
 ·refine aF hin ?_
  rintro _ ⟨-,rfl⟩
  exact zero _ _ _ _ _ _ _ _ _ _ _ _ _ _ (by rw[hfit,ax0 _ _ _ _ _ _ _ (by decide) (by decide)];rfl)
 ·exact zero _ _ _ _ _ _ _ _ _ _ _ _ _ _ (by rw[hfit,xO _ _ _ _ _ _ _ (by decide) (by decide)];simp only[mT,Int.reduceBEq,cond_true,cond_false,decide_eq_true hm.1,decide_eq_true hm.2,Bool.true_and])
 ·exact zero _ _ _ _ _ _ _ _ _ _ _ _ _ _ (by rw[hfit,apI _ _ _ _ _ _ _ (by decide) (by decide)];rfl)
 ·refine aF hin ?_
  rintro _ ⟨-,rfl⟩
  exact zero _ _ _ _ _ _ _ _ _ _ _ _ _ _ (by rw[hfit,ax0 _ _ _ _ _ _ _ (by decide) (by decide)];rfl)
 ·refine aF hin ?_
  rintro _ ⟨-,rfl⟩
  exact zero _ _ _ _ _ _ _ _ _ _ _ _ _ _ (by rw[hfit,aCA];rfl)
 ·refine aF hin ?_
  rintro _ ⟨-,rfl⟩
  exact zero _ _ _ _ _ _ _ _ _ _ _ _ _ _ (by rw[hfit,aCB];rfl)
theorem ax1(ts:List aA)(hts:dJ ts):∀n,ahb ts n
 |0=>fun _ _ _ _ _ _ h=>by omega
 |n+1=>aBF ts hts n (ax1 ts hts n)
theorem aBG(ts:List aA)(hts:dJ ts)(t m:Int)(s:List UInt8)(l:List aB)(ks:List (List UInt8))(b:Int):∃r,fX ts t m s l ks b r:=ax1 ts hts (szL l+1) t m s l ks b (Nat.le_refl _)
def atB(n:Nat):Prop:=∀(m:Int)(s:List UInt8)(l:List aB)(ks:List (List UInt8))(b m2:Int)(s2:List UInt8)(l2:List aB)(ks2:List (List UInt8))(b2:Int),szL l+1≤n→∃r,nH m s l ks b m2 s2 l2 ks2 b2 r
theorem aAE(l l2:List aB)(i:Nat)(h:i<l.length)(h2:i<l2.length):oF (l.drop i) (l2.drop i)=(acV (l.getD i (aC .aval)) (l2.getD i (aC .aval))&&oF (l.drop (i+1)) (l2.drop (i+1))):=by
 rw[eg l i (aC .aval) h,eg l2 i (aC .aval) h2]
 simp[oF]
theorem aBH(n:Nat)(hS:atB n):atB (n+1):=by
 intro m s l ks b m2 s2 l2 ks2 b2 hs
 refine zG (ret:=fun r=>.bool r) fun hf=>?_
 have hl:l.length≤9223372036854775807:=hf (.agg [.int .u64 m,.str s,.sl .aval (.may false) l,.sl .str (.may false) ks,.int .i64 b]) (by simp) (.sl .aval (.may false) l) (by simp)
 have hk:ks.length≤9223372036854775807:=hf (.agg [.int .u64 m,.str s,.sl .aval (.may false) l,.sl .str (.may false) ks,.int .i64 b]) (by simp) (.sl .str (.may false) ks) (by simp)
 refine ati (l.length+ks.length+2) _ _ _ _ _ _ _ _ _ _ ?_
 generalize hN:l.length+ks.length+2=N
 unfold ajW sq
 dsimp only
 have goal0:∀r:Bool,r=((m==m2)&&(decide (s=s2)&&((b==b2)&&(decide (ks=ks2)&&oF l l2))))→oG m s l ks b m2 s2 l2 ks2 b2 r:=by
  intro r hr
  simp only[oG,acV]
  exact hr
 refine aD (fun h=>aG ⟨_,_,rfl,rfl,goal0 _ ?_⟩) (fun h1=>aD (fun h=>aG ⟨_,_,rfl,rfl,goal0 _ ?_⟩) (fun h2=>aD (fun h=>aG ⟨_,_,rfl,rfl,goal0 _ ?_⟩) (fun h3=>aD (fun h=>aG ⟨_,_,rfl,rfl,goal0 _ ?_⟩) (fun h4=>aD (fun h=>aG ⟨_,_,rfl,rfl,goal0 _ ?_⟩) (fun h5=>?_)))))
 ·have:(m==m2)=false:=by simpa using h
  rw[this];rfl
 ·have:decide (s=s2)=false:=by simpa using h
  rw[this];simp
 ·have:(b==b2)=false:=by simpa using h
  rw[this];simp
 ·have:¬l.length=l2.length:=by simp at h;omega
  rw[at9 l l2 this];simp
 ·have:¬ks.length=ks2.length:=by simp at h;omega
  have:decide (ks=ks2)=false:=decide_eq_false fun e=>this (by rw[e])
  rw[this];simp
 have e1:(m==m2)=true:=by simpa using h1
 have e2:decide (s=s2)=true:=by simpa using h2
 have e3:(b==b2)=true:=by simpa using h3
 have e4:l.length=l2.length:=by have:(l.length:Int)=l2.length:=by simpa using h4
                                omega
 have e5:ks.length=ks2.length:=by have:(ks.length:Int)=ks2.length:=by simpa using h5
                                  omega
 have goal1:∀r:Bool,r=(alP ks ks2&&oF l l2)→oG m s l ks b m2 s2 l2 ks2 b2 r:=fun r hr=>goal0 r (by rw[e1,e2,e3];simpa [alP] using hr)
 refine bm (fun x=>match x with|(n0,t0,l0,k0,c0,n1,t1,l1,k1,c1,i)=>l0=l∧k0=ks∧l1=l2∧k1=ks2∧0≤i∧i≤(ks.length:Int)∧alP (ks.drop i.toNat) (ks2.drop i.toNat)=alP ks ks2)
  (fun x=>((ks.length:Int)-x.2.2.2.2.2.2.2.2.2.2).toNat) ?_ _ _ ⟨rfl,rfl,rfl,rfl,by simp,by simp,rfl⟩ (by simp;omega)
 rintro again ⟨n0,t0,l0,k0,c0,n1,t1,l1,k1,c1,i⟩ ⟨rfl,rfl,rfl,rfl,i1,i2,i3⟩ ih
 dsimp only at ih
 unfold vq tw
 dsimp only
 refine aD (fun h=>?_) (fun h=>?_)
 ·have h:=of_decide_eq_true h
  have ew:IntKind.i64.wrap (i+1)=i+1:=aI (i+1) (by omega)
  have et:(i+1).toNat=i.toNat+1:=by omega
  have hst:=aBe k0 k1 i.toNat (by omega) (by omega)
  rw[i3] at hst
  refine vck (vck ?_)
  refine aD (fun hb=>aG ⟨_,_,rfl,rfl,goal1 _ ?_⟩) (fun hb=>?_)
  ·have hb:decide (k0.getD i.toNat (aC .str)=k1.getD i.toNat (aC .str))=false:=by simpa using hb
   rw[hst,hb];rfl
  ·have hb:decide (k0.getD i.toNat (aC .str)=k1.getD i.toNat (aC .str))=true:=by simpa using hb
   rw[hb,Bool.true_and] at hst
   exact ih (n0,t0,l0,k0,c0,n1,t1,l1,k1,c1,_) (by simp only[ew,et];exact⟨trivial,trivial,trivial,trivial,by omega,by omega,hst.symm⟩) (by simp only[ew];omega)
 ·have h:=of_decide_eq_false h
  have hi:i.toNat=k0.length:=by omega
  have hk1:alP k0 k1=true:=by
   rw[←i3,hi,List.drop_length,e5,List.drop_length];rfl
  refine bm (fun x=>match x with|(n0,t0,l0',k0',c0,n1,t1,l1',k1',c1,j)=>l0'=l0∧l1'=l1∧0≤j∧j≤(l0.length:Int)∧oF (l0.drop j.toNat) (l1.drop j.toNat)=oF l0 l1)
   (fun x=>((l0.length:Int)-x.2.2.2.2.2.2.2.2.2.2).toNat) ?_ _ _ ⟨rfl,rfl,by simp,by simp,rfl⟩ (by simp;omega)
  rintro again1 ⟨n0,t0,l0',k0',c0,n1,t1,l1',k1',c1,j⟩ ⟨rfl,rfl,j1,j2,j3⟩ ih1
  dsimp only at ih1
  unfold qz
  dsimp only
  refine aD (fun h=>?_) (fun h=>?_)
  ·have h:=of_decide_eq_true h
   have ew:IntKind.i64.wrap (j+1)=j+1:=aI (j+1) (by omega)
   have et:(j+1).toNat=j.toNat+1:=by omega
   have hst:=aAE l0' l1' j.toNat (by omega) (by omega)
   rw[j3] at hst
   have hsz:=am5 l0' j.toNat (by omega)
   have hsz2:=adA (l0'.getD j.toNat (aC .aval))
   refine vck (vck ?_)
   refine aF (hS _ _ _ _ _ _ _ _ _ _ (by omega)) ?_
   rintro _ ⟨-,rfl⟩
   rw[aB.eta,aB.eta]
   refine aD (fun hb=>aG ⟨_,_,rfl,rfl,goal1 _ ?_⟩) (fun hb=>?_)
   ·have hb:acV (l0'.getD j.toNat (aC .aval)) (l1'.getD j.toNat (aC .aval))=false:=by simpa using hb
    rw[hk1,hst,hb];rfl
   ·have hb:acV (l0'.getD j.toNat (aC .aval)) (l1'.getD j.toNat (aC .aval))=true:=by simpa using hb
    rw[hb,Bool.true_and] at hst
    exact ih1 (n0,t0,l0',k0',c0,n1,t1,l1',k1',c1,_) (by simp only[ew,et];exact⟨trivial,trivial,by omega,by omega,hst.symm⟩) (by simp only[ew];omega)
  ·have h:=of_decide_eq_false h
   have hj:j.toNat=l0'.length:=by omega
   have:oF l0' l1'=true:=by
    rw[←j3,hj,List.drop_length,e4,List.drop_length];rfl
   exact aG ⟨_,_,rfl,rfl,goal1 _ (by rw[hk1,this];rfl)⟩
theorem ax2:∀n,atB n
 |0=>fun _ _ _ _ _ _ _ _ _ _ h=>by omega
 |n+1=>aBH n (ax2 n)
theorem aBI(m:Int)(s:List UInt8)(l:List aB)(ks:List (List UInt8))(b m2:Int)(s2:List UInt8)(l2:List aB)(ks2:List (List UInt8))(b2:Int):∃r,nH m s l ks b m2 s2 l2 ks2 b2 r:=ax2 (szL l+1) m s l ks b m2 s2 l2 ks2 b2 (Nat.le_refl _)
end Go.Proofs.YtdpajabhmmmjoaaGreat
end
