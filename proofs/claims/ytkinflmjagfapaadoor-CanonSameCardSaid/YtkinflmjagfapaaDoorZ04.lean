import Derived.KernelRfl
import Derived.Shelf.Strings.Builder1
import Derived.Shelf.Strings.Builder2
import Derived.Shelf.Strings.OnBuilder
import Derived.Shelf.Strconv.Itoa4
import Derived.Test.YtkinflmjagfapaaDoorZ02
import Derived.Test.YtkinflmjagfapaaDoorZ03
noncomputable section
namespace Go.Proofs.YtkinflmjagfapaaDoor
open Go.AM
set_option autoImplicit false
set_option linter.unusedVariables false
set_option maxRecDepth 100000
noncomputable def zZ:ay:=tab (P:=Tryd.prog) [] [] [] []
def yQ:IR:=Rs [Mi 4 0] (Sq (Sq (.reg [Mv 5 0,Nk 6 5,Fa 7 1 6,Fo [0] [] (.ld 8 1 false false 7),Mv 9 0,Nk 10 9,Fa 11 0 10,Fo [0] [] (.ld 12 1 false false 11),Ll 13 12,Bi 14 .geq 8 13] [[],[0],[0,1],[0,1,2],[],[4],[4,5],[4,5,6],rg 4 7,rg 0 8]) (Cn 14 (Rs [Mi 4 0] .ret) .skip)) (Rs [Mv 15 0,Nk 16 15,Fa 17 1 16,Lo 18 17,Bc 19 .add 18 1,Nk 20 15,Fa 21 1 20,Sv 1 21 19] (Sq (.reg [Mv 22 0,Nk 23 22,Fa 24 0 23,Fo [0] [] (.ld 25 1 false false 24),Mv 26 0,Nk 27 26,Fa 28 1 27,Fo [0] [] (.ld 29 1 false false 28),Bc 30 .sub 29 1,Ix 31 .u8 25 30,Lq 32 31,Pp (.cvi 33 .i64 32),Mv 34 1,Bi 35 .rem 33 34,Mv 4 35] [[],[0],[0,1],[0,1,2],[],[4],[4,5],[4,5,6],rg 4 7,rg 0 8,rg 0 9,rg 0 10,[],rg 0 12,rg 0 13]) .ret)))
def yR:List RV:=[.t 4]
theorem yS:FnC Tryd.prog zZ [] 1 re Tryd.f45 yQ yR:=fnC Tryd.func45
def qE(N:Nat)(a:Bs)(b c:Int):Ro:=
 let g:=(↑(List.length a):Int)
 let d:=fun h i=>(some (.int .i64 h,[some [.sl .u8 (.may false) a,.int .i64 i]]):Ro)
 cond (decide (g≤b)) (
 d 0 b) (
 let e:=(IntKind.wrap .i64 (b+1))
 let f:=(IntKind.wrap .i64 (e-1))
 chk (ixl f a) (
 let j:=(List.getD a (Int.toNat f) (az .u8)).toNat
 chk (!(c==0)) (
 let k:=(Int.tmod (IntKind.wrap .i64 j) c)
 d k e)))
def qF(N:Nat)(a:Bs)(b c:Int):Ro:=qE N a b c
theorem xS(N:Nat)(a:Bs)(b i:Int)(h:Tot (qF N a b i) (fun z=>∃(c:Int)(d:Bs)(g:Int)(rest:List aq),z.1.dimR=.int .i64 c∧z.2=some [.sl .u8 (.may false) d,.int .i64 g]::rest∧oO a b i (c,d,g))):∃r,aK a b i r:=FnC.finO (css:=[[.sl .u8 (.may false) a,.int .i64 b]]) yS (N:=N) (by kernel_rfl) h fun _ ⟨c,d,g,_,e,f,q⟩=>⟨(c,d,g),e,⟨_,f⟩,q⟩
noncomputable def yT:ay:=tab (P:=Tryd.prog) [] [] [] []
def xT:IR:=Rs [Mb 2 false] (Sq (.reg [Mv 3 0,Nk 4 3,Fa 5 1 4,Fo [0] [] (.ld 6 1 false false 5),Mv 7 0,Nk 8 7,Fa 9 0 8,Fo [0] [] (.ld 10 1 false false 9),Ll 11 10,Bi 12 .geq 6 11,Mv 2 12] [[],[0],[0,1],[0,1,2],[],[4],[4,5],[4,5,6],rg 4 7,rg 0 8,rg 0 9]) .ret)
def xU:List RV:=[.t 2]
theorem xV:FnC Tryd.prog yT [] 1 qq Tryd.f83 xT xU:=fnC Tryd.func83
def pZ(N:Nat)(a:Bs)(b:Int):Ro:=
 let c:=(↑(List.length a):Int)
 some (.bool (decide (c≤b)),[some [.sl .u8 (.may false) a,.int .i64 b]])
def p7(N:Nat)(a:Bs)(b:Int):Ro:=pZ N a b
theorem wL(N:Nat)(a:Bs)(b:Int)(h:Tot (p7 N a b) (fun z=>∃(c:Bool)(d:Bs)(g:Int)(rest:List aq),z.1.dimR=.bool c∧z.2=some [.sl .u8 (.may false) d,.int .i64 g]::rest∧nY a b (c,d,g))):∃r,gr a b r:=FnC.finO (css:=[[.sl .u8 (.may false) a,.int .i64 b]]) xV (N:=N) (by kernel_rfl) h fun _ ⟨c,d,g,_,e,f,q⟩=>⟨(c,d,g),e,⟨_,f⟩,q⟩
noncomputable def zp:ay:=tab (P:=Tryd.prog) [] [] [] []
def xW:IR:=Rs [Pp (.mov 2 (.c .nilp))] (Rs [Mv 3 0,Pp (.bld 4 [fu .u8 true,vI 0] [(0,1,3)]),Pp (.box 5 4),Mv 2 5] .ret)
def xX:List RV:=[.t 2]
theorem aec:FnC Tryd.prog zp [] 0 zh Tryd.f12 xW xX:=fnC Tryd.func12
def xY(N:Nat)(a:Bs):Ro:=
 some (.ptr 0 0,[some [.sl .u8 (.may false) a,.int .i64 0]])
def rn(N:Nat)(a:Bs):Ro:=xY N a
theorem acM(N:Nat)(a:Bs):callF zp N 6 xX xW [.sl .u8 (.may false) a] []=rn N a:=by kernel_rfl
theorem acN(N:Nat)(a:Bs)(h:Tot (rn N a) (fun z=>∃(b:Bs)(c:Int)(rest:List aq),z=(.ptr 0 0,[some [.sl .u8 (.may false) b,.int .i64 c]])∧s8 a (b,c))):∃r,mv a r:=by
 obtain⟨z,hz,b,c,rest,rfl,hq⟩:=h
 exact⟨(b,c),aec.newFn (acM N a) hz,hq⟩
noncomputable def ae5:ay:=tab (P:=Tryd.prog) [] [] [] []
def aed:IR:=Rs [Pp (.new 2 [vI 0,vI 0,vS,nl .jnode,nl .str])] (Rs [Mv 3 0,Pp (.bld 4 [vI 0,vI 0,vS,nl .jnode,nl .str] [(0,1,kI 4),(2,1,3)]),Sv 5 2 4] .ret)
def aee:List RV:=[.cell 2 5 true]
theorem aef:FnC Tryd.prog ae5 [] 0 zi Tryd.f48 aed aee:=fnC Tryd.func48
def xZ(N:Nat)(a:Bs):Ro:=
 some (.agg [.int .i64 4,.int .i64 0,.str a,.sl .jnode (.may false) ([]:List ak),.sl .str (.may false) ([]:Bss)],[some [.int .i64 4,.int .i64 0,.str a,.sl .jnode .own ([]:List ak),.sl .str .own ([]:Bss)]])
def ya(N:Nat)(a:Bs):Ro:=xZ N a
theorem acO(N:Nat)(g:Bs)(h:Tot (ya N g) (fun z=>∃(a:Int)(b:Int)(c:Bs)(d:List ak)(f:Bss)(rest:List aq),z.1.dimR=.agg [.int .i64 a,.int .i64 b,.str c,.sl .jnode (.may false) d,.sl .str (.may false) f]∧z.2=rest∧s9 g (a,b,c,d,f))):∃r,aM g r:=aef.finP (N:=N) (by kernel_rfl) h fun _ ⟨a,b,c,d,f,_,e,_,q⟩=>⟨(a,b,c,d,f),e,q⟩
noncomputable def yb:ay:=tab (P:=Tryd.prog) [] [] [] []
def vM:IR:=Rs [Pp (.new 4 [vI 0,vI 0,vS,nl .jnode,nl .str])] (Rs [Mv 5 0,Mv 6 1,Pp (.bld 7 [vI 0,vI 0,vS,nl .jnode,nl .str] [(0,1,kI 6),(4,1,5),(3,1,6)]),Sv 5 4 7] .ret)
def vN:List RV:=[.cell 4 5 true]
theorem acP:FnC Tryd.prog yb [] 0 xo Tryd.f47 vM vN:=fnC Tryd.func47
def vO(N:Nat)(a:Bool)(c:Bss)(b:Bool)(d:List ak):Ro:=
 some (.agg [.int .i64 6,.int .i64 0,.str ([]:Bs),.sl .jnode (.may b) d,.sl .str (.may a) c],[some [.int .i64 6,.int .i64 0,.str ([]:Bs),.sl .jnode (.may b) d,.sl .str (.may a) c]])
def qj(N:Nat)(a:Bool)(c:Bss)(b:Bool)(d:List ak):Ro:=vO N a c b d
theorem abo(N:Nat)(a:Bool)(c:Bss)(b:Bool)(d:List ak):callF yb N 8 vN vM [.sl .str (.may a) c,.sl .jnode (.may b) d] []=qj N a c b d:=by kernel_rfl
theorem abp(N:Nat)(a:Bool)(c:Bss)(b:Bool)(d:List ak)(h:Tot (qj N a c b d) (fun z=>∃(e:Int)(f:Int)(g:Bs)(i:Bool)(j:List ak)(k:Bool)(l:Bss)(rest:List aq),z.1=.agg [.int .i64 e,.int .i64 f,.str g,.sl .jnode (.may i) j,.sl .str (.may k) l]∧z.2=rest∧rR a c b d (e,f,g,i,j,k,l))):∃r,cH a c b d r:=by
 obtain⟨⟨v,hp⟩,hz,e,f,g,i,j,k,l,rest,e1,e2,hq⟩:=h
 simp only at e1 e2
 subst e2
 subst e1
 exact⟨(e,f,g,i,j,k,l),acP.pure (abo N a c b d) hz,hq⟩
noncomputable def u9:ay:=tab (P:=Tryd.prog) [] [] [] []
def vP:IR:=Sq (Rs [Mv 7 6,Fa 8 4 2,Lq 9 8,Ll 10 9,Bi 11 .lss 7 10] (Cn 11 .skip (.exit 0))) (Sq (.block 1 (Rs [Fa 14 4 2,Lq 15 14,Mv 16 6,Ix 17 .str 15 16,Lq 18 17,Mv 19 1,Bi 20 .eql 18 19] (Cn 20 (Rs [Fa 21 3 2,Lq 22 21,Mv 23 6,Ix 24 .jnode 22 23,Ld 25 5 true 24,Sv 5 4 25,Mb 5 true] .ret) .skip))) (Rg [Mv 12 6,Bc 13 .add 12 1,Mv 6 13]))
def vQ:IR:=Rs [Pp (.bld 26 [vI 0,vI 0,vS,nl .jnode,nl .str] []),Sv 5 4 26,Mb 5 false] .ret
def ae6:IR:=Rs [Bx 2 0,Pp (.new 4 [vI 0,vI 0,vS,nl .jnode,nl .str]),Mb 5 false] (Sq (Rs [Mi 6 0] (.block 0 (.loop [1,2,4,6,1000000] 1 vP))) vQ)
def zq:List RV:=[.cell 4 5 true,.t 5]
theorem ae7:FnC Tryd.prog u9 [] 0 aay Tryd.f85 ae6 zq:=fnC Tryd.func85
def aeg(R:IR→(Ex→St→Ro)→St→Ro)(a:St→Ro):Ex→St→Ro:=(bO a [1,2,4,6,1000000] 1 (aJ 0 (kseq (R vQ) (fin zq))))
abbrev oA:Type:=(Bs×Int×Int×Bs×List ak×Bss×Int×Int×Int×Bs×List ak×Bss)
def mT:oA→St:=fun(c,d,e,f,g,h,i,j,k,l,a,b)=>{env:=(.undef::.str c::.ea [.int .i64 d,.int .i64 e,.str f,.sl .jnode (.may false) g,.sl .str (.may false) h]::.undef::.ptr 0 0::.undef::.int .i64 i::(U 20 [])),hp:=[some [.int .i64 j,.int .i64 k,.str l,.sl .jnode .own a,.sl .str .own b]]}
def rp(N:Nat):(St→Ro)→St→Ro:=fun a s=>run u9 N vP (aeg (run u9 N) a) s
def oB(N:Nat)(c:oA→Ro):oA→Ro:=fun(p,f,g,h,b,a,e,i,j,k,m,o)=>
 let v:=(↑(List.length a):Int)
 let q:=fun r t u w x y z g7=>(some (.tup [.agg [.int .i64 r,.int .i64 t,.str u,.sl .jnode (.may false) w,.sl .str (.may false) x],.bool y],[some [.int .i64 r,.int .i64 t,.str u,z,g7]]):Ro)
 cond (decide (e<v)) (
 chk (ixl e a) (
 let x2:=List.getD a (Int.toNat e) (az .str)
 cond (decide (x2=p)) (
 chk (ixl e b) (
 let d:=(List.getD b (Int.toNat e) (az .jnode))
 q d.kind d.n d.s d.l d.names true (.sl .jnode (.may false) d.l) (.sl .str (.may false) d.names))) (
 let x4:=(IntKind.wrap .i64 (e+1))
 c (p,f,g,h,b,a,x4,i,j,k,m,o)))) (
 q 0 0 ([]:Bs) ([]:List ak) ([]:Bss) false (.sl .jnode .own ([]:List ak)) (.sl .str .own ([]:Bss)))
theorem acQ(N:Nat):LB (rp N) mT (oB N):=fun _ _=>by kernel_rfl
def mK(N:Nat)(a b:Int)(c:Bs)(d:List ak)(e:Bss)(f:Bs)(g:oA→Ro):Ro:=
 g (f,a,b,c,d,e,0,0,0,([]:Bs),([]:List ak),([]:Bss))
def zr(N:Nat)(a b:Int)(c:Bs)(d:List ak)(e:Bss)(f:Bs):Ro:=mK N a b c d e f (fun z=>aT N (oB N) z)
theorem aeh(N:Nat)(a c:Int)(d:Bs)(f:List ak)(g:Bss)(i:Bs)(h:Tot (zr N a c d f g i) (fun z=>∃(j:Int)(k:Int)(l:Bs)(m:List ak)(n:Bss)(o:Bool)(rest:List aq),z.1.dimR=.tup [.agg [.int .i64 j,.int .i64 k,.str l,.sl .jnode (.may false) m,.sl .str (.may false) n],.bool o]∧z.2=rest∧mS a c d f g i (j,k,l,m,n,o))):∃r,lJ a c d f g i r:=ae7.finP (N:=N) ((cn _ (by kernel_rfl) rfl (fun C=>mK N a c d f g i (fun z=>C 1000000 (mT z))) (fun C=>by kernel_rfl)).trans (Eq.trans (b:=mK N a c d f g i (fun z=>bh N (rp N) (mT z))) (by kernel_rfl) (congrArg (mK N a c d f g i) (funext fun z=>bj (mT) (rp N) (oB N) (acQ N) N z)))) h fun _ ⟨j,k,l,m,n,o,_,e,_,q⟩=>⟨(j,k,l,m,n,o),e,q⟩
noncomputable def rq:ay:=tab (P:=Tryd.prog) [] [] [] []
def sc:IR:=Sq (Rs [Mv 6 4,Mv 7 3,Ll 8 7,Bi 9 .lss 6 8] (Cn 9 .skip (.exit 0))) (Sq (.block 1 (Rs [Mv 12 3,Mv 13 4,Ix 14 .str 12 13,Lq 15 14,Mv 16 0,Bi 17 .eql 15 16] (Cn 17 (Rs [Mv 18 4,Bc 19 .add 18 1,Mv 2 19] .ret) .skip))) (Rg [Mv 10 4,Bc 11 .add 10 1,Mv 4 11]))
def sd:IR:=Rs [Mi 2 0] .ret
def acR:IR:=Rs [Mi 2 0] (Rs [Pp (.bsl 5 .str [kS [110,117,108,108],kS [98,111,111,108,101,97,110],kS [105,110,116],kS [108,111,110,103],kS [102,108,111,97,116],kS [100,111,117,98,108,101],kS [98,121,116,101,115],kS [115,116,114,105,110,103],kS [114,101,99,111,114,100],kS [101,110,117,109],kS [102,105,120,101,100],kS [97,114,114,97,121],kS [109,97,112],kS [117,110,105,111,110]] true),Mv 3 5] (Sq (Rs [Mi 4 0] (.block 0 (.loop [0,3,4,1000000] 0 sc))) sd))
def vR:List RV:=[.t 2]
theorem acS:FnC Tryd.prog rq [] 0 xr Tryd.f43 acR vR:=fnC Tryd.func43
def abq(R:IR→(Ex→St→Ro)→St→Ro)(a:St→Ro):Ex→St→Ro:=(bO a [0,3,4,1000000] 0 (aJ 0 (kseq (R sd) (fin vR))))
abbrev lP:Type:=(Bs×Bool×Bss×Int)
def kQ:lP→St:=fun(a,b,c,d)=>{env:=(.str a::.undef::.undef::.sl .str (.may b) c::.int .i64 d::(U 15 [])),hp:=[]}
def py(N:Nat):(St→Ro)→St→Ro:=fun a s=>run rq N sc (abq (run rq N) a) s
def lQ(N:Nat)(a:lP→Ro):lP→Ro:=fun(e,b,d,c)=>
 let f:=(↑(List.length d):Int)
 cond (decide (c<f)) (
 chk (ixl c d) (
 let g:=List.getD d (Int.toNat c) (az .str)
 cond (decide (g=e)) (
 let h:=(IntKind.wrap .i64 (c+1))
 some (.int .i64 h,[])) (
 let i:=(IntKind.wrap .i64 (c+1))
 a (e,b,d,i)))) (
 some (.int .i64 0,[]))
theorem aaO(N:Nat):LB (py N) kQ (lQ N):=fun _ _=>by kernel_rfl
def kf(N:Nat)(a:Bs)(b:lP→Ro):Ro:=
 b (a,true,([([110,117,108,108]:Bs),([98,111,111,108,101,97,110]:Bs),([105,110,116]:Bs),([108,111,110,103]:Bs),([102,108,111,97,116]:Bs),([100,111,117,98,108,101]:Bs),([98,121,116,101,115]:Bs),([115,116,114,105,110,103]:Bs),([114,101,99,111,114,100]:Bs),([101,110,117,109]:Bs),([102,105,120,101,100]:Bs),([97,114,114,97,121]:Bs),([109,97,112]:Bs),([117,110,105,111,110]:Bs)]:Bss),0)
def vT(N:Nat)(a:Bs):Ro:=kf N a (fun z=>aT N (lQ N) z)
theorem abr(N:Nat)(a:Bs)(h:Tot (vT N a) (fun z=>∃(c:Int)(rest:List aq),z.1.dimR=.int .i64 c∧z.2=rest∧rS a (c))):∃r,gY a r:=acS.finP (N:=N) ((cn _ (by kernel_rfl) rfl (fun C=>kf N a (fun z=>C 1000000 (kQ z))) (fun C=>by kernel_rfl)).trans (Eq.trans (b:=kf N a (fun z=>bh N (py N) (kQ z))) (by kernel_rfl) (congrArg (kf N a) (funext fun z=>bj (kQ) (py N) (lQ N) (aaO N) N z)))) h fun _ ⟨c,_,e,_,q⟩=>⟨(c),e,q⟩
noncomputable def aei:ay:=tab (P:=Tryd.prog) [] [] [] []
def acT:IR:=Rs [Ms 2 []] (Rs [Pp (.bsl 4 .str [kS [],kS [110,117,108,108],kS [98,111,111,108,101,97,110],kS [105,110,116],kS [108,111,110,103],kS [102,108,111,97,116],kS [100,111,117,98,108,101],kS [98,121,116,101,115],kS [115,116,114,105,110,103],kS [114,101,99,111,114,100],kS [101,110,117,109],kS [102,105,120,101,100],kS [97,114,114,97,121],kS [109,97,112],kS [117,110,105,111,110]] true),Mv 3 4] (Sq (Rs [Mv 5 0,Bc 6 .lss 5 1,Mv 7 6,Gf 7 (.mov 8 0),Gf 7 (.bin 9 .gtr 8 (kI 14)),Po 10 7 9] (Cn 10 (Rs [Ms 2 []] .ret) .skip)) (Rs [Mv 11 3,Mv 12 0,Ix 13 .str 11 12,Lq 14 13,Mv 2 14] .ret)))
def acU:List RV:=[.t 2]
theorem acV:FnC Tryd.prog aei [] 0 xq Tryd.f50 acT acU:=fnC Tryd.func50
def vU(N:Nat)(a:Int):Ro:=
 cond (decide (a<1)) (
 some (.str ([]:Bs),[])) (
 cond (decide (14<a)) (
 some (.str ([]:Bs),[])) (
 chk (ixl a ([([]:Bs),([110,117,108,108]:Bs),([98,111,111,108,101,97,110]:Bs),([105,110,116]:Bs),([108,111,110,103]:Bs),([102,108,111,97,116]:Bs),([100,111,117,98,108,101]:Bs),([98,121,116,101,115]:Bs),([115,116,114,105,110,103]:Bs),([114,101,99,111,114,100]:Bs),([101,110,117,109]:Bs),([102,105,120,101,100]:Bs),([97,114,114,97,121]:Bs),([109,97,112]:Bs),([117,110,105,111,110]:Bs)]:Bss)) (
 let b:=List.getD ([([]:Bs),([110,117,108,108]:Bs),([98,111,111,108,101,97,110]:Bs),([105,110,116]:Bs),([108,111,110,103]:Bs),([102,108,111,97,116]:Bs),([100,111,117,98,108,101]:Bs),([98,121,116,101,115]:Bs),([115,116,114,105,110,103]:Bs),([114,101,99,111,114,100]:Bs),([101,110,117,109]:Bs),([102,105,120,101,100]:Bs),([97,114,114,97,121]:Bs),([109,97,112]:Bs),([117,110,105,111,110]:Bs)]:Bss) (Int.toNat a) (az .str)
 some (.str b,[]))))
def vV(N:Nat)(a:Int):Ro:=vU N a
theorem abt(N:Nat)(b:Int)(h:Tot (vV N b) (fun z=>∃(a:Bs)(rest:List aq),z.1.dimR=.str a∧z.2=rest)):∃r,lk b r:=acV.finP0 (N:=N) (by kernel_rfl) h fun _ ⟨a,_,e,_⟩=>⟨(a),e⟩
noncomputable def yc:ay:=tab (P:=Tryd.prog) [] [] [] []
def wM:IR:=Rs [Mi 4 0] (Sq (Rs [Mv 5 0,Nk 6 5,Fa 7 1 6,Lo 8 7,Bc 9 .eql 8 0] (Cn 9 (Rg [Mv 10 0,Mv 11 1,Nk 12 10,Fa 13 1 12,Sv 1 13 11]) .skip)) (Rs [Mi 4 0] .ret))
def wN:List RV:=[.t 4]
theorem wO:FnC Tryd.prog yc [] 1 pR Tryd.f38 wM wN:=fnC Tryd.func38
def pf(N:Nat)(b:List am)(a d:Int):Ro:=
 let c:=fun e=>(some (.int .i64 0,[some [.ul .atype b,.int .i64 e]]):Ro)
 cond (a==0) (
 c d) (
 c a)
def pg(N:Nat)(a:List am)(b c:Int):Ro:=pf N a b c
theorem va(N:Nat)(a:List am)(b i:Int)(h:Tot (pg N a b i) (fun z=>∃(c:Int)(d:List am)(g:Int)(rest:List aq),z.1.dimR=.int .i64 c∧z.2=some [.ul .atype d,.int .i64 g]::rest∧fM a b i (c,d,g))):∃r,ap a b i r:=FnC.finO (css:=[[.ul .atype a,.int .i64 b]]) wO (N:=N) (by kernel_rfl) h fun _ ⟨c,d,g,_,e,f,q⟩=>⟨(c,d,g),e,⟨_,f⟩,q⟩
noncomputable def yU:ay:=tab (P:=Tryd.prog) [] [bA] [] []
def yd:IR:=Rs [Bx 3 1,Mi 4 0] (Sq (Rs [Mv 5 0,Nk 6 5,Fa 7 0 6,Fa 8 0 7,Lo 9 8,Pp (.lnw 10 9),Bc 11 .geq 10 60] (Cn 11 (Rs [Mv 12 0,Ca 13 38 [12,kI 3],Mv 4 13] .ret) .skip)) (Sq (.reg [Mv 14 0,Mv 15 0,Nk 16 15,Fa 17 0 16,Fa 18 0 17,Fo [] [0] (.ld 19 1 false true 18),Ld 20 10 true 3,Pp (.bsl 21 .atype [20] true),Pp (.apu 22 .atype (.tk 19) 21),Nk 23 14,Fa 24 0 23,Fa 25 0 24,Fo [] [0] (.st none 1 25 (.tk 22))] [[],[],[1],[1,2],[1,2,3],rg 1 4,[],[6],rg 1 7,rg 0 8,rg 0 9,rg 0 10,rg 0 11]) (Rs [Mv 26 0,Nk 27 26,Fa 28 0 27,Fa 29 0 28,Lo 30 29,Pp (.lnw 31 30),Bc 32 .sub 31 1,Mv 4 32] .ret)))
def ye:List RV:=[.t 4]
theorem yf:FnC Tryd.prog yU [38,2000038] 1 qt Tryd.f44 yd ye:=fnC Tryd.func44
def p8(N:Nat)(a:List am)(b c:Int)(d:Bs)(e:Bss)(f:Int)(g:Bss)(h:Bool)(i:Bs)(j:Int)(k:List aN)(l:List Int):Ro:=
 let o:=(↑(List.length a):Int)
 cond (decide (60≤o)) (
 ao (ap a b 3) (fun m=>
 some (.int .i64 m.1,[some [.ul .atype m.2.1,.int .i64 m.2.2]]))) (
 chk (decide ((List.length a+List.length ([⟨c,d,e,f,g,h,i,j,k,l⟩]:List am))*160≤140737488355328)) (
 let n:=(a++([⟨c,d,e,f,g,h,i,j,k,l⟩]:List am))
 let p:=(↑(List.length n):Int)
 let q:=(IntKind.wrap .i64 (p-1))
 some (.int .i64 q,[some [.ul .atype n,.int .i64 b]])))
def p9(N:Nat)(a:List am)(b c:Int)(d:Bs)(e:Bss)(f:Int)(g:Bss)(h:Bool)(i:Bs)(j:Int)(k:List aN)(l:List Int):Ro:=p8 N a b c d e f g h i j k l
theorem wP(N:Nat)(a:List am)(b c:Int)(d:Bs)(g:Bss)(i:Int)(j:Bss)(k:Bool)(l:Bs)(m:Int)(n:List aN)(o:List Int)(h:Tot (p9 N a b c d g i j k l m n o) (fun z=>∃(p:Int)(s:List am)(t:Int)(rest:List aq),z.1.dimR=.int .i64 p∧z.2=some [.ul .atype s,.int .i64 t]::rest∧gu a b c d g i j k l m n o (p,s,t))):∃r,cr a b c d g i j k l m n o r:=FnC.finO (css:=[[.ul .atype a,.int .i64 b]]) yf (N:=N) (by kernel_rfl) h fun _ ⟨p,s,t,_,e,f,q⟩=>⟨(p,s,t),e,⟨_,f⟩,q⟩
noncomputable def lw:ay:=tab (P:=Tryd.prog) [] [] [] []
def nH:IR:=Sq (Rs [Mv 8 6,Mv 9 0,Nk 10 9,Fa 11 0 10,Fa 12 0 11,Lo 13 12,Pp (.lnw 14 13),Bi 15 .lss 8 14] (Cn 15 .skip (.exit 0))) (Sq (.block 1 (Sq (.gh (.opn (.cell 0 0)) (.ghp (.cls (.cell 0 0)) (Rg [Mv 18 0,Nk 19 18,Fa 20 0 19,Fa 21 0 20,Lo 22 21,Mv 23 6,Pp (.ixw 24 .atype 22 23),Pp (.ldw 25 10 true 24),Pp (.alr 7 10),Fz 7 10 25]))) (Rs [Fa 26 1 7,Lq 27 26,Mv 28 1,Bi 29 .eql 27 28,Mv 30 29,Gt 30 (.fad 31 0 7),Gt 30 (.lde 32 1 false 31),Gt 30 (.bin 33 .geq 32 (kI 9)),Pa 34 30 33,Mv 35 34,Gt 35 (.fad 36 0 7),Gt 35 (.lde 37 1 false 36),Gt 35 (.bin 38 .leq 37 (kI 11)),Pa 39 35 38] (Cn 39 (Rs [Mv 40 6,Mv 4 40,Mb 5 true] .ret) .skip)))) (Rg [Mv 16 6,Bc 17 .add 16 1,Mv 6 17]))
def nI:IR:=Rs [Mi 4 0,Mb 5 false] .ret
def wQ:IR:=Rs [Mi 4 0,Mb 5 false] (Sq (Rs [Mi 6 0] (.block 0 (.loop [0,1,6,1000000] 1 nH))) nI)
def ph:List RV:=[.t 4,.t 5]
theorem wR:FnC Tryd.prog lw [] 1 pS Tryd.f75 wQ ph:=fnC Tryd.func75
def vb(R:IR→(Ex→St→Ro)→St→Ro)(a:St→Ro):Ex→St→Ro:=(bO a [0,1,6,1000000] 1 (aJ 0 (kseq (R nI) (fin ph))))
abbrev gJ:Type:=(Bs×Int×List am×Int)
def ge:gJ→St:=fun(a,b,c,d)=>{env:=(.ptr 0 0::.str a::(U 4 (.int .i64 b::(U 34 [])))),hp:=[some [.ul .atype c,.int .i64 d]]}
def j6(N:Nat):(St→Ro)→St→Ro:=fun a s=>run lw N nH (vb (run lw N) a) s
def gK(N:Nat)(b:gJ→Ro):gJ→Ro:=fun(e,d,a,c)=>
 let g:=(↑(List.length a):Int)
 cond (decide (d<g)) (
 chk (decide (0<List.length a)) (
 chk (decide (0≤d)&&decide (d<↑(List.length a))) (
 chk (decide ((Int.toNat d)<List.length a)) (
 let f:=(List.getD a (Int.toNat d) (az .atype))
 chk (Nat.beq (List.length a) (List.length a)) (
 cond (decide (f.name=e)) (
 cond (decide (9≤f.kind)) (
 cond (decide (f.kind≤11)) (
 some (.tup [.int .i64 d,.bool true],[some [.ul .atype a,.int .i64 c],none,none])) (
 let h:=(IntKind.wrap .i64 (d+1))
 b (e,h,a,c))) (
 let i:=(IntKind.wrap .i64 (d+1))
 b (e,i,a,c))) (
 let j:=(IntKind.wrap .i64 (d+1))
 b (e,j,a,c))))))) (
 some (.tup [.int .i64 0,.bool false],[some [.ul .atype a,.int .i64 c]]))
theorem tL(N:Nat):LB (j6 N) ge (gK N):=fun _ _=>by kernel_rfl
def eN(N:Nat)(a:List am)(b:Int)(c:Bs)(d:gJ→Ro):Ro:=
 d (c,0,a,b)
def pi(N:Nat)(a:List am)(b:Int)(c:Bs):Ro:=eN N a b c (fun z=>aT N (gK N) z)
theorem vc(N:Nat)(a:List am)(c:Int)(d:Bs)(h:Tot (pi N a c d) (fun z=>∃(g:Int)(i:Bool)(j:List am)(k:Int)(rest:List aq),z.1.dimR=.tup [.int .i64 g,.bool i]∧z.2=some [.ul .atype j,.int .i64 k]::rest∧nw a c d (g,i,j,k))):∃r,bB a c d r:=FnC.finO (css:=[[.ul .atype a,.int .i64 c]]) wR (N:=N) ((cn _ (by kernel_rfl) rfl (fun C=>eN N a c d (fun z=>C 1000000 (ge z))) (fun C=>by kernel_rfl)).trans (Eq.trans (b:=eN N a c d (fun z=>bh N (j6 N) (ge z))) (by kernel_rfl) (congrArg (eN N a c d) (funext fun z=>bj (ge) (j6 N) (gK N) (tL N) N z)))) h fun _ ⟨g,i,j,k,_,e,f,q⟩=>⟨(g,i,j,k),e,⟨_,f⟩,q⟩
noncomputable def wS:ay:=tab (P:=Tryd.prog) [] [oV] [] []
def vd:IR:=Rs [Pp (.new 2 [vI 0,vI 0,vS,nl .jnode,nl .str])] (Rs [Pp (.bsl 4 .str [kS [84,111,112]] false),Pp (.new 3 [nl .str]),Sk 1 3 4] (Rs [Mv 5 0,Ca 6 24 [5,kS [84,111,112],kI 0,3],Sv 5 2 6] .ret))
def ve:List RV:=[.cell 2 5 true]
theorem vf:FnC Tryd.prog wS [24,2000024] 1 oP Tryd.f13 vd ve:=fnC Tryd.func13
def oC(N:Nat)(b:Bs)(c:Int):Ro:=
 ao (c9 b c ([([84,111,112]:Bs)]:Bss) ([84,111,112]:Bs) 0) (fun a=>
 some (.agg [.int .i64 a.1,.int .i64 a.2.1,.str a.2.2.1,.sl .jnode (.may false) a.2.2.2.1,.sl .str (.may false) a.2.2.2.2.1],[some [.sl .u8 (.may false) a.2.2.2.2.2.1,.int .i64 a.2.2.2.2.2.2.1],some [.int .i64 a.1,.int .i64 a.2.1,.str a.2.2.1,.sl .jnode (.may false) a.2.2.2.1,.sl .str (.may false) a.2.2.2.2.1],some [.sl .str .own a.2.2.2.2.2.2.2]]))
def oD(N:Nat)(a:Bs)(b:Int):Ro:=oC N a b
theorem tM(N:Nat)(a:Bs)(b:Int)(h:Tot (oD N a b) (fun z=>∃(c:Int)(d:Int)(g:Bs)(i:List ak)(j:Bss)(k:Bs)(l:Int)(rest:List aq),z.1.dimR=.agg [.int .i64 c,.int .i64 d,.str g,.sl .jnode (.may false) i,.sl .str (.may false) j]∧z.2=some [.sl .u8 (.may false) k,.int .i64 l]::rest∧mq a b (c,d,g,i,j,k,l))):∃r,eF a b r:=FnC.finO (css:=[[.sl .u8 (.may false) a,.int .i64 b]]) vf (N:=N) (by kernel_rfl) h fun _ ⟨c,d,g,i,j,k,l,_,e,f,q⟩=>⟨(c,d,g,i,j,k,l),e,⟨_,f⟩,q⟩
end Go.Proofs.YtkinflmjagfapaaDoor
end
noncomputable section
namespace Go.Proofs.YtkinflmjagfapaaDoor
open Go.AM
set_option autoImplicit false
set_option linter.unusedVariables false
set_option linter.unusedSimpArgs false
set_option maxRecDepth 100000
theorem aej(l:List UInt8)(n m:Int)(h:kr l n)(hm:0<m):∃r,aK l n m r:=by
 obtain⟨h1,h2,h3⟩:=h
 apply xS 1
 unfold qF qE
 dsimp only
 repeat' (first|(with_reducible refine au ?_ ?_<;>(intro hb;(try simp only[bnl] at hb);(try revert hb;intro _)))|with_reducible refine aA ?_ ?_|with_reducible refine ar ?_|fail)
 ·exact⟨_,_,_,_,rfl,rfl,by simp,by simpa using hm,rfl,h1,h2,h3⟩
 ·simp(disch:=omega) only[uv,bnl]
 ·simp only[bnl];omega
 ·refine⟨_,_,_,_,rfl,rfl,?_,?_,rfl,?_,?_,h3⟩
  ·simp only
   have:=UInt8.toNat_lt (l.getD (IntKind.i64.wrap (IntKind.i64.wrap (n+1)-1)).toNat (az .u8))
   rw[ax _ (by omega)]
   exact Int.tmod_nonneg _ (by omega)
  ·simp only
   exact Int.tmod_lt_of_pos _ hm
  ·simp only;rw[ax _ (by omega)];omega
  ·simp only;rw[ax _ (by omega)];omega
theorem lR(l:List UInt8)(n m:Int)(h:kr l n)(hm:0<m)(hm2:m≤1000):∃r,aK l n m r:=aej l n m h hm
theorem aho(l:List UInt8)(n:Int):∃r,gr l n r:=by
 apply wL 1
 unfold p7 pZ
 dsimp only
 repeat' (first|(with_reducible refine au ?_ ?_<;>(intro hb;(try simp only[bnl] at hb);(try revert hb;intro _)))|with_reducible refine aA ?_ ?_|with_reducible refine ar ?_|fail)
 exact⟨_,_,_,_,rfl,rfl,rfl,rfl⟩
theorem ahp(l:List UInt8):∃r,mv l r:=by
 apply acN 1
 unfold rn xY
 repeat' (first|(with_reducible refine au ?_ ?_<;>(intro hb;(try simp only[bnl] at hb);(try revert hb;intro _)))|with_reducible refine aA ?_ ?_|with_reducible refine ar ?_|fail)
 exact⟨_,_,[],rfl,rfl⟩
theorem b9(s:List UInt8):∃r,aM s r:=by
 apply acO 1
 unfold ya xZ
 repeat' (first|(with_reducible refine au ?_ ?_<;>(intro hb;(try simp only[bnl] at hb);(try revert hb;intro _)))|with_reducible refine aA ?_ ?_|with_reducible refine ar ?_|fail)
 exact⟨_,_,_,_,_,_,rfl,rfl,rfl⟩
theorem qa(f0:Bool)(names:List (List UInt8))(f1:Bool)(l:List ak):∃r,cH f0 names f1 l r:=by
 apply abp 1
 unfold qj vO
 repeat' (first|(with_reducible refine au ?_ ?_<;>(intro hb;(try simp only[bnl] at hb);(try revert hb;intro _)))|with_reducible refine aA ?_ ?_|with_reducible refine ar ?_|fail)
 exact⟨_,_,_,_,_,_,_,_,rfl,rfl,rfl⟩
theorem abu:∀(names:List (List UInt8))(l:List ak)(name:List UInt8)(i:Nat),(∀j,j<i→names.getD j []≠name)→bc names l name=bc (names.drop i) (l.drop i) name
 |names,l,name,0,_=>rfl
 | [],l,name,i+1,h=>by simp[bc]
 |x::ns,[],name,i+1,h=>by
  have:∀ns:List (List UInt8),bc ns [] name=none:=fun ns=>by cases ns<;>rfl
  simp[bc,this]
 |x::ns,c::l,name,i+1,h=>by
  have h0:=h 0 (by omega)
  simp only[List.getD_cons_zero] at h0
  simp only[bc,if_neg h0,List.drop_succ_cons]
  exact abu ns l name i fun j hj=>by simpa using h (j+1) (by omega)
theorem aek{names:List (List UInt8)}{l:List ak}{name:List UInt8}{i:Nat}(h1:i<names.length)(h2:i<l.length)(h:∀j,j<i→names.getD j []≠name)(he:names.getD i []=name):
  bc names l name=some (l.getD i (az .jnode)):=by
 rw[abu names l name i h,List.drop_eq_getElem_cons h1,List.drop_eq_getElem_cons h2]
 simp only[bc]
 rw[List.getD_eq_getElem?_getD,List.getElem?_eq_getElem h1,Option.getD_some] at he
 rw[if_pos he,List.getD_eq_getElem?_getD,List.getElem?_eq_getElem h2,Option.getD_some]
theorem yg{names:List (List UInt8)}{l:List ak}{name:List UInt8}{i:Nat}(h:∀j,j<i→names.getD j []≠name)(hi:names.length≤i∨l.length≤i):bc names l name=none:=by
 rw[abu names l name i h]
 rcases hi with hi|hi
 ·rw[List.drop_eq_nil_of_le hi];rfl
 ·rw[List.drop_of_length_le (l:=l) hi]
  cases names.drop i<;>rfl
theorem afs(k n:Int)(s:List UInt8)(l:List ak)(names:List (List UInt8))(name:List UInt8)(h:names.length≤l.length)(hl:names.length≤1000):∃r,lJ k n s l names name r:=by
 apply aeh 2000
 unfold zr mK
 refine ba (fun x=>x.1=name∧x.2.2.2.2.1=l∧x.2.2.2.2.2.1=names∧0≤x.2.2.2.2.2.2.1∧x.2.2.2.2.2.2.1≤(names.length:Int)∧∀j:Nat,(j:Int)<x.2.2.2.2.2.2.1→names.getD j []≠name)
  (fun x=>((names.length:Int)-x.2.2.2.2.2.2.1).toNat) ?_ _ _ ⟨rfl,rfl,rfl,by simp,by simp,fun j hj=>by simp at hj;omega⟩ (by simp;omega)
 rintro again ⟨a0,a1,a2,a3,a4,a5,i,b0,b1,b2,b3,b4⟩ ⟨rfl,rfl,rfl,i1,i2,i3⟩ ih
 simp only at i1 i2 i3 ih h hl ⊢
 unfold oB
 dsimp only
 repeat' (first|(with_reducible refine au ?_ ?_<;>(intro hb;(try simp only[bnl] at hb);(try revert hb;intro _)))|with_reducible refine aA ?_ ?_|with_reducible refine ar ?_|fail)
 ·simp only[bnl];omega
 ·simp only[bnl];omega
 ·rename_i hb hb2
  have e:=aek (names:=a5) (l:=a4) (name:=a0) (i:=i.toNat) (by omega) (by omega) (fun j hj=>i3 j (by omega)) hb2
  refine⟨_,_,_,_,_,_,_,rfl,rfl,?_⟩
  simp only[mS]
  rw[e];rfl
 ·rename_i hb hb2
  have ew:=ax (i+1) (by omega)
  refine ih _ ⟨rfl,rfl,rfl,?_,?_,?_⟩ ?_
  ·simp only[ew];omega
  ·simp only[ew];omega
  ·simp only[ew]
   intro j hj
   by_cases e:(j:Int)=i
   ·have:i.toNat=j:=by omega
    rw[this] at hb2
    exact hb2
   ·exact i3 j (by omega)
  ·simp only[ew];omega
 ·rename_i hb
  refine⟨_,_,_,_,_,_,_,rfl,rfl,?_⟩
  simp only[mS]
  rw[yg (i:=i.toNat) (fun j hj=>i3 j (by omega)) (.inl (by omega))]
  rfl
theorem br(ts:List am)(e c:Int):∃r,ap ts e c r:=by
 apply va 1
 unfold pg pf
 dsimp only
 repeat' (first|(with_reducible refine au ?_ ?_<;>(intro hb;(try simp only[bnl] at hb);(try revert hb;intro _)))|with_reducible refine aA ?_ ?_|with_reducible refine ar ?_|fail)
 ·rename_i hb;exact⟨_,_,_,_,rfl,rfl,by simp[fM,hb]⟩
 ·rename_i hb;exact⟨_,_,_,_,rfl,rfl,by simp[fM,hb]⟩
end Go.Proofs.YtkinflmjagfapaaDoor
end
noncomputable section
namespace Go.Proofs.YtkinflmjagfapaaDoor
open Go.AM
set_option autoImplicit false
set_option linter.unusedVariables false
theorem lh.mono{m m':Nat}{t:am}(h:lh m t)(hm:m≤m'):lh m' t:=
 ⟨⟨h.items.1,by have:=h.items.2;omega⟩,fun f hf=>⟨⟨(h.fields f hf).1.1,by have:=(h.fields f hf).1.2.1;omega,(h.fields f hf).1.2.2⟩,(h.fields f hf).2⟩,h.nf,
   fun b hb=>⟨(h.branches b hb).1,by have:=(h.branches b hb).2;omega⟩,h.nb,h.ns,h.size,h.kind,h.nl,h.sl,h.fk⟩
theorem bZ.keep{ts ts':List am}{n:Nat}(h1:∀(i:Nat) t,ts[i]? =some t→t.kind≤11→∃t':am,ts'[i]? =some t'∧t'.kind≤11)(h2:∀(i:Nat) t,n≤i→ts[i]? =some t→¬t.kind≤11→ts'[i]? =some t)
  {i:Int} {b:Nat} (h:bZ ts n i b):bZ ts' n i b:=by
 induction h with
 |leaf i t h0 h hk=>
  obtain⟨t',a,b⟩:=h1 _ t h hk
  exact .leaf i t' h0 a b
 |arr i t b h0 hn h hk _ ih=>exact .arr i t b h0 hn (h2 _ t hn h (by omega)) hk ih
 |uni i t w h0 hn h hk _ ih=>exact .uni i t w h0 hn (h2 _ t hn h (by omega)) hk ih
theorem bZ.low{ts:List am}{n n':Nat}(hn:n'≤n){i:Int}{b:Nat}(h:bZ ts n i b):bZ ts n' i b:=by
 induction h with
 |leaf i t h0 h hk=>exact .leaf i t h0 h hk
 |arr i t b h0 hm h hk _ ih=>exact .arr i t b h0 (by omega) h hk ih
 |uni i t w h0 hm h hk _ ih=>exact .uni i t w h0 (by omega) h hk ih
theorem bZ.pos{ts:List am}{n:Nat}{i:Int}{b:Nat}(h:bZ ts n i b):1≤b:=by
 cases h<;>omega
theorem bZ.grow{ts ts':List am}{e e':Int}{n:Nat}(g:aP ts e ts' e')(he:e'=0){i:Int}{b:Nat}(h:bZ ts n i b):bZ ts' n i b:=
 h.keep (fun i t h hk=>⟨t,(g.old he i (List.getElem?_eq_some_iff.1 h).1).trans h,hk⟩) (fun i t _ h _=>(g.old he i (List.getElem?_eq_some_iff.1 h).1).trans h)
theorem q8.grow{ts ts':List am}{e e':Int}(g:aP ts e ts' e')(he:e'=0){i:Nat}{t:am}(h:q8 ts i t):q8 ts' i t:=fun f hf=>by
 obtain⟨b,h1,h2⟩:=h f hf
 exact⟨b,h1,h2.grow g he⟩
theorem q8.nil{ts:List am}{i:Nat}{t:am}(h:t.fields=[]):q8 ts i t:=fun f hf=>by rw[h] at hf;cases hf
theorem aP.refl{ts:List am}{e:Int}(h:ts.length≤60):aP ts e ts e:=
 ⟨Nat.le_refl _,h,fun h=>h,fun _ _ _=>rfl,fun _ i t hi ht=>by
  have:=(List.getElem?_eq_some_iff.1 ht).1;omega,fun _ i t hi ht=>by
  have:=(List.getElem?_eq_some_iff.1 ht).1;omega⟩
theorem aP.bad{ts:List am}{e e':Int}(h:ts.length≤60)(he:e'≠0):aP ts e ts e':=
 ⟨Nat.le_refl _,h,fun h=>absurd h he,fun h=>absurd h he,fun h=>absurd h he,fun h=>absurd h he⟩
theorem aP.trans{ts ts1 ts2:List am}{e e1 e2:Int}(h:aP ts e ts1 e1)(h':aP ts1 e1 ts2 e2):aP ts e ts2 e2 where
 len:=Nat.le_trans h.len h'.len
 cap:=h'.cap
 err:=fun he=>h.err (h'.err he)
 old:=fun he i hi=>by
  have:=h.len
  rw[h'.old he i (by omega),h.old (h'.err he) i hi]
 new:=fun he i t hi ht=>by
  rcases Nat.lt_or_ge i ts1.length with hl|hl
  ·rw[h'.old he i hl] at ht
   exact(h.new (h'.err he) i t hi ht).mono h'.len
  ·exact h'.new he i t hl ht
 ext:=fun he i t hi ht=>by
  rcases Nat.lt_or_ge i ts1.length with hl|hl
  ·rw[h'.old he i hl] at ht
   exact(h.ext (h'.err he) i t hi ht).grow h' he
  ·exact h'.ext he i t hl ht
theorem aP.weak{ts ts':List am}{e e1 e':Int}(h:aP ts e1 ts' e')(he:e1=0→e=0):aP ts e ts' e':=
 ⟨h.len,h.cap,fun h'=>he (h.err h'),h.old,h.new,h.ext⟩
theorem aP.push{ts:List am}{e:Int}(h:ts.length<60)(t:am)(ht:lh (ts.length+1) t)(hf:t.fields=[]):aP ts e (ts++[t]) e where
 len:=by simp
 cap:=by simp;omega
 err:=fun h=>h
 old:=fun _ i hi=>by rw[List.getElem?_append_left hi]
 new:=fun _ i t' hi ht'=>by
  rw[List.getElem?_append_right hi] at ht'
  have hl:=(List.getElem?_eq_some_iff.1 ht').1
  simp only[List.length_singleton] at hl
  have:i-ts.length=0:=by omega
  rw[this] at ht'
  simp only[List.getElem?_cons_zero,Option.some.injEq] at ht'
  subst ht'
  simpa using ht
 ext:=fun _ i t' hi ht'=>by
  rw[List.getElem?_append_right hi] at ht'
  have hl:=(List.getElem?_eq_some_iff.1 ht').1
  simp only[List.length_singleton] at hl
  have:i-ts.length=0:=by omega
  rw[this] at ht'
  simp only[List.getElem?_cons_zero,Option.some.injEq] at ht'
  subst ht'
  exact .nil hf
def ahq(t0 t:am):Prop:=(t0.kind≤11∧t.kind≤11)∨¬t0.kind≤11
theorem bZ.set{ts:List am}{a:Nat}{t0 t:am}(h0:ts[a]? =some t0)(hs:ahq t0 t){n:Nat}(hn:a<n∨t0.kind≤11){i:Int}{b:Nat}(h:bZ ts n i b):bZ (ts.set a t) n i b:=by
 have ha:=(List.getElem?_eq_some_iff.1 h0).1
 refine h.keep (fun i u hu hk=>?_) (fun i u hi hu hk=>?_)
 ·by_cases e:a=i
  ·subst e
   rw[h0] at hu;cases hu
   rcases hs with hs|hs
   ·exact⟨t,List.getElem?_set_self ha,hs.2⟩
   ·exact absurd hk hs
  ·exact⟨u,by rw[List.getElem?_set_ne e,hu],hk⟩
 ·have e:a≠i:=by
   rintro rfl
   rw[h0] at hu;cases hu
   rcases hn with hn|hn
   ·omega
   ·exact hk hn
  rw[List.getElem?_set_ne e,hu]
theorem aP.at_open{ts ts2:List am}{e e2:Int}{t0:am}(h:aP (ts++[t0]) e ts2 e2)(he:e2=0):ts2[ts.length]? =some t0:=by
 rw[h.old he ts.length (by simp),List.getElem?_append_right (Nat.le_refl _)]
 simp
theorem aP.close{ts ts2:List am}{e e2:Int}{t0 t:am}(h:aP (ts++[t0]) e ts2 e2)(ht:lh ts2.length t)
  (hs:e2=0→ahq t0 t) (hx:e2=0→q8 (ts2.set ts.length t) ts.length t):aP ts e (ts2.set ts.length t) e2 where
 len:=by have:=h.len;simp at this ⊢;omega
 cap:=by simpa using h.cap
 err:=h.err
 old:=fun he i hi=>by
  rw[List.getElem?_set_ne (by omega),h.old he i (by simp;omega),List.getElem?_append_left hi]
 new:=fun he i t' hi ht'=>by
  have hlen:=h.len
  simp only[List.length_append,List.length_singleton] at hlen
  simp only[List.length_set] at ht' ⊢
  rcases Nat.lt_or_eq_of_le hi with hl|hl
  ·rw[List.getElem?_set_ne (by omega)] at ht'
   exact h.new he i t' (by simp;omega) ht'
  ·subst hl
   rw[List.getElem?_set_self (by omega)] at ht'
   cases ht'
   exact ht
 ext:=fun he i t' hi ht'=>by
  have hlen:=h.len
  simp only[List.length_append,List.length_singleton] at hlen
  rcases Nat.lt_or_eq_of_le hi with hl|hl
  ·rw[List.getElem?_set_ne (by omega)] at ht'
   intro f hf
   obtain⟨b,b1,b2⟩:=h.ext he i t' (by simp;omega) ht' f hf
   exact⟨b,b1,b2.set (h.at_open he) (hs he) (.inl hl)⟩
  ·subst hl
   rw[List.getElem?_set_self (by omega)] at ht'
   cases ht'
   exact hx he
theorem aP.sch{ts:List am}(h:aP [] 0 ts 0)(h0:0<ts.length):ahN ts∧∀(i:Nat) t,ts[i]? =some t→q8 ts i t:=by
 refine⟨⟨⟨h0,h.cap⟩,fun t ht=>?_⟩,fun i t ht=>h.ext rfl i t (by simp) ht⟩
 obtain⟨i,hi,rfl⟩:=List.mem_iff_getElem.1 ht
 exact h.new rfl i _ (by simp) (List.getElem?_eq_getElem hi)
theorem bY.kids{b:Nat}{k n:Int}{s:List UInt8}{l:List ak}{names:List (List UInt8)}(h:bY b (.mk k n s l names)):
  s.length≤100∧l.length≤b∧names.length≤l.length∧(∀x∈names,x.length≤100)∧(k=6→names.length=l.length)∧∀c∈l,bY b c:=by
 cases h with
 |mk _ _ _ _ _ h1 h2 h3 h4 h5 h6=>exact⟨h1,h2,h3,h4,h5,h6⟩
theorem bY.sized{b:Nat}{k n:Int}{s:List UInt8}{l:List ak}{names:List (List UInt8)}(h:bY b (.mk k n s l names)){c:ak}(hc:bc names l [115,105,122,101]=some c):c.n≤zO:=by
 cases h with
 |mk _ _ _ _ _ h1 h2 h3 h4 h5 h6 h7 h8=>exact h7 c hc
theorem bY.named{b:Nat}{k n:Int}{s:List UInt8}{l:List ak}{names:List (List UInt8)}(h:bY b (.mk k n s l names)){c:ak}(hc:bc names l [110,97,109,101]=some c):im c.s:=by
 cases h with
 |mk _ _ _ _ _ h1 h2 h3 h4 h5 h6 h7 h8=>exact h8 c hc
theorem bY.eta{b:Nat}{c:ak}:bY b (.mk c.kind c.n c.s c.l c.names)↔bY b c:=by
 cases c;exact Iff.rfl
theorem yB(c:ak):szJ (.mk c.kind c.n c.s c.l c.names)=szJ c:=by cases c;rfl
theorem cd(k n:Int)(s:List UInt8)(l:List ak)(names:List (List UInt8)):szJ (.mk k n s l names)=ch l+1:=rfl
theorem abv:∀(l:List ak)(c:ak),c∈l→szJ c≤ch l
 | [],c,h=>by cases h
 |d::l,c,h=>by
  rcases List.mem_cons.1 h with rfl|h
  ·simp only[ch];omega
  ·have:=abv l c h
   simp only[ch];omega
theorem bY.zero{b:Nat}:bY b (.mk 0 0 [] [] []):=.mk _ _ _ _ _ (by simp) (by simp) (by simp) (by simp) (by simp) (by simp) (by simp[bc]) (by simp[bc])
theorem bY.getD{b:Nat}{l:List ak}(h:∀c∈l,bY b c)(i:Nat):bY b (l.getD i (az .jnode)):=by
 rw[List.getD_eq_getElem?_getD]
 cases hi:l[i]? with
 |none=>exact bY.zero
 |some c=>exact h c (List.mem_of_getElem? hi)
theorem ael(l:List ak)(i:Nat)(h:i<l.length):szJ (l.getD i (az .jnode))≤ch l:=by
 rw[List.getD_eq_getElem?_getD,List.getElem?_eq_getElem h]
 exact abv l _ (List.getElem_mem h)
theorem bY.up{b b':Nat}(hb:b≤b'):∀{c:ak},bY b c→bY b' c:=by
 intro c h
 induction h with
 |mk k n s l names h1 h2 h3 h4 h5 _ h7 h8 ih=>exact .mk k n s l names h1 (Nat.le_trans h2 hb) h3 h4 h5 ih h7 h8
theorem bF.kids{k n:Int}{s:List UInt8}{l:List ak}{names:List (List UInt8)}(h:bF (.mk k n s l names)):
  s.length≤100∧l.length≤8∧names.length≤l.length∧(∀x∈names,x.length≤100)∧(k=6→names.length=l.length)∧∀c∈l,bF c:=bY.kids h
theorem bF.eta{c:ak}:bF (.mk c.kind c.n c.s c.l c.names)↔bF c:=bY.eta
theorem bF.zero:bF (.mk 0 0 [] [] []):=bY.zero
theorem bF.getD{l:List ak}(h:∀c∈l,bF c)(i:Nat):bF (l.getD i (az .jnode)):=bY.getD h i
theorem z6:∀{names:List (List UInt8)}{l:List ak}{name:List UInt8}{c:ak},bc names l name=some c→c∈l
 | [],l,_,_,h=>by simp[bc] at h
 |x::ns,[],_,_,h=>by simp[bc] at h
 |x::ns,d::l,name,c,h=>by
  simp only[bc] at h
  split at h
  ·simp at h;simp[h]
  ·exact List.mem_cons_of_mem _ (z6 h)
theorem ah6{b:Nat}{o:Option ak}{l:List ak}(h:∀c∈l,bY b c)(ho:∀c,o=some c→c∈l):bY b (.mk (dH o).1 (dH o).2.1 (dH o).2.2.1 (dH o).2.2.2.1 (dH o).2.2.2.2.1):=by
 cases o with
 |none=>exact bY.zero
 |some c=>exact bY.eta.2 (h c (ho c rfl))
theorem nJ{b:Nat}{k:Int}{names:List (List UInt8)}{l:List ak}{name:List UInt8}(h:∀c∈l,bY b c):
  bY b (.mk (dH (if k=6 then bc names l name else none)).1 (dH (if k=6 then bc names l name else none)).2.1 (dH (if k=6 then bc names l name else none)).2.2.1 (dH (if k=6 then bc names l name else none)).2.2.2.1 (dH (if k=6 then bc names l name else none)).2.2.2.2.1):=
 ah6 h fun c hc=>by
  split at hc
  ·exact z6 hc
  ·cases hc
theorem yC{k:Int}{names:List (List UInt8)}{l:List ak}{name:List UInt8}:
  szJ (.mk (dH (if k=6 then bc names l name else none)).1 (dH (if k=6 then bc names l name else none)).2.1 (dH (if k=6 then bc names l name else none)).2.2.1 (dH (if k=6 then bc names l name else none)).2.2.2.1 (dH (if k=6 then bc names l name else none)).2.2.2.2.1)≤ch l+1∧
  ((dH (if k=6 then bc names l name else none)).2.2.2.2.2 =true→szJ (.mk (dH (if k=6 then bc names l name else none)).1 (dH (if k=6 then bc names l name else none)).2.1 (dH (if k=6 then bc names l name else none)).2.2.1 (dH (if k=6 then bc names l name else none)).2.2.2.1 (dH (if k=6 then bc names l name else none)).2.2.2.2.1)≤ch l):=by
 generalize ho:(if k=6 then bc names l name else none)=o
 cases o with
 |none=>exact⟨by simp[dH,szJ,ch],by simp[dH]⟩
 |some c=>
  have hc:c∈l:=by
   split at ho
   ·exact z6 ho
   ·cases ho
  have:=abv l c hc
  have e:=yB c
  simp only[dH,e]
  omega
theorem At.ext{ts:List am}{m:Nat}{a:Int}{ts':List am}(h:At ts m a ts'):∃b,b≤m∧bZ ts' 0 a b:=by
 obtain⟨b,h1,h2⟩:=h.2.1
 exact⟨b,h1,h2.low (Nat.zero_le _)⟩
theorem At.leaf{ts ts':List am}{m:Nat}{a:Int}{t:am}(hm:1≤m)(h0:0≤a)(h:ts'[a.toNat]? =some t)(hk:t.kind≤11)(hz:ts=[]→a=0):At ts m a ts':=
 ⟨⟨h0,by have:=(List.getElem?_eq_some_iff.1 h).1;omega⟩,⟨1,hm,.leaf a t h0 h hk⟩,hz⟩
theorem At.up{ts ts':List am}{m m':Nat}{a:Int}(h:At ts m a ts')(hm:m≤m'):At ts m' a ts':=by
 obtain⟨h1,⟨b,h2,h3⟩,h4⟩:=h
 exact⟨h1,⟨b,by omega,h3⟩,h4⟩
end Go.Proofs.YtkinflmjagfapaaDoor
end
noncomputable section
namespace Go.Proofs.YtkinflmjagfapaaDoor
open Go.AM
set_option autoImplicit false
set_option linter.unusedVariables false
set_option linter.unusedSimpArgs false
set_option maxRecDepth 100000
theorem z7(s:List UInt8):∃r,gY s r:=by
 apply abr 100
 unfold vT kf
 refine ba (fun x=>match x with|(a,f,w,i)=>a=s∧w=iD∧0≤i∧i≤14∧∀j:Nat,(j:Int)<i→iD.getD j []≠s) (fun x=>(14-x.2.2.2).toNat) ?_ _ _ ⟨rfl,rfl,by simp,by simp,fun j hj=>by omega⟩ (by simp)
 rintro again ⟨a,f,w,i⟩ ⟨rfl,rfl,i1,i2,i3⟩ ih
 dsimp only at ih
 have e:=ax (i+1) (by omega)
 unfold lQ
 dsimp only
 have hw:iD.length=14:=rfl
 rw[hw]
 repeat' (first|(with_reducible refine au ?_ ?_<;>(intro hb;(try simp only[bnl] at hb);(try revert hb;intro _)))|with_reducible refine aA ?_ ?_|with_reducible refine ar ?_|fail)
 ·simp only[bnl];omega
 ·rename_i h1 h2
  refine⟨_,_,rfl,rfl,?_,?_,?_,?_⟩
  ·simp only[e];omega
  ·simp only[e];omega
  ·simp only[e]
   intro _
   rw[show i+1-1=i by omega]
   exact h2
  ·simp only[e]
   intro h3;omega
 ·rename_i h1 h2
  refine ih (a,f,iD,_) ?_ ?_
  ·simp only[e]
   refine⟨trivial,trivial,by omega,by omega,fun j hj=>?_⟩
   by_cases hji:(j:Int)=i
   ·have:i.toNat=j:=by omega
    rw[this] at h2
    exact h2
   ·exact i3 j (by omega)
  ·simp only[e];omega
 ·rename_i h1
  exact⟨_,_,rfl,rfl,by simp,by simp,by simp,fun _ j hj=>i3 j (by omega)⟩
theorem ahr(k:Int):∃r,lk k r:=by
 apply abt 1
 unfold vV vU
 dsimp only
 repeat' (first|(with_reducible refine au ?_ ?_<;>(intro hb;(try simp only[bnl] at hb);(try revert hb;intro _)))|with_reducible refine aA ?_ ?_|with_reducible refine ar ?_|fail)
 ·exact⟨_,_,rfl,rfl⟩
 ·exact⟨_,_,rfl,rfl⟩
 ·simp only[bnl,List.length_cons,List.length_nil];omega
 ·exact⟨_,_,rfl,rfl⟩
theorem yD(ts:List am)(e a0:Int)(a1:List UInt8)(a2:List (List UInt8))(a3:Int)(a4:List (List UInt8))(a5:Bool)(a6:List UInt8)(a7:Int)(a8:List aN)(a9:List Int)(h:ts.length≤60):
  ∃r,cr ts e a0 a1 a2 a3 a4 a5 a6 a7 a8 a9 r:=by
 apply wP 1
 unfold p9 p8
 dsimp only
 repeat' (first|(with_reducible refine au ?_ ?_<;>(intro hb;(try simp only[bnl] at hb);(try revert hb;intro _)))|with_reducible refine aA ?_ ?_|with_reducible refine ar ?_|(refine an (br _ _ _) ?_;rintro _ ⟨-,rfl⟩;try dsimp only)|fail)
 ·rename_i hb
  refine⟨_,_,_,_,rfl,rfl,?_⟩
  simp only[gu]
  simp only[if_pos (show 60≤ts.length by omega)]
 ·first|(simp only[bnl,lnl];done)|(simp only[bnl,lnl];omega)
 ·rename_i hb
  refine⟨_,_,_,_,rfl,rfl,?_⟩
  simp only[gu,List.length_append,List.length_cons,List.length_nil]
  rw[if_neg (by omega),ax _ (by omega)]
  simp
theorem aem(ts:List am)(e:Int)(s:List UInt8)(h:ts.length≤60):∃r,bB ts e s r:=by
 apply vc 100
 unfold pi eN
 refine ba (fun x=>x.1=s∧x.2.2.1=ts∧x.2.2.2=e∧0≤x.2.1∧x.2.1≤(ts.length:Int)) (fun x=>((ts.length:Int)-x.2.1).toNat) ?_ _ _ ⟨rfl,rfl,rfl,by simp,by simp⟩ (by simp;omega)
 rintro again ⟨s,i,ts,e⟩ ⟨rfl,rfl,rfl,i1,i2⟩ ih
 simp only at i1 i2 ih h ⊢
 unfold gK
 dsimp only
 have next:i<ts.length→Tot (again (s,IntKind.i64.wrap (i+1),ts,e)) _:=fun hl=>ih (s,IntKind.i64.wrap (i+1),ts,e) (by simp only[ax (i+1) (by omega)];exact⟨trivial,trivial,trivial,by omega,by omega⟩) (by simp only[ax (i+1) (by omega)];omega)
 repeat' (first|(with_reducible refine au ?_ ?_<;>(intro hb;(try simp only[bnl] at hb);(try revert hb;intro _)))|with_reducible refine aA ?_ ?_|with_reducible refine ar ?_|(exact next (by omega))|fail)
 all_goals first|(first|(simp only[bnl,lnl];done)|(simp only[bnl,lnl];omega))|(refine⟨_,_,_,_,_,rfl,rfl,rfl,?_⟩;simp;done)|(refine⟨_,_,_,_,_,rfl,rfl,rfl,fun _=>⟨by omega,by omega,by simp only;omega⟩⟩)
end Go.Proofs.YtkinflmjagfapaaDoor
end
noncomputable section
namespace Go.Proofs.YtkinflmjagfapaaDoor
open Go.AM
set_option autoImplicit false
set_option linter.unusedVariables false
set_option maxRecDepth 100000
noncomputable def vg:ay:=tab (P:=Tryd.prog) [] [] [] []
def vW:IR:=Sq (Rs [Fa 7 0 2,Lq 8 7,Bc 9 .eql 8 6,Mv 10 9,Gt 10 (.mov 11 6),Gt 10 (.fad 12 4 2),Gt 10 (.lde 13 1 false 12),Gt 10 (.lenl 14 13),Gt 10 (.bin 15 .lss 11 14),Pa 16 10 15,Mv 17 16,Gt 17 (.mov 18 6),Gt 17 (.fad 19 3 2),Gt 17 (.lde 20 1 false 19),Gt 17 (.lenl 21 20),Gt 17 (.bin 22 .lss 18 21),Pa 23 17 22] (Cn 23 .skip (.exit 0))) (Sq (.block 1 (Rs [Fa 26 4 2,Lq 27 26,Mv 28 6,Ix 29 .str 27 28,Lq 30 29,Mv 31 1,Bi 32 .eql 30 31] (Cn 32 (Rs [Fa 33 3 2,Lq 34 33,Mv 35 6,Ix 36 .jnode 34 35,Ld 37 5 true 36,Sv 5 4 37,Mb 5 true] .ret) .skip))) (Rg [Mv 24 6,Bc 25 .add 24 1,Mv 6 25]))
def vX:IR:=Rs [Pp (.bld 38 [vI 0,vI 0,vS,nl .jnode,nl .str] []),Sv 5 4 38,Mb 5 false] .ret
def ae8:IR:=Rs [Bx 2 0,Pp (.new 4 [vI 0,vI 0,vS,nl .jnode,nl .str]),Mb 5 false] (Sq (Rs [Mi 6 0] (.block 0 (.loop [1,2,4,6,1000000] 1 vW))) vX)
def zt:List RV:=[.cell 4 5 true,.t 5]
theorem ae9:FnC Tryd.prog vg [] 0 aaz Tryd.f41 ae8 zt:=fnC Tryd.func41
def aen(R:IR→(Ex→St→Ro)→St→Ro)(a:St→Ro):Ex→St→Ro:=(bO a [1,2,4,6,1000000] 1 (aJ 0 (kseq (R vX) (fin zt))))
abbrev oE:Type:=(Bs×Int×Int×Bs×List ak×Bss×Int×Int×Int×Bs×List ak×Bss)
def mU:oE→St:=fun(c,d,e,f,g,h,i,j,k,l,a,b)=>{env:=(.undef::.str c::.ea [.int .i64 d,.int .i64 e,.str f,.sl .jnode (.may false) g,.sl .str (.may false) h]::.undef::.ptr 0 0::.undef::.int .i64 i::(U 32 [])),hp:=[some [.int .i64 j,.int .i64 k,.str l,.sl .jnode .own a,.sl .str .own b]]}
def rt(N:Nat):(St→Ro)→St→Ro:=fun a s=>run vg N vW (aen (run vg N) a) s
def oF(N:Nat)(c:oE→Ro):oE→Ro:=fun(q,d,g,h,a,b,e,i,j,k,m,o)=>
 let p:=fun r t u v w x y z=>(some (.tup [.agg [.int .i64 r,.int .i64 t,.str u,.sl .jnode (.may false) v,.sl .str (.may false) w],.bool x],[some [.int .i64 r,.int .i64 t,.str u,y,z]]):Ro)
 cond (d==6) (
 let x1:=(↑(List.length b):Int)
 cond (decide (e<x1)) (
 let x2:=(↑(List.length a):Int)
 cond (decide (e<x2)) (
 chk (ixl e b) (
 let x3:=List.getD b (Int.toNat e) (az .str)
 cond (decide (x3=q)) (
 chk (ixl e a) (
 let f:=(List.getD a (Int.toNat e) (az .jnode))
 p f.kind f.n f.s f.l f.names true (.sl .jnode (.may false) f.l) (.sl .str (.may false) f.names))) (
 let x5:=(IntKind.wrap .i64 (e+1))
 c (q,d,g,h,a,b,x5,i,j,k,m,o)))) (
 p 0 0 ([]:Bs) ([]:List ak) ([]:Bss) false (.sl .jnode .own ([]:List ak)) (.sl .str .own ([]:Bss)))) (
 p 0 0 ([]:Bs) ([]:List ak) ([]:Bss) false (.sl .jnode .own ([]:List ak)) (.sl .str .own ([]:Bss)))) (
 p 0 0 ([]:Bs) ([]:List ak) ([]:Bss) false (.sl .jnode .own ([]:List ak)) (.sl .str .own ([]:Bss)))
theorem acW(N:Nat):LB (rt N) mU (oF N):=fun _ _=>by kernel_rfl
def mL(N:Nat)(a b:Int)(c:Bs)(d:List ak)(e:Bss)(f:Bs)(g:oE→Ro):Ro:=
 g (f,a,b,c,d,e,0,0,0,([]:Bs),([]:List ak),([]:Bss))
def zu(N:Nat)(a b:Int)(c:Bs)(d:List ak)(e:Bss)(f:Bs):Ro:=mL N a b c d e f (fun z=>aT N (oF N) z)
theorem aeo(N:Nat)(a c:Int)(d:Bs)(f:List ak)(g:Bss)(i:Bs)(h:Tot (zu N a c d f g i) (fun z=>∃(j:Int)(k:Int)(l:Bs)(m:List ak)(n:Bss)(o:Bool)(rest:List aq),z.1.dimR=.tup [.agg [.int .i64 j,.int .i64 k,.str l,.sl .jnode (.may false) m,.sl .str (.may false) n],.bool o]∧z.2=rest∧bC a c d f g i (j,k,l,m,n,o))):∃r,bP a c d f g i r:=ae9.finP (N:=N) ((cn _ (by kernel_rfl) rfl (fun C=>mL N a c d f g i (fun z=>C 1000000 (mU z))) (fun C=>by kernel_rfl)).trans (Eq.trans (b:=mL N a c d f g i (fun z=>bh N (rt N) (mU z))) (by kernel_rfl) (congrArg (mL N a c d f g i) (funext fun z=>bj (mU) (rt N) (oF N) (acW N) N z)))) h fun _ ⟨j,k,l,m,n,o,_,e,_,q⟩=>⟨(j,k,l,m,n,o),e,q⟩
noncomputable def sU:ay:=tab (P:=Tryd.prog) [] [] [] [acm,adT]
def tN:IR:=Sq (Rs [Mv 4 3,Mv 5 0,Pp (.lens 6 5),Bi 7 .lss 4 6] (Cn 7 .skip (.exit 0))) (Sq (.block 1 (Rs [Mv 10 0,Mv 11 3,Pp (.idx 12 10 11),Ca 13 122 [12],Un 14 13,Mv 15 14,Gt 15 (.mov 16 3),Gt 15 (.bin 17 .eql 16 (kI 0)),Gt 15 (.mov 18 17),Gf 18 (.mov 19 0),Gf 18 (.mov 20 3),Gf 18 (.idx 21 19 20),Gf 18 (.call 22 123 [21]),Gf 18 (.un 23 .not 22),Gt 15 (.pick 24 18 (kB true) 23),Pa 25 15 24] (Cn 25 (Rs [Mb 2 false] .ret) .skip))) (Rg [Mv 8 3,Bc 9 .add 8 1,Mv 3 9]))
def tO:IR:=Rs [Mv 26 0,Pp (.lens 27 26),Bc 28 .gtr 27 0,Mv 2 28] .ret
def aep:IR:=Rs [Mb 2 false] (Sq (Rs [Mi 3 0] (.block 0 (.loop [0,3,1000000] 0 tN))) tO)
def yh:List RV:=[.t 2]
theorem aeq:FnC Tryd.prog sU [] 0 zk Tryd.f104 aep yh:=fnC Tryd.func104
def acX(R:IR→(Ex→St→Ro)→St→Ro)(a:St→Ro):Ex→St→Ro:=(bO a [0,3,1000000] 0 (aJ 0 (kseq (R tO) (fin yh))))
abbrev mV:Type:=(Bs×Int)
def lS:mV→St:=fun(a,b)=>{env:=(.str a::.undef::.undef::.int .i64 b::(U 25 [])),hp:=[]}
def qk(N:Nat):(St→Ro)→St→Ro:=fun a s=>run sU N tN (acX (run sU N) a) s
def mW(N:Nat)(a:mV→Ro):mV→Ro:=fun(b,c)=>
 let d:=(↑(List.length b):Int)
 cond (decide (c<d)) (
 chk (ixl c b) (
 let e:=(↑(UInt8.toNat (List.getD b (Int.toNat c) 0)):Int)
 ao (j9 e) (fun(f:Bool)=>
 cond (!f) (
 cond (c==0) (
 some (.bool false,[])) (
 chk (ixl c b) (
 let g:=(↑(UInt8.toNat (List.getD b (Int.toNat c) 0)):Int)
 ao (ln g) (fun(h:Bool)=>
 cond (!h) (
 some (.bool false,[])) (
 let i:=(IntKind.wrap .i64 (c+1))
 a (b,i)))))) (
 let j:=(IntKind.wrap .i64 (c+1))
 a (b,j))))) (
 let k:=(↑(List.length b):Int)
 some (.bool (decide (0<k)),[]))
theorem abw(N:Nat):LB (qk N) lS (mW N):=fun _ _=>by kernel_rfl
def lz(N:Nat)(a:Bs)(b:mV→Ro):Ro:=
 b (a,0)
def yi(N:Nat)(a:Bs):Ro:=lz N a (fun z=>aT N (mW N) z)
theorem acY(N:Nat)(a:Bs)(h:Tot (yi N a) (fun z=>∃(c:Bool)(rest:List aq),z.1.dimR=.bool c∧z.2=rest)):∃r,fe a r:=aeq.finP0 (N:=N) ((cn _ (by kernel_rfl) rfl (fun C=>lz N a (fun z=>C 1000000 (lS z))) (fun C=>by kernel_rfl)).trans (Eq.trans (b:=lz N a (fun z=>bh N (qk N) (lS z))) (by kernel_rfl) (congrArg (lz N a) (funext fun z=>bj (lS) (qk N) (mW N) (abw N) N z)))) h fun _ ⟨c,_,e,_⟩=>⟨(c),e⟩
noncomputable def acZ:ay:=tab (P:=Tryd.prog) [] [] [] []
def abx:IR:=Rs [Mb 2 false] (Rs [Mv 3 0,Pp (.bin 4 .geq 3 (.c (.int .u8 97))),Mv 5 4,Gt 5 (.mov 6 0),Gt 5 (.bin 7 .leq 6 (.c (.int .u8 122))),Pa 8 5 7,Mv 9 8,Gf 9 (.mov 10 0),Gf 9 (.bin 11 .geq 10 (.c (.int .u8 65))),Gf 9 (.mov 12 11),Gt 12 (.mov 13 0),Gt 12 (.bin 14 .leq 13 (.c (.int .u8 90))),Gf 9 (.pick 15 12 14 (kB false)),Po 16 9 15,Mv 17 16,Gf 17 (.mov 18 0),Gf 17 (.bin 19 .eql 18 (.c (.int .u8 95))),Po 20 17 19,Mv 2 20] .ret)
def aby:List RV:=[.t 2]
theorem abz:FnC Tryd.prog acZ [] 0 vu Tryd.f122 abx aby:=fnC Tryd.func122
def tP(N:Nat)(a:Int):Ro:=
 let b:=(some (.bool (a==95),[]):Ro)
 cond (decide (97≤a)) (
 cond (decide (a≤122)) (
 some (.bool true,[])) (
 cond (decide (65≤a)) (
 cond (decide (a≤90)) (
 some (.bool true,[])) (
 b)) (
 b))) (
 cond (decide (65≤a)) (
 cond (decide (a≤90)) (
 some (.bool true,[])) (
 b)) (
 b))
def tQ(N:Nat)(a:Int):Ro:=tP N a
theorem aaP(N:Nat)(b:Int)(h:Tot (tQ N b) (fun z=>∃(a:Bool)(rest:List aq),z.1.dimR=.bool a∧z.2=rest)):∃r,j9 b r:=abz.finP0 (N:=N) (by kernel_rfl) h fun _ ⟨a,_,e,_⟩=>⟨(a),e⟩
noncomputable def aer:ay:=tab (P:=Tryd.prog) [] [] [] []
def ac0:IR:=Rs [Mb 2 false] (Rs [Mv 3 0,Pp (.bin 4 .geq 3 (.c (.int .u8 48))),Mv 5 4,Gt 5 (.mov 6 0),Gt 5 (.bin 7 .leq 6 (.c (.int .u8 57))),Pa 8 5 7,Mv 2 8] .ret)
def ac1:List RV:=[.t 2]
theorem ac2:FnC Tryd.prog aer [] 0 xt Tryd.f123 ac0 ac1:=fnC Tryd.func123
def vY(N:Nat)(a:Int):Ro:=
 cond (decide (48≤a)) (
 some (.bool (decide (a≤57)),[])) (
 some (.bool false,[]))
def vZ(N:Nat)(a:Int):Ro:=vY N a
theorem abA(N:Nat)(b:Int)(h:Tot (vZ N b) (fun z=>∃(a:Bool)(rest:List aq),z.1.dimR=.bool a∧z.2=rest)):∃r,ln b r:=ac2.finP0 (N:=N) (by kernel_rfl) h fun _ ⟨a,_,e,_⟩=>⟨(a),e⟩
noncomputable def afa:ay:=tab (P:=Tryd.prog) [] [] [] []
def aes:IR:=Rs [Ms 4 []] (Sq (Rs [Mv 5 0,Pp (.bin 6 .eql 5 (kS [])),Mv 7 6,Gf 7 (.mov 8 1),Gf 7 (.bin 9 .eql 8 (kS [])),Po 10 7 9] (Cn 10 (Rs [Mv 11 0,Mv 12 1,Bi 13 .add 11 12,Mv 4 13] .ret) .skip)) (Rs [Mv 14 0,Pp (.bin 15 .add 14 (kS [46])),Mv 16 1,Bi 17 .add 15 16,Mv 4 17] .ret))
def aet:List RV:=[.t 4]
theorem aeu:FnC Tryd.prog afa [] 0 zl Tryd.f102 aes aet:=fnC Tryd.func102
def yj(N:Nat)(a b:Bs):Ro:=
 let d:=decide (a=([]:Bs))
 cond d (
 chk (decide (List.length a+List.length b≤9223372036854775807)) (
 some (.str (a++b),[]))) (
 let e:=decide (b=([]:Bs))
 cond e (
 chk (decide (List.length a+List.length b≤9223372036854775807)) (
 some (.str (a++b),[]))) (
 chk (decide (List.length a+List.length ([46]:Bs)≤9223372036854775807)) (
 let c:=(a++([46]:Bs))
 chk (decide (List.length c+List.length b≤9223372036854775807)) (
 some (.str (c++b),[])))))
def yk(N:Nat)(a b:Bs):Ro:=yj N a b
theorem ac3(N:Nat)(b c:Bs)(h:Tot (yk N b c) (fun z=>∃(a:Bs)(rest:List aq),z.1.dimR=.str a∧z.2=rest∧lG b c (a))):∃r,mw b c r:=aeu.finP (N:=N) (by kernel_rfl) h fun _ ⟨a,_,e,_,q⟩=>⟨(a),e,q⟩
noncomputable def ru:ay:=tab (P:=Tryd.prog) [] [] [] [su]
def se:IR:=Sq (Rs [Mv 5 4,Mv 6 0,Pp (.lens 7 6),Bi 8 .leq 5 7] (Cn 8 .skip (.exit 0))) (Sq (.block 1 (Sq (Rs [Mv 11 4,Mv 12 0,Pp (.lens 13 12),Bi 14 .lss 11 13,Mv 15 14,Gt 15 (.mov 16 0),Gt 15 (.mov 17 4),Gt 15 (.idx 18 16 17),Gt 15 (.bin 19 .neq 18 (.c (.int .u8 46))),Pa 20 15 19] (Cn 20 (Rs [Mv 21 3,Mv 22 0,Mv 23 4,Mv 24 4,Bc 25 .add 24 1,Pp (.subs 26 22 (some 23) (some 25)),Bi 27 .add 21 26,Mv 3 27] (.exit 1)) .skip)) (Sq (Rs [Mv 28 3,Ca 29 104 [28],Un 30 29] (Cn 30 (Rs [Mb 2 false] .ret) .skip)) (Rg [Ms 3 []])))) (Rg [Mv 9 4,Bc 10 .add 9 1,Mv 4 10]))
def rv:IR:=Rs [Mb 2 true] .ret
def ac4:IR:=Rs [Mb 2 false] (Rs [Ms 3 []] (Sq (Rs [Mi 4 0] (.block 0 (.loop [0,3,4,1000000] 0 se))) rv))
def wa:List RV:=[.t 2]
theorem ac5:FnC Tryd.prog ru [] 0 xu Tryd.f103 ac4 wa:=fnC Tryd.func103
def abB(R:IR→(Ex→St→Ro)→St→Ro)(a:St→Ro):Ex→St→Ro:=(bO a [0,3,4,1000000] 0 (aJ 0 (kseq (R rv) (fin wa))))
abbrev lT:Type:=(Bs×Bs×Int)
def kR:lT→St:=fun(a,b,c)=>{env:=(.str a::.undef::.undef::.str b::.int .i64 c::(U 26 [])),hp:=[]}
def pz(N:Nat):(St→Ro)→St→Ro:=fun a s=>run ru N se (abB (run ru N) a) s
def lU(N:Nat)(a:lT→Ro):lT→Ro:=fun(c,d,b)=>
 let g:=(↑(List.length c):Int)
 cond (decide (b≤g)) (
 let h:=(↑(List.length c):Int)
 cond (decide (b<h)) (
 chk (ixl b c) (
 let i:=(↑(UInt8.toNat (List.getD c (Int.toNat b) 0)):Int)
 cond (!(i==46)) (
 let e:=(IntKind.wrap .i64 (b+1))
 chk (decide (0≤e)&&decide (e≤(↑(List.length c):Int))&&(decide (0≤b)&&decide (b≤e))) (
 let f:=(List.drop (Int.toNat b) (List.take (Int.toNat e) c))
 chk (decide (List.length d+List.length f≤9223372036854775807)) (
 let j:=(IntKind.wrap .i64 (b+1))
 a (c,(d++f),j)))) (
 ao (fe d) (fun(k:Bool)=>
 cond (!k) (
 some (.bool false,[])) (
 let l:=(IntKind.wrap .i64 (b+1))
 a (c,([]:Bs),l)))))) (
 ao (fe d) (fun(m:Bool)=>
 cond (!m) (
 some (.bool false,[])) (
 let n:=(IntKind.wrap .i64 (b+1))
 a (c,([]:Bs),n))))) (
 some (.bool true,[]))
theorem aaQ(N:Nat):LB (pz N) kR (lU N):=fun _ _=>by kernel_rfl
def kg(N:Nat)(a:Bs)(b:lT→Ro):Ro:=
 b (a,([]:Bs),0)
def wb(N:Nat)(a:Bs):Ro:=kg N a (fun z=>aT N (lU N) z)
theorem abC(N:Nat)(a:Bs)(h:Tot (wb N a) (fun z=>∃(c:Bool)(rest:List aq),z.1.dimR=.bool c∧z.2=rest)):∃r,lm a r:=ac5.finP0 (N:=N) ((cn _ (by kernel_rfl) rfl (fun C=>kg N a (fun z=>C 1000000 (kR z))) (fun C=>by kernel_rfl)).trans (Eq.trans (b:=kg N a (fun z=>bh N (pz N) (kR z))) (by kernel_rfl) (congrArg (kg N a) (funext fun z=>bj (kR) (pz N) (lU N) (aaQ N) N z)))) h fun _ ⟨c,_,e,_⟩=>⟨(c),e⟩
end Go.Proofs.YtkinflmjagfapaaDoor
end
noncomputable section
namespace Go.Proofs.YtkinflmjagfapaaDoor
open Go.AM
set_option autoImplicit false
set_option linter.unusedVariables false
set_option linter.unusedSimpArgs false
set_option maxRecDepth 100000
theorem af1(c:Int):∃r,j9 c r:=by
 apply aaP 1
 unfold tQ tP
 dsimp only
 repeat' (first|(with_reducible refine au ?_ ?_<;>(intro hb;(try simp only[bnl] at hb);(try revert hb;intro _)))|with_reducible refine aA ?_ ?_|with_reducible refine ar ?_|fail)
 all_goals exact⟨_,_,rfl,rfl⟩
theorem agM(c:Int):∃r,ln c r:=by
 apply abA 1
 unfold vZ vY
 repeat' (first|(with_reducible refine au ?_ ?_<;>(intro hb;(try simp only[bnl] at hb);(try revert hb;intro _)))|with_reducible refine aA ?_ ?_|with_reducible refine ar ?_|fail)
 all_goals exact⟨_,_,rfl,rfl⟩
theorem vh(s:List UInt8)(hs:s.length≤1000000):∃r,fe s r:=by
 apply acY 2000000
 unfold yi lz
 refine ba (fun x=>x.1=s∧0≤x.2∧x.2≤(s.length:Int)) (fun x=>((s.length:Int)-x.2).toNat) ?_ _ _ ⟨rfl,by simp,by simp⟩ (by simp;omega)
 rintro again ⟨a,i⟩ ⟨rfl,i1,i2⟩ ih
 simp only at i1 i2 ih hs ⊢
 have next:i<a.length→Tot (again (a,IntKind.i64.wrap (i+1))) _:=fun h=>ih (a,IntKind.i64.wrap (i+1)) (by simp only[ax (i+1) (by omega)];exact⟨trivial,by omega,by omega⟩) (by simp only[ax (i+1) (by omega)];omega)
 unfold mW
 dsimp only
 repeat' (first|(with_reducible refine au ?_ ?_<;>(intro hb;(try simp only[bnl] at hb);(try revert hb;intro _)))|with_reducible refine aA ?_ ?_|with_reducible refine ar ?_|(refine an (af1 _) ?_;intro _ _)|(refine an (agM _) ?_;intro _ _)|(exact next (by assumption))|fail)
 all_goals first|exact⟨_,_,rfl,rfl⟩|(simp only[bnl];omega)
theorem ahs(a b:List UInt8)(ha:a.length≤1000000)(hb:b.length≤1000000):∃r,mw a b r:=by
 apply ac3 1
 unfold yk yj
 dsimp only
 repeat' (first|(with_reducible refine au ?_ ?_<;>(intro hb;(try simp only[bnl] at hb);(try revert hb;intro _)))|with_reducible refine aA ?_ ?_|with_reducible refine ar ?_|fail)
 all_goals first|exact⟨_,_,rfl,rfl,by simp only[lG,List.length_append,List.length_cons,List.length_nil];omega⟩|(simp only[bnl,List.length_append,List.length_cons,List.length_nil];omega)
theorem agN(s:List UInt8)(hs:s.length≤1000000):∃r,lm s r:=by
 apply abC 2000000
 unfold wb kg
 refine ba (fun x=>x.1=s∧0≤x.2.2∧x.2.2≤(s.length:Int)+1∧(x.2.1.length:Int)≤x.2.2) (fun x=>((s.length:Int)+1-x.2.2).toNat) ?_ _ _ ⟨rfl,by simp,by simp;omega,by simp⟩ (by simp;omega)
 rintro again ⟨a,p,i⟩ ⟨rfl,i1,i2,i3⟩ ih
 simp only at i1 i2 i3 ih hs ⊢
 have next:∀q:List UInt8,i≤a.length→(q.length:Int)≤i+1→Tot (again (a,q,IntKind.i64.wrap (i+1))) _:=fun q h hq=>ih (a,q,IntKind.i64.wrap (i+1)) (by simp only[ax (i+1) (by omega)];exact⟨trivial,by omega,by omega,by omega⟩) (by simp only[ax (i+1) (by omega)];omega)
 unfold lU
 dsimp only
 repeat' (first|(with_reducible refine au ?_ ?_<;>(intro hb;(try simp only[bnl] at hb);(try revert hb;intro _)))|with_reducible refine aA ?_ ?_|with_reducible refine ar ?_|(refine an (vh _ (by omega)) ?_;intro _ _)|fail)
 all_goals first|exact⟨_,_,rfl,rfl⟩|(refine next _ (by omega) ?_)|skip
 all_goals try simp(disch:=omega) only[uv,bnl,List.length_append,List.length_cons,List.length_nil,List.length_drop,List.length_take]
 all_goals first|omega|skip
theorem kq(k n:Int)(s:List UInt8)(l:List ak)(names:List (List UInt8))(name:List UInt8)(hl:names.length≤1000):∃r,bP k n s l names name r:=by
 apply aeo 2000
 unfold zu mL
 refine ba (fun x=>x.1=name∧x.2.1=k∧x.2.2.2.2.1=l∧x.2.2.2.2.2.1=names∧0≤x.2.2.2.2.2.2.1∧x.2.2.2.2.2.2.1≤(names.length:Int)∧∀j:Nat,(j:Int)<x.2.2.2.2.2.2.1→names.getD j []≠name)
  (fun x=>((names.length:Int)-x.2.2.2.2.2.2.1).toNat) ?_ _ _ ⟨rfl,rfl,rfl,rfl,by simp,by simp,fun j hj=>by simp at hj;omega⟩ (by simp;omega)
 rintro again ⟨a0,a1,a2,a3,a4,a5,i,b0,b1,b2,b3,b4⟩ ⟨rfl,rfl,rfl,rfl,i1,i2,i3⟩ ih
 simp only at i1 i2 i3 ih hl ⊢
 unfold oF
 dsimp only
 repeat' (first|(with_reducible refine au ?_ ?_<;>(intro hb;(try simp only[bnl] at hb);(try revert hb;intro _)))|with_reducible refine aA ?_ ?_|with_reducible refine ar ?_|fail)
 ·simp only[bnl];omega
 ·simp only[bnl];omega
 ·rename_i hk hb hc hb2
  have e:=aek (names:=a5) (l:=a4) (name:=a0) (i:=i.toNat) (by omega) (by omega) (fun j hj=>i3 j (by omega)) hb2
  refine⟨_,_,_,_,_,_,_,rfl,rfl,?_⟩
  simp only[bC]
  rw[if_pos hk,e];rfl
 ·rename_i hk hb hc hb2
  have ew:=ax (i+1) (by omega)
  refine ih _ ⟨rfl,rfl,rfl,rfl,?_,?_,?_⟩ ?_
  ·simp only[ew];omega
  ·simp only[ew];omega
  ·simp only[ew]
   intro j hj
   by_cases e:(j:Int)=i
   ·have:i.toNat=j:=by omega
    rw[this] at hb2
    exact hb2
   ·exact i3 j (by omega)
  ·simp only[ew];omega
 ·rename_i hk hb hc
  refine⟨_,_,_,_,_,_,_,rfl,rfl,?_⟩
  simp only[bC]
  rw[if_pos hk,yg (i:=i.toNat) (fun j hj=>i3 j (by omega)) (.inr (by omega))]
  rfl
 ·rename_i hk hb
  refine⟨_,_,_,_,_,_,_,rfl,rfl,?_⟩
  simp only[bC]
  rw[if_pos hk,yg (i:=i.toNat) (fun j hj=>i3 j (by omega)) (.inl (by omega))]
  rfl
 ·rename_i hk
  refine⟨_,_,_,_,_,_,_,rfl,rfl,?_⟩
  simp only[bC]
  rw[if_neg hk];rfl
end Go.Proofs.YtkinflmjagfapaaDoor
end
noncomputable section
namespace Go.Proofs.YtkinflmjagfapaaDoor
open Go.AM
set_option autoImplicit false
set_option linter.unusedVariables false
set_option linter.unusedSimpArgs false
set_option maxRecDepth 100000
theorem nz{e c:Int}(hc:c≠0):(if e=0 then c else e)≠0:=by split<;>assumption
theorem af2(s:List UInt8)(hs:s.length≤1000000):∃r,jn s r:=by
 apply zY 2000000
 unfold sb iN
 dsimp only
 refine ba (fun x=>x.1=s∧ -1≤x.2∧x.2<(s.length:Int)) (fun x=>(x.2+1).toNat) ?_ _ _ ⟨rfl,by simp only[ax ((s.length:Int)-1) (by omega)];omega,by simp only[ax ((s.length:Int)-1) (by omega)];omega⟩ (by simp only[ax ((s.length:Int)-1) (by omega)];omega)
 rintro again ⟨s,i⟩ ⟨rfl,i1,i2⟩ ih
 simp only at i1 i2 ih hs ⊢
 have e:=ax (i-1) (by omega)
 unfold jT
 dsimp only
 repeat' (first|(with_reducible refine au ?_ ?_<;>(intro hb;(try simp only[bnl] at hb);(try revert hb;intro _)))|with_reducible refine aA ?_ ?_|with_reducible refine ar ?_|fail)
 ·first|(simp only[bnl,lnl];done)|(simp only[bnl,lnl];omega)
 ·first|(simp only[bnl,lnl];done)|(simp only[bnl,lnl];omega)
 ·exact⟨_,_,rfl,rfl,by simp only[gp,List.length_drop,List.length_take];omega⟩
 ·exact ih (s,_) ⟨rfl,by simp only[e];omega,by simp only[e];omega⟩ (by simp only[e];omega)
 ·exact⟨_,_,rfl,rfl,by simp[gp]⟩
theorem ah7(ts:List am)(t:Int):∃r,kp ts t r:=by
 apply acI 1
 unfold xQ xP
 dsimp only
 repeat' (first|(with_reducible refine au ?_ ?_<;>(intro hb;(try simp only[bnl] at hb);(try revert hb;intro _)))|with_reducible refine aA ?_ ?_|with_reducible refine ar ?_|(refine an (ahr _) ?_;intro _ _)|fail)
 all_goals first|exact⟨_,_,rfl,rfl⟩|(first|(simp only[bnl,lnl];done)|(simp only[bnl,lnl];omega))
theorem ab8(ts:List am)(e:Int)(name space:List UInt8)(h1:name.length≤100)(h2:space.length≤10000):∃r,da ts e name space r:=by
 apply tu 2000
 unfold oq dR
 refine an (ahs _ _ (by omega) (by omega)) ?_
 rintro j ⟨-,hj⟩
 dsimp only[lG] at hj ⊢
 refine ba (fun x=>x.1=name∧x.2.1.length≤name.length+space.length+1∧0≤x.2.2.1∧x.2.2.1≤(name.length:Int)∧x.2.2.2.1=ts∧x.2.2.2.2=e) (fun x=>((name.length:Int)-x.2.2.1).toNat) ?_ _ _ ⟨rfl,by simp only;omega,by simp,by simp,rfl,rfl⟩ (by simp;omega)
 rintro again ⟨name,w,i,ts,e⟩ ⟨rfl,i0,i1,i2,rfl,rfl⟩ ih
 simp only at i0 i1 i2 ih h1 hj ⊢
 have ew:i<name.length→IntKind.i64.wrap (i+1)=i+1:=fun h=>ax (i+1) (by omega)
 unfold fS
 dsimp only
 have next:∀q:List UInt8,i<name.length→q.length≤name.length+space.length+1→Tot (again (name,q,IntKind.i64.wrap (i+1),ts,e)) _:=fun q h hq=>ih (name,q,IntKind.i64.wrap (i+1),ts,e)
  (by simp only[ew h];exact⟨trivial,hq,by omega,by omega,trivial,trivial⟩) (by simp only[ew h];omega)
 repeat' (first|(with_reducible refine au ?_ ?_<;>(intro hb;(try simp only[bnl] at hb);(try revert hb;intro _)))|with_reducible refine aA ?_ ?_|with_reducible refine ar ?_|(refine an (br _ _ _) ?_;rintro _ ⟨-,rfl⟩;try dsimp only)|(refine an (agN _ (by omega)) ?_;intro _ _)|fail)
 all_goals first|(first|(simp only[bnl,lnl];done)|(simp only[bnl,lnl];omega))|(refine next _ (by omega) (by omega))|skip
 ·refine⟨_,_,_,_,rfl,rfl,?_,rfl,fun h=>absurd h (nz (by decide))⟩
  simp only
  omega
 ·refine⟨_,_,_,_,rfl,rfl,?_,rfl,fun h=>absurd h (nz (by decide))⟩
  simp only
  omega
 ·refine⟨_,_,_,_,rfl,rfl,?_,rfl,fun h=>h⟩
  simp only
  omega
theorem z8(ts:List am)(e c0 c1:Int)(c2:List UInt8)(c3:List ak)(c4:List (List UInt8))(name:List UInt8)(must:Bool)(h:bF (.mk c0 c1 c2 c3 c4)):∃r,cb ts e c0 c1 c2 c3 c4 name must r:=by
 obtain⟨k1,k2,k3,k4,k5,k6⟩:=h.kids
 apply uS 1
 unfold pa oZ
 dsimp only
 refine an (kq _ _ _ _ _ _ (by omega)) ?_
 rintro r ⟨-,hr⟩
 have hg:=nJ (k:=c0) (names:=c4) (name:=name) k6
 simp only[bC] at hr
 rw[←hr] at hg
 obtain⟨g1,g2,g3,g4,g5,g6⟩:=hg.kids
 have gn:name=[110,97,109,101]→im r.2.2.1:=by
  rintro rfl
  rw[hr]
  split
  ·cases hq:bc c4 c3 [110,97,109,101] with
   |none=>simp[dH,im]
   |some c=>exact h.named hq
  ·simp[dH,im]
 repeat' (first|(with_reducible refine au ?_ ?_<;>(intro hb;(try simp only[bnl] at hb);(try revert hb;intro _)))|with_reducible refine aA ?_ ?_|with_reducible refine ar ?_|(refine an (br _ _ _) ?_;rintro _ ⟨-,rfl⟩;try dsimp only)|fail)
 all_goals first|exact⟨_,_,_,_,rfl,rfl,⟨g1,gn⟩,rfl,fun h=>h⟩|exact⟨_,_,_,_,rfl,rfl,⟨Nat.zero_le _,fun _=>by simp[im]⟩,rfl,fun h=>h⟩|exact⟨_,_,_,_,rfl,rfl,⟨Nat.zero_le _,fun _=>by simp[im]⟩,rfl,fun h=>absurd h (nz (by decide))⟩
theorem yl(ts:List am)(e c0 c1:Int)(c2:List UInt8)(c3:List ak)(c4:List (List UInt8))(name:List UInt8)(h:bF (.mk c0 c1 c2 c3 c4)):∃r,bI ts e c0 c1 c2 c3 c4 name r:=by
 obtain⟨k1,k2,k3,k4,k5,k6⟩:=h.kids
 apply tx 2000
 unfold ou dS
 refine an (kq _ _ _ _ _ _ (by omega)) ?_
 rintro r ⟨-,hr⟩
 have hg:=nJ (k:=c0) (names:=c4) (name:=name) k6
 simp only[bC] at hr
 rw[←hr] at hg
 obtain⟨d0,d1,d2,l,d4,d5⟩:=r
 obtain⟨g1,g2,g3,g4,g5,g6⟩:=hg.kids
 dsimp only at g2 g6 ⊢
 have loop:∀e1:Int,(e1=0→e=0)→Tot (aT 2000 (dx 2000) (d0,d1,d2,l,d4,[],0,ts,e1)) (fun z=>∃(y0:List (List UInt8))(y1:Bool)(y2:List am)(y3:Int)(rest:List aq),z.1.dimR=.tup [.sl .str (.may false) y0,.bool y1]∧z.2=some [.ul .atype y2,.int .i64 y3]::rest∧iS ts e c0 c1 c2 c3 c4 name (y0,y1,y2,y3)):=by
  intro e1 he1
  refine ba (fun x=>x.2.2.2.1=l∧(x.2.2.2.2.2.1.length:Int)=x.2.2.2.2.2.2.1∧x.2.2.2.2.2.2.1≤(l.length:Int)∧bk x.2.2.2.2.2.1∧x.2.2.2.2.2.2.2.1=ts∧(x.2.2.2.2.2.2.2.2=0→e=0)) (fun x=>((l.length:Int)-x.2.2.2.2.2.2.1).toNat) ?_ _ _ ⟨rfl,rfl,by simp,by simp[bk],rfl,he1⟩ (by simp;omega)
  rintro again ⟨d0,d1,d2,l,d4,out,i,ts,e1⟩ ⟨rfl,i1,i2,i3,rfl,i4⟩ ih
  simp only at i1 i2 i3 i4 ih g2 g6 ⊢
  have ew:i<l.length→IntKind.i64.wrap (i+1)=i+1:=fun h=>ax (i+1) (by omega)
  unfold dx
  dsimp only
  have next:∀e2:Int,i<l.length→(e2=0→e=0)→Tot (again (d0,d1,d2,l,d4,out++[(List.getD l (Int.toNat i) (az .jnode)).s],IntKind.i64.wrap (i+1),ts,e2)) _:=fun e2 h hq=>ih (d0,d1,d2,l,d4,out++[(List.getD l (Int.toNat i) (az .jnode)).s],IntKind.i64.wrap (i+1),ts,e2)
   (by
    simp only[ew h,List.length_append,List.length_cons,List.length_nil]
    refine⟨trivial,by omega,by omega,?_,trivial,hq⟩
    intro x hx
    rcases List.mem_append.1 hx with hx|hx
    ·exact i3 x hx
    ·simp only[List.mem_singleton] at hx
     subst hx
     exact(bF.eta.2 (bF.getD g6 i.toNat)).kids.1) (by simp only[ew h];omega)
  repeat' (first|(with_reducible refine au ?_ ?_<;>(intro hb;(try simp only[bnl] at hb);(try revert hb;intro _)))|with_reducible refine aA ?_ ?_|with_reducible refine ar ?_|(refine an (br _ _ _) ?_;rintro _ ⟨-,rfl⟩;try dsimp only)|fail)
  all_goals first|(first|(simp only[bnl,lnl];done)|(simp only[bnl,lnl];omega))|(refine next _ (by omega) ?_)|skip
  ·exact fun h=>absurd h (nz (by decide))
  ·exact i4
  ·exact⟨_,_,_,_,_,rfl,rfl,by simp only;omega,i3,rfl,i4⟩
  ·exact⟨_,_,_,_,_,rfl,rfl,by simp only;omega,i3,rfl,i4⟩
 repeat' (first|(with_reducible refine au ?_ ?_<;>(intro hb;(try simp only[bnl] at hb);(try revert hb;intro _)))|with_reducible refine aA ?_ ?_|with_reducible refine ar ?_|(refine an (br _ _ _) ?_;rintro _ ⟨-,rfl⟩;try dsimp only)|fail)
 ·exact⟨_,_,_,_,_,rfl,rfl,by simp,by simp[bk],rfl,fun h=>h⟩
 ·exact loop _ fun h=>absurd h (nz (by decide))
 ·exact loop _ fun h=>h
theorem At.found{ts:List am}{a:Int}(h:0≤a∧a<ts.length∧(ts.getD a.toNat (az .atype)).kind≤11):At ts 1 a ts:=by
 obtain⟨h1,h2,h3⟩:=h
 have hl:a.toNat<ts.length:=by omega
 rw[List.getD_eq_getElem?_getD,List.getElem?_eq_getElem hl] at h3
 exact At.leaf (Nat.le_refl _) h1 (List.getElem?_eq_getElem hl) h3 (fun hn=>by subst hn;simp at hl)
theorem ab9(ts:List am)(e:Int)(s space:List UInt8)(h:ts.length≤60)(h1:s.length≤100)(h2:space.length≤10000):∃r,dv ts e s space r:=by
 apply uW 2000
 unfold pd eL
 have loop:Tot (aT 2000 (dU 2000) (s,space,false,0,ts,e)) (fun z=>∃(y0:Int)(y1:List am)(y2:Int)(rest:List aq),z.1.dimR=.int .i64 y0∧z.2=some [.ul .atype y1,.int .i64 y2]::rest∧jl ts e s space (y0,y1,y2)):=by
  refine ba (fun x=>x.1=s∧x.2.1=space∧0≤x.2.2.2.1∧x.2.2.2.1≤(s.length:Int)∧x.2.2.2.2.1=ts∧x.2.2.2.2.2=e) (fun x=>((s.length:Int)-x.2.2.2.1).toNat) ?_ _ _ ⟨rfl,rfl,by simp,by simp,rfl,rfl⟩ (by simp;omega)
  rintro again ⟨s,space,d,i,ts,e⟩ ⟨rfl,rfl,i1,i2,rfl,rfl⟩ ih
  simp only at i1 i2 ih h h1 h2 ⊢
  have ew:i<s.length→IntKind.i64.wrap (i+1)=i+1:=fun h=>ax (i+1) (by omega)
  unfold dU
  dsimp only
  have next:∀b:Bool,i<s.length→Tot (again (s,space,b,IntKind.i64.wrap (i+1),ts,e)) _:=fun b h=>ih (s,space,b,IntKind.i64.wrap (i+1),ts,e)
   (by simp only[ew h];exact⟨trivial,trivial,by omega,by omega,trivial,trivial⟩) (by simp only[ew h];omega)
  repeat' (first|(with_reducible refine au ?_ ?_<;>(intro hb;(try simp only[bnl] at hb);(try revert hb;intro _)))|with_reducible refine aA ?_ ?_|with_reducible refine ar ?_|(refine an (br _ _ _) ?_;rintro _ ⟨-,rfl⟩;try dsimp only)|(refine an (aem _ _ _ h) ?_;rintro⟨a,b,ts',e'⟩ ⟨-,hq,hf⟩;simp only[Prod.mk.injEq] at hq;obtain⟨rfl,rfl⟩:=hq;dsimp only at hf ⊢)|fail)
  all_goals first|(first|(simp only[bnl,lnl];done)|(simp only[bnl,lnl];omega))|(refine next _ (by omega))|exact⟨_,_,_,_,rfl,rfl,aP.bad h (nz (by decide)),fun h=>absurd h (nz (by decide))⟩|exact⟨_,_,_,_,rfl,rfl,aP.refl h,fun _=>At.found (hf (by assumption))⟩
 refine an (z7 _) ?_
 rintro(k:Int) ⟨-,hk1,hk2,hk3, -⟩
 repeat' (first|(with_reducible refine au ?_ ?_<;>(intro hb;(try simp only[bnl] at hb);(try revert hb;intro _)))|with_reducible refine aA ?_ ?_|with_reducible refine ar ?_|(refine an (yD _ _ _ _ _ _ _ _ _ _ _ _ h) ?_;rintro _ ⟨-,rfl⟩;try dsimp only)|fail)
 ·by_cases hl:60≤ts.length
  ·skip
   simp only[if_pos hl]
   exact⟨_,_,_,_,rfl,rfl,aP.bad h (nz (by decide)),fun h=>absurd h (nz (by decide))⟩
  ·simp only[if_neg hl]
   exact⟨_,_,_,_,rfl,rfl,aP.push (by omega) _ ⟨by simp only;omega,by simp,by simp,by simp,by simp,by simp,by simp,(by simp only;omega),by simp,by simp,fun _=>rfl⟩ rfl,fun _=>At.leaf (Nat.le_refl _) (by omega) (by rw[Int.toNat_natCast,List.getElem?_append_right (Nat.le_refl _),Nat.sub_self];rfl) (by simp only;omega) (fun h=>by rw[h];rfl)⟩
 ·exact loop
 ·exact loop
end Go.Proofs.YtkinflmjagfapaaDoor
end
noncomputable section
namespace Go.Proofs.YtkinflmjagfapaaDoor
open Go.AM
set_option autoImplicit false
set_option linter.unusedVariables false
set_option linter.unusedSimpArgs false
set_option maxRecDepth 100000
theorem jB{α:Type}{l:List α}{i:Nat}{x d:α}(h:l[i]? =some x):l.getD i d=x:=by
 rw[List.getD_eq_getElem?_getD,h];rfl
theorem sV{α:Type}{l:List α}{i:Nat}{x d:α}(h:i<l.length):(l.set i x).getD i d=x:=jB (List.getElem?_set_self h)
theorem ai1{l:List (List UInt8)}{i:Int}{d:List UInt8}(h:0≤i∧i<(l.length:Int))(e:l.getD i.toNat (az .str)=d):d∈l:=by
 subst e
 rw[List.getD_eq_getElem?_getD,List.getElem?_eq_getElem (show i.toNat<l.length by omega)]
 exact List.getElem_mem _
theorem afb(ts:List am)(e c0 c1:Int)(c2:List UInt8)(c3:List ak)(c4:List (List UInt8))(at_:Int)(h:bF (.mk c0 c1 c2 c3 c4))(hat:e=0→0≤at_∧at_<ts.length):∃r,dw ts e c0 c1 c2 c3 c4 at_ r:=by
 obtain⟨k1,k2,k3,k4,k5,k6⟩:=h.kids
 apply rF 2000
 unfold mG de
 dsimp only
 refine an (yl _ _ _ _ _ _ _ _ h) ?_
 rintro⟨l,is,ts',e1⟩ ⟨-,h1,h2,rfl,h3⟩
 dsimp only at h1 h2 h3 hat ⊢
 have loop2:∀(hd:Bool)(d:List UInt8)(e1:Int),(e1=0→e=0)→Tot (aT 2000 (cg 2000) (at_,l,hd,d,false,0,ts',e1)) (fun z=>∃(y0:List am)(y1:Int)(rest:List aq),z.1.dimR=.tup []∧z.2=some [.ul .atype y0,.int .i64 y1]::rest∧b7 ts' e c0 c1 c2 c3 c4 at_ (y0,y1)):=by
  intro hd d e1 he1
  refine ba (fun x=>match x with|(a,l',hd',d',b,i,ts2,e2)=>a=at_∧l'=l∧hd'=hd∧d'=d∧0≤i∧i≤(l.length:Int)∧ts2=ts'∧e2=e1∧(b=true→d'∈l')) (fun x=>((l.length:Int)-x.2.2.2.2.2.1).toNat) ?_ _ _ ⟨rfl,rfl,rfl,rfl,by simp,by simp,rfl,rfl,by simp⟩ (by simp;omega)
  rintro again ⟨a,l',hd',d',b,i,ts2,e2⟩ ⟨rfl,rfl,rfl,rfl,i1,i2,rfl,rfl,ib⟩ ih
  dsimp only at ih
  have ew:i<l'.length→IntKind.i64.wrap (i+1)=i+1:=fun h=>ax (i+1) (by omega)
  have next:∀b:Bool,i<l'.length→(b=true→d'∈l')→Tot (again (a,l',hd',d',b,IntKind.i64.wrap (i+1),ts2,e2)) _:=fun b h hb=>ih (a,l',hd',d',b,IntKind.i64.wrap (i+1),ts2,e2)
   (by simp only[ew h];exact⟨trivial,trivial,trivial,trivial,by omega,by omega,trivial,trivial,hb⟩) (by simp only[ew h];omega)
  unfold cg
  dsimp only
  have fin:∀(h0:e2=0)(hdd:hd'=true→d'∈l')(e3:Int),e3=e2→b7 ts2 e c0 c1 c2 c3 c4 a (List.set (List.set (List.set ts2 (Int.toNat a) (let e_:=List.getD ts2 (Int.toNat a) (az .atype);⟨(e_).kind,(e_).name,(e_).aliases,(e_).items,l',(e_).hasdef,(e_).df,(e_).size,(e_).fields,(e_).branches⟩)) (Int.toNat a) (let e_:=List.getD (List.set ts2 (Int.toNat a) (let e_:=List.getD ts2 (Int.toNat a) (az .atype);⟨(e_).kind,(e_).name,(e_).aliases,(e_).items,l',(e_).hasdef,(e_).df,(e_).size,(e_).fields,(e_).branches⟩)) (Int.toNat a) (az .atype);⟨(e_).kind,(e_).name,(e_).aliases,(e_).items,(e_).syms,hd',(e_).df,(e_).size,(e_).fields,(e_).branches⟩)) (Int.toNat a) (let e_:=List.getD (List.set (List.set ts2 (Int.toNat a) (let e_:=List.getD ts2 (Int.toNat a) (az .atype);⟨(e_).kind,(e_).name,(e_).aliases,(e_).items,l',(e_).hasdef,(e_).df,(e_).size,(e_).fields,(e_).branches⟩)) (Int.toNat a) (let e_:=List.getD (List.set ts2 (Int.toNat a) (let e_:=List.getD ts2 (Int.toNat a) (az .atype);⟨(e_).kind,(e_).name,(e_).aliases,(e_).items,l',(e_).hasdef,(e_).df,(e_).size,(e_).fields,(e_).branches⟩)) (Int.toNat a) (az .atype);⟨(e_).kind,(e_).name,(e_).aliases,(e_).items,(e_).syms,hd',(e_).df,(e_).size,(e_).fields,(e_).branches⟩)) (Int.toNat a) (az .atype);⟨(e_).kind,(e_).name,(e_).aliases,(e_).items,(e_).syms,(e_).hasdef,d',(e_).size,(e_).fields,(e_).branches⟩),e3):=by
   rintro h0 hdd e3 rfl
   have ha:=hat (he1 h0)
   have hl:a.toNat<ts2.length:=by omega
   refine⟨he1,fun h=>absurd h0 h,fun _=>⟨l',hd',d',h1,h2,ts2[a.toNat],List.getElem?_eq_getElem hl,?_⟩⟩
   have g:∀x:am,(ts2.set a.toNat x).getD a.toNat (az .atype)=x:=fun x=>sV hl
   have g0:ts2.getD a.toNat (az .atype)=ts2[a.toNat]:=jB (List.getElem?_eq_getElem hl)
   simp only[List.set_set,g,g0]
  repeat' (first|(with_reducible refine au ?_ ?_<;>(intro hb;(try simp only[bnl] at hb);(try revert hb;intro _)))|with_reducible refine aA ?_ ?_|with_reducible refine ar ?_|(refine an (br _ _ _) ?_;rintro _ ⟨-,rfl⟩;try dsimp only)|fail)
  all_goals first|(refine next _ (by omega) (fun hh=>?_);first|exact ib (by assumption)|exact ai1 (by omega) (of_decide_eq_true hh))|skip
  all_goals have hat':e2=0→0≤a∧a<ts2.length:=fun h=>hat (he1 h)
  all_goals first|(first|(simp only[bnl,lnl];done)|(simp only[bnl,lnl];omega))|skip
  all_goals first|exact⟨_,_,_,rfl,rfl,he1,fun _=>rfl,fun h=>absurd h (by assumption)⟩|exact⟨_,_,_,rfl,rfl,fun h=>absurd h (nz (by decide)),fun _=>rfl,fun h=>absurd h (nz (by decide))⟩|exact⟨_,_,_,rfl,rfl,fin (by assumption) (fun hh=>by first|exact ib (by assumption)|exact ib (by simpa using (by assumption:(!b)=false))|(exfalso;simp_all)) _ rfl⟩|(exfalso;exact nz (by decide) (by assumption))|skip
 have loop1:∀(e1:Int),(e1=0→e=0)→Tot (aT 2000 (cV 2000) (at_,c0,c1,c2,c3,c4,l,0,ts',e1)) (fun z=>∃(y0:List am)(y1:Int)(rest:List aq),z.1.dimR=.tup []∧z.2=some [.ul .atype y0,.int .i64 y1]::rest∧b7 ts' e c0 c1 c2 c3 c4 at_ (y0,y1)):=by
  intro e1 he1
  refine ba (fun x=>match x with|(a,d0,d1,d2,d3,d4,l',i,ts2,e2)=>a=at_∧d0=c0∧d1=c1∧d2=c2∧d3=c3∧d4=c4∧l'=l∧0≤i∧i≤(l.length:Int)∧ts2=ts'∧(e2=0→e=0)) (fun x=>((l.length:Int)-x.2.2.2.2.2.2.2.1).toNat) ?_ _ _ ⟨rfl,rfl,rfl,rfl,rfl,rfl,rfl,by simp,by simp,rfl,he1⟩ (by simp;omega)
  rintro again ⟨a,d0,d1,d2,d3,d4,l',i,ts2,e2⟩ ⟨rfl,rfl,rfl,rfl,rfl,rfl,rfl,i1,i2,rfl,i3⟩ ih
  dsimp only at ih
  have ew:i<l'.length→IntKind.i64.wrap (i+1)=i+1:=fun h=>ax (i+1) (by omega)
  have next:∀e2:Int,i<l'.length→(e2=0→e=0)→Tot (again (a,d0,d1,d2,d3,d4,l',IntKind.i64.wrap (i+1),ts2,e2)) _:=fun e2 h he=>ih (a,d0,d1,d2,d3,d4,l',IntKind.i64.wrap (i+1),ts2,e2)
   (by simp only[ew h];exact⟨trivial,trivial,trivial,trivial,trivial,trivial,trivial,by omega,by omega,trivial,he⟩) (by simp only[ew h];omega)
  have inner:∀e2:Int,i<l'.length→(e2=0→e=0)→Tot (aT 2000 (cf 2000 again) (a,d0,d1,d2,d3,d4,l',i,0,ts2,e2)) (fun z=>∃(y0:List am)(y1:Int)(rest:List aq),z.1.dimR=.tup []∧z.2=some [.ul .atype y0,.int .i64 y1]::rest∧b7 ts2 e d0 d1 d2 d3 d4 a (y0,y1)):=by
   intro e2 hi he
   refine ba (fun x=>match x with|(a',b0,b1,b2,b3,b4,l2,i',k,ts3,e3)=>a'=a∧b0=d0∧b1=d1∧b2=d2∧b3=d3∧b4=d4∧l2=l'∧i'=i∧0≤k∧k≤i∧ts3=ts2∧(e3=0→e=0)) (fun x=>(i-x.2.2.2.2.2.2.2.2.1).toNat) ?_ _ _ ⟨rfl,rfl,rfl,rfl,rfl,rfl,rfl,rfl,by simp,i1,rfl,he⟩ (by simp only;omega)
   rintro again1 ⟨a',b0,b1,b2,b3,b4,l2,i',k,ts3,e3⟩ ⟨rfl,rfl,rfl,rfl,rfl,rfl,rfl,rfl,j1,j2,rfl,j3⟩ ih1
   dsimp only at ih1
   have ek:k<i'→IntKind.i64.wrap (k+1)=k+1:=fun h=>ax (k+1) (by omega)
   have next1:∀e2:Int,k<i'→(e2=0→e=0)→Tot (again1 (a',b0,b1,b2,b3,b4,l2,i',IntKind.i64.wrap (k+1),ts3,e2)) _:=fun e2 h he=>ih1 (a',b0,b1,b2,b3,b4,l2,i',IntKind.i64.wrap (k+1),ts3,e2)
    (by simp only[ek h];exact⟨trivial,trivial,trivial,trivial,trivial,trivial,trivial,trivial,by omega,by omega,trivial,he⟩) (by simp only[ek h];omega)
   unfold cf
   dsimp only
   repeat' (first|(with_reducible refine au ?_ ?_<;>(intro hb;(try simp only[bnl] at hb);(try revert hb;intro _)))|with_reducible refine aA ?_ ?_|with_reducible refine ar ?_|(refine an (br _ _ _) ?_;rintro _ ⟨-,rfl⟩;try dsimp only)|fail)
   all_goals first|(first|(simp only[bnl,lnl];done)|(simp only[bnl,lnl];omega))|exact next1 _ (by omega) j3|exact next1 _ (by omega) (fun h=>absurd h (nz (by decide)))|exact next _ hi j3
  unfold cV dT
  dsimp only
  repeat' (first|(with_reducible refine au ?_ ?_<;>(intro hb;(try simp only[bnl] at hb);(try revert hb;intro _)))|with_reducible refine aA ?_ ?_|with_reducible refine ar ?_|(refine an (br _ _ _) ?_;rintro _ ⟨-,rfl⟩;try dsimp only)|(refine an (vh _ ?_) ?_;rotate_left;intro _ _)|(refine an (kq _ _ _ _ _ _ (by omega)) ?_;intro _ _)|(refine an (z8 _ _ _ _ _ _ _ _ _ h) ?_;rintro⟨w,ts4,e4⟩ ⟨-,w1,rfl,w2⟩;dsimp only at w2 ⊢)|fail)
  all_goals first|(first|(simp only[bnl,lnl];done)|(simp only[bnl,lnl];omega))|exact inner _ (by omega) i3|exact inner _ (by omega) (fun h=>absurd h (nz (by decide)))|exact loop2 _ _ _ (fun h=>i3 (w2 h))|skip
  ·have:(l'.getD i.toNat (az .str)).length≤100:=by
    rw[List.getD_eq_getElem?_getD]
    cases hq:l'[i.toNat]? with
    |none=>exact Nat.zero_le _
    |some y=>exact h2 y (List.mem_of_getElem? hq)
   omega
 have nz':∀{e c:Int},c≠0→(if e=0 then c else e)=0→∀{p:Prop},p:=fun hc h=>absurd h (nz hc)
 repeat' (first|(with_reducible refine au ?_ ?_<;>(intro hb;(try simp only[bnl] at hb);(try revert hb;intro _)))|with_reducible refine aA ?_ ?_|with_reducible refine ar ?_|(refine an (br _ _ _) ?_;rintro _ ⟨-,rfl⟩;try dsimp only)|fail)
 all_goals first|exact loop1 _ (fun h=>absurd h (nz (by decide)))|skip
 all_goals exact loop1 _ h3
end Go.Proofs.YtkinflmjagfapaaDoor
end
noncomputable section
namespace Go.Proofs.YtkinflmjagfapaaDoor
open Go.AM
set_option autoImplicit false
set_option linter.unusedVariables false
set_option linter.unusedSimpArgs false
set_option maxRecDepth 100000
theorem qb(s:List UInt8):∃r,bi s r:=by
 apply abl 1
 unfold vH vG
 exact ar ⟨bp s,_,rfl,rfl,rfl⟩
theorem qL(f0:Bool)(names:List (List UInt8))(f1:Bool)(l:List ak):∃r,cP f0 names f1 l r:=by
 apply aaL 1
 unfold pw ti
 exact ar ⟨_,_,_,_,_,_,_,_,rfl,rfl,rfl⟩
theorem af3:∃r,lp r:=by
 apply abk 1
 unfold vF vE
 exact ar ⟨_,_,rfl,rfl,rfl⟩
theorem sg(k:Int):∃r,gS k r:=by
 apply acE 1
 unfold xO xN
 have no:¬(1≤k∧k≤14)→(∃(y0:List UInt8)(rest:List aq),(V.str []).dimR=.str y0∧([]:List aq)=rest∧jm k y0):=fun h=>⟨_,_,rfl,rfl,by
  simp only[jm,dJ,if_neg h]⟩
 repeat' (first|(with_reducible refine au ?_ ?_<;>(intro hb;(try simp only[bnl] at hb);(try revert hb;intro _)))|with_reducible refine aA ?_ ?_|with_reducible refine ar ?_|(refine an af3 ?_;rintro _ ⟨-,rfl⟩;try dsimp only)|fail)
 ·exact no (by omega)
 ·exact no (by omega)
 ·have:([]::iD:List (List UInt8)).length=15:=rfl
  simp only[bnl,this];omega
 ·rename_i h1 h2
  refine⟨_,_,rfl,rfl,?_⟩
  simp only[jm,dJ]
  rw[if_pos (by omega)]
  have:k.toNat=(k-1).toNat+1:=by omega
  rw[this]
  rfl
theorem hU(L:List Int):(cS L).map (·.1)=L:=by
 unfold cS
 rw[List.map_map]
 exact List.map_id _
theorem aht(L:List Int)(t:Int):adl (k:=.ib) (cS L) t=decide (t∈L):=by
 induction L with
 |nil=>rfl
 |cons x L ih=>
  simp only[adl,cS,List.map_cons,dm] at ih ⊢
  by_cases h:x=t
  ·subst h
   simp
  ·rw[if_neg h,ih]
   simp[Ne.symm h]
theorem aev(L:List Int)(t:Int)(h:t ∉ L):iz (k:=.ib) (cS L) t true=cS (L++[t]):=by
 induction L with
 |nil=>rfl
 |cons x L ih=>
  simp only[List.mem_cons,not_or] at h
  simp only[cS,List.map_cons,iz,List.cons_append] at ih ⊢
  rw[if_neg (Ne.symm h.1),ih h.2]
structure ai0(t:am):Prop where
 nf:t.fields.length≤8
 fn:∀f∈t.fields,f.name.length≤100
 nb:t.branches.length≤100
 ns:t.syms.length≤100
 size:0≤t.size∧t.size≤zO
 nl:t.name.length≤5000
 sl:∀s∈t.syms,s.length≤100
def nq(ts:List am):Prop:=((0<ts.length∧ts.length≤60)∧∀t∈ts,ai0 t)∧(∀(i:Nat) t,ts[i]? =some t→q8 ts i t)∧∃b,b≤io∧bZ ts 0 0 b
theorem afP.w{ts:List am}(h:afP ts):nq ts:=
 ⟨⟨h.1.1,fun t ht=>have k:=h.1.2 t ht;⟨k.nf,fun f hf=>(k.fields f hf).2.1,k.nb,k.ns,k.size,k.nl,k.sl⟩⟩,h.2⟩
def LOK(ts:List am)(L:List Int):Prop:=L.Nodup∧∀t∈L,0≤t∧t<(ts.length:Int)
theorem aew:∀(n:Nat)(L:List Nat),L.Nodup→(∀t∈L,t<n)→L.length≤n
 |0,[],_,_=>Nat.le_refl _
 |0,t::_,_,h=>by have:=h t (List.mem_cons_self ..);omega
 |n+1,L,hn,h=>by
  have h1:=aew n (L.erase n) (hn.erase n) fun t ht=>by
   have:=h t (List.mem_of_mem_erase ht)
   have:t≠n:=fun e=>by subst e;exact(hn.not_mem_erase) ht
   omega
  have:L.length≤(L.erase n).length+1:=by
   rw[List.length_erase]
   split<;>omega
  omega
theorem LOK.le{ts:List am}{L:List Int}(h:LOK ts L):L.length≤ts.length:=by
 have:=aew ts.length (L.map Int.toNat) ?_ ?_
 ·simpa using this
 ·exact(List.pairwise_map.2 (List.Pairwise.imp_of_mem (fun{a b} ha hb (hne:a≠b) e=>hne (by have:=h.2 a ha;have:=h.2 b hb;omega)) h.1))
 ·intro t ht
  obtain⟨x,hx,rfl⟩:=List.mem_map.1 ht
  have:=h.2 x hx
  omega
theorem LOK.snoc{ts:List am}{L:List Int}{t:Int}(h:LOK ts L)(hm:t ∉ L)(h0:0≤t)(ht:t<(ts.length:Int)):LOK ts (L++[t]):=by
 refine⟨List.nodup_append.2 ⟨h.1,List.nodup_cons.2 ⟨by simp,List.nodup_nil⟩,fun a ha b hb=>?_⟩,fun x hx=>?_⟩
 ·simp at hb
  subst hb
  exact fun e=>hm (e▸ha)
 ·rcases List.mem_append.1 hx with hx|hx
  ·exact h.2 x hx
  ·simp at hx
   subst hx
   exact⟨h0,ht⟩
theorem abD{ts:List am}{t k:Int}(h0:0≤t)(h:(tyA ts t).kind=k)(hk:0<k):t<(ts.length:Int):=by
 rcases Nat.lt_or_ge t.toNat ts.length with hl|hl
 ·omega
 ·have:(tyA ts t).kind=0:=by
   unfold tyA
   rw[List.getD_eq_getElem?_getD,List.getElem?_eq_none hl]
   rfl
  omega
theorem TR.keeps{ts:List am}{tk:Tk}{L L':List Int}{js:List ak}(h:TR ts tk L js L'):LOK ts L→LOK ts L'∧∃M,L'=L++M:=by
 induction h with
 |arr t L j L' hk h ih=>exact ih
 |map t L j L' hk h ih=>exact ih
 |uni t L js L' hk h ih=>exact ih
 |told t L hk hm=>exact fun hl=>⟨hl,[],by simp⟩
 |fix t L hk hm=>exact fun hl=>⟨hl.snoc hm.2 hm.1 (abD hm.1 hk (by omega)),_,rfl⟩
 |enum t L hk hm=>exact fun hl=>⟨hl.snoc hm.2 hm.1 (abD hm.1 hk (by omega)),_,rfl⟩
 |rcd t L js L' hk hm h ih=>
  intro hl
  obtain⟨h1,M,rfl⟩:=ih (hl.snoc hm.2 hm.1 (abD hm.1 hk (by omega)))
  exact⟨h1,t::M,by simp⟩
 |prim t L hk=>exact fun hl=>⟨hl,[],by simp⟩
 |rnil L=>exact fun hl=>⟨hl,[],by simp⟩
 |fnil L=>exact fun hl=>⟨hl,[],by simp⟩
 |rcons b bs L j L1 js L2 h hr ih1 ih2=>
  intro hl
  obtain⟨h1,M,rfl⟩:=ih1 hl
  obtain⟨h2,M2,rfl⟩:=ih2 h1
  exact⟨h2,M++M2,by simp⟩
 |fcons f fs L j L1 js L2 h hr ih1 ih2=>
  intro hl
  obtain⟨h1,M,rfl⟩:=ih1 hl
  obtain⟨h2,M2,rfl⟩:=ih2 h1
  exact⟨h2,M++M2,by simp⟩
theorem TR.snoc{ts:List am}{b:Int}{L1 L2:List Int}{j:ak}(hb:TR ts (.node b) L1 [j] L2):∀{bs L:List Int}{js:List ak},TR ts (.row bs) L js L1→TR ts (.row (bs++[b])) L (js++[j]) L2
 | [],L,js,h=>by
   cases h
   exact .rcons _ _ _ _ _ _ _ hb (.rnil _)
 |c::bs,L,js,h=>by
  cases h with
  |rcons _ _ _ j' M js' _ h1 h2=>exact .rcons _ _ _ _ _ _ _ h1 (TR.snoc hb h2)
theorem TR.snocF{ts:List am}{f:aN}{L1 L2:List Int}{j:ak}(hb:TR ts (.node f.typ) L1 [j] L2):∀{fs:List aN}{L:List Int}{js:List ak},TR ts (.flds fs) L js L1→TR ts (.flds (fs++[f])) L (js++[fH [dF,cp] [bp f.name,j]]) L2
 | [],L,js,h=>by
   cases h
   exact .fcons _ _ _ _ _ _ _ hb (.fnil _)
 |c::bs,L,js,h=>by
  cases h with
  |fcons _ _ _ j' M js' _ h1 h2=>exact .fcons _ _ _ _ _ _ _ h1 (TR.snocF hb h2)
theorem sh{α:Type}{l:List α}{i:Int}(d:α)(h:0≤i∧i<(l.length:Int)):l.take (i+1).toNat=l.take i.toNat++[l.getD i.toNat d]:=by
 have h1:i.toNat<l.length:=by omega
 rw[show (i+1).toNat=i.toNat+1 by omega,List.take_add_one,List.getD_eq_getElem?_getD,List.getElem?_eq_getElem h1]
 rfl
def af4(ts:List am)(K:Nat):Prop:=∀(L:List Int)(t:Int)(n b:Nat),LOK ts L→ts.length≤L.length+K→bZ ts n t b→∃r,aw (cS L) ts t r
def aiN(ts:List am)(K:Nat):Prop:=∀(L:List Int)(k:am),k∈ts→9≤k.kind∧k.kind≤11→LOK ts L→ts.length≤L.length+K→∃r,aO (cS L) ts k r
theorem yE{ts:List am}{L:List Int}{t:Int}{r:ak×List (Int×Bool)×List am}(h:aw (cS L) ts t r):∃L',r.2.1=cS L'∧r.2.2=ts∧TR ts (.node t) L [r.1] L':=by
 obtain⟨-,L',h1,h2,h3⟩:=h
 rw[hU] at h3
 exact⟨L',h1,h2,h3⟩
theorem aiO{ts:List am}{L:List Int}{k:am}{r:ak×List (Int×Bool)×List am}(h:aO (cS L) ts k r):∃L',r.2.1=cS L'∧r.2.2=ts∧afR ts k L r.1 L':=by
 obtain⟨-,L',h1,h2,h3⟩:=h
 rw[hU] at h3
 exact⟨L',h1,h2,h3⟩
theorem ahu{ts:List am}(hX:nq ts){K:Nat}(hT:af4 ts K):aiN ts K:=by
 intro L k hk9 hkk hL hK
 obtain⟨⟨hs0,hs1⟩,hx, -⟩:=hX
 have tk:=hs1 k hk9
 apply uP 2000
 unfold oY eK
 dsimp only
 repeat' (first|(with_reducible refine au ?_ ?_<;>(intro hb;(try simp only[bnl] at hb);(try revert hb;intro _)))|with_reducible refine aA ?_ ?_|with_reducible refine ar ?_|(refine an (qb _) ?_;rintro _ ⟨-,rfl⟩;try dsimp only[dK,reJ])|(refine an (sg _) ?_;rintro _ ⟨-,rfl⟩;try dsimp only)|(refine an (qL _ _ _ _) ?_;rintro _ ⟨-,rfl⟩;try dsimp only)|fail)
 ·first|(simp only[bnl,lnl];done)|(simp only[bnl,lnl];omega)
 ·rename_i h11
  refine⟨fH [dF,cp,[115,105,122,101]] [bp k.name,bp (dJ 11),.mk 3 k.size [] [] []],cS L,ts,_,?_,rfl,L,rfl,rfl,?_,?_,?_⟩
  ·simp only[h11];rfl
  ·rw[hU];exact fun _=>⟨rfl,rfl⟩
  ·intro h;omega
  ·intro h;omega
 ·rename_i h10
  have hns:=tk.ns
  refine ba (fun x=>match x with|(x0,x1,x2,x3,x4,x5,x6,x7,x8,x9,x10,x11,x12,x13,x14,x15,x16,x17)=>x0=k∧x1=[[110,97,109,101],[116,121,112,101]]∧x2=[115,121,109,98,111,108,115]∧x3=k.syms∧x4=k.syms.length∧(0≤x5∧x5≤k.syms.length)∧x6=cS L∧x7=ts∧x13=5∧x14=0∧x15=[]∧x16=(k.syms.take x5.toNat).map bp∧x17=[]) (fun x=>((k.syms.length:Int)-x.2.2.2.2.2.1).toNat) ?_ _ _
   ⟨rfl,rfl,rfl,rfl,rfl,by omega,rfl,rfl,rfl,rfl,rfl,rfl,rfl⟩ (by simp only;omega)
  rintro again ⟨x0,x1,x2,x3,x4,x5,x6,x7,x8,x9,x10,x11,x12,x13,x14,x15,x16,x17⟩ ⟨rfl,rfl,rfl,rfl,rfl,⟨i1,i2⟩,rfl,rfl,rfl,rfl,rfl,rfl,rfl⟩ ih
  unfold gz
  dsimp only at ih ⊢
  have ew:x5<x0.syms.length→IntKind.i64.wrap (x5+1)=x5+1:=fun h=>ax (x5+1) (by omega)
  have el:((x0.syms.take x5.toNat).map bp).length≤100:=by simp;omega
  repeat' (first|(with_reducible refine au ?_ ?_<;>(intro hb;(try simp only[bnl] at hb);(try revert hb;intro _)))|with_reducible refine aA ?_ ?_|with_reducible refine ar ?_|(refine an (qb _) ?_;rintro _ ⟨-,rfl⟩;try dsimp only[dK])|(refine an (sg _) ?_;rintro _ ⟨-,rfl⟩;try dsimp only)|(refine an (qL _ _ _ _) ?_;rintro _ ⟨-,rfl⟩;try dsimp only)|fail)
  ·first|(simp only[bnl,lnl];done)|(simp only[bnl,lnl];omega)
  ·simp only[bnl,List.length_cons,List.length_nil];omega
  ·rename_i hi
   refine ih _ ⟨rfl,rfl,rfl,rfl,rfl,by simp only[ew hi];omega,rfl,rfl,rfl,rfl,rfl,?_,rfl⟩ (by simp only[ew hi];omega)
   simp only[ew hi,mz]
   rw[sh (az .str) ⟨i1,hi⟩,List.map_append]
   rfl
  ·first|(simp only[bnl,lnl];done)|(simp only[bnl,lnl];omega)
  ·rename_i hi
   have:x0.syms.take x5.toNat=x0.syms:=List.take_of_length_le (by omega)
   refine⟨fH [dF,cp,[115,121,109,98,111,108,115]] [bp x0.name,bp (dJ 10),ni (x0.syms.map bp)],cS L,x7,_,?_,rfl,L,rfl,rfl,?_,?_,?_⟩
   ·rw[this];simp only[h10,mz];rfl
   ·intro h;omega
   ·rw[hU];exact fun _=>⟨rfl,rfl⟩
   ·intro h;omega
 ·rename_i h11 h10
  have hnf:=tk.nf
  refine ba (fun x=>match x with|(x0,x1,x2,x3,x4,x5,x6,x7,x8,x9,x10,x11,x12,x13,x14,x15,x16,x17)=>x0=k∧x1=[[110,97,109,101],[116,121,112,101]]∧x2=[102,105,101,108,100,115]∧x3=k.fields∧x4=k.fields.length∧(0≤x5∧x5≤k.fields.length)∧x7=ts∧x13=5∧x14=0∧x15=[]∧x16.length=x5.toNat∧(∃L',x6=cS L'∧TR ts (.flds (k.fields.take x5.toNat)) L x16 L')∧x17=[]) (fun x=>((k.fields.length:Int)-x.2.2.2.2.2.1).toNat) ?_ _ _
   ⟨rfl,rfl,rfl,rfl,rfl,by omega,rfl,rfl,rfl,rfl,rfl,⟨L,rfl,.fnil L⟩,rfl⟩ (by simp only;omega)
  rintro again ⟨x0,x1,x2,x3,x4,x5,x6,x7,x8,x9,x10,x11,x12,x13,x14,x15,x16,x17⟩ ⟨rfl,rfl,rfl,rfl,rfl,⟨i1,i2⟩,rfl,rfl,rfl,rfl,il,⟨L1,rfl,hR⟩,rfl⟩ ih
  unfold gB
  dsimp only at ih il hR ⊢
  have ew:x5<x0.fields.length→IntKind.i64.wrap (x5+1)=x5+1:=fun h=>ax (x5+1) (by omega)
  have hL1:=(hR.keeps hL).1
  have hle:L.length≤L1.length:=by obtain⟨M,rfl⟩:=(hR.keeps hL).2;simp
  have tcall:x5<x0.fields.length→∃r,aw (cS L1) x7 (x0.fields.getD x5.toNat (az .afield)).typ r:=by
   intro hi
   have h1:x5.toNat<x0.fields.length:=by omega
   obtain⟨i,hi2⟩:=List.getElem?_of_mem hk9
   have hm:x0.fields.getD x5.toNat (az .afield)∈x0.fields:=by
    rw[List.getD_eq_getElem?_getD,List.getElem?_eq_getElem h1]
    exact List.getElem_mem h1
   obtain⟨b,hb,hB⟩:=hx i x0 hi2 _ hm
   exact hT L1 _ _ b hL1 (by omega) hB
  repeat' (first|(with_reducible refine au ?_ ?_<;>(intro hb;(try simp only[bnl] at hb);(try revert hb;intro _)))|with_reducible refine aA ?_ ?_|with_reducible refine ar ?_|(refine an (qb _) ?_;rintro _ ⟨-,rfl⟩;try dsimp only[dK])|(refine an (sg _) ?_;rintro _ ⟨-,rfl⟩;try dsimp only)|(refine an (qL _ _ _ _) ?_;rintro _ ⟨-,rfl⟩;try dsimp only)|(refine an (tcall (by omega)) ?_;intro r hr;obtain⟨L2,e1,e2,hR2⟩:=yE hr;try dsimp only)|fail)
  ·first|(simp only[bnl,lnl];done)|(simp only[bnl,lnl];omega)
  ·simp only[bnl,List.length_cons,List.length_nil];omega
  ·have hi:x5<(x0.fields.length:Int):=by assumption
   rw[e1,e2]
   refine ih _ ⟨rfl,rfl,rfl,rfl,rfl,by simp only[ew hi];omega,rfl,rfl,rfl,rfl,by simp only[ew hi,List.length_append,List.length_cons,List.length_nil];omega,⟨L2,rfl,?_⟩,rfl⟩ (by simp only[ew hi];omega)
   simp only[ew hi,mz]
   rw[sh (az .afield) ⟨i1,hi⟩]
   exact TR.snocF hR2 hR
  ·first|(simp only[bnl,lnl];done)|(simp only[bnl,lnl];omega)
  ·rename_i hi
   have:x0.fields.take x5.toNat=x0.fields:=List.take_of_length_le (by omega)
   rw[this] at hR
   refine⟨fH [dF,cp,[102,105,101,108,100,115]] [bp x0.name,bp (dJ 9),ni x16],cS L1,x7,_,?_,rfl,L1,rfl,rfl,?_,?_,?_⟩
   ·have h9:x0.kind=9:=by omega
    simp only[h9,mz];rfl
   ·intro h;omega
   ·intro h;omega
   ·rw[hU];exact fun _=>⟨_,hR,rfl⟩
theorem af5{ts:List am}{i:Int}{t:am}(h0:0≤i)(h:ts[i.toNat]? =some t):ixl i ts=true∧ts.getD i.toNat (az .atype)=t:=by
 have:=(List.getElem?_eq_some_iff.1 h).1
 refine⟨ixt (by omega),jB h⟩
theorem af6(j:ak):V.agg [V.int .i64 j.kind,V.int .i64 j.n,V.str j.s,V.sl .jnode (.may false) j.l,V.sl .str (.may false) j.names]=V.agg (enc .jnode j):=by cases j;rfl
theorem aaR{ts:List am}(hX:nq ts){K:Nat}(hO:∀K',K'+1=K→aiN ts K'):af4 ts K:=by
 intro L t n b hL hK hB
 have hok:=hX.1.2
 induction hB generalizing L with
 |leaf i t h0 h hk=>
  obtain⟨x1,x2⟩:=af5 h0 h
  have x3:tyA ts i=t:=x2
  have hlt:=(List.getElem?_eq_some_iff.1 h).1
  have hmem:t∈ts:=List.mem_of_getElem? h
  apply jr 2000
  unfold gv cj
  dsimp only
  rw[x2,aht]
  have done:∀(r:ak×List (Int×Bool)×List am)(kd:9≤t.kind∧t.kind≤11)(hm:i ∉ L),(∃L',r.2.1=cS L'∧r.2.2=ts∧afR ts t (L++[i]) r.1 L')→dc (cS L) ts i r:=by
   rintro r kd hm ⟨L',e1,e2,e3,e4,e5⟩
   refine⟨L',e1,e2,?_⟩
   rw[hU]
   by_cases h11:t.kind=11
   ·obtain⟨rfl,e⟩:=e3 h11
    rw[e,←x3]
    exact .fix i L (by rw[x3];exact h11) ⟨h0,hm⟩
   by_cases h10:t.kind=10
   ·obtain⟨rfl,e⟩:=e4 h10
    rw[e,←x3]
    exact .enum i L (by rw[x3];exact h10) ⟨h0,hm⟩
   have h9:t.kind=9:=by omega
   obtain⟨js,hR,e⟩:=e5 h9
   rw[e,←x3]
   exact .rcd i L js L' (by rw[x3];exact h9) ⟨h0,hm⟩ (by rw[x3];exact hR)
  have own:9≤t.kind∧t.kind≤11→i ∉ L→∃r,aO (iz (k:=.ib) (cS L) i true) ts t r:=by
   intro kd hm
   rw[aev L i hm]
   have hL2:=hL.snoc hm h0 (by omega)
   have:=hL2.le
   simp only[List.length_append,List.length_cons,List.length_nil] at this
   exact hO (K-1) (by omega) _ t hmem kd hL2 (by simp only[List.length_append,List.length_cons,List.length_nil];omega)
  have ownof:∀{r},i ∉ L→aO (iz (k:=.ib) (cS L) i true) ts t r→∃L',r.2.1=cS L'∧r.2.2=ts∧afR ts t (L++[i]) r.1 L':=by
   intro r hm hr
   rw[aev L i hm] at hr
   exact aiO hr
  have told:9≤t.kind∧t.kind≤11→i∈L→dc (cS L) ts i (bp t.name,cS L,ts):=by
   intro kd hm
   refine⟨L,rfl,rfl,?_⟩
   rw[hU,←x3]
   exact .told i L (by rw[x3];exact kd) hm
  have prim:t.kind≤8→dc (cS L) ts i (bp (dJ t.kind),cS L,ts):=by
   intro kd
   refine⟨L,rfl,rfl,?_⟩
   rw[hU,←x3]
   exact .prim i L (by rw[x3];exact kd)
  repeat' (first|(with_reducible refine au ?_ ?_<;>(intro hb;(try simp only[bnl] at hb);(try revert hb;intro _)))|with_reducible refine aA ?_ ?_|with_reducible refine ar ?_|(refine an (qb _) ?_;rintro _ ⟨-,rfl⟩;try dsimp only[dK])|(refine an (sg _) ?_;rintro _ ⟨-,rfl⟩;try dsimp only)|(refine an (own (by omega) (by assumption)) ?_;intro r hr;try dsimp only)|fail)
  ·exact x1
  all_goals first|omega|skip
  ·exact⟨bp t.name,_,_,_,rfl,rfl,told (by omega) (by assumption)⟩
  ·rename_i r hr
   exact⟨r.1,_,_,_,congrArg V.dimR (af6 r.1),rfl,done r (by omega) (by assumption) (ownof (by assumption) hr)⟩
  ·exact⟨bp t.name,_,_,_,rfl,rfl,told (by omega) (by assumption)⟩
  ·rename_i r hr
   exact⟨r.1,_,_,_,congrArg V.dimR (af6 r.1),rfl,done r (by omega) (by assumption) (ownof (by assumption) hr)⟩
  ·exact⟨bp t.name,_,_,_,rfl,rfl,told (by omega) (by assumption)⟩
  ·rename_i r hr
   exact⟨r.1,_,_,_,congrArg V.dimR (af6 r.1),rfl,done r (by omega) (by assumption) (ownof (by assumption) hr)⟩
  ·exact⟨bp (dJ t.kind),_,_,_,rfl,rfl,prim (by omega)⟩
 |arr i t b h0 hn h hk hr ih=>
  obtain⟨x1,x2⟩:=af5 h0 h
  have x3:tyA ts i=t:=x2
  apply jr 2000
  unfold gv cj
  dsimp only
  rw[x2]
  repeat' (first|(with_reducible refine au ?_ ?_<;>(intro hb;(try simp only[bnl] at hb);(try revert hb;intro _)))|with_reducible refine aA ?_ ?_|with_reducible refine ar ?_|(refine an (qb _) ?_;rintro _ ⟨-,rfl⟩;try dsimp only[dK])|(refine an (qL _ _ _ _) ?_;rintro _ ⟨-,rfl⟩;try dsimp only)|(refine an (ih L hL hK) ?_;intro r hr;obtain⟨L2,e1,e2,hR2⟩:=yE hr;try dsimp only)|fail)
  ·exact x1
  all_goals first|omega|skip
  ·rename_i h12 _
   refine⟨fH [cp,[105,116,101,109,115]] [bp [97,114,114,97,121],r.1],_,_,_,by rw[mz,mz];rfl,rfl,L2,e1,e2,?_⟩
   rw[hU]
   exact .arr i L r.1 L2 (by rw[x3];assumption) (by rw[x3];exact hR2)
  ·refine⟨fH [cp,[118,97,108,117,101,115]] [bp [109,97,112],r.1],_,_,_,by rw[mz,mz];rfl,rfl,L2,e1,e2,?_⟩
   rw[hU]
   exact .map i L r.1 L2 (by rw[x3];assumption) (by rw[x3];exact hR2)
 |uni i t w h0 hn h hk hr ih=>
  obtain⟨x1,x2⟩:=af5 h0 h
  have x3:tyA ts i=t:=x2
  have hnb:=(hok t (List.mem_of_getElem? h)).nb
  apply jr 2000
  unfold gv cj
  dsimp only
  rw[x2]
  repeat' (first|(with_reducible refine au ?_ ?_<;>(intro hb;(try simp only[bnl] at hb);(try revert hb;intro _)))|with_reducible refine aA ?_ ?_|with_reducible refine ar ?_|fail)
  ·exact x1
  all_goals first|omega|skip
  refine ba (fun x=>match x with|(x0,x1,x2,x3,x4,x5,x6,x7,x8,x9,x10,x11,x12,x13,x14)=>x0=t.branches∧x1=t.branches.length∧(0≤x2∧x2≤t.branches.length)∧x4=ts∧x10=5∧x11=0∧x12=[]∧x13.length=x2.toNat∧(∃L',x3=cS L'∧TR ts (.row (t.branches.take x2.toNat)) L x13 L')∧x14=[]) (fun x=>((t.branches.length:Int)-x.2.2.1).toNat) ?_ _ _
   ⟨rfl,rfl,by omega,rfl,rfl,rfl,rfl,rfl,⟨L,rfl,.rnil L⟩,rfl⟩ (by simp only;omega)
  rintro again ⟨y0,y1,y2,y3,y4,y5,y6,y7,y8,y9,y10,y11,y12,y13,y14⟩ ⟨rfl,rfl,⟨i1,i2⟩,rfl,rfl,rfl,rfl,il,⟨L1,rfl,hR⟩,rfl⟩ ihl
  unfold fO
  dsimp only at ihl il hR ⊢
  have ew:y2<t.branches.length→IntKind.i64.wrap (y2+1)=y2+1:=fun h=>ax (y2+1) (by omega)
  have hL1:=(hR.keeps hL).1
  have hle:L.length≤L1.length:=by obtain⟨M,rfl⟩:=(hR.keeps hL).2;simp
  have tcall:y2<t.branches.length→∃r,aw (cS L1) y4 (t.branches.getD y2.toNat (az (.num .i64))) r:=by
   intro hi
   have h1:y2.toNat<t.branches.length:=by omega
   exact ih y2.toNat _ (by rw[List.getD_eq_getElem?_getD,List.getElem?_eq_getElem h1];rfl) L1 hL1 (by omega)
  repeat' (first|(with_reducible refine au ?_ ?_<;>(intro hb;(try simp only[bnl] at hb);(try revert hb;intro _)))|with_reducible refine aA ?_ ?_|with_reducible refine ar ?_|(refine an (tcall (by omega)) ?_;intro r hr;obtain⟨L2,e1,e2,hR2⟩:=yE hr;try dsimp only)|fail)
  ·first|(simp only[bnl,lnl];done)|(simp only[bnl,lnl];omega)
  ·simp only[bnl,List.length_cons,List.length_nil];omega
  ·have hi:y2<(t.branches.length:Int):=by assumption
   rw[e1,e2]
   refine ihl _ ⟨rfl,rfl,by simp only[ew hi];omega,rfl,rfl,rfl,rfl,by simp only[ew hi,List.length_append,List.length_cons,List.length_nil];omega,⟨L2,rfl,?_⟩,rfl⟩ (by simp only[ew hi];omega)
   simp only[ew hi,mz]
   rw[sh (az (.num .i64)) ⟨i1,hi⟩]
   exact TR.snoc hR2 hR
  ·have:t.branches.take y2.toNat=t.branches:=List.take_of_length_le (by omega)
   rw[this] at hR
   refine⟨ni y13,cS L1,y4,_,rfl,rfl,L1,rfl,rfl,?_⟩
   rw[hU]
   exact .uni i L y13 L1 (by rw[x3];exact hk) (by rw[x3];exact hR)
theorem aca{ts:List am}(hX:nq ts):∀K,af4 ts K
 |0=>aaR hX fun K' h=>by omega
 |K+1=>aaR hX fun K' h=>by
  obtain rfl:K'=K:=by omega
  exact ahu hX (aca hX K')
end Go.Proofs.YtkinflmjagfapaaDoor
end
noncomputable section
namespace Go.Proofs
open Go.Shelf
def Tryd.lays156_ren:Go.Shelf.Ren:=⟨fun|156=>55|165=>92|166=>90|169=>91|240=>109|241=>111|276=>129|277=>131|n=>n,fun|31=>31|9=>9|3=>3|4=>4|0=>0|20=>20|72=>122|76=>126|70=>120|37=>22|75=>124|127=>141|164=>155|5=>5|80=>104|n=>n,fun|n=>n⟩
theorem Tryd.lays156:Go.Proofs.Lays.n156 Tryd.prog Tryd.lays156_ren:={
 mixed:=by kernel_rfl
 f156:=Tryd.func55.trans (congrArg some (by kernel_rfl))
 f165:=Tryd.func92.trans (congrArg some (by kernel_rfl))
 f166:=Tryd.func90.trans (congrArg some (by kernel_rfl))
 f169:=Tryd.func91.trans (congrArg some (by kernel_rfl))
 f240:=Tryd.func109.trans (congrArg some (by kernel_rfl))
 f241:=Tryd.func111.trans (congrArg some (by kernel_rfl))
 f276:=Tryd.func129.trans (congrArg some (by kernel_rfl))
 f277:=Tryd.func131.trans (congrArg some (by kernel_rfl))
 t0:=Tryd.underlying0
 a0:=Tryd.isAgg0
 z0:=Tryd.sizeOf0
 v0:=Tryd.zeroValue0
 t3:=Tryd.underlying3
 a3:=Tryd.isAgg3
 z3:=Tryd.sizeOf3
 v3:=Tryd.zeroValue3
 t4:=Tryd.underlying4
 a4:=Tryd.isAgg4
 z4:=Tryd.sizeOf4
 v4:=Tryd.zeroValue4
 t9:=Tryd.underlying9
 a9:=Tryd.isAgg9
 z9:=Tryd.sizeOf9
 v9:=Tryd.zeroValue9
 t20:=Tryd.underlying20
 a20:=Tryd.isAgg20
 z20:=Tryd.sizeOf20
 v20:=Tryd.zeroValue20
 t31:=Tryd.underlying31
 a31:=Tryd.isAgg31
 z31:=Tryd.sizeOf31
 v31:=Tryd.zeroValue31
 t37:=Tryd.underlying22
 a37:=Tryd.isAgg22
 z37:=Tryd.sizeOf22
 v37:=Tryd.zeroValue22
 t70:=Tryd.underlying120
 a70:=Tryd.isAgg120
 z70:=Tryd.sizeOf120
 v70:=Tryd.zeroValue120
 t72:=Tryd.underlying122
 a72:=Tryd.isAgg122
 z72:=Tryd.sizeOf122
 v72:=Tryd.zeroValue122
 t75:=Tryd.underlying124
 a75:=Tryd.isAgg124
 z75:=Tryd.sizeOf124
 v75:=Tryd.zeroValue124
 t76:=Tryd.underlying126
 a76:=Tryd.isAgg126
 z76:=Tryd.sizeOf126
 v76:=Tryd.zeroValue126
 t127:=Tryd.underlying141
 a127:=Tryd.isAgg141
 z127:=Tryd.sizeOf141
 v127:=Tryd.zeroValue141
 t164:=Tryd.underlying155
 a164:=Tryd.isAgg155
 z164:=Tryd.sizeOf155
 v164:=Tryd.zeroValue155}
theorem Tryd.Builder_Extra_156:Builder.Extra Tryd.prog Tryd.lays156_ren:={
 sizeBuilder:=by kernel_rfl
 liesBuilder:=by kernel_rfl
 t5:=Tryd.underlying5
 a5:=Tryd.isAgg5
 z5:=Tryd.sizeOf5
 v5:=Tryd.zeroValue5
 infoByte:=by kernel_rfl
 cellsByte:=by kernel_rfl
 sizeByte:=by kernel_rfl
 neB5:=by decide}
end Go.Proofs
namespace Go.Proofs.YtkinflmjagfapaaDoor
open Go.AM Go.RowKit
set_option autoImplicit false
theorem aaS{P:Program}{f:FuncId}{vs:List V}{l:List UInt8}(h:∀(w:World)(I:Nat→Nat→Prop)(ρ:Nat→Nat)(cargs:Array Value),vs.length=cargs.size→
  (∀(i:Nat) x cv,vs[i]? =some x→cargs[i]? =some cv→VRel I ρ 0 w x cv)→Calls P f cargs w fun e w'=>e=.returned (.string ⟨l.toArray⟩)∧Below w.heap.size w w') (hl:l.length≤9223372036854775807):aH P f vs (.str l):=by
 refine⟨[],fun w g cargs hβ hr hn hb hrel=>(h w g.I g.ρ cargs hn hrel).mono ?_⟩
 rintro e w' ⟨rfl,hB⟩
 have cell:∀b j,g.I b j→w'.cell? ⟨b,j,none⟩=w.cell? ⟨b,j,none⟩:=by
  intro b j hi
  obtain⟨v,hv⟩:=Option.isSome_iff_exists.1 (hr.exI b j hi)
  simp only[World.cell?,hB.block b (World.block_lt_of_cell? _ _ hv)]
 refine⟨_,g,rfl,⟨by simp,by simp,by simp,by simp,fun b j hi=>by rw[cell b j hi];exact hr.exI b j hi,fun b o hb=>Nat.lt_of_lt_of_le (hr.oLt b o hb) hB.size⟩,
  ⟨rfl,hB.os,hB.tape,hB.output,hB.size,fun b hb _ _=>hB.block b hb,⟨fun _ _ h=>h,cell,fun _ _=>rfl,Nat.le_refl _⟩,fun _ _ _ _ _ h=>h,fun _ _ _ h=>h,by simp⟩,.str _ _ (by simp) ?_,by simp[av]⟩
 show l.toArray.size≤_
 simpa [bN] using hl
theorem aex{s:ByteArray}{l:List UInt8}(h:s.data.toList=l):s=⟨l.toArray⟩:=by
 subst h
 simp
theorem agO(xs:List (List UInt8))(sep:List UInt8)(hN:xs.length≤140737488355328)(hl:(dr sep xs).length≤140737488355328):aH Tryd.prog pr [.sl .str (.may false) xs,.str sep] (.str (dr sep xs)):=by
 refine aaS ?_ (by omega)
 intro w I ρ cargs hn hrel
 obtain⟨c0,c1,rfl⟩:∃c0 c1,cargs= #[c0,c1]:=by
  rcases cargs with⟨l⟩
  match l,hn with
  | [c0,c1],_=>exact⟨c0,c1,rfl⟩
 have r0:=hrel 0 _ c0 rfl rfl
 have r1:=hrel 1 _ c1 rfl rfl
 cases r1 with
 |str _ s hs _=>
 obtain rfl:=aex hs
 have none_:∀(a:Option Addr)(c:Nat),xs=[]→Calls Tryd.prog pr #[.slice a 0 c,.string ⟨sep.toArray⟩] w fun e w'=>e=.returned (.string ⟨(dr sep xs).toArray⟩)∧Below w.heap.size w w':=by
  rintro a c rfl
  refine(Any.strings_Join_none Tryd.lays156 Tryd.Builder_Extra_156 a c ⟨sep.toArray⟩ w).mono ?_
  rintro e w' ⟨he,rfl⟩
  exact⟨by rw[he];rfl,Below.refl _ _⟩
 cases r0 with
 |sln=>exact none_ _ _ rfl
 |sle=>exact none_ _ _ rfl
 |sl _ _ _ b off len cap h1 hc hm hf f hI hw hv=>
  cases xs with
  |nil=>
   obtain rfl:0=len:=h1
   exact none_ _ _ rfl
  |cons x r=>
   have hcell:∀(j:Nat) y,(x::r)[j]? =some y→w.cell? ⟨b,off+j,none⟩=some (.string ⟨y.toArray⟩):=by
    intro j y hy
    have e1:=hw j y 0 hy (by show 0<1;omega)
    have e2:=hv j y 0 (.str y) hy rfl
    rw[show off+j*EK.sz .str+0=off+j from by show off+j*1+0=_;omega] at e1
    rw[e1]
    generalize f j 0=u at e2
    cases e2 with
    |str _ s hs _=>rw[aex hs]
   have hbk:=World.block_lt_of_cell? _ _ (hcell 0 x rfl)
   subst h1
   have emap:((x::r).map fun y=>(⟨y.toArray⟩:ByteArray)).map (·.data.toList)=x::r:=by
    rw[List.map_map]
    have:((fun s:ByteArray=>s.data.toList)∘fun y:List UInt8=>(⟨y.toArray⟩:ByteArray))=id:=by funext y;simp
    rw[this,List.map_id]
   have:=Any.strings_Join Tryd.lays156 Tryd.Builder_Extra_156 b off cap ((x::r).map fun y=>⟨y.toArray⟩) ⟨sep.toArray⟩ w (by
    intro j y hy
    rw[List.getElem?_map,Option.map_eq_some_iff] at hy
    obtain⟨y',hy',rfl⟩:=hy
    exact hcell j y' hy') hbk (by rw[List.length_map];exact hN) (by rw[List.length_map];exact hc) (by rw[emap];simpa [dr] using hl)
   rw[emap,List.length_map] at this
   exact this.mono fun e w' ⟨he,hB⟩=>⟨by rw[he];simp[dr],hB⟩
theorem acb(xs:List (List UInt8))(sep:List UInt8)(hN:xs.length≤140737488355328)(hl:(dr sep xs).length≤140737488355328):∃r,jp xs sep r:=⟨_,agO xs sep hN hl,rfl⟩
end Go.Proofs.YtkinflmjagfapaaDoor
end
noncomputable section
namespace Go.Proofs
open Go.Shelf
def Tryd.lays173_ren:Go.Shelf.Ren:=⟨fun|173=>53|246=>87|283=>105|284=>106|285=>107|286=>108|129=>125|317=>124|318=>126|319=>127|320=>128|337=>143|338=>144|n=>n,fun|2=>2|3=>3|9=>9|4=>4|171=>136|0=>0|53=>39|37=>22|5=>5|173=>139|212=>150|51=>151|20=>20|213=>152|46=>103|232=>172|233=>173|n=>n,fun|17=>1|18=>2|19=>3|n=>n⟩
theorem Tryd.lays173:Go.Proofs.Lays.n173 Tryd.prog Tryd.lays173_ren:={
 mixed:=by kernel_rfl
 f129:=Tryd.func125.trans (congrArg some (by kernel_rfl))
 f173:=Tryd.func53.trans (congrArg some (by kernel_rfl))
 f246:=Tryd.func87.trans (congrArg some (by kernel_rfl))
 f283:=Tryd.func105.trans (congrArg some (by kernel_rfl))
 f284:=Tryd.func106.trans (congrArg some (by kernel_rfl))
 f285:=Tryd.func107.trans (congrArg some (by kernel_rfl))
 f286:=Tryd.func108.trans (congrArg some (by kernel_rfl))
 f317:=Tryd.func124.trans (congrArg some (by kernel_rfl))
 f318:=Tryd.func126.trans (congrArg some (by kernel_rfl))
 f319:=Tryd.func127.trans (congrArg some (by kernel_rfl))
 f320:=Tryd.func128.trans (congrArg some (by kernel_rfl))
 f337:=Tryd.func143.trans (congrArg some (by kernel_rfl))
 f338:=Tryd.func144.trans (congrArg some (by kernel_rfl))
 t0:=Tryd.underlying0
 a0:=Tryd.isAgg0
 z0:=Tryd.sizeOf0
 v0:=Tryd.zeroValue0
 t2:=Tryd.underlying2
 a2:=Tryd.isAgg2
 z2:=Tryd.sizeOf2
 v2:=Tryd.zeroValue2
 t3:=Tryd.underlying3
 a3:=Tryd.isAgg3
 z3:=Tryd.sizeOf3
 v3:=Tryd.zeroValue3
 t4:=Tryd.underlying4
 a4:=Tryd.isAgg4
 z4:=Tryd.sizeOf4
 v4:=Tryd.zeroValue4
 t5:=Tryd.underlying5
 a5:=Tryd.isAgg5
 z5:=Tryd.sizeOf5
 v5:=Tryd.zeroValue5
 t9:=Tryd.underlying9
 a9:=Tryd.isAgg9
 z9:=Tryd.sizeOf9
 v9:=Tryd.zeroValue9
 t20:=Tryd.underlying20
 a20:=Tryd.isAgg20
 z20:=Tryd.sizeOf20
 v20:=Tryd.zeroValue20
 t37:=Tryd.underlying22
 a37:=Tryd.isAgg22
 z37:=Tryd.sizeOf22
 v37:=Tryd.zeroValue22
 t46:=Tryd.underlying103
 a46:=Tryd.isAgg103
 z46:=Tryd.sizeOf103
 v46:=Tryd.zeroValue103
 t51:=Tryd.underlying151
 a51:=Tryd.isAgg151
 z51:=Tryd.sizeOf151
 v51:=Tryd.zeroValue151
 t53:=Tryd.underlying39
 a53:=Tryd.isAgg39
 z53:=Tryd.sizeOf39
 v53:=Tryd.zeroValue39
 t171:=Tryd.underlying136
 a171:=Tryd.isAgg136
 z171:=Tryd.sizeOf136
 v171:=Tryd.zeroValue136
 t173:=Tryd.underlying139
 a173:=Tryd.isAgg139
 z173:=Tryd.sizeOf139
 v173:=Tryd.zeroValue139
 t212:=Tryd.underlying150
 a212:=Tryd.isAgg150
 z212:=Tryd.sizeOf150
 v212:=Tryd.zeroValue150
 t213:=Tryd.underlying152
 a213:=Tryd.isAgg152
 z213:=Tryd.sizeOf152
 t232:=Tryd.underlying172
 a232:=Tryd.isAgg172
 z232:=Tryd.sizeOf172
 v232:=Tryd.zeroValue172
 t233:=Tryd.underlying173
 a233:=Tryd.isAgg173
 z233:=Tryd.sizeOf173
 v233:=Tryd.zeroValue173
 g17:=by kernel_rfl
 g18:=by kernel_rfl
 g19:=by kernel_rfl}
end Go.Proofs
namespace Go.Proofs.YtkinflmjagfapaaDoor
open Go.AM Go.RowKit
set_option autoImplicit false
theorem af7:(List.range 100).all (fun i=>Nat.ble (Go.Lib.decDigits i).length 2)=true:=by kernel_rfl
theorem acc{n:Int}(h:0≤n∧n≤99):(Go.Lib.decDigits n.toNat).length≤2:=by
 have:=List.all_eq_true.1 af7 n.toNat (List.mem_range.2 (by omega))
 simpa using this
theorem ac6(n:Int)(h:0≤n∧n≤99):∃r,ii n 10 r:=by
 refine⟨Go.Lib.decDigits n.toNat,aaS (fun w I ρ cargs hn hrel=>?_) (by have:=acc h;omega),rfl⟩
 obtain⟨c0,c1,rfl⟩:∃c0 c1,cargs= #[c0,c1]:=by
  rcases cargs with⟨l⟩
  match l,hn with
  | [c0,c1],_=>exact⟨c0,c1,rfl⟩
 have r0:=hrel 0 _ c0 rfl rfl
 have r1:=hrel 1 _ c1 rfl rfl
 cases r0
 cases r1
 obtain⟨i,rfl⟩:∃i:Nat,n=(i:Int):=⟨n.toNat,by omega⟩
 refine(Any.strconv_FormatInt_10_small Tryd.lays173 i (by omega) w).mono ?_
 rintro e w' ⟨he,rfl⟩
 exact⟨by rw[he];rfl,Below.refl _ _⟩
end Go.Proofs.YtkinflmjagfapaaDoor
end
noncomputable section
namespace Go.Proofs.YtkinflmjagfapaaDoor
open Go.AM
set_option autoImplicit false
set_option linter.unusedVariables false
set_option linter.unusedSimpArgs false
set_option maxRecDepth 100000
theorem agP(b:Bool):∃r,dQ b r:=by
 apply sF 1
 unfold nC nB
 refine an ?_ ?_
 ·apply nM 1
  unfold iM iL
  cases b
  ·exact ar ⟨_,_,rfl,rfl,rfl⟩
  ·exact ar ⟨_,_,rfl,rfl,rfl⟩
 ·rintro _ ⟨-,rfl⟩
  exact ar ⟨_,_,rfl,rfl,rfl⟩
theorem aaT(s:List UInt8)(h:s.length≤10000):∃r,kc s r:=⟨_,af0 s h,rfl⟩
abbrev af8:Nat:=100000000000000
mutual
def ql:ak→Prop
 | .mk k n s l names=>(k=3→0≤n∧n≤99)∧(k=4→s.length≤10000)∧(k=5∨k=6→l.length≤1000∧iO l)∧(k=6→names.length=l.length∧0<l.length∧∀x∈names,x.length≤10)
def iO:List ak→Prop
 | []=>True
 |c::l=>ql c∧iO l
end
theorem fC:∀l:List ak,aR l=l.map aV
 | []=>rfl
 |c::l=>by simp[aR,fC l]
theorem acd:∀{l:List ak}{c:ak},iO l→c∈l→ql c
 |d::l,c,h,hc=>by
  unfold iO at h
  rcases List.mem_cons.1 hc with rfl|hc
  ·exact h.1
  ·exact acd h.2 hc
theorem ace{sep:List UInt8}:∀{xs:List (List UInt8)}{x:List UInt8},x∈xs→x.length≤(dr sep xs).length
 |y::r,x,h=>by
  unfold dr
  rw[Go.Lib.join_cons]
  rcases List.mem_cons.1 h with rfl|h
  ·simp
  ·have:∀{r:List (List UInt8)},x∈r→x.length≤(Go.Lib.joinTail sep r).length:=by
    intro r
    induction r with
    |nil=>simp
    |cons z r ih=>
     intro h
     unfold Go.Lib.joinTail at ih ⊢
     simp only[List.map_cons,List.flatten_cons,List.length_append] at ih ⊢
     rcases List.mem_cons.1 h with rfl|h
     ·omega
     ·have:=ih h;omega
   have:=this h
   simp only[List.length_append];omega
theorem zv(l:List ak)(hl:l.length≤1000)(h:∀c∈l,∃r,dP c r):∃r,gT l r:=by
 apply zW 2000
 unfold rZ iK
 dsimp only
 refine ba (fun x=>match x with|(x0,x1,x2,x3)=>x0=aR (l.take x3.toNat)∧x1=l∧x2=l.length∧(0≤x3∧x3≤l.length)) (fun x=>((l.length:Int)-x.2.2.2).toNat) ?_ _ _ ⟨rfl,rfl,rfl,by omega⟩ (by simp only;omega)
 rintro again ⟨x0,x1,x2,x3⟩ ⟨rfl,rfl,rfl,i1,i2⟩ ih
 unfold jO
 dsimp only at ih ⊢
 have ew:x3<x1.length→IntKind.i64.wrap (x3+1)=x3+1:=fun h=>ax (x3+1) (by omega)
 have el:(aR (x1.take x3.toNat)).length≤1000:=by rw[fC];simp;omega
 have hc:x3<x1.length→∃r,dP (x1.getD x3.toNat (az .jnode)) r:=fun hi=>h _ (by
  rw[List.getD_eq_getElem?_getD,List.getElem?_eq_getElem (show x3.toNat<x1.length by omega)]
  exact List.getElem_mem _)
 have eJ:∀c:ak,ak.mk c.kind c.n c.s c.l c.names=c:=fun c=>by cases c;rfl
 simp only[eJ]
 repeat' (first|(with_reducible refine au ?_ ?_<;>(intro hb;(try simp only[bnl] at hb);(try revert hb;intro _)))|with_reducible refine aA ?_ ?_|with_reducible refine ar ?_|(refine an (hc (by omega)) ?_;rintro _ ⟨-,rfl⟩;try dsimp only)|fail)
 ·first|(simp only[bnl,lnl];done)|(simp only[bnl,lnl];omega)
 ·simp only[bnl,List.length_cons,List.length_nil];omega
 ·have hi:x3<(x1.length:Int):=by assumption
  refine ih _ ⟨?_,rfl,rfl,by simp only[ew hi];omega⟩ (by simp only[ew hi];omega)
  simp only[ew hi]
  rw[sh (az .jnode) ⟨i1,hi⟩,fC,fC,List.map_append]
  rfl
 ·have:x1.take x3.toNat=x1:=List.take_of_length_le (by omega)
  rw[this]
  exact⟨_,_,rfl,rfl,rfl⟩
theorem du(s:List UInt8):(aZ s).length≤6*s.length+2:=by
 have:(s.flatMap gq).length≤6*s.length:=by
  induction s with
  |nil=>simp
  |cons c s ih=>
   have:=aaG c
   simp only[List.flatMap_cons,List.length_append,List.length_cons]
   omega
 simp only[aZ,List.length_append,List.length_cons,List.length_nil]
 omega
abbrev mX(n t:List UInt8):List UInt8:=aZ n++58::t
def mf(names ts:List (List UInt8))(i:Nat):List (List UInt8):=List.zipWith mX (names.take i) (ts.take i)++ts.drop i
theorem ahv{names ts:List (List UInt8)}(h:names.length=ts.length)(i:Nat):(mf names ts i).length=ts.length:=by
 simp only[mf,List.length_append,List.length_zipWith,List.length_take,List.length_drop]
 omega
theorem aey{names ts:List (List UInt8)}(h:names.length=ts.length){i:Nat}(hi:i<ts.length)(d:List UInt8):(mf names ts i).getD i d=ts[i]:=by
 have hl:(List.zipWith mX (names.take i) (ts.take i)).length=i:=by simp only[List.length_zipWith,List.length_take];omega
 rw[List.getD_eq_getElem?_getD,mf,List.getElem?_append_right (by omega),hl,Nat.sub_self,List.getElem?_drop,Nat.add_zero,List.getElem?_eq_getElem hi]
 rfl
theorem ahw{names ts:List (List UInt8)}(h:names.length=ts.length){i:Nat}(hi:i<ts.length):(mf names ts i).set i (mX (names[i]'(by omega)) ts[i])=mf names ts (i+1):=by
 have hl:(List.zipWith mX (names.take i) (ts.take i)).length=i:=by simp only[List.length_zipWith,List.length_take];omega
 rw[mf,List.set_append_right _ _ (by omega),hl,Nat.sub_self,List.drop_eq_getElem_cons hi,List.set_cons_zero,mf,List.take_add_one,List.take_add_one,List.getElem?_eq_getElem hi,List.getElem?_eq_getElem (show i<names.length by omega)]
 simp only[Option.toList]
 rw[List.zipWith_append (by simp only[List.length_take];omega)]
 simp
theorem ahx{names ts:List (List UInt8)}(h:names.length=ts.length):mf names ts ts.length=List.zipWith mX names ts:=by
 rw[mf,List.drop_length,List.append_nil,List.take_length,←h,List.take_length]
theorem aez{k n:Int}{s:List UInt8}{l:List ak}{names:List (List UInt8)}(hk:k=5∨k=6)(hn:k=6→names.length=l.length){c:ak}(hc:c∈l):(aV c).length≤(aV (.mk k n s l names)).length:=by
 have hm:aV c∈aR l:=by rw[fC];exact List.mem_map_of_mem hc
 rcases hk with rfl|rfl
 ·have:=ace (sep:=[44]) hm
  simp only[aV]
  simp
  omega
 ·have hn:=hn rfl
  obtain⟨i,hi,he⟩:=List.mem_iff_getElem.1 hm
  have hl:(aR l).length=l.length:=by rw[fC,List.length_map]
  have h2:mX (names[i]'(by omega)) (aR l)[i]∈List.zipWith mX names (aR l):=by
   rw[List.mem_iff_getElem]
   exact⟨i,by simp only[List.length_zipWith];omega,by rw[List.getElem_zipWith]⟩
  have:=ace (sep:=[44]) h2
  rw[he] at this
  simp only[mX,List.length_append,List.length_cons] at this
  have e:aV (.mk 6 n s l names)=123::(dr [44] (List.zipWith mX names (aR l))++[125]):=by
   simp only[aV]
   simp
  rw[e]
  simp only[List.length_cons,List.length_append,List.length_nil]
  omega
theorem acf:(j:ak)→ql j→(aV j).length≤af8→∃r,dP j r
 | .mk k n s l names,hp,hl=>by
   unfold ql at hp
   obtain⟨p3,p4,p5,p6⟩:=hp
   have kids:(k=5∨k=6)→∀c∈l,∃r,dP c r:=fun hk c hc=>acf c (acd (p5 hk).2 hc) (Nat.le_trans (aez hk (fun h=>(p6 h).1) hc) hl)
   obtain⟨j,hj⟩:∃j,ak.mk k n s l names=j:=⟨_,rfl⟩
   have ek:j.kind=k:=by rw[←hj];rfl
   have en:j.n=n:=by rw[←hj];rfl
   have es:j.s=s:=by rw[←hj];rfl
   have ell:j.l=l:=by rw[←hj];rfl
   have enn:j.names=names:=by rw[←hj];rfl
   rw[hj]
   apply abj 2000
   unfold vD ke
   simp only[ek,en,es,ell,enn]
   have hc1:k=6→¬(names.length:Int)<(l.length:Int):=fun h=>by have:=(p6 h).1;omega
   have hl:(aV (.mk k n s l names)).length≤100000000000000:=hl
   repeat' (first|(with_reducible refine au ?_ ?_<;>(intro hb;(try simp only[bnl] at hb);(try revert hb;intro _)))|with_reducible refine aA ?_ ?_|with_reducible refine ar ?_|(refine an (agP _) ?_;rintro _ ⟨-,rfl⟩;try dsimp only)|(refine an (ac6 _ (p3 (by assumption))) ?_;rintro _ ⟨-,rfl⟩;try dsimp only)|(refine an (aaT _ (p4 (by assumption))) ?_;rintro _ ⟨-,rfl⟩;try dsimp only)|fail)
   ·exact⟨_,_,rfl,rfl,by subst hj;simp only[c6,aV];rw[if_pos (by assumption)]⟩
   ·exact⟨_,_,rfl,rfl,by subst hj;simp only[c6,aV];rw[if_neg (by omega),if_pos (by omega)]⟩
   ·exact⟨_,_,rfl,rfl,by subst hj;simp only[c6,aV];rw[if_neg (by omega),if_neg (by omega),if_pos (by omega)]⟩
   ·have h5:k=5:=by assumption
    have hT:aV (.mk k n s l names)=91::(dr [44] (aR l)++[93]):=by
     simp only[aV];rw[if_neg (by omega),if_neg (by omega),if_neg (by omega),if_pos h5]
    rw[hT] at hl
    simp only[List.length_cons,List.length_append,List.length_nil] at hl
    have hq:=p5 (.inl h5)
    refine an (zv l hq.1 (kids (.inl h5))) ?_
    rintro _ ⟨-,rfl⟩
    refine an (acb _ _ (by rw[fC,List.length_map];omega) (by omega)) ?_
    rintro _ ⟨-,rfl⟩
    repeat' (first|(with_reducible refine au ?_ ?_<;>(intro hb;(try simp only[bnl] at hb);(try revert hb;intro _)))|with_reducible refine aA ?_ ?_|with_reducible refine ar ?_|fail)
    ·first|(simp only[bnl,lnl];done)|(simp only[bnl,lnl];omega)
    ·first|(simp only[bnl,lnl];done)|(simp only[bnl,lnl];omega)
    ·exact⟨_,_,rfl,rfl,by simp only[c6];rw[←hj,hT];rfl⟩
   ·have h6:k=6:=by assumption
    rw[if_neg (hc1 h6)];simp
   ·have h6:k=6:=by assumption
    rw[if_neg (hc1 h6),Int.toNat_natCast,List.take_length,List.drop_zero]
    have hq:=p5 (.inr h6)
    obtain⟨hn1,h0,hn2⟩:=p6 h6
    refine an (zv l hq.1 (kids (.inr h6))) ?_
    rintro _ ⟨-,rfl⟩
    have hT:aV (.mk k n s l names)=123::(dr [44] (List.zipWith mX names (aR l))++[125]):=by
     simp only[aV];rw[if_neg (by omega),if_neg (by omega),if_neg (by omega),if_neg (by omega),if_pos h6]
    have hl0:=hl
    rw[hT] at hl
    simp only[List.length_cons,List.length_append,List.length_nil] at hl
    have el:(aR l).length=l.length:=by rw[fC,List.length_map]
    have el2:names.length=(aR l).length:=by omega
    rw[el]
    refine ba (fun x=>match x with|(x0,x1,x2,x3)=>x0=j∧x1=mf names (aR l) x3.toNat∧x2=l.length∧(0≤x3∧x3≤l.length)) (fun x=>((l.length:Int)-x.2.2.2).toNat) ?_ _ _ ⟨rfl,rfl,rfl,by omega⟩ (by simp only;omega)
    rintro again ⟨x0,x1,x2,x3⟩ ⟨rfl,rfl,rfl,i1,i2⟩ ih
    unfold lO
    simp only[enn]
    dsimp only at ih
    have em:=ahv el2 x3.toNat
    rw[el] at em
    have ew:x3<l.length→IntKind.i64.wrap (x3+1)=x3+1:=fun h=>ax (x3+1) (by omega)
    have hnm:x3<l.length→(names.getD x3.toNat (az .str)).length≤10:=fun hi=>hn2 _ (by
     rw[List.getD_eq_getElem?_getD,List.getElem?_eq_getElem (show x3.toNat<names.length by omega)]
     exact List.getElem_mem _)
    have htl:x3<l.length→((mf names (aR l) x3.toNat).getD x3.toNat (az .str)).length≤100000000000000:=fun hi=>by
     rw[aey el2 (show x3.toNat<(aR l).length by omega)]
     have hm:(aR l)[x3.toNat]'(by omega)∈aR l:=List.getElem_mem _
     generalize (aR l)[x3.toNat]'(by omega)=u at hm
     rw[fC] at hm
     obtain⟨c,hc,rfl⟩:=List.mem_map.1 hm
     exact Nat.le_trans (aez (.inr h6) (fun _=>hn1) hc) hl0
    have eset:x3<l.length→(mf names (aR l) x3.toNat).set x3.toNat (aZ (names.getD x3.toNat (az .str))++[58]++(mf names (aR l) x3.toNat).getD x3.toNat (az .str))=mf names (aR l) (x3+1).toNat:=fun hi=>by
     have hi2:x3.toNat<(aR l).length:=by omega
     rw[aey el2 hi2,List.getD_eq_getElem?_getD,List.getElem?_eq_getElem (show x3.toNat<names.length by omega),Option.getD_some]
     have:=ahw el2 hi2
     rw[show (x3+1).toNat=x3.toNat+1 by omega,←this]
     simp[mX]
    have eend:l.length≤x3→mf names (aR l) x3.toNat=List.zipWith mX names (aR l):=fun hi=>by
     rw[show x3.toNat=(aR l).length by omega]
     exact ahx el2
    have hq1:=hq.1
    repeat' (first|(with_reducible refine au ?_ ?_<;>(intro hb;(try simp only[bnl] at hb);(try revert hb;intro _)))|with_reducible refine aA ?_ ?_|with_reducible refine ar ?_|(refine an (aaT _ (by have:=hnm (by omega);omega)) ?_;rintro _ ⟨-,rfl⟩;try dsimp only[q9])|(refine s7 (by simp) (acb _ _ (by omega) (by rw[eend (by omega)];omega)) ?_;rintro _ ⟨-,rfl⟩;try dsimp only)|fail)
    all_goals first|(simp only[bnl,em];omega)|(rename_i hi;simp only[bnl,List.length_set,em];done)|skip
    ·simp only[bnl,List.length_cons,List.length_nil]
     have:=hnm (by assumption);have:=du (names.getD x3.toNat (az .str));omega
    ·simp only[bnl,List.length_append,List.length_cons,List.length_nil]
     have:=hnm (by assumption);have:=du (names.getD x3.toNat (az .str));have:=htl (by assumption);omega
    ·have hi:x3<(l.length:Int):=by assumption
     refine ih _ ⟨rfl,?_,rfl,by simp only[ew hi];omega⟩ (by simp only[ew hi];omega)
     simp only[ew hi]
     exact eset hi
    ·rw[eend (by assumption)];simp only[bnl,List.length_cons,List.length_nil];omega
    ·rw[eend (by assumption)];simp only[bnl,List.length_append,List.length_cons,List.length_nil];omega
    ·refine⟨_,_,rfl,rfl,?_⟩
     simp only[c6]
     rw[←hj,hT,eend (by assumption)]
     rfl
   ·exact⟨_,_,rfl,rfl,by subst hj;simp only[c6,aV];rw[if_neg (by omega),if_neg (by omega),if_neg (by omega),if_neg (by omega),if_neg (by omega)]⟩
termination_by j=>SizeOf.sizeOf j
decreasing_by
 have:=List.sizeOf_lt_of_mem hc
 simp only[ak.mk.sizeOf_spec]
 omega
end Go.Proofs.YtkinflmjagfapaaDoor
end
noncomputable section
namespace Go.Proofs.YtkinflmjagfapaaDoor
open Go.AM
set_option autoImplicit false
set_option linter.unusedVariables false
set_option linter.unusedSimpArgs false
set_option maxRecDepth 100000
def e9:List ak→Nat
 | []=>0
 |c::l=>(aV c).length+1+e9 l
theorem ah8:∀(l:List ak),(dr [44] (aR l)).length≤e9 l
 | []=>by simp[aR,dr,Go.Lib.join_nil,e9]
 |c::l=>by
  unfold aR dr
  rw[Go.Lib.join_cons,List.length_append]
  have:∀l:List ak,(Go.Lib.joinTail [44] (aR l)).length≤e9 l:=by
   intro l
   induction l with
   |nil=>simp[aR,Go.Lib.joinTail,e9]
   |cons d l ih=>
    unfold Go.Lib.joinTail at ih ⊢
    simp only[aR,List.map_cons,List.flatten_cons,List.length_append,List.length_cons,List.length_nil,e9] at ih ⊢
    omega
  have:=this l
  simp only[e9]
  omega
theorem lV(s:List UInt8):(aV (bp s)).length=(aZ s).length:=by simp[aV]
theorem abE(l:List ak):(aV (ni l)).length≤e9 l+2:=by
 have:=ah8 l
 simp[aV]
 omega
theorem aaa(n1 n2:List UInt8)(a b:ak):(aV (fH [n1,n2] [a,b])).length=(aZ n1).length+(aV a).length+(aZ n2).length+(aV b).length+5:=by
 simp[aV,aR,dr,Go.Lib.join_cons,Go.Lib.joinTail]
 omega
theorem aab(n1 n2 n3:List UInt8)(a b c:ak):(aV (fH [n1,n2,n3] [a,b,c])).length=(aZ n1).length+(aV a).length+(aZ n2).length+(aV b).length+(aZ n3).length+(aV c).length+7:=by
 simp[aV,aR,dr,Go.Lib.join_cons,Go.Lib.joinTail]
 omega
theorem vi:∀k:Int,(dJ k).length≤7:=by
 intro k
 unfold dJ
 split
 ·have:∀n:Nat,n<14→(iD.getD n []).length≤7:=by decide
  exact this _ (by omega)
 ·simp
abbrev CC:Nat:=30100
abbrev WW:Nat:=250000000000
theorem zw(w:Nat→Nat):∀n,jd w (n+1)=w 0+jd (fun k=>w (k+1)) n
 |0=>by simp[jd]
 |n+1=>by
  rw[jd,zw w n,jd]
  omega
def Bnd(ts:List am)(tk:Tk)(L:List Int)(js:List ak)(L':List Int):Prop:=match tk with
 | .node t=>∀n b,bZ ts n t b→e9 js+WW*L.length≤CC*b+WW*L'.length∧iO js
 | .row bs=>∀n w,(∀(k:Nat) c,bs[k]? =some c→bZ ts n c (w k))→e9 js+WW*L.length≤CC*jd w bs.length+WW*L'.length∧iO js∧js.length=bs.length
 | .flds fs=>(∀f∈fs,f.name.length≤100∧∃n b,b≤io∧bZ ts n f.typ b)→e9 js+WW*L.length≤fs.length*(700+CC*io)+WW*L'.length∧iO js∧js.length=fs.length
theorem iy{s:List UInt8}(h:s.length≤10000):ql (bp s):=by
 unfold bp ql
 exact⟨fun h=>absurd h (by decide),fun _=>h,fun h=>absurd h (by decide),fun h=>absurd h (by decide)⟩
theorem abF{l:List ak}(h:l.length≤1000)(hp:iO l):ql (ni l):=by
 unfold ni ql
 exact⟨fun h=>absurd h (by decide),fun h=>absurd h (by decide),fun _=>⟨h,hp⟩,fun h=>absurd h (by decide)⟩
theorem qO{names:List (List UInt8)}{l:List ak}(h1:names.length=l.length)(h2:0<l.length∧l.length≤1000)(h3:∀x∈names,x.length≤10)(hp:iO l):ql (fH names l):=by
 unfold fH ql
 exact⟨fun h=>absurd h (by decide),fun h=>absurd h (by decide),fun _=>⟨h2.2,hp⟩,fun _=>⟨h1,h2.1,h3⟩⟩
theorem ahy{l:List (List UInt8)}(h:∀s∈l,s.length≤10000):iO (l.map bp):=by
 induction l with
 |nil=>simp[iO]
 |cons s l ih=>
  simp only[List.map_cons,iO]
  exact⟨iy (h s (by simp)),ih fun x hx=>h x (by simp[hx])⟩
theorem ahz{l:List (List UInt8)}{m:Nat}(h:∀s∈l,s.length≤m):e9 (l.map bp)≤l.length*(6*m+3):=by
 induction l with
 |nil=>simp[e9]
 |cons s l ih=>
  have h1:=ih fun x hx=>h x (by simp[hx])
  have h2:=h s (by simp)
  have h3:=du s
  simp only[List.map_cons,e9,lV,List.length_cons,Nat.add_mul,Nat.one_mul] at h1 ⊢
  omega
theorem bZ.at{ts:List am}{n:Nat}{i:Int}{b:Nat}(h:bZ ts n i b):ts[i.toNat]? =some (tyA ts i):=by
 cases h with
 |leaf _ t h0 h hk=>rw[h,show tyA ts i=t from jB h]
 |arr _ t b h0 hn h hk hr=>rw[h,show tyA ts i=t from jB h]
 |uni _ t w h0 hn h hk hr=>rw[h,show tyA ts i=t from jB h]
theorem TR.bnd{ts:List am}(hX:nq ts){tk:Tk}{L L':List Int}{js:List ak}(h:TR ts tk L js L'):Bnd ts tk L js L':=by
 have hty:=hX.1.2
 induction h with
 |arr t L j L' hk h ih=>
  intro n b hB
  have hat:=hB.at
  cases hB with
  |leaf _ t' h0 h' hk'=>rw[h'] at hat;cases hat;omega
  |uni _ t' w h0 hn h' hk' hr=>rw[h'] at hat;cases hat;omega
  |arr _ t' b h0 hn h' hk' hr=>
   rw[h'] at hat;cases hat
   obtain⟨i1,i2⟩:=ih n b hr
   simp only[e9] at i1 ⊢
   refine⟨?_,⟨qO rfl (by simp) (by simp) ⟨iy (by simp),i2⟩,trivial⟩⟩
   rw[aaa,lV]
   have e1:(aZ cp).length=6:=rfl
   have e2:(aZ [105,116,101,109,115]).length=7:=rfl
   have e3:(aZ [97,114,114,97,121]).length=7:=rfl
   rw[e1,e2,e3]
   simp only[CC,Nat.mul_add] at i1 ⊢
   omega
 |map t L j L' hk h ih=>
  intro n b hB
  have hat:=hB.at
  cases hB with
  |leaf _ t' h0 h' hk'=>rw[h'] at hat;cases hat;omega
  |uni _ t' w h0 hn h' hk' hr=>rw[h'] at hat;cases hat;omega
  |arr _ t' b h0 hn h' hk' hr=>
   rw[h'] at hat;cases hat
   obtain⟨i1,i2⟩:=ih n b hr
   simp only[e9] at i1 ⊢
   refine⟨?_,⟨qO rfl (by simp) (by simp) ⟨iy (by simp),i2⟩,trivial⟩⟩
   rw[aaa,lV]
   have e1:(aZ cp).length=6:=rfl
   have e2:(aZ [118,97,108,117,101,115]).length=8:=rfl
   have e3:(aZ [109,97,112]).length=5:=rfl
   rw[e1,e2,e3]
   simp only[CC,Nat.mul_add] at i1 ⊢
   omega
 |uni t L js L' hk h ih=>
  intro n b hB
  have hat:=hB.at
  cases hB with
  |leaf _ t' h0 h' hk'=>rw[h'] at hat;cases hat;omega
  |arr _ t' b h0 hn h' hk' hr=>rw[h'] at hat;cases hat;omega
  |uni _ t' w h0 hn h' hk' hr=>
   rw[h'] at hat;cases hat
   obtain⟨i1,i2,i3⟩:=ih n w hr
   have hnb:=(hty _ (List.mem_of_getElem? h')).nb
   have hl:=abE js
   refine⟨?_,abF (by omega) i2,trivial⟩
   simp only[e9]
   simp only[CC,Nat.mul_add] at i1 ⊢
   omega
 |told t L hk hm=>
  intro n b hB
  have hat:=hB.at
  have hb:1≤b:=by cases hB<;>omega
  have hnl:=(hty _ (List.mem_of_getElem? hat)).nl
  refine⟨?_,iy (by omega),trivial⟩
  have:=du (tyA ts t).name
  simp only[e9,lV,CC]
  omega
 |fix t L hk hm=>
  intro n b hB
  have hat:=hB.at
  have hb:1≤b:=by cases hB<;>omega
  have tw:=hty _ (List.mem_of_getElem? hat)
  have hnl:=tw.nl
  have hsz:=tw.size
  have hsz:0≤(tyA ts t).size∧(tyA ts t).size≤99:=hsz
  have hw:=vi 11
  refine⟨?_,⟨qO rfl (by simp) (by simp) ⟨iy (by omega),iy (by omega),?_,trivial⟩,trivial⟩⟩
  ·have q1:=du (tyA ts t).name
   have q2:=du (dJ 11)
   have q3:=acc hsz
   have e4:(aV (.mk 3 (tyA ts t).size [] [] [])).length≤2:=by simpa [aV] using q3
   simp only[e9,aab,lV,List.length_append,List.length_cons,List.length_nil]
   have e1:(aZ dF).length=6:=rfl
   have e2:(aZ cp).length=6:=rfl
   have e3:(aZ [115,105,122,101]).length=6:=rfl
   rw[e1,e2,e3]
   simp only[CC,WW] at*
   omega
  ·unfold ql
   exact⟨fun _=>hsz,fun h=>absurd h (by decide),fun h=>absurd h (by decide),fun h=>absurd h (by decide)⟩
 |enum t L hk hm=>
  intro n b hB
  have hat:=hB.at
  have hb:1≤b:=by cases hB<;>omega
  have tw:=hty _ (List.mem_of_getElem? hat)
  have hnl:=tw.nl
  have hns:=tw.ns
  have hw:=vi 10
  have hsl:=ahz tw.sl
  refine⟨?_,⟨qO rfl (by simp) (by simp) ⟨iy (by omega),iy (by omega),abF (by simp;omega) (ahy fun s hs=>by have:=tw.sl s hs;omega),trivial⟩,trivial⟩⟩
  have q1:=du (tyA ts t).name
  have q2:=du (dJ 10)
  have hl:=abE ((tyA ts t).syms.map bp)
  simp only[e9,aab,lV,List.length_append,List.length_cons,List.length_nil]
  have e1:(aZ dF).length=6:=rfl
  have e2:(aZ cp).length=6:=rfl
  have e3:(aZ [115,121,109,98,111,108,115]).length=9:=rfl
  rw[e1,e2,e3]
  simp only[CC,WW] at*
  omega
 |rcd t L js L' hk hm h ih=>
  intro n b hB
  have hat:=hB.at
  have hb:1≤b:=by cases hB<;>omega
  have tw:=hty _ (List.mem_of_getElem? hat)
  have hnl:=tw.nl
  have hnf:=tw.nf
  have hw:=vi 9
  obtain⟨i1,i2,i3⟩:=ih fun f hf=>by
   obtain⟨b,b1,b2⟩:=hX.2.1 _ _ hat f hf
   exact⟨tw.fn f hf,_,b,b1,b2⟩
  refine⟨?_,⟨qO rfl (by simp) (by simp) ⟨iy (by omega),iy (by omega),abF (by omega) i2,trivial⟩,trivial⟩⟩
  have q1:=du (tyA ts t).name
  have q2:=du (dJ 9)
  have hl:=abE js
  have hfl:(tyA ts t).fields.length*(700+CC*io)≤8*(700+CC*io):=Nat.mul_le_mul_right _ hnf
  simp only[e9,aab,lV,List.length_append,List.length_cons,List.length_nil] at i1 ⊢
  have e1:(aZ dF).length=6:=rfl
  have e2:(aZ cp).length=6:=rfl
  have e3:(aZ [102,105,101,108,100,115]).length=8:=rfl
  rw[e1,e2,e3]
  simp only[CC,WW,io] at*
  omega
 |prim t L hk=>
  intro n b hB
  have hb:1≤b:=by cases hB<;>omega
  have hw:=vi (tyA ts t).kind
  refine⟨?_,iy (by omega),trivial⟩
  have:=du (dJ (tyA ts t).kind)
  simp only[e9,lV,CC]
  omega
 |rnil L=>
  intro n w hw
  simp[e9,jd,iO]
 |fnil L=>
  intro hf
  simp[e9,iO]
 |rcons b bs L j L1 js L2 h hr ih1 ih2=>
  intro n w hw
  obtain⟨i1,i2⟩:=ih1 n (w 0) (hw 0 b rfl)
  obtain⟨j1,j2,j3⟩:=ih2 n (fun k=>w (k+1)) fun k c hk=>hw (k+1) c (by simpa using hk)
  unfold iO at i2
  refine⟨?_,⟨i2.1,j2⟩,by simp[j3]⟩
  rw[List.length_cons,zw]
  simp only[e9,Nat.mul_add] at i1 j1 ⊢
  omega
 |fcons f fs L j L1 js L2 h hr ih1 ih2=>
  intro hf
  obtain⟨f1,n,b,b1,b2⟩:=hf f (by simp)
  obtain⟨i1,i2⟩:=ih1 n b b2
  obtain⟨j1,j2,j3⟩:=ih2 fun g hg=>hf g (by simp[hg])
  unfold iO at i2
  refine⟨?_,⟨qO rfl (by simp) (by simp) ⟨iy (by omega),i2.1,trivial⟩,j2⟩,by simp[j3]⟩
  have q1:=du f.name
  have hb:CC*b≤CC*io:=Nat.mul_le_mul_left _ b1
  rw[List.length_cons,Nat.add_mul,Nat.one_mul]
  simp only[e9,aaa,lV] at i1 ⊢
  have e1:(aZ dF).length=6:=rfl
  have e2:(aZ cp).length=6:=rfl
  rw[e1,e2]
  omega
theorem TR.tells{ts:List am}(hX:nq ts){j:ak}{L':List Int}(h:TR ts (.node 0) [] [j] L'):ql j∧(aV j).length≤af8:=by
 obtain⟨b,b1,b2⟩:=hX.2.2
 obtain⟨h1,h2⟩:=h.bnd hX 0 b b2
 have h3:=(h.keeps ⟨List.nodup_nil,by simp⟩).1.le
 have h4:=hX.1.1.2
 have hb:CC*b≤CC*io:=Nat.mul_le_mul_left _ b1
 have hw:WW*L'.length≤WW*60:=Nat.mul_le_mul_left _ (by omega)
 unfold iO at h2
 refine⟨h2.1,?_⟩
 simp only[e9,CC,WW,io,af8,List.length_nil] at*
 omega
end Go.Proofs.YtkinflmjagfapaaDoor
end
noncomputable section
namespace Go.Proofs.YtkinflmjagfapaaDoor
open Go.AM
set_option autoImplicit false
set_option linter.unusedVariables false
set_option linter.unusedSimpArgs false
set_option maxRecDepth 100000
abbrev ym(f:aN):List UInt8×Int:=(f.name,f.typ)
structure abG(a b:am):Prop where
 kind:a.kind=b.kind
 name:a.name=b.name
 items:a.items=b.items
 syms:a.syms=b.syms
 size:a.size=b.size
 branches:a.branches=b.branches
def Sim(A:Int→Prop)(ts us:List am):Prop:=∀t,abG (tyA ts t) (tyA us t)∧(0≤t→¬A t→(tyA ts t).fields.map ym=(tyA us t).fields.map ym)
def nr:Tk→Tk→Prop
 | .node t,.node t'=>t=t'
 | .row bs,.row bs'=>bs=bs'
 | .flds fs,.flds fs'=>fs.map ym=fs'.map ym
 |_,_=>False
theorem nr.n(t:Int):nr (.node t) (.node t):=rfl
theorem nr.r(bs:List Int):nr (.row bs) (.row bs):=rfl
theorem TR.same{A:Int→Prop}{ts us:List am}(hS:Sim A ts us){tk:Tk}{L L':List Int}{js:List ak}(h:TR ts tk L js L'):(∀a,A a→a∈L)→∀tk' js2 L2,nr tk tk'→TR us tk' L js2 L2→js=js2∧L'=L2:=by
 have keepA:∀{L x:List Int},(∀a,A a→a∈L)→(∀a,A a→a∈L++x):=fun h a ha=>List.mem_append_left _ (h a ha)
 have grows:∀{vs:List am}{tk:Tk}{L L':List Int}{js:List ak},TR vs tk L js L'→∀a,a∈L→a∈L':=by
  intro vs tk L L' js h
  induction h with
  |arr t L j L' hk h ih=>exact ih
  |map t L j L' hk h ih=>exact ih
  |uni t L js L' hk h ih=>exact ih
  |told t L hk hm=>exact fun a h=>h
  |fix t L hk hm=>exact fun a h=>List.mem_append_left _ h
  |enum t L hk hm=>exact fun a h=>List.mem_append_left _ h
  |rcd t L js L' hk hm h ih=>exact fun a h=>ih a (List.mem_append_left _ h)
  |prim t L hk=>exact fun a h=>h
  |rnil L=>exact fun a h=>h
  |fnil L=>exact fun a h=>h
  |rcons b bs L j L1 js L2 h hr ih1 ih2=>exact fun a h=>ih2 a (ih1 a h)
  |fcons f fs L j L1 js L2 h hr ih1 ih2=>exact fun a h=>ih2 a (ih1 a h)
 induction h with
 |arr t L j L' hk h ih=>
  intro hA tk' js2 L2 hK h2
  cases tk' with
  |node t'=>
   obtain rfl:t=t':=hK
   obtain⟨s, -⟩:=hS t
   have sk:=s.kind
   cases h2 with
   |arr _ _ j2 _ hk2 h2=>
    rw[←s.items] at h2
    obtain⟨e1,e2⟩:=ih hA _ _ _ (nr.n _) h2
    cases e1
    exact⟨rfl,e2⟩
   |_=>exfalso;omega
  |_=>cases hK
 |map t L j L' hk h ih=>
  intro hA tk' js2 L2 hK h2
  cases tk' with
  |node t'=>
   obtain rfl:t=t':=hK
   obtain⟨s, -⟩:=hS t
   have sk:=s.kind
   cases h2 with
   |map _ _ j2 _ hk2 h2=>
    rw[←s.items] at h2
    obtain⟨e1,e2⟩:=ih hA _ _ _ (nr.n _) h2
    cases e1
    exact⟨rfl,e2⟩
   |_=>exfalso;omega
  |_=>cases hK
 |uni t L js L' hk h ih=>
  intro hA tk' js2 L2 hK h2
  cases tk' with
  |node t'=>
   obtain rfl:t=t':=hK
   obtain⟨s, -⟩:=hS t
   have sk:=s.kind
   cases h2 with
   |uni _ _ j2 _ hk2 h2=>
    rw[←s.branches] at h2
    obtain⟨e1,e2⟩:=ih hA _ _ _ (nr.r _) h2
    cases e1
    exact⟨rfl,e2⟩
   |_=>exfalso;omega
  |_=>cases hK
 |told t L hk hm=>
  intro hA tk' js2 L2 hK h2
  cases tk' with
  |node t'=>
   obtain rfl:t=t':=hK
   obtain⟨s, -⟩:=hS t
   have sk:=s.kind
   cases h2 with
   |told=>exact⟨by rw[s.name],rfl⟩
   |fix _ _ hk2 hm2=>exact absurd hm hm2.2
   |enum _ _ hk2 hm2=>exact absurd hm hm2.2
   |rcd _ _ _ _ hk2 hm2 _=>exact absurd hm hm2.2
   |_=>exfalso;omega
  |_=>cases hK
 |fix t L hk hm=>
  intro hA tk' js2 L2 hK h2
  cases tk' with
  |node t'=>
   obtain rfl:t=t':=hK
   obtain⟨s, -⟩:=hS t
   have sk:=s.kind
   cases h2 with
   |fix=>exact⟨by rw[s.name,s.size],rfl⟩
   |told _ _ hk2 hm2=>exact absurd hm2 hm.2
   |_=>exfalso;omega
  |_=>cases hK
 |enum t L hk hm=>
  intro hA tk' js2 L2 hK h2
  cases tk' with
  |node t'=>
   obtain rfl:t=t':=hK
   obtain⟨s, -⟩:=hS t
   have sk:=s.kind
   cases h2 with
   |enum=>exact⟨by rw[s.name,s.syms],rfl⟩
   |told _ _ hk2 hm2=>exact absurd hm2 hm.2
   |_=>exfalso;omega
  |_=>cases hK
 |rcd t L js L' hk hm h ih=>
  intro hA tk' js2 L2 hK h2
  cases tk' with
  |node t'=>
   obtain rfl:t=t':=hK
   obtain⟨s,sf⟩:=hS t
   have sk:=s.kind
   cases h2 with
   |rcd _ _ js2 _ hk2 hm2 h2=>
    obtain⟨e1,e2⟩:=ih (keepA hA) _ _ _ (show nr (.flds _) (.flds _) from sf hm.1 fun ha=>hm.2 (hA t ha)) h2
    exact⟨by rw[s.name,e1],e2⟩
   |told _ _ hk2 hm2=>exact absurd hm2 hm.2
   |_=>exfalso;omega
  |_=>cases hK
 |prim t L hk=>
  intro hA tk' js2 L2 hK h2
  cases tk' with
  |node t'=>
   obtain rfl:t=t':=hK
   obtain⟨s, -⟩:=hS t
   have sk:=s.kind
   cases h2 with
   |prim=>exact⟨by rw[s.kind],rfl⟩
   |_=>exfalso;omega
  |_=>cases hK
 |rnil L=>
  intro hA tk' js2 L2 hK h2
  cases tk' with
  |row bs=>
   obtain rfl:[]=bs:=hK
   cases h2
   exact⟨rfl,rfl⟩
  |_=>cases hK
 |fnil L=>
  intro hA tk' js2 L2 hK h2
  cases tk' with
  |flds fs=>
   cases fs with
   |nil=>cases h2;exact⟨rfl,rfl⟩
   |cons f fs=>cases hK
  |_=>cases hK
 |rcons b bs L j L1 js L2 h hr ih1 ih2=>
  intro hA tk' js2 L3 hK h2
  cases tk' with
  |row bs'=>
   obtain rfl:b::bs=bs':=hK
   cases h2 with
   |rcons _ _ _ j2 M js2 _ g1 g2=>
    obtain⟨e1,rfl⟩:=ih1 hA _ _ _ (nr.n _) g1
    cases e1
    obtain⟨rfl,rfl⟩:=ih2 (fun a ha=>grows h a (hA a ha)) _ _ _ (nr.r _) g2
    exact⟨rfl,rfl⟩
  |_=>cases hK
 |fcons f fs L j L1 js L2 h hr ih1 ih2=>
  intro hA tk' js2 L3 hK h2
  cases tk' with
  |flds fs'=>
   cases fs' with
   |nil=>cases hK
   |cons f' fs'=>
    have hK:ym f::fs.map ym=ym f'::fs'.map ym:=hK
    obtain⟨k1,k2⟩:=List.cons.inj hK
    obtain⟨k3,k4⟩:=Prod.mk.inj k1
    cases h2 with
    |fcons _ _ _ j2 M js2 _ g1 g2=>
     rw[←k4] at g1
     obtain⟨e1,rfl⟩:=ih1 hA _ _ _ (nr.n _) g1
     cases e1
     obtain⟨rfl,rfl⟩:=ih2 (fun a ha=>grows h a (hA a ha)) _ _ _ (show nr (.flds _) (.flds _) from k2) g2
     exact⟨by rw[k3],rfl⟩
  |_=>cases hK
theorem lH.same{ts us:List am}(hS:Sim (fun _=>False) ts us)(hl:ts=[]↔us=[]){x y:List UInt8}(h1:lH ts x)(h2:lH us y):x=y:=by
 by_cases h:ts=[]
 ·rw[h1.1 h,h2.1 (hl.1 h)]
 ·obtain⟨j,L,t1,rfl⟩:=h1.2 h
  obtain⟨j2,L2,t2,rfl⟩:=h2.2 fun e=>h (hl.2 e)
  obtain⟨e, -⟩:=t1.same hS (fun a ha=>ha.elim) _ _ _ (nr.n 0) t2
  cases e
  rfl
theorem Sim.refl(ts:List am):Sim (fun _=>False) ts ts:=fun t=>⟨⟨rfl,rfl,rfl,rfl,rfl,rfl⟩,fun _ _=>rfl⟩
def vj(a b:List UInt8):Prop:=∃p x y r1 r2,x≠y∧a=p++x::r1∧b=p++y::r2
theorem vj.ne{a b:List UInt8}(h:vj a b):a≠b:=by
 obtain⟨p,x,y,r1,r2,hxy,rfl,rfl⟩:=h
 intro e
 have:=List.append_cancel_left e
 exact hxy (List.cons.inj this).1
theorem vj.mid{a b:List UInt8}(h:vj a b)(p r1 r2:List UInt8):vj (p++(a++r1)) (p++(b++r2)):=by
 obtain⟨p',x,y,s1,s2,hxy,rfl,rfl⟩:=h
 exact⟨p++p',x,y,s1++r1,s2++r2,hxy,by simp,by simp⟩
theorem ahA(sep a:List UInt8)(R:List (List UInt8)):∀T:List (List UInt8),∃p,∀a R,dr sep (T++a::R)=p++(a++Go.Lib.joinTail sep R)
 | []=>⟨[],fun a R=>by simp[dr,Go.Lib.join_cons]⟩
 |t::T=>by
  refine⟨t++T.flatMap (fun x=>sep++x)++sep,fun a R=>?_⟩
  simp only[dr,List.cons_append,Go.Lib.join_cons,Go.Lib.joinTail]
  induction T with
  |nil=>simp
  |cons z T ih=>simp at ih ⊢;exact ih
theorem afc(c:UInt8)(h:c≠117):∃x r,gq c=x::r∧x≠117:=by
 have:∀n,n<256→(match gq (UInt8.ofNat n) with| []=>False|x::r=>UInt8.ofNat n≠117→x≠117):=by
  have hd:(List.range 256).all (fun n=>match gq (UInt8.ofNat n) with| []=>false|x::r=>(UInt8.ofNat n==117)|| !(x==117))=true:=by kernel_rfl
  intro n hn
  have:=List.all_eq_true.1 hd n (List.mem_range.2 hn)
  revert this
  cases gq (UInt8.ofNat n) with
  |nil=>simp
  |cons x r=>
   simp
   intro h1 h2
   rcases h1 with h1|h1
   ·exact absurd h1 h2
   ·exact h1
 have h1:=this c.toNat (UInt8.toNat_lt _)
 rw[UInt8.ofNat_toNat] at h1
 cases hq:gq c with
 |nil=>rw[hq] at h1;exact h1.elim
 |cons x r=>rw[hq] at h1;exact⟨x,r,rfl,h1 h⟩
end Go.Proofs.YtkinflmjagfapaaDoor
end
noncomputable section
namespace Go.Proofs.YtkinflmjagfapaaDoor
open Go.AM
set_option autoImplicit false
set_option linter.unusedVariables false
set_option maxRecDepth 100000
def qm:mj:=fun f us css=>match f,us,css with
 |27,[.ptr 1 0,.int .i64 a1],[[.mp .ib o0_0],[.sl .atype (.may false) o1_0,.mr 0]]=>some (can (aw o0_0 o1_0 a1),.agg [.int .i64 (((pick (aw o0_0 o1_0 a1)).1).kind),.int .i64 (((pick (aw o0_0 o1_0 a1)).1).n),.str (((pick (aw o0_0 o1_0 a1)).1).s),.sl .jnode (.may false) (((pick (aw o0_0 o1_0 a1)).1).l),.sl .str (.may false) (((pick (aw o0_0 o1_0 a1)).1).names)],[[.mp .ib ((pick (aw o0_0 o1_0 a1)).2.1)],[.sl .atype (.may false) ((pick (aw o0_0 o1_0 a1)).2.2),.mr 0]])
 |_,_,_=>none
noncomputable def rx:ay:=(kK 2 qm (mQ (sq (P:=Tryd.prog) [xK])))
theorem aac:bX rx [27,2000027]:=(uF (by
 intro f us css hf
 unfold qm
 split<;>first|rfl|(simp at hf)) (lD _ _))
theorem aaU:bL Tryd.prog rx:=by
 refine zQ ?_ ?_
 ·intro f us css v css' h
  unfold qm at h
  split at h
  ·simp only[Option.some.injEq,Prod.mk.injEq] at h
   obtain⟨hc,rfl,rfl⟩:=h
   exact((pO hc).1).dim rfl
  ·simp at h
 exact uA _
def ac7:IR:=Rs [Bx 1 0,Ms 2 []] (Sq (Rs [Fa 4 0 1,Lq 5 4,Ll 6 5,Bc 7 .eql 6 0] (Cn 7 (Rs [Ms 2 []] .ret) .skip)) (Rs [Ld 8 1 true 1,Pp (.mkm 9 .ib),Pp (.bld 10 [fu .atype true,.nilm] [(0,1,8),(1,1,9)]),Pp (.box 11 10),Mv 3 11] (Rs [Mv 12 3,Ca 13 27 [12,kI 0],Ca 14 26 [13],Mv 2 14] .ret)))
def ac8:List RV:=[.t 2]
theorem ac9:FnC Tryd.prog rx [27,2000027] 0 xH Tryd.f15 ac7 ac8:=⟨aaU,aac,Tryd.func15,by kernel_rfl,by kernel_rfl,by decide⟩
def wc(N:Nat)(p0_0:List am):Ro:=
 let x1:=(↑(List.length p0_0):Int)
 cond (x1==0) (
  some (.str ([]:Bs),[])) (
  ao (aw ([]:List (Int×Bool)) p0_0 0) (fun r1=>
   ao (dP (reJ r1.1)) (fun(r2:Bs)=>
    some (.str r2,[some [.mp .ib r1.2.1],some [.sl .atype (.may false) r1.2.2,.mr 0]]))))
def wd(N:Nat)(p0_0:List am):Ro:=wc N p0_0
theorem abH(N:Nat)(p0_0:List am)(h:Tot (wd N p0_0) (fun z=>∃(y0:Bs)(rest:List aq),z.1.dimR=.str y0∧z.2=rest∧rV p0_0 (y0))):∃r,dd p0_0 r:=ac9.finP (N:=N) (by kernel_rfl) h fun _ ⟨y0,_,e,_,q⟩=>⟨(y0),e,q⟩
noncomputable def ada:ay:=tab (P:=Tryd.prog) [] [] [] [rf,ae1]
def abI:IR:=Rs [Bx 1 0,Pp (.mov 2 (kU 0))] (Rs [Ld 3 1 true 1,Ca 4 15 [3],Ca 5 28 [4],Mv 2 5] .ret)
def abJ:List RV:=[.t 2]
theorem abK:FnC Tryd.prog ada [] 0 vw Tryd.f16 abI abJ:=fnC Tryd.func16
def tR(N:Nat)(p0_0:List am):Ro:=
 ao (dd p0_0) (fun(r1:Bs)=>
  ao (my r1) (fun(r2:Int)=>
   some (.int .u64 r2,[])))
def tS(N:Nat)(p0_0:List am):Ro:=tR N p0_0
theorem aaV(N:Nat)(p0_0:List am)(h:Tot (tS N p0_0) (fun z=>∃(y0:Int)(rest:List aq),z.1.dimR=.int .u64 y0∧z.2=rest∧rc p0_0 (y0))):∃r,gm p0_0 r:=abK.finP (N:=N) (by kernel_rfl) h fun _ ⟨y0,_,e,_,q⟩=>⟨(y0),e,q⟩
noncomputable def dI:ay:=tab (P:=Tryd.prog) [] [] [] []
def tT:IR:=Rs [Bc 18 .lss 17 8] (Sq (Cn 18 .skip (.exit 2)) (Sq (.block 3 (Rs [Mv 19 3,Pp (.bin 20 .and 19 (kU 1)),Mv 5 20] (Rg [Mv 21 3,Pp (.bin 22 .shr 21 (kU 1)),Mv 23 5,Pp (.un 24 .neg 23),Pp (.bin 25 .and (kU 13933329357911598997) 24),Bi 26 .xor 22 25,Mv 3 26]))) (Rg [Bc 27 .add 17 1,Mv 17 27])))
def tU:IR:=Rg [Bc 28 .add 8 1,Mv 8 28]
def kT:IR:=Rs [Bi 9 .lss 8 7] (Sq (Cn 9 .skip (.exit 0)) (Sq (.block 1 (Rs [Mv 10 8,Mv 4 10] (Rs [Mv 11 3,Mv 12 0,Mv 13 4,Pp (.idx 14 12 13),Pp (.cvi 15 .u64 14),Bi 16 .xor 11 15,Mv 3 16] (Rs [Mi 17 0] (.block 2 (.loop [0,3,7,8,17,1000000] 0 tT)))))) tU))
def oG:IR:=Rs [Mv 29 3,Mv 2 29] .ret
def aeA:IR:=Rs [Pp (.mov 2 (kU 0))] (Rs [Pp (.mov 3 (kU 13933329357911598997))] (Sq (Rs [Mv 6 0,Pp (.lens 7 6),Mi 8 0] (.block 0 (.loop [0,3,7,8,1000001] 0 kT))) oG))
def ry:List RV:=[.t 2]
theorem aeB:FnC Tryd.prog dI [] 0 zn Tryd.f28 aeA ry:=fnC Tryd.func28
def mY(R:IR→(Ex→St→Ro)→St→Ro)(again0:St→Ro):Ex→St→Ro:=(bO again0 [0,3,7,8,1000001] 0 (aJ 0 (kseq (R oG) (fin ry))))
abbrev eh:Type:=(Bs×Int×Int×Int)
def bM(x:eh):St:={env:=(.str x.1::.undef::.undef::.int .u64 x.2.1::(U 3 (.int .i64 x.2.2.1::.int .i64 x.2.2.2::(U 21 [])))),hp:=[]}
def adb(R:IR→(Ex→St→Ro)→St→Ro)(again0 again1:St→Ro):Ex→St→Ro:=(bO again1 [0,3,7,8,17,1000000] 0 (aJ 2 (aJ 1 (kseq (R tU) (mY R again0)))))
abbrev mZ:Type:=(Bs×Int×Int×Int×Int)
def jC(x:mZ):St:={env:=(.str x.1::.undef::.undef::.int .u64 x.2.1::(U 3 (.int .i64 x.2.2.1::.int .i64 x.2.2.2.1::(U 8 (.int .i64 x.2.2.2.2::(U 12 [])))))),hp:=[]}
def na(N:Nat)(again0:St→Ro):(St→Ro)→St→Ro:=fun again1 s=>run dI N tT (adb (run dI N) again0 again1) s
def kh(N:Nat)(again0:eh→Ro)(again1:mZ→Ro)(x:mZ):Ro:=
 let v0:Bs:=x.1
 let v3:Int:=x.2.1
 let v7:Int:=x.2.2.1
 let v8:Int:=x.2.2.2.1
 let v17:Int:=x.2.2.2.2
 cond (decide (v17<8)) (
  let x4:=(IntKind.wrap .u64 (0-(bU .and .u64 v3 1)))
  let x5:=(bU .and .u64 13933329357911598997 x4)
  let x6:=(bU .xor .u64 (nO .u64 v3 1) x5)
  let x7:=(IntKind.wrap .i64 (v17+1))
  again1 (v0,x6,v7,v8,x7)) (
  let x8:=(IntKind.wrap .i64 (v8+1))
  again0 (v0,v3,v7,x8))
theorem abL(N:Nat)(again0:St→Ro):LB (na N again0) jC (kh N (fun y=>again0 (bM y))):=fun _ _=>by kernel_rfl
def nc(N:Nat):(St→Ro)→St→Ro:=fun again0 s=>run dI N kT (mY (run dI N) again0) s
def lW(N:Nat)(again0:eh→Ro)(q1:mZ→Ro)(x:eh):Ro:=
 let v0:Bs:=x.1
 let v3:Int:=x.2.1
 let v7:Int:=x.2.2.1
 let v8:Int:=x.2.2.2
 cond (decide (v8<v7)) (
  chk (ixl v8 v0) (
   let x2:=(↑(UInt8.toNat (List.getD v0 (Int.toNat v8) 0)):Int)
   let x3:=(bU .xor .u64 v3 (IntKind.wrap .u64 x2))
   q1 (v0,x3,v7,v8,0))) (
  some (.int .u64 v3,[]))
def nd(N:Nat)(again0:eh→Ro)(x:eh):Ro:=lW N again0 (fun z=>aT N (kh N again0) z) x
def qn(N:Nat)(again0:St→Ro):List (Nat×(St→Ro)):=(ca dI N kT (mY (run dI N) again0)++(ca dI N oG (fin ry)++[]))
theorem abM(N:Nat):∀(again0:St→Ro)(x:eh),nc N again0 (bM x)=nd N (fun y=>again0 (bM y)) x:=by
 intro again0 x
 have hX:∀C:Nat→St→Ro,bW C dI N kT (mY (bW C dI N) again0) (bM x)=lW N (fun y=>again0 (bM y)) (fun z=>C 1000000 (jC z)) x:=by
  intro C
  kernel_rfl
 have h:nc N again0 (bM x)=lW N (fun y=>again0 (bM y)) (fun z=>bh N (na N again0) (jC z)) x:=(eX (C:=ic (qn N again0)) (cE (bb (l:=(qn N again0)) (by kernel_rfl))) (pP (eW (jJ (cE (fL (bb (l:=(qn N again0)) (by kernel_rfl)))) rfl))) _).trans ((hX _).trans (by kernel_rfl))
 have e1:(fun z=>bh N (na N again0) (jC z))=(fun z=>aT N (kh N (fun y=>again0 (bM y))) z):=funext fun z=>bj (jC) (na N again0) (kh N (fun y=>again0 (bM y))) (abL N again0) N z
 rw[h,e1]
 rfl
def lA(N:Nat)(p0:Bs)(q0:eh→Ro):Ro:=
 let x1:=(↑(List.length p0):Int)
 q0 (p0,13933329357911598997,x1,0)
def yn(N:Nat)(p0:Bs):Ro:=lA N p0 (fun z=>aT N (nd N) z)
theorem adc(N:Nat)(p0:Bs)(h:Tot (yn N p0) (fun z=>∃(y0:Int)(rest:List aq),z.1.dimR=.int .u64 y0∧z.2=rest∧po p0 (y0))):∃r,my p0 r:=aeB.finP (N:=N) ((cn _ (by kernel_rfl) rfl (fun C=>lA N p0 (fun z=>C 1000001 (bM z))) (fun C=>by kernel_rfl)).trans (Eq.trans (b:=lA N p0 (fun z=>bh N (nc N) (bM z))) (by kernel_rfl) (congrArg (lA N p0) (funext fun z=>bj (bM) (nc N) (nd N) (abM N) N z)))) h fun _ ⟨y0,_,e,_,q⟩=>⟨(y0),e,q⟩
noncomputable def cQ:ay:=tab (P:=Tryd.prog) [] [] [] []
def rz:IR:=Sq (Rs [Mv 18 5,Bc 19 .lss 18 8] (Cn 19 .skip (.exit 2))) (Sq (.block 3 (Rs [Mv 22 3,Pp (.bin 23 .rem 22 (kU 2)),Pp (.bin 24 .eql 23 (kU 1))] (Cn 24 (Rg [Mv 25 3,Pp (.bin 26 .quo 25 (kU 2)),Pp (.bin 27 .xor 26 (kU 13933329357911598997)),Mv 3 27]) (Rg [Mv 28 3,Pp (.bin 29 .quo 28 (kU 2)),Mv 3 29])))) (Rg [Mv 20 5,Bc 21 .add 20 1,Mv 5 21]))
def rA:IR:=Rg [Mv 10 4,Bc 11 .add 10 1,Mv 4 11]
def jh:IR:=Sq (Rs [Mv 6 4,Mv 7 0,Pp (.lens 8 7),Bi 9 .lss 6 8] (Cn 9 .skip (.exit 0))) (Sq (.block 1 (Rs [Mv 12 3,Mv 13 0,Mv 14 4,Pp (.idx 15 13 14),Pp (.cvi 16 .u64 15),Bi 17 .xor 12 16,Mv 3 17] (Rs [Mi 5 0] (.block 2 (.loop [0,3,4,5,1000000] 0 rz))))) rA)
def mg:IR:=Rs [Mv 30 3,Mv 2 30] .ret
def abN:IR:=Rs [Pp (.mov 2 (kU 0))] (Rs [Pp (.mov 3 (kU 13933329357911598997))] (Sq (Rs [Mi 4 0] (.block 0 (.loop [0,3,4,1000001] 0 jh))) mg))
def pA:List RV:=[.t 2]
theorem abO:FnC Tryd.prog cQ [] 0 vz Tryd.f17 abN pA:=fnC Tryd.func17
def kV(R:IR→(Ex→St→Ro)→St→Ro)(again0:St→Ro):Ex→St→Ro:=(bO again0 [0,3,4,1000001] 0 (aJ 0 (kseq (R mg) (fin pA))))
abbrev c8:Type:=(Bs×Int×Int)
def bv(x:c8):St:={env:=(.str x.1::.undef::.undef::.int .u64 x.2.1::.int .i64 x.2.2::(U 26 [])),hp:=[]}
def aaW(R:IR→(Ex→St→Ro)→St→Ro)(again0 again1:St→Ro):Ex→St→Ro:=(bO again1 [0,3,4,5,1000000] 0 (aJ 2 (aJ 1 (kseq (R rA) (kV R again0)))))
abbrev kW:Type:=(Bs×Int×Int×Int)
def hY(x:kW):St:={env:=(.str x.1::.undef::.undef::.int .u64 x.2.1::.int .i64 x.2.2.1::.int .i64 x.2.2.2::(U 25 [])),hp:=[]}
def kX(N:Nat)(again0:St→Ro):(St→Ro)→St→Ro:=fun again1 s=>run cQ N rz (aaW (run cQ N) again0 again1) s
def iP(N:Nat)(again0:c8→Ro)(again1:kW→Ro)(x:kW):Ro:=
 let v0:Bs:=x.1
 let v3:Int:=x.2.1
 let v4:Int:=x.2.2.1
 let v5:Int:=x.2.2.2
 cond (decide (v5<8)) (
  cond ((Int.tmod v3 2)==1) (
   let x4:=(IntKind.wrap .u64 (Int.tdiv v3 2))
   let x5:=(bU .xor .u64 x4 13933329357911598997)
   let x6:=(IntKind.wrap .i64 (v5+1))
   again1 (v0,x5,v4,x6)) (
   let x7:=(IntKind.wrap .u64 (Int.tdiv v3 2))
   let x8:=(IntKind.wrap .i64 (v5+1))
   again1 (v0,x7,v4,x8))) (
  let x9:=(IntKind.wrap .i64 (v4+1))
  again0 (v0,v3,x9))
theorem aad(N:Nat)(again0:St→Ro):LB (kX N again0) hY (iP N (fun y=>again0 (bv y))):=fun _ _=>by kernel_rfl
def kY(N:Nat):(St→Ro)→St→Ro:=fun again0 s=>run cQ N jh (kV (run cQ N) again0) s
def j7(N:Nat)(again0:c8→Ro)(q1:kW→Ro)(x:c8):Ro:=
 let v0:Bs:=x.1
 let v3:Int:=x.2.1
 let v4:Int:=x.2.2
 let x1:=(↑(List.length v0):Int)
 cond (decide (v4<x1)) (
  chk (ixl v4 v0) (
   let x2:=(↑(UInt8.toNat (List.getD v0 (Int.toNat v4) 0)):Int)
   let x3:=(bU .xor .u64 v3 (IntKind.wrap .u64 x2))
   q1 (v0,x3,v4,0))) (
  some (.int .u64 v3,[]))
def kZ(N:Nat)(again0:c8→Ro)(x:c8):Ro:=j7 N again0 (fun z=>aT N (iP N again0) z) x
def oH(N:Nat)(again0:St→Ro):List (Nat×(St→Ro)):=(ca cQ N jh (kV (run cQ N) again0)++(ca cQ N mg (fin pA)++[]))
theorem aae(N:Nat):∀(again0:St→Ro)(x:c8),kY N again0 (bv x)=kZ N (fun y=>again0 (bv y)) x:=by
 intro again0 x
 have hX:∀C:Nat→St→Ro,bW C cQ N jh (kV (bW C cQ N) again0) (bv x)=j7 N (fun y=>again0 (bv y)) (fun z=>C 1000000 (hY z)) x:=by
  intro C
  kernel_rfl
 have h:kY N again0 (bv x)=j7 N (fun y=>again0 (bv y)) (fun z=>bh N (kX N again0) (hY z)) x:=(eX (C:=ic (oH N again0)) (cE (bb (l:=(oH N again0)) (by kernel_rfl))) (pP (eW (jJ (cE (fL (bb (l:=(oH N again0)) (by kernel_rfl)))) rfl))) _).trans ((hX _).trans (by kernel_rfl))
 have e1:(fun z=>bh N (kX N again0) (hY z))=(fun z=>aT N (iP N (fun y=>again0 (bv y))) z):=funext fun z=>bj (hY) (kX N again0) (iP N (fun y=>again0 (bv y))) (aad N again0) N z
 rw[h,e1]
 rfl
def jD(N:Nat)(p0:Bs)(q0:c8→Ro):Ro:=
 q0 (p0,13933329357911598997,0)
def tV(N:Nat)(p0:Bs):Ro:=jD N p0 (fun z=>aT N (kZ N) z)
theorem aaX(N:Nat)(p0:Bs)(h:Tot (tV N p0) (fun z=>∃(y0:Int)(rest:List aq),z.1.dimR=.int .u64 y0∧z.2=rest∧nj p0 (y0))):∃r,kb p0 r:=abO.finP (N:=N) ((cn _ (by kernel_rfl) rfl (fun C=>jD N p0 (fun z=>C 1000001 (bv z))) (fun C=>by kernel_rfl)).trans (Eq.trans (b:=jD N p0 (fun z=>bh N (kY N) (bv z))) (by kernel_rfl) (congrArg (jD N p0) (funext fun z=>bj (bv) (kY N) (kZ N) (aae N) N z)))) h fun _ ⟨y0,_,e,_,q⟩=>⟨(y0),e,q⟩
end Go.Proofs.YtkinflmjagfapaaDoor
end
noncomputable section
namespace Go.Proofs.YtkinflmjagfapaaDoor
open Go.AM
set_option autoImplicit false
set_option linter.unusedVariables false
set_option linter.unusedSimpArgs false
set_option maxRecDepth 100000
theorem aeC(v:Nat)(h:v<2^64):nZ v<2^64:=by
 unfold nZ
 split
 ·exact Nat.xor_lt_two_pow (by omega) (by decide)
 ·omega
theorem ahB(a:Nat)(h:a<2^64):bU .xor .u64 (nO .u64 (a:Int) 1) (bU .and .u64 13933329357911598997 (IntKind.wrap .u64 (0-(bU .and .u64 (a:Int) 1))))=(nZ a:Int):=by
 have e1:bU .and .u64 (a:Int) 1=((a%2:Nat):Int):=by
  have:=uu .u64 rfl a 1 h (by decide)
  rw[Nat.and_one_is_mod] at this
  exact this
 have e2:nO .u64 (a:Int) 1=((a / 2:Nat):Int):=by
  have:=adH .u64 a 1 (by decide)
  simpa using this
 have hh:a / 2<2^IntKind.u64.bits:=by show a / 2<2^64;omega
 rw[e1,e2]
 unfold nZ
 rcases Nat.mod_two_eq_zero_or_one a with h0|h0
 ·rw[h0,if_neg (by decide)]
  have e3:IntKind.wrap .u64 (0-((0:Nat):Int))=((0:Nat):Int):=by decide
  have e4:=uu .u64 rfl 13933329357911598997 0 (by decide) (by decide)
  have e5:=ur .u64 rfl (a / 2) 0 hh (by decide)
  rw[e3,show (13933329357911598997:Int)=((13933329357911598997:Nat):Int) from rfl,e4,Nat.and_zero,e5,Nat.xor_zero]
 ·rw[h0,if_pos rfl]
  have e3:IntKind.wrap .u64 (0-((1:Nat):Int))=((18446744073709551615:Nat):Int):=by decide
  have e4:=uu .u64 rfl 13933329357911598997 18446744073709551615 (by decide) (by decide)
  have e5:=ur .u64 rfl (a / 2) 13933329357911598997 hh (by decide)
  rw[e3,show (13933329357911598997:Int)=((13933329357911598997:Nat):Int) from rfl,e4,show 13933329357911598997&&& 18446744073709551615=13933329357911598997 by decide,e5]
  rfl
theorem acg(s:List UInt8)(i:Nat)(h:i<s.length)(v:Nat):(s.drop i).foldl mu v=(s.drop (i+1)).foldl mu (mu v (s.getD i 0)):=by
 rw[List.drop_eq_getElem_cons h,List.foldl_cons]
 simp[List.getD,h]
theorem ach(a:Nat)(ha:a<2^64)(c:UInt8):bU .xor .u64 (a:Int) (IntKind.wrap .u64 (c.toNat:Int))=((a ^^^c.toNat:Nat):Int)∧a ^^^c.toNat<2^64:=by
 have hb:=c.toNat_lt
 exact⟨by rw[pI .u64 rfl _ (by show _<2^64;omega),ur .u64 rfl _ _ ha (by show _<2^64;omega)],Nat.xor_lt_two_pow ha (by omega)⟩
theorem aiP(s:List UInt8)(hs:s.length≤bN):∃r,my s r:=by
 have hm:(s.length:Int)≤9223372036854775807:=by unfold bN at hs;omega
 apply adc (s.length+20)
 unfold yn lA
 dsimp only
 refine ba (fun x=>match x with|(x0,x1,x2,x3)=>x0=s∧x2=(s.length:Int)∧∃a i:Nat,x1=(a:Int)∧a<2^64∧x3=(i:Int)∧i≤s.length∧(s.drop i).foldl mu a=adJ s) (fun x=>s.length-x.2.2.2.toNat) ?_ _ _ ⟨rfl,rfl,fpC,0,rfl,by decide,rfl,by omega,rfl⟩ (by simp only;omega)
 rintro again ⟨x0,x1,x2,x3⟩ ⟨rfl,rfl,a,i,rfl,ha,rfl,hi,he⟩ ih
 unfold nd lW
 dsimp only at ih ⊢
 repeat' (first|(with_reducible refine au ?_ ?_<;>(intro hb;(try simp only[bnl] at hb);(try revert hb;intro _)))|with_reducible refine aA ?_ ?_|with_reducible refine ar ?_|fail)
 ·first|(simp only[bnl,lnl];done)|(simp only[bnl,lnl];omega)
 ·have hlt:i<x0.length:=by have:(i:Int)<(x0.length:Int):=by assumption
                           omega
  obtain⟨e1,e2⟩:=ach a ha (x0.getD i 0)
  simp only[Int.toNat_natCast]
  rw[e1]
  rw[acg _ _ hlt] at he
  refine ba (fun y=>match y with|(y0,y1,y2,y3,y4)=>y0=x0∧y2=(x0.length:Int)∧y3=(i:Int)∧∃b k:Nat,y1=(b:Int)∧b<2^64∧y4=(k:Int)∧k≤8∧aax (8-k) b=mu a (x0.getD i 0)) (fun y=>8-y.2.2.2.2.toNat) ?_ _ _ ⟨rfl,rfl,rfl,_,0,rfl,e2,rfl,by omega,rfl⟩ (by simp only;omega)
  rintro again1 ⟨y0,y1,y2,y3,y4⟩ ⟨rfl,rfl,rfl,b,k,rfl,hb,rfl,hk,hf⟩ ih1
  unfold kh
  dsimp only at ih1 ⊢
  rw[ahB b hb]
  repeat' (first|(with_reducible refine au ?_ ?_<;>(intro hb;(try simp only[bnl] at hb);(try revert hb;intro _)))|with_reducible refine aA ?_ ?_|with_reducible refine ar ?_|fail)
  ·have hk8:k<8:=by have:(k:Int)<8:=by assumption
                    omega
   have ew:IntKind.i64.wrap ((k:Int)+1)=((k+1:Nat):Int):=by rw[ax _ (by omega)];rfl
   rw[ew]
   refine ih1 _ ⟨rfl,rfl,rfl,_,k+1,rfl,aeC b hb,rfl,by omega,?_⟩ (by simp only[Int.toNat_natCast];omega)
   rw[←hf,show 8-k=(8-(k+1))+1 by omega]
   rfl
  ·obtain rfl:k=8:=by have:¬(k:Int)<8:=by omega
                      omega
   have ew:IntKind.i64.wrap ((i:Int)+1)=((i+1:Nat):Int):=by rw[ax _ (by omega)];rfl
   rw[ew]
   refine ih _ ⟨rfl,rfl,b,i+1,rfl,hb,rfl,by omega,?_⟩ (by simp only[Int.toNat_natCast];omega)
   have hf:b=mu a (y0.getD i 0):=hf
   rw[hf]
   exact he
 ·have:i=x0.length:=by have:¬(i:Int)<(x0.length:Int):=by omega
                       omega
  subst this
  rw[List.drop_length] at he
  exact⟨_,_,rfl,rfl,by simp only[po];rw[←he];rfl⟩
theorem ah9(b:Nat)(hb:b<2^64):(Int.tmod (b:Int) 2==1)=decide (b%2=1)∧IntKind.wrap .u64 (Int.tdiv (b:Int) 2)=((b / 2:Nat):Int):=by
 have h1:Int.tmod (b:Int) 2=((b%2:Nat):Int):=by rw[Int.tmod_eq_emod_of_nonneg (by omega)];omega
 have h2:Int.tdiv (b:Int) 2=((b / 2:Nat):Int):=by rw[Int.tdiv_eq_ediv_of_nonneg (by omega)];omega
 refine⟨?_,?_⟩
 ·rw[h1]
  by_cases h:b%2=1
  ·simp[h]
  ·have:b%2=0:=by omega
   simp[this]
 ·rw[h2,pI .u64 rfl _ (by show _<2^64;omega)]
theorem af9(s:List UInt8)(hs:s.length≤bN):∃r,kb s r:=by
 have hm:(s.length:Int)≤9223372036854775807:=by unfold bN at hs;omega
 apply aaX (s.length+20)
 unfold tV jD
 dsimp only
 refine ba (fun x=>match x with|(x0,x1,x3)=>x0=s∧∃a i:Nat,x1=(a:Int)∧a<2^64∧x3=(i:Int)∧i≤s.length∧(s.drop i).foldl mu a=adJ s) (fun x=>s.length-x.2.2.toNat) ?_ _ _ ⟨rfl,fpC,0,rfl,by decide,rfl,by omega,rfl⟩ (by simp only;omega)
 rintro again ⟨x0,x1,x3⟩ ⟨rfl,a,i,rfl,ha,rfl,hi,he⟩ ih
 unfold kZ j7
 dsimp only at ih ⊢
 repeat' (first|(with_reducible refine au ?_ ?_<;>(intro hb;(try simp only[bnl] at hb);(try revert hb;intro _)))|with_reducible refine aA ?_ ?_|with_reducible refine ar ?_|fail)
 ·first|(simp only[bnl,lnl];done)|(simp only[bnl,lnl];omega)
 ·have hlt:i<x0.length:=by have:(i:Int)<(x0.length:Int):=by assumption
                           omega
  obtain⟨e1,e2⟩:=ach a ha (x0.getD i 0)
  simp only[Int.toNat_natCast]
  rw[e1]
  rw[acg _ _ hlt] at he
  refine ba (fun y=>match y with|(y0,y1,y3,y4)=>y0=x0∧y3=(i:Int)∧∃b k:Nat,y1=(b:Int)∧b<2^64∧y4=(k:Int)∧k≤8∧aax (8-k) b=mu a (x0.getD i 0)) (fun y=>8-y.2.2.2.toNat) ?_ _ _ ⟨rfl,rfl,_,0,rfl,e2,rfl,by omega,rfl⟩ (by simp only;omega)
  rintro again1 ⟨y0,y1,y3,y4⟩ ⟨rfl,rfl,b,k,rfl,hb,rfl,hk,hf⟩ ih1
  unfold iP
  dsimp only at ih1 ⊢
  obtain⟨g1,g2⟩:=ah9 b hb
  have hh:b / 2<2^IntKind.u64.bits:=by show b / 2<2^64;omega
  have g3:=ur .u64 rfl (b / 2) 13933329357911598997 hh (by decide)
  have ew:k<8→IntKind.i64.wrap ((k:Int)+1)=((k+1:Nat):Int):=fun h=>by rw[ax _ (by omega)];rfl
  have next:∀(h8:k<8),Tot (again1 (y0,(nZ b:Int),(i:Int),((k+1:Nat):Int))) _:=fun h8=>ih1 (y0,(nZ b:Int),(i:Int),((k+1:Nat):Int)) ⟨rfl,rfl,_,k+1,rfl,aeC b hb,rfl,by omega,by
   rw[←hf,show 8-k=(8-(k+1))+1 by omega]
   rfl⟩ (by simp only[Int.toNat_natCast];omega)
  rw[g1,g2]
  repeat' (first|(with_reducible refine au ?_ ?_<;>(intro hb;(try simp only[bnl] at hb);(try revert hb;intro _)))|with_reducible refine aA ?_ ?_|with_reducible refine ar ?_|fail)
  ·have h8:k<8:=by omega
   have hp:b%2=1:=by assumption
   have e:nZ b=(b / 2) ^^^13933329357911598997:=by unfold nZ;rw[if_pos hp];rfl
   have:=next h8
   rw[e] at this
   rw[ew h8,show (13933329357911598997:Int)=((13933329357911598997:Nat):Int) from rfl,g3]
   exact this
  ·have h8:k<8:=by omega
   have hp:¬b%2=1:=by assumption
   have e:nZ b=b / 2:=by unfold nZ;rw[if_neg hp]
   have:=next h8
   rw[e] at this
   rw[ew h8]
   exact this
  ·obtain rfl:k=8:=by omega
   have ew:IntKind.i64.wrap ((i:Int)+1)=((i+1:Nat):Int):=by rw[ax _ (by omega)];rfl
   rw[ew]
   refine ih _ ⟨rfl,b,i+1,rfl,hb,rfl,by omega,?_⟩ (by simp only[Int.toNat_natCast];omega)
   have hf:b=mu a (y0.getD i 0):=hf
   rw[hf]
   exact he
 ·have:i=x0.length:=by omega
  subst this
  rw[List.drop_length] at he
  exact⟨_,_,rfl,rfl,by simp only[nj];rw[←he];rfl⟩
end Go.Proofs.YtkinflmjagfapaaDoor
end
noncomputable section
namespace Go.Proofs.YtkinflmjagfapaaDoor
open Go.AM
set_option autoImplicit false
set_option linter.unusedVariables false
set_option maxRecDepth 100000
noncomputable def ade:ay:=tab (P:=Tryd.prog) [] [] [] [rf,vA,acv]
def abP:IR:=Rs [Mb 0 false] (Rs [Pp (.bld 2 [vI 0,vS,fu .str true,vI 0,fu .str true,.bool false,vS,vI 0,fu .afield true,fu (.num .i64) true] [(0,1,kI 3)]),Pp (.bsl 3 .atype [2] true),Pp (.bld 4 [nl .atype] [(0,1,3)]),Pp (.alr 1 1),Fz 1 1 4] (Rs [Ld 5 1 true 1,Ca 6 15 [5],Pp (.bin 7 .eql 6 (kS [34,105,110,116,34])),Mv 8 7,Gt 8 (.lde 9 1 true 1),Gt 8 (.call 10 16 [9]),Gt 8 (.call 11 17 [kS [34,105,110,116,34]]),Gt 8 (.bin 12 .eql 10 11),Pa 13 8 12,Mv 0 13] .ret))
def abQ:List RV:=[.t 0]
theorem abR:FnC Tryd.prog ade [] 0 vy Tryd.f9 abP abQ:=fnC Tryd.func9
def tW(N:Nat):Ro:=
 ao (dd ([⟨3,([]:Bs),([]:Bss),0,([]:Bss),false,([]:Bs),0,([]:List aN),([]:List Int)⟩]:List am)) (fun(r1:Bs)=>
  let x1:=decide (r1=([34,105,110,116,34]:Bs))
  cond x1 (
   ao (gm ([⟨3,([]:Bs),([]:Bss),0,([]:Bss),false,([]:Bs),0,([]:List aN),([]:List Int)⟩]:List am)) (fun(r2:Int)=>
    ao (kb ([34,105,110,116,34]:Bs)) (fun(r3:Int)=>
     some (.bool (r2==r3),[])))) (
   some (.bool false,[])))
def tX(N:Nat):Ro:=tW N
theorem aaY(N:Nat)(h:Tot (tX N ) (fun z=>∃(y0:Bool)(rest:List aq),z.1.dimR=.bool y0∧z.2=rest∧nk  (y0))):∃r,ka  r:=abR.finP (N:=N) (by kernel_rfl) h fun _ ⟨y0,_,e,_,q⟩=>⟨(y0),e,q⟩
noncomputable def yV:ay:=tab (P:=Tryd.prog) [aeP] [wg] [15,16] [acr,adL,rf,vA]
def yo:IR:=Rs [Mb 4 false] (Sq (Rs [Ca 12 9 [],Un 13 12] (Cn 13 (Rs [Mb 4 false] .ret) .skip)) (Sq (Rs [Mv 14 0,Ll 15 14,Bc 16 .gtr 15 120] (Cn 16 (Rs [Mb 4 true] .ret) .skip)) (Rs [Mv 18 0,Ca 19 12 [18],Ca 20 13 [19],Ca 21 10 [20],Mv 17 21,Ex_ 22 0 17,Ex_ 23 1 17,Pp (.alr 5 1),Fz 5 1 22,Mv 6 23] (Sq (Rs [Mv 24 6,Bc 25 .neq 24 0,Mv 26 25,Gf 26 (.fad 27 0 5),Gf 26 (.lde 28 1 false 27),Gf 26 (.ixa 29 .atype 28 (kI 0)),Gf 26 (.fad 30 8 29),Gf 26 (.ld 31 1 false false 30),Gf 26 (.lenl 32 31),Gf 26 (.bin 33 .eql 32 (kI 0)),Po 34 26 33] (Cn 34 (Rs [Mb 4 true] .ret) .skip)) (Sq (.reg [Ld 35 1 true 5,Ld 36 1 true 5,Pp (.alr 7 1),Pp (.alr 8 1),Pp (.pub none 7 1 35),Pp (.pub none 8 1 36)] [[],[],[],[],[0,2,3],rg 0 4]) (Sq (.reg [Pp (.blu 37 .atype),Fa 38 0 5,Lq 39 38,Pp (.apu 40 .atype (.tk 37) 39),Pp (.blu 41 .atype),Fa 42 0 5,Lq 43 42,Pp (.apu 44 .atype (.tk 41) 43),Fa 45 0 7,Fo [] [1] (.st none 1 45 (.tk 40)),Fa 46 0 8,Fo [] [2] (.st none 1 46 (.tk 44))] [[],[],[1],[0,1,2],[],[],[5],rg 0 6,rg 0 3,rg 0 8,rg 0 9,rg 0 10]) (Rs [Mv 47 1,Pp (.cvi 48 .i64 47),Fa 49 0 5,Lq 50 49,Pp (.ixa 51 .atype 50 (kI 0)),Fa 52 8 51,Lo 53 52,Ll 54 53,Bi 55 .rem 48 54,Mv 9 55] (Rs [Pp (.blu 56 .afield),Fa 57 0 5,Lq 58 57,Pp (.ixa 59 .atype 58 (kI 0)),Fa 60 8 59,Lo 61 60,Pp (.apu 62 .afield (.tk 56) 61),Pp (.mov 10 (.tk 62))] (Sq (.gh (.opn (.slot 10)) (.ghp (.cls (.slot 10)) (Rg [Mv 63 10,Mv 64 9,Mv 65 10,Mv 66 9,Mv 67 10,Mv 68 9,Pp (.bld 69 [vI 0,vI 0,vS,nl .jnode,nl .str] []),Pp (.bsl 70 .str [kS [111,116,104,101,114]] true),Pp (.ixw 71 .afield 63 64),Pp (.fdw 72 3 71),Pp (.stw none 1 72 (kB false)),Pp (.ixw 73 .afield 65 66),Pp (.fdw 74 4 73),Pp (.stw none 5 74 69),Pp (.ixw 75 .afield 67 68),Pp (.fdw 76 1 75),Pp (.stw none 1 76 70)]))) (Sq (.gh (.fz (.slot 10)) (.gh (.opn (.cell 1 0)) (.ghp (.cls (.cell 1 0)) (.reg [Fa 77 0 7,Fo [1] [] (.ld 78 1 false false 77),Fa 79 0 7,Fo [1] [] (.ld 80 1 false false 79),Mv 81 10,Pp (.bsl 82 .str [kS [113]] true),Pp (.ixw 83 .atype 78 (kI 0)),Pp (.fdw 84 8 83),Fo [] [5] (.stw none 1 84 81),Pp (.ixw 85 .atype 80 (kI 0)),Pp (.fdw 86 2 85),Fo [] [5] (.stw none 1 86 82)] [[],[0],[],[2],[],[],[0,1,4],[0,1,4,6],[0,1,4,6,7],rg 0 8,rg 0 9,rg 0 10])))) (Rs [Pp (.blu 87 .afield),Fa 88 0 5,Lq 89 88,Pp (.ixa 90 .atype 89 (kI 0)),Fa 91 8 90,Lo 92 91,Pp (.apu 93 .afield (.tk 87) 92),Pp (.mov 11 (.tk 93))] (Sq (.gh (.opn (.slot 11)) (.ghp (.cls (.slot 11)) (Rg [Mv 94 11,Mv 95 9,Pp (.ixw 96 .afield 94 95),Pp (.fdw 97 0 96),Pp (.stw none 1 97 (kS [117,110,108,105,107,101]))]))) (Sq (.gh (.fz (.slot 11)) (.gh (.opn (.cell 2 0)) (.ghp (.cls (.cell 2 0)) (Rg [Fa 98 0 8,Lo 99 98,Mv 100 11,Pp (.ixw 101 .atype 99 (kI 0)),Pp (.fdw 102 8 101),Pp (.stw none 1 102 100)])))) (Sq (.gh (.opn (.cell 1 0)) (.gh (.opn (.cell 2 0)) (.ghp (.cls (.cell 1 0)) (.ghp (.cls (.cell 2 0)) (.reg [Fo [1] [] (.ld 103 1 true false 7),Fo [0,1,2,3,4,5,6,7,8,9,10,11] [] (.call 104 15 [103]),Ld 105 1 true 5,Fo [] [] (.call 106 15 [105]),Bi 107 .eql 104 106,Mv 108 107,⟨some (108,true),.ld 109 1 true false 7,some ([1],[])⟩,⟨some (108,true),.call 110 16 [109],some ([0,1,2,3,4,5,6,7,8,9,10,11],[])⟩,Gt 108 (.lde 111 1 true 5),⟨some (108,true),.call 112 16 [111],some ([],[])⟩,Gt 108 (.bin 113 .eql 110 112),Pa 114 108 113,Mv 115 114,⟨some (115,true),.ld 116 1 true false 8,some ([2],[])⟩,⟨some (115,true),.call 117 15 [116],some ([0,1,2,3,4,5,6,7,8,9,10,11,12,13],[])⟩,Gt 115 (.lde 118 1 true 5),⟨some (115,true),.call 119 15 [118],some ([],[])⟩,Gt 115 (.bin 120 .neq 117 119),Pa 121 115 120,Mv 4 121] [[],[0],[],[0,1,2],rg 0 3,rg 0 4,rg 0 5,rg 0 6,rg 0 5,rg 0 8,rg 0 9,rg 0 10,rg 0 11,rg 0 12,rg 0 13,rg 0 12,rg 0 15,rg 0 16,rg 0 17,rg 0 18]))))) .ret))))))))))))))
def yp:List RV:=[.t 4]
theorem yq:FnC Tryd.prog yV [12,13,15,16,2000013,2000015,2000016] 0 me Tryd.f5 yo yp:=fnC Tryd.func5
def qc(N:Nat)(p0:Bs)(p1:Int):Ro:=
 let z0:=fun g0 g1=>(some (.bool true,[some [.sl .u8 (.may false) g0,.int .i64 g1]]):Ro)
 let z1:=fun g0 g1 g2 g3 g4=>(some (.bool g0,[some [.sl .u8 (.may false) g1,.int .i64 g2],some [.ul .atype g3],some [.ul .atype g4],none,none,none,none,none,none,none,none,none,none,none,none]):Ro)
 ao (ka) (fun(r1:Bool)=>
  cond (!r1) (
   some (.bool false,[])) (
   let x1:=(↑(List.length p0):Int)
   cond (decide (120<x1)) (
    some (.bool true,[])) (
    ao (mv p0) (fun r2=>
     ao (eF r2.1 r2.2) (fun r3=>
      ao (lj r3.1 r3.2.1 r3.2.2.1 r3.2.2.2.1 r3.2.2.2.2.1) (fun r4=>
       cond (!(r4.2==0)) (
        z0 r3.2.2.2.2.2.1 r3.2.2.2.2.2.2) (
        chk (decide ((0:Int)<↑(List.length r4.1))) (
         let x2:=(List.getD r4.1 (Int.toNat 0) (az .atype))
         let x3:=(↑(List.length x2.fields):Int)
         cond (x3==0) (
          z0 r3.2.2.2.2.2.1 r3.2.2.2.2.2.2) (
          chk (decide ((List.length ([]:List am)+List.length r4.1)*160≤140737488355328)) (
           let x4:=(([]:List am)++r4.1)
           chk (decide ((List.length ([]:List am)+List.length r4.1)*160≤140737488355328)) (
            let x5:=(([]:List am)++r4.1)
            chk (decide ((0:Int)<↑(List.length r4.1))) (
             let x6:=(List.getD r4.1 (Int.toNat 0) (az .atype))
             let x7:=(↑(List.length x6.fields):Int)
             chk ((!(x7==0))) (
              let x8:=(Int.tmod (IntKind.wrap .i64 p1) x7)
              chk (decide ((0:Int)<↑(List.length r4.1))) (
               let x9:=(List.getD r4.1 (Int.toNat 0) (az .atype))
               chk (decide ((List.length ([]:List aN)+List.length x9.fields)*136≤140737488355328)) (
                let x10:=(([]:List aN)++x9.fields)
                chk (decide (0<List.length x10)) (
                 chk ((decide (0≤x8)&&decide (x8<↑(List.length x10)))) (
                  chk (decide ((Int.toNat x8)<List.length x10)) (
                   let x11:=(List.set x10 (Int.toNat x8) (let e_:=List.getD x10 (Int.toNat x8) (az .afield);⟨e_.name,e_.aliases,e_.typ,false,⟨e_.df.kind,e_.df.n,e_.df.s,e_.df.l,e_.df.names⟩⟩))
                   chk ((decide (0≤x8)&&decide (x8<↑(List.length x10)))) (
                    chk (decide ((Int.toNat x8)<List.length x11)) (
                     let x12:=(List.set x11 (Int.toNat x8) (let e_:=List.getD x11 (Int.toNat x8) (az .afield);⟨e_.name,e_.aliases,e_.typ,e_.hasdef,⟨0,0,([]:Bs),([]:List ak),([]:Bss)⟩⟩))
                     chk ((decide (0≤x8)&&decide (x8<↑(List.length x10)))) (
                      chk (decide ((Int.toNat x8)<List.length x12)) (
                       let x13:=(List.set x12 (Int.toNat x8) (let e_:=List.getD x12 (Int.toNat x8) (az .afield);⟨e_.name,([([111,116,104,101,114]:Bs)]:Bss),e_.typ,e_.hasdef,⟨e_.df.kind,e_.df.n,e_.df.s,e_.df.l,e_.df.names⟩⟩))
                       chk (Nat.beq (List.length x10) (List.length x13)) (
                        chk (decide (0<List.length x4)) (
                         chk (decide ((0:Int)<↑(List.length x4))) (
                          chk (decide ((Int.toNat 0)<List.length x4)) (
                           let x14:=(List.set x4 (Int.toNat 0) (let e_:=List.getD x4 (Int.toNat 0) (az .atype);⟨e_.kind,e_.name,e_.aliases,e_.items,e_.syms,e_.hasdef,e_.df,e_.size,x13,e_.branches⟩))
                           chk (decide ((0:Int)<↑(List.length x4))) (
                            chk (decide ((Int.toNat 0)<List.length x14)) (
                             let x15:=(List.set x14 (Int.toNat 0) (let e_:=List.getD x14 (Int.toNat 0) (az .atype);⟨e_.kind,e_.name,([([113]:Bs)]:Bss),e_.items,e_.syms,e_.hasdef,e_.df,e_.size,e_.fields,e_.branches⟩))
                             chk (Nat.beq (List.length x4) (List.length x15)) (
                              chk (decide ((0:Int)<↑(List.length r4.1))) (
                               let x16:=(List.getD r4.1 (Int.toNat 0) (az .atype))
                               chk (decide ((List.length ([]:List aN)+List.length x16.fields)*136≤140737488355328)) (
                                let x17:=(([]:List aN)++x16.fields)
                                chk (decide (0<List.length x17)) (
                                 chk ((decide (0≤x8)&&decide (x8<↑(List.length x17)))) (
                                  chk (decide ((Int.toNat x8)<List.length x17)) (
                                   let x18:=(List.set x17 (Int.toNat x8) (let e_:=List.getD x17 (Int.toNat x8) (az .afield);⟨([117,110,108,105,107,101]:Bs),e_.aliases,e_.typ,e_.hasdef,⟨e_.df.kind,e_.df.n,e_.df.s,e_.df.l,e_.df.names⟩⟩))
                                   chk (Nat.beq (List.length x17) (List.length x18)) (
                                    chk (decide (0<List.length x5)) (
                                     chk (decide ((0:Int)<↑(List.length x5))) (
                                      chk (decide ((Int.toNat 0)<List.length x5)) (
                                       let x19:=(List.set x5 (Int.toNat 0) (let e_:=List.getD x5 (Int.toNat 0) (az .atype);⟨e_.kind,e_.name,e_.aliases,e_.items,e_.syms,e_.hasdef,e_.df,e_.size,x18,e_.branches⟩))
                                       chk (Nat.beq (List.length x5) (List.length x19)) (
                                        chk (decide (0<List.length x15)) (
                                         chk (decide (0<List.length x19)) (
                                          uq (dd x15) ((Nat.beq (List.length x15) (List.length x15)&&true)) (fun(r5:Bs)=>
                                           ao (dd r4.1) (fun(r6:Bs)=>
                                            cond (decide (r5=r6)) (
                                             uq (gm x15) ((Nat.beq (List.length x15) (List.length x15)&&true)) (fun(r7:Int)=>
                                              ao (gm r4.1) (fun(r8:Int)=>
                                               cond (r7==r8) (
                                                uq (dd x19) ((Nat.beq (List.length x19) (List.length x19)&&true)) (fun(r9:Bs)=>
                                                 ao (dd r4.1) (fun(r10:Bs)=>
                                                  chk (Nat.beq (List.length x19) (List.length x19)) (
                                                   chk (Nat.beq (List.length x15) (List.length x15)) (
                                                    z1 (!decide (r9=r10)) r3.2.2.2.2.2.1 r3.2.2.2.2.2.2 x15 x19))))) (
                                                chk (Nat.beq (List.length x19) (List.length x19)) (
                                                 chk (Nat.beq (List.length x15) (List.length x15)) (
                                                  z1 false r3.2.2.2.2.2.1 r3.2.2.2.2.2.2 x15 x19)))))) (
                                             chk (Nat.beq (List.length x19) (List.length x19)) (
                                              chk (Nat.beq (List.length x15) (List.length x15)) (
                                               z1 false r3.2.2.2.2.2.1 r3.2.2.2.2.2.2 x15 x19))))))))))))))))))))))))))))))))))))))))))))))
def qd(N:Nat)(p0:Bs)(p1:Int):Ro:=qc N p0 p1
theorem wT(N:Nat)(p0:Bs)(p1:Int)(h:Tot (qd N p0 p1) (fun z=>∃(y0:Bool)(rest:List aq),z.1.dimR=.bool y0∧z.2=rest∧jK p0 p1 (y0))):∃r,qw p0 p1 r:=yq.finP (N:=N) (by kernel_rfl) h fun _ ⟨y0,_,e,_,q⟩=>⟨(y0),e,q⟩
end Go.Proofs.YtkinflmjagfapaaDoor
end
noncomputable section
namespace Go.Proofs.YtkinflmjagfapaaDoor
open Go.AM
set_option autoImplicit false
set_option linter.unusedVariables false
set_option linter.unusedSimpArgs false
set_option maxRecDepth 100000
theorem pB{ts:List am}(hX:nq ts):∃r,dd ts r:=by
 have h0:=hX.1.1.1
 have hne:ts≠[]:=fun e=>by subst e;simp at h0
 obtain⟨b, -,hB⟩:=hX.2.2
 apply abH 1
 unfold wd wc
 dsimp only
 have hT:=aca hX ts.length [] 0 0 b ⟨List.nodup_nil,by simp⟩ (by simp) hB
 repeat' (first|(with_reducible refine au ?_ ?_<;>(intro hb;(try simp only[bnl] at hb);(try revert hb;intro _)))|with_reducible refine aA ?_ ?_|with_reducible refine ar ?_|fail)
 ·rename_i h;exfalso;omega
 refine an (C:=aw (cS []) ts 0) hT ?_
 intro r hr
 obtain⟨L',e1,e2,hR⟩:=yE hr
 obtain⟨p1,p2⟩:=hR.tells hX
 rw[mz]
 refine an (acf _ p1 p2) ?_
 rintro _ ⟨-,rfl⟩
 exact ar ⟨_,_,rfl,rfl,fun h=>absurd h hne,fun _=>⟨r.1,L',hR,rfl⟩⟩
theorem lH.len{ts:List am}(hX:nq ts){x:List UInt8}(h:lH ts x):x.length≤bN:=by
 have h0:=hX.1.1.1
 have hne:ts≠[]:=fun e=>by subst e;simp at h0
 obtain⟨j,L',hR,rfl⟩:=h.2 hne
 have:=(hR.tells hX).2
 unfold bN
 simp only[af8] at this
 omega
theorem vk{ts:List am}(hX:nq ts):∃r,gm ts r:=by
 apply aaV 1
 unfold tS tR
 refine an (pB hX) ?_
 rintro x ⟨-,hx⟩
 refine an (aiP x (lH.len hX hx)) ?_
 rintro _ ⟨-,rfl⟩
 exact ar ⟨_,_,rfl,rfl,x,hx,rfl⟩
theorem agQ:∃r,ka r:=by
 have hX:nq [⟨3,[],[],0,[],false,[],0,[],[]⟩]:=by
  refine⟨⟨by simp,fun t ht=>?_⟩,fun i t h=>?_,1,by decide,.leaf 0 _ (by omega) rfl (by decide)⟩
  ·obtain rfl:=List.mem_singleton.1 ht
   exact⟨by simp,by simp,by simp,by simp,by simp,by simp,by simp⟩
  ·have:=List.mem_of_getElem? h
   obtain rfl:=List.mem_singleton.1 this
   intro f hf
   simp at hf
 have hx:∀x,lH [⟨3,[],[],0,[],false,[],0,[],[]⟩] x→x=[34,105,110,116,34]:=by
  intro x h
  obtain⟨j,L,hR,rfl⟩:=h.2 (by simp)
  have hk:(tyA [⟨3,[],[],0,[],false,[],0,[],[]⟩] 0).kind=3:=rfl
  cases hR with
  |prim=>rfl
  |_=>exfalso;omega
 apply aaY 1
 unfold tX tW
 dsimp only
 refine an (pB hX) ?_
 rintro x ⟨-,h1⟩
 obtain rfl:=hx x h1
 repeat' (first|(with_reducible refine au ?_ ?_<;>(intro hb;(try simp only[bnl] at hb);(try revert hb;intro _)))|with_reducible refine aA ?_ ?_|with_reducible refine ar ?_|fail)
 ·refine an (vk hX) ?_
  rintro r ⟨-,y,h2,rfl⟩
  obtain rfl:=hx y h2
  refine an (af9 _ (by decide)) ?_
  rintro _ ⟨-,rfl⟩
  exact ar ⟨_,_,rfl,rfl,by simp[nk]⟩
 ·rename_i h
  exact absurd trivial h
end Go.Proofs.YtkinflmjagfapaaDoor
end
