import Derived.KernelRfl
import Derived.Test.YtdpajabhmmmjoaaZ02
import Derived.Test.YtdpajabhmmmjoaaZ03
noncomputable section
namespace Go.Proofs.Ytdpajabhmmmjoaa
open Go.AM
set_option autoImplicit false
set_option linter.unusedVariables false
set_option maxRecDepth 100000
noncomputable def rP:aL:=tab (P:=Try.prog) [] [mS] [] [ata]
def vJ:IR:=Sq (Rs [Mv 15 11,Fa 16 3 6,Lq 17 16,Ll 18 17,Bi 19 .lss 15 18] (Cn 19 .skip (.exit 0))) (Sq (.block 1 (Sq (.reg [Mv 23 0,Fa 24 3 5,Lq 25 24,Fa 26 3 6,Lq 27 26,Mv 28 11,Ix 29 .jnode 27 28,Ld 30 5 true 29,Mv 31 3,Bc 32 .add 31 1,Fo [] [0] (.call 33 120 [23,25,30,32]),Mv 22 33,Ex_ 34 0 22,Ex_ 35 1 22,Pp (.alr 12 5),Fz 12 5 34,Mv 13 35] [[],[],[1],[],[3],[],[3,4,5],rg 3 6,[],[8],rg 0 9,rg 0 10,rg 0 11,rg 0 11,[],rg 0 12++[14],rg 0 15]) (Sq (Rs [Mv 36 13,Bc 37 .neq 36 0] (Cn 37 (Rs [Pp (.bld 38 [vU 0,vS,nl .aval,nl .str,vI 0] []),Mv 39 13,Sv 5 8 38,Mv 9 39] .ret) .skip)) (Rs [Fa 40 0 5,Lq 41 40,Bc 42 .eql 41 12] (Cn 42 (Rg [Fa 43 2 10,Pp (.ld 44 1 false true 43),Ld 45 5 true 12,Pp (.bsl 46 .aval [45] true),Pp (.app 47 .aval (.tk 44) 46),Fa 48 2 10,Sk 1 48 47]) (.reg [Fo [2] [] (.ld 49 5 true false 10),Fa 50 4 6,Lq 51 50,Mv 52 11,Ix 53 .str 51 52,Lq 54 53,Ld 55 5 true 12,Ca 56 61 [49,54,55],Fo [] [2] (.st none 5 10 56)] [[],[],[1],[],[1,2,3],rg 1 4,[],rg 0 6,rg 0 7])))))) (Rg [Mv 20 11,Bc 21 .add 20 1,Mv 11 21]))
def uR:IR:=Rs [Pp (.ld 57 5 true false 10),Sv 5 8 57,Mi 9 0] .ret
def afB:IR:=Rs [Bx 5 1,Bx 6 2,Pp (.new 8 [vU 0,vS,nl .aval,nl .str,vI 0]),Mi 9 0] (Rs [Pp (.bld 14 [vU 0,vS,nl .aval,nl .str,vI 0] []),Pp (.new 10 [vU 0,vS,nl .aval,nl .str,vI 0]),Sv 5 10 14] (Sq (Rs [Mi 11 0] (.block 0 (.loop [0,3,5,6,8,10,11,1000000] 3 vJ))) uR))
def xT:List RV:=[.cell 8 5 true,.t 9]
theorem afC:FnC Try.prog rP [120,2000120] 1 yx Try.f148 afB xT:=fnC Try.func148
def aew(R:IR→(Ex→St→Ro)→St→Ro)(a:St→Ro):Ex→St→Ro:=(bk a [0,3,5,6,8,10,11,1000000] 3 (aP 0 (bj (R uR) (fin xT))))
abbrev gB:Type:=(Int×Int×Bs×Bss×Int×Bss×Bool×Bs×Int×List aM×List Int×Int×Int×Bs×List aB×Bss×Int×List aA×Int×Int×Bs×List aO×Bss×Int×Int×Bs×List aO×Bss×Int)⊕(Int×Int×Bs×Bss×Int×Bss×Bool×Bs×Int×List aM×List Int×Int×Int×Bs×List aB×Bss×Int×List aA×Int×Int×Bs×List aO×Bss×Int×Int×Bs×List aO×Bss×Int)
def ab7:(Int×Int×Bs×Bss×Int×Bss×Bool×Bs×Int×List aM×List Int×Int×Int×Bs×List aB×Bss×Int×List aA×Int×Int×Bs×List aO×Bss×Int×Int×Bs×List aO×Bss×Int)→St:=fun(t,u,v,w,x,y,z,x7,x8,x9,a,b,c,d,e,f,g,h,i,j,k,l,m,n,o,p,q,r,s)=>{env:=(.ptr 0 0::.undef::.undef::.int .i64 t::.undef::.ea [.int .i64 u,.str v,.sl .str (.may false) w,.int .i64 x,.sl .str (.may false) y,.bool z,.str x7,.int .i64 x8,.sl .afield (.may false) x9,.sl (.num .i64) (.may false) a]::.ea [.int .i64 b,.int .i64 c,.str d,.sl .jnode (.may false) e,.sl .str (.may false) f]::.undef::.ptr 1 0::.undef::.ptr 2 0::.int .i64 g::(U 46 [])),hp:=[some [.sl .atype (.may false) h,.int .i64 i],some [.int .u64 j,.str k,.sl .aval .own l,.sl .str .own m,.int .i64 n],some [.int .u64 o,.str p,.sl .aval .own q,.sl .str .own r,.int .i64 s]]}
def ab8:(Int×Int×Bs×Bss×Int×Bss×Bool×Bs×Int×List aM×List Int×Int×Int×Bs×List aB×Bss×Int×List aA×Int×Int×Bs×List aO×Bss×Int×Int×Bs×List aO×Bss×Int)→St:=fun(t,u,v,w,x,y,z,x7,x8,x9,a,b,c,d,e,f,g,h,i,j,k,l,m,n,o,p,q,r,s)=>{env:=(.ptr 0 0::.undef::.undef::.int .i64 t::.undef::.ea [.int .i64 u,.str v,.sl .str (.may false) w,.int .i64 x,.sl .str (.may false) y,.bool z,.str x7,.int .i64 x8,.sl .afield (.may false) x9,.sl (.num .i64) (.may false) a]::.ea [.int .i64 b,.int .i64 c,.str d,.sl .jnode (.may false) e,.sl .str (.may false) f]::.undef::.ptr 1 0::.undef::.ptr 2 0::.int .i64 g::(U 46 [])),hp:=[some [.sl .atype (.may false) h,.int .i64 i],some [.int .u64 j,.str k,.sl .aval .own l,.sl .str .own m,.int .i64 n],some [.int .u64 o,.str p,.sl .aval (.may false) q,.sl .str (.may false) r,.int .i64 s]]}
def f6:gB→St
 |(Sum.inl x)=>ab7 x
 |(Sum.inr x)=>ab8 x
def pt(N:Nat):(St→Ro)→St→Ro:=fun a s=>run rP N vJ (aew (run rP N) a) s
def gD(N:Nat)(m:gB→Ro)(x:gB):Ro:=
 match x with
 |(Sum.inl (v3,j,q,r,k,t,u,v,w,y,z,aa,ab,ac,b,e,d,o,p,ad,ae,af,ag,ah,f,g,a,c,h))=>
  let x1:=(↑(List.length b):Int)
  let z0:=fun g0 g1 g2 g3 g4 g5 g6 g7 g8 g9=>(some (.tup [.agg [.int .u64 g0,.str g1,.sl .aval (.may false) g2,.sl .str (.may false) g3,.int .i64 g4],.int .i64 g5],[some [.sl .atype (.may false) g6,.int .i64 g7],some [.int .u64 g0,.str g1,g8,g9,.int .i64 g4],some [.int .u64 f,.str g,.sl .aval .own a,.sl .str .own c,.int .i64 h]]):Ro)
  cond (decide (d<x1)) (
   chk (ixl d b) (
    let x2:=(List.getD b (Int.toNat d) (aG .jnode))
    let x3:=(IntKind.wrap .i64 (v3+1))
    aF (cn o p k x2.kind x2.n x2.s x2.l x2.names x3) (fun i=>
     cond (!(i.2.2.2.2.2.1==0)) (
      z0 0 ([]:Bs) ([]:List aO) ([]:Bss) 0 i.2.2.2.2.2.1 i.2.2.2.2.2.2.1 i.2.2.2.2.2.2.2 (.sl .aval .own ([]:List aO)) (.sl .str .own ([]:Bss))) (
      cond (j==12) (
       chk (decide ((List.length a+List.length ([⟨i.1,i.2.1,i.2.2.1,i.2.2.2.1,i.2.2.2.2.1⟩]:List aO))*80≤140737488355328)) (
        let x4:=(a++([⟨i.1,i.2.1,i.2.2.1,i.2.2.2.1,i.2.2.2.2.1⟩]:List aO))
        let x5:=(IntKind.wrap .i64 (d+1))
        m (Sum.inl (v3,j,q,r,k,t,u,v,w,y,z,aa,ab,ac,b,e,x5,i.2.2.2.2.2.2.1,i.2.2.2.2.2.2.2,ad,ae,af,ag,ah,f,g,x4,c,h)))) (
       chk (ixl d e) (
        let x6:=List.getD e (Int.toNat d) (aG .str)
        aF (sL f g a c h x6 i.1 i.2.1 i.2.2.1 i.2.2.2.1 i.2.2.2.2.1) (fun r2=>
         let x7:=(IntKind.wrap .i64 (d+1))
         m (Sum.inr (v3,j,q,r,k,t,u,v,w,y,z,aa,ab,ac,b,e,x7,i.2.2.2.2.2.2.1,i.2.2.2.2.2.2.2,ad,ae,af,ag,ah,r2.1,r2.2.1,r2.2.2.1,r2.2.2.2.1,r2.2.2.2.2))))))))) (
   z0 f g a c h 0 o p (.sl .aval (.may false) a) (.sl .str (.may false) c))
 |(Sum.inr (v3,j,q,r,k,t,u,v,w,y,z,aa,ab,ac,b,e,d,o,p,ad,ae,af,ag,ah,f,g,a,c,h))=>
  let x8:=(↑(List.length b):Int)
  let z0:=fun g0 g1 g2 g3 g4 g5 g6 g7 g8 g9=>(some (.tup [.agg [.int .u64 g0,.str g1,.sl .aval (.may false) g2,.sl .str (.may false) g3,.int .i64 g4],.int .i64 g5],[some [.sl .atype (.may false) g6,.int .i64 g7],some [.int .u64 g0,.str g1,g8,g9,.int .i64 g4],some [.int .u64 f,.str g,.sl .aval (.may false) a,.sl .str (.may false) c,.int .i64 h]]):Ro)
  cond (decide (d<x8)) (
   chk (ixl d b) (
    let x9:=(List.getD b (Int.toNat d) (aG .jnode))
    let a1:=(IntKind.wrap .i64 (v3+1))
    aF (cn o p k x9.kind x9.n x9.s x9.l x9.names a1) (fun r3=>
     cond (!(r3.2.2.2.2.2.1==0)) (
      z0 0 ([]:Bs) ([]:List aO) ([]:Bss) 0 r3.2.2.2.2.2.1 r3.2.2.2.2.2.2.1 r3.2.2.2.2.2.2.2 (.sl .aval .own ([]:List aO)) (.sl .str .own ([]:Bss))) (
      cond (j==12) (
       none) (
       chk (ixl d e) (
        let a2:=List.getD e (Int.toNat d) (aG .str)
        aF (sL f g a c h a2 r3.1 r3.2.1 r3.2.2.1 r3.2.2.2.1 r3.2.2.2.2.1) (fun r4=>
         let a3:=(IntKind.wrap .i64 (d+1))
         m (Sum.inr (v3,j,q,r,k,t,u,v,w,y,z,aa,ab,ac,b,e,a3,r3.2.2.2.2.2.2.1,r3.2.2.2.2.2.2.2,ad,ae,af,ag,ah,r4.1,r4.2.1,r4.2.2.1,r4.2.2.2.1,r4.2.2.2.2))))))))) (
   z0 f g a c h 0 o p (.sl .aval (.may false) a) (.sl .str (.may false) c))
theorem ado(N:Nat):∀(a:St→Ro)(x:gB),pt N a (f6 x)=gD N (fun y=>a (f6 y)) x:=by
 intro a x
 rcases x with x|x<;>kernel_rfl
def ij(N:Nat)(a:List aA)(b c:Int)(d:Bs)(e:Bss)(f:Int)(g:Bss)(h:Bool)(i:Bs)(j:Int)(k:List aM)(l:List Int)(m n:Int)(o:Bs)(p:List aB)(q:Bss)(r:Int)(s:gB→Ro):Ro:=
 s (Sum.inl (r,c,d,e,f,g,h,i,j,k,l,m,n,o,p,q,0,a,b,0,([]:Bs),([]:List aO),([]:Bss),0,0,([]:Bs),([]:List aO),([]:Bss),0))
def xU(N:Nat)(a:List aA)(b c:Int)(d:Bs)(e:Bss)(f:Int)(g:Bss)(h:Bool)(i:Bs)(j:Int)(k:List aM)(l:List Int)(m n:Int)(o:Bs)(p:List aB)(q:Bss)(r:Int):Ro:=ij N a b c d e f g h i j k l m n o p q r (fun z=>aS N (gD N) z)
theorem aex(N:Nat)(a:List aA)(c d:Int)(g:Bs)(i:Bss)(j:Int)(k:Bss)(l:Bool)(m:Bs)(n:Int)(o:List aM)(p:List Int)(s t:Int)(u:Bs)(v:List aB)(w:Bss)(x:Int)(h:Tot (xU N a c d g i j k l m n o p s t u v w x) (fun z=>∃(y:Int)(y1:Bs)(y2:List aO)(y3:Bss)(y4:Int)(y5:Int)(y6:List aA)(y7:Int)(rest:List aJ),z.1.dimR=.tup [.agg [.int .u64 y,.str y1,.sl .aval (.may false) y2,.sl .str (.may false) y3,.int .i64 y4],.int .i64 y5]∧z.2=some [.sl .atype (.may false) y6,.int .i64 y7]::rest∧vG a c d g i j k l m n o p s t u v w x (y,y1,y2,y3,y4,y5,y6,y7))):∃r,iH a c d g i j k l m n o p s t u v w x r:=FnC.finO (css:=[[.sl .atype (.may false) a,.int .i64 c]]) afC (N:=N) ((bu _ (by kernel_rfl) rfl (fun C=>ij N a c d g i j k l m n o p s t u v w x (fun z=>C 1000000 (f6 z))) (fun C=>by kernel_rfl)).trans (Eq.trans (b:=ij N a c d g i j k l m n o p s t u v w x (fun z=>aW N (pt N) (f6 z))) (by kernel_rfl) (congrArg (ij N a c d g i j k l m n o p s t u v w x) (funext fun z=>aV (f6) (pt N) (gD N) (ado N) N z)))) h fun _ ⟨y,y1,y2,y3,y4,y5,y6,y7,_,e,f,q⟩=>⟨(y,y1,y2,y3,y4,y5,y6,y7),e,⟨_,f⟩,q⟩
noncomputable def qI:aL:=tab (P:=Try.prog) [] [mS] [] [rh]
def tU:IR:=Sq (Rs [Mv 18 11,Fa 19 8 5,Lq 20 19,Ll 21 20,Bi 22 .lss 18 21] (Cn 22 .skip (.exit 0))) (Sq (.block 1 (Rs [Fa 25 8 5,Lq 26 25,Mv 27 11,Ix 28 .afield 26 27,Ld 29 9 true 28,Pp (.alr 12 9),Fz 12 9 29] (Rs [Ld 31 5 true 6,Fa 32 0 12,Lq 33 32,Ca 34 113 [31,33],Mv 30 34,Ex_ 35 0 30,Ex_ 36 1 30,Pp (.new 13 [vI 0,vI 0,vS,nl .jnode,nl .str]),Sv 5 13 35,Mv 14 36] (Sq (Rs [Mv 37 14,Un 38 37] (Cn 38 (Sq (Rs [Fa 39 3 12,Lq 40 39,Un 41 40] (Cn 41 (Rs [Pp (.bld 42 [vU 0,vS,nl .aval,nl .str,vI 0] []),Sv 5 8 42,Mi 9 7] .ret) .skip)) (Rg [Fa 43 4 12,Ld 44 5 true 43,Sv 5 13 44])) .skip)) (Rs [Mv 46 0,Fa 47 2 12,Lq 48 47,Pp (.ld 49 5 true false 13),Mv 50 3,Bc 51 .add 50 1,Ca 52 120 [46,48,49,51],Mv 45 52,Ex_ 53 0 45,Ex_ 54 1 45,Pp (.alr 15 5),Fz 15 5 53,Mv 16 54] (Sq (Rs [Mv 55 16,Bc 56 .neq 55 0] (Cn 56 (Rs [Pp (.bld 57 [vU 0,vS,nl .aval,nl .str,vI 0] []),Mv 58 16,Sv 5 8 57,Mv 9 58] .ret) .skip)) (Rg [Fa 59 2 10,Pp (.ld 60 1 false true 59),Ld 61 5 true 15,Pp (.bsl 62 .aval [61] true),Pp (.app 63 .aval (.tk 60) 62),Fa 64 2 10,Sk 1 64 63]))))))) (Rg [Mv 23 11,Bc 24 .add 23 1,Mv 11 24]))
def tV:IR:=Rs [Pp (.ld 65 5 true false 10),Sv 5 8 65,Mi 9 0] .ret
def aey:IR:=Rs [Bx 5 1,Bx 6 2,Pp (.new 8 [vU 0,vS,nl .aval,nl .str,vI 0]),Mi 9 0] (Rs [Pp (.bld 17 [vU 0,vS,nl .aval,nl .str,vI 0] []),Pp (.new 10 [vU 0,vS,nl .aval,nl .str,vI 0]),Sv 5 10 17] (Sq (Rs [Mi 11 0] (.block 0 (.loop [0,3,5,6,8,10,11,1000000] 3 tU))) tV))
def wA:List RV:=[.cell 8 5 true,.t 9]
theorem aez:FnC Try.prog qI [120,2000120] 1 xN Try.f149 aey wA:=fnC Try.func149
def adp(R:IR→(Ex→St→Ro)→St→Ro)(a:St→Ro):Ex→St→Ro:=(bk a [0,3,5,6,8,10,11,1000000] 3 (aP 0 (bj (R tV) (fin wA))))
abbrev jz:Type:=(Int×Int×Bs×Bss×Int×Bss×Bool×Bs×Int×List aM×List Int×Int×Int×Bs×List aB×Bss×Int×List aA×Int×Int×Bs×List aO×Bss×Int×Int×Bs×List aO×Bss×Int)
def iQ:jz→St:=fun(t,u,v,w,x,y,z,x7,x8,x9,a,b,c,d,e,f,g,h,i,j,k,l,m,n,o,p,q,r,s)=>{env:=(.ptr 0 0::.undef::.undef::.int .i64 t::.undef::.ea [.int .i64 u,.str v,.sl .str (.may false) w,.int .i64 x,.sl .str (.may false) y,.bool z,.str x7,.int .i64 x8,.sl .afield (.may false) x9,.sl (.num .i64) (.may false) a]::.ea [.int .i64 b,.int .i64 c,.str d,.sl .jnode (.may false) e,.sl .str (.may false) f]::.undef::.ptr 1 0::.undef::.ptr 2 0::.int .i64 g::(U 54 [])),hp:=[some [.sl .atype (.may false) h,.int .i64 i],some [.int .u64 j,.str k,.sl .aval .own l,.sl .str .own m,.int .i64 n],some [.int .u64 o,.str p,.sl .aval .own q,.sl .str .own r,.int .i64 s]]}
def ou(N:Nat):(St→Ro)→St→Ro:=fun a s=>run qI N tU (adp (run qI N) a) s
def jA(N:Nat)(p:jz→Ro):jz→Ro:=fun(v3,w,x,y,z,aa,ab,ac,ad,i,ae,q,r,t,u,v,o,j,k,af,ag,ah,ai,aj,b,c,a,d,e)=>
 let x1:=(↑(List.length i):Int)
 let z0:=fun g0 g1 g2 g3 g4 g5 g6 g7=>(some (.tup [.agg [.int .u64 0,.str ([]:Bs),.sl .aval (.may false) ([]:List aO),.sl .str (.may false) ([]:Bss),.int .i64 0],.int .i64 g0],[some [.sl .atype (.may false) g1,.int .i64 g2],some [.int .u64 0,.str ([]:Bs),.sl .aval .own ([]:List aO),.sl .str .own ([]:Bss),.int .i64 0],some [.int .u64 b,.str c,.sl .aval .own a,.sl .str .own d,.int .i64 e],some [.int .i64 g3,.int .i64 g4,.str g5,.sl .jnode (.may false) g6,.sl .str (.may false) g7]]):Ro)
 let z1:=fun g0 g1 g2 g3=>p (v3,w,x,y,z,aa,ab,ac,ad,i,ae,q,r,t,u,v,g0,g1,g2,af,ag,ah,ai,aj,b,c,g3,d,e)
 cond (decide (o<x1)) (
 chk (ixl o i) (
 let m:=(List.getD i (Int.toNat o) (aG .afield))
 aF (dx q r t u v m.name) (fun f=>
 cond (!f.2.2.2.2.2) (
 cond (!m.hasdef) (
 z0 7 j k f.1 f.2.1 f.2.2.1 f.2.2.2.1 f.2.2.2.2.1) (
 let x3:=(IntKind.wrap .i64 (v3+1))
 aF (cn j k m.typ m.df.kind m.df.n m.df.s m.df.l m.df.names x3) (fun g=>
 cond (!(g.2.2.2.2.2.1==0)) (
 z0 g.2.2.2.2.2.1 g.2.2.2.2.2.2.1 g.2.2.2.2.2.2.2 m.df.kind m.df.n m.df.s m.df.l m.df.names) (
 chk (decide ((List.length a+List.length ([⟨g.1,g.2.1,g.2.2.1,g.2.2.2.1,g.2.2.2.2.1⟩]:List aO))*80≤140737488355328)) (
 let x4:=(a++([⟨g.1,g.2.1,g.2.2.1,g.2.2.2.1,g.2.2.2.2.1⟩]:List aO))
 let x5:=(IntKind.wrap .i64 (o+1))
 z1 x5 g.2.2.2.2.2.2.1 g.2.2.2.2.2.2.2 x4))))) (
 let x6:=(IntKind.wrap .i64 (v3+1))
 aF (cn j k m.typ f.1 f.2.1 f.2.2.1 f.2.2.2.1 f.2.2.2.2.1 x6) (fun h=>
 cond (!(h.2.2.2.2.2.1==0)) (
 z0 h.2.2.2.2.2.1 h.2.2.2.2.2.2.1 h.2.2.2.2.2.2.2 f.1 f.2.1 f.2.2.1 f.2.2.2.1 f.2.2.2.2.1) (
 chk (decide ((List.length a+List.length ([⟨h.1,h.2.1,h.2.2.1,h.2.2.2.1,h.2.2.2.2.1⟩]:List aO))*80≤140737488355328)) (
 let x7:=(a++([⟨h.1,h.2.1,h.2.2.1,h.2.2.2.1,h.2.2.2.2.1⟩]:List aO))
 let x8:=(IntKind.wrap .i64 (o+1))
 z1 x8 h.2.2.2.2.2.2.1 h.2.2.2.2.2.2.2 x7))))))) (
 some (.tup [.agg [.int .u64 b,.str c,.sl .aval (.may false) a,.sl .str (.may false) d,.int .i64 e],.int .i64 0],[some [.sl .atype (.may false) j,.int .i64 k],some [.int .u64 b,.str c,.sl .aval (.may false) a,.sl .str (.may false) d,.int .i64 e],some [.int .u64 b,.str c,.sl .aval .own a,.sl .str .own d,.int .i64 e]]))
theorem ade(N:Nat):LB (ou N) iQ (jA N):=fun _ _=>by kernel_rfl
def gE(N:Nat)(a:List aA)(b c:Int)(d:Bs)(e:Bss)(f:Int)(g:Bss)(h:Bool)(i:Bs)(j:Int)(k:List aM)(l:List Int)(m n:Int)(o:Bs)(p:List aB)(q:Bss)(r:Int)(s:jz→Ro):Ro:=
 s (r,c,d,e,f,g,h,i,j,k,l,m,n,o,p,q,0,a,b,0,([]:Bs),([]:List aO),([]:Bss),0,0,([]:Bs),([]:List aO),([]:Bss),0)
def wB(N:Nat)(a:List aA)(b c:Int)(d:Bs)(e:Bss)(f:Int)(g:Bss)(h:Bool)(i:Bs)(j:Int)(k:List aM)(l:List Int)(m n:Int)(o:Bs)(p:List aB)(q:Bss)(r:Int):Ro:=gE N a b c d e f g h i j k l m n o p q r (fun z=>aS N (jA N) z)
theorem adq(N:Nat)(a:List aA)(c d:Int)(g:Bs)(i:Bss)(j:Int)(k:Bss)(l:Bool)(m:Bs)(n:Int)(o:List aM)(p:List Int)(s t:Int)(u:Bs)(v:List aB)(w:Bss)(x:Int)(h:Tot (wB N a c d g i j k l m n o p s t u v w x) (fun z=>∃(y:Int)(y1:Bs)(y2:List aO)(y3:Bss)(y4:Int)(y5:Int)(y6:List aA)(y7:Int)(rest:List aJ),z.1.dimR=.tup [.agg [.int .u64 y,.str y1,.sl .aval (.may false) y2,.sl .str (.may false) y3,.int .i64 y4],.int .i64 y5]∧z.2=some [.sl .atype (.may false) y6,.int .i64 y7]::rest∧uk a c d g i j k l m n o p s t u v w x (y,y1,y2,y3,y4,y5,y6,y7))):∃r,hZ a c d g i j k l m n o p s t u v w x r:=FnC.finO (css:=[[.sl .atype (.may false) a,.int .i64 c]]) aez (N:=N) ((bu _ (by kernel_rfl) rfl (fun C=>gE N a c d g i j k l m n o p s t u v w x (fun z=>C 1000000 (iQ z))) (fun C=>by kernel_rfl)).trans (Eq.trans (b:=gE N a c d g i j k l m n o p s t u v w x (fun z=>aW N (ou N) (iQ z))) (by kernel_rfl) (congrArg (gE N a c d g i j k l m n o p s t u v w x) (funext fun z=>aV (iQ) (ou N) (jA N) (ade N) N z)))) h fun _ ⟨y,y1,y2,y3,y4,y5,y6,y7,_,e,f,q⟩=>⟨(y,y1,y2,y3,y4,y5,y6,y7),e,⟨_,f⟩,q⟩
noncomputable def aR:aL:=tab (P:=Try.prog) [] [mS,agw,ae2] [] [arI,apL,atf]
def jB:IR:=Cn 68 .skip (Rg [Fa 85 0 10,Lq 86 85,Bc 87 .eql 86 4,Mv 88 87,Gt 88 (.mov 89 11),Pa 90 88 89,Mv 68 90])
def uS:IR:=Cn 162 (Rs [Mv 163 12,Pp (.bld 164 [vU 0,vS,nl .aval,nl .str,vI 0] [(1,1,163)]),Sv 5 8 164,Mi 9 0] .ret) .skip
def uT:IR:=Sq (Rs [Mv 174 14,Fa 175 4 10,Lq 176 175,Ll 177 176,Bi 178 .lss 174 177] (Cn 178 .skip (.exit 1))) (Sq (.block 2 (Sq (.reg [Fa 181 4 10,Lq 182 181,Mv 183 14,Ix 184 .str 182 183,Lq 185 184,Fa 186 2 6,Lq 187 186,Bi 188 .eql 185 187] [[],[0],[],[0,1,2],rg 0 3,[],[5],rg 0 6]) (Cn 188 (Rs [Mv 189 14,Pp (.cvi 190 .u64 189),Pp (.bld 191 [vU 0,vS,nl .aval,nl .str,vI 0] [(0,1,190)]),Sv 5 8 191,Mi 9 0] .ret) .skip))) (Rg [Mv 179 14,Bc 180 .add 179 1,Mv 14 180]))
def uU:IR:=Cn 192 (Rs [Mv 209 0,Ld 210 10 true 10,Ld 211 5 true 6,Mv 212 3,Ca 213 148 [209,210,211,212],Ex_ 214 0 213,Ex_ 215 1 213,Sv 5 8 214,Mv 9 215] .ret) (Rs [Fa 217 0 10,Lq 218 217,Bc 219 .eql 218 9,Mv 220 219,Gt 220 (.fad 221 0 6),Gt 220 (.lde 222 1 false 221),Gt 220 (.bin 223 .eql 222 (kI 6)),Pa 224 220 223,Mv 216 224] (Cn 216 (Rs [Mv 225 0,Ld 226 10 true 10,Ld 227 5 true 6,Mv 228 3,Ca 229 149 [225,226,227,228],Ex_ 230 0 229,Ex_ 231 1 229,Sv 5 8 230,Mv 9 231] .ret) (Rs [Fa 233 0 10,Lq 234 233,Bc 235 .eql 234 14,Mv 232 235] (Cn 232 (Sq (.reg [Mv 237 0,Fa 238 9 10,Lq 239 238,Pp (.ixa 240 (.num .i64) 239 (kI 0)),Lq 241 240,Ld 242 5 true 6,Mv 243 3,Bc 244 .add 243 1,Fo [] [0] (.call 245 120 [237,241,242,244]),Mv 236 245,Ex_ 246 0 236,Ex_ 247 1 236,Pp (.alr 15 5),Fz 15 5 246,Mv 16 247] [[],[],[1],[1,2],[1,2,3],[],[],[6],rg 0 7,rg 0 8,rg 0 9,rg 0 9,[],rg 0 10++[12],rg 0 13]) (Rs [Ld 248 5 true 15,Pp (.bsl 249 .aval [248] true),Pp (.bld 250 [vU 0,vS,nl .aval,nl .str,vI 0] [(2,1,249)]),Mv 251 16,Sv 5 8 250,Mv 9 251] .ret)) .skip))))
def iR:IR:=Cn 130 (Rs [Fa 145 2 6,Lq 146 145,Ca 147 147 [146],Mv 144 147,Ex_ 148 0 144,Ex_ 149 1 144,Mv 12 148,Mv 13 149] (Rs [Mv 150 13,Mv 151 150,Gt 151 (.fad 152 0 10),Gt 151 (.lde 153 1 false 152),Gt 151 (.bin 154 .eql 153 (kI 7)),Gt 151 (.mov 155 154),Gf 155 (.mov 156 12),Gf 155 (.lens 157 156),Gf 155 (.fad 158 7 10),Gf 155 (.lde 159 1 false 158),Gf 155 (.bin 160 .eql 157 159),Gt 151 (.pick 161 155 (kB true) 160),Pa 162 151 161] (.cut [8,12,162,1000001] 2 uS))) (Rs [Fa 166 0 10,Lq 167 166,Bc 168 .eql 167 10,Mv 169 168,Gt 169 (.fad 170 0 6),Gt 169 (.lde 171 1 false 170),Gt 169 (.bin 172 .eql 171 (kI 4)),Pa 173 169 172,Mv 165 173] (Cn 165 (Rs [Mi 14 0] (.block 1 (.loop [6,8,10,14,1000002] 2 uT))) (Sq (Rs [Fa 193 0 10,Lq 194 193,Bc 195 .eql 194 12,Mv 196 195,Gt 196 (.fad 197 0 6),Gt 196 (.lde 198 1 false 197),Gt 196 (.bin 199 .eql 198 (kI 5)),Pa 200 196 199,Mv 192 200] (Cn 192 .skip (Rg [Fa 201 0 10,Lq 202 201,Bc 203 .eql 202 13,Mv 204 203,Gt 204 (.fad 205 0 6),Gt 204 (.lde 206 1 false 205),Gt 204 (.bin 207 .eql 206 (kI 6)),Pa 208 204 207,Mv 192 208]))) (.cut [0,3,6,8,10,192,1000003] 2 uU))))
def iS:IR:=Cn 68 (Rs [Fa 91 1 6,Lq 92 91,Pp (.cvi 93 .u64 92),Pp (.bld 94 [vU 0,vS,nl .aval,nl .str,vI 0] [(0,1,93)]),Sv 5 8 94,Mi 9 0] .ret) (Rs [Fa 96 0 10,Lq 97 96,Bc 98 .eql 97 5,Mv 99 98,Gt 99 (.mov 100 11),Pa 101 99 100,Mv 95 101] (Cn 95 (Rs [Fa 102 1 6,Lq 103 102,Ca 104 132 [103],Pp (.cvi 105 .u64 104),Pp (.bld 106 [vU 0,vS,nl .aval,nl .str,vI 0] [(0,1,105)]),Sv 5 8 106,Mi 9 0] .ret) (Rs [Fa 108 0 10,Lq 109 108,Bc 110 .eql 109 6,Mv 111 110,Gt 111 (.mov 112 11),Pa 113 111 112,Mv 107 113] (Cn 107 (Rs [Fa 114 1 6,Lq 115 114,Ca 116 133 [115],Pp (.bld 117 [vU 0,vS,nl .aval,nl .str,vI 0] [(0,1,116)]),Sv 5 8 117,Mi 9 0] .ret) (Rs [Fa 119 0 10,Lq 120 119,Bc 121 .eql 120 8,Mv 122 121,Gt 122 (.fad 123 0 6),Gt 122 (.lde 124 1 false 123),Gt 122 (.bin 125 .eql 124 (kI 4)),Pa 126 122 125,Mv 118 126] (Cn 118 (Rs [Fa 127 2 6,Lq 128 127,Pp (.bld 129 [vU 0,vS,nl .aval,nl .str,vI 0] [(1,1,128)]),Sv 5 8 129,Mi 9 0] .ret) (Rs [Fa 131 0 10,Lq 132 131,Bc 133 .eql 132 7,Mv 134 133,Gf 134 (.fad 135 0 10),Gf 134 (.lde 136 1 false 135),Gf 134 (.bin 137 .eql 136 (kI 11)),Po 138 134 137,Mv 139 138,Gt 139 (.fad 140 0 6),Gt 139 (.lde 141 1 false 140),Gt 139 (.bin 142 .eql 141 (kI 4)),Pa 143 139 142,Mv 130 143] (.cut [0,3,6,8,10,130,1000004] 2 iR))))))))
def nW:IR:=.cut [0,3,6,8,10,11,68,1000005] 2 iS
def dw:IR:=Rs [Pp (.bld 252 [vU 0,vS,nl .aval,nl .str,vI 0] []),Sv 5 8 252,Mi 9 7] .ret
def afD:IR:=Rs [Bx 6 2,Pp (.new 8 [vU 0,vS,nl .aval,nl .str,vI 0]),Mi 9 0] (Rs [Mv 17 0,Nk 18 17,Fa 19 1 18,Lo 20 19,Bc 21 .add 20 1,Nk 22 17,Fa 23 1 22,Sv 1 23 21] (Sq (Rs [Mv 24 3,Bc 25 .gtr 24 20,Mv 26 25,Gf 26 (.mov 27 0),Gf 26 (.nck 28 27),Gf 26 (.fad 29 1 28),Gf 26 (.ld 30 1 false false 29),Gf 26 (.bin 31 .gtr 30 (kI 2000)),Po 32 26 31] (Cn 32 (Rs [Pp (.bld 33 [vU 0,vS,nl .aval,nl .str,vI 0] []),Sv 5 8 33,Mi 9 3] .ret) .skip)) (Rs [Mv 34 0,Nk 35 34,Fa 36 0 35,Fa 37 0 36,Lo 38 37,Mv 39 1,Ix 40 .atype 38 39,Ld 41 10 true 40,Pp (.alr 10 10),Fz 10 10 41] (Rs [Fa 42 0 6,Lq 43 42,Bc 44 .eql 43 3,Mv 11 44] (Sq (.block 0 (Rs [Fa 46 0 10,Lq 47 46,Bc 48 .eql 47 1,Mv 49 48,Gt 49 (.fad 50 0 6),Gt 49 (.lde 51 1 false 50),Gt 49 (.bin 52 .eql 51 (kI 1)),Pa 53 49 52,Mv 45 53] (Cn 45 (Rs [Pp (.bld 54 [vU 0,vS,nl .aval,nl .str,vI 0] []),Sv 5 8 54,Mi 9 0] .ret) (Rs [Fa 56 0 10,Lq 57 56,Bc 58 .eql 57 2,Mv 59 58,Gt 59 (.fad 60 0 6),Gt 59 (.lde 61 1 false 60),Gt 59 (.bin 62 .eql 61 (kI 2)),Pa 63 59 62,Mv 55 63] (Cn 55 (Rs [Fa 64 1 6,Lq 65 64,Pp (.cvi 66 .u64 65),Pp (.bld 67 [vU 0,vS,nl .aval,nl .str,vI 0] [(0,1,66)]),Sv 5 8 67,Mi 9 0] .ret) (Sq (Rs [Fa 69 0 10,Lq 70 69,Bc 71 .eql 70 3,Mv 72 71,Gt 72 (.mov 73 11),Pa 74 72 73,Mv 75 74,Gt 75 (.fad 76 1 6),Gt 75 (.lde 77 1 false 76),Gt 75 (.bin 78 .geq 77 (kI (-2147483648))),Pa 79 75 78,Mv 80 79,Gt 80 (.fad 81 1 6),Gt 80 (.lde 82 1 false 81),Gt 80 (.bin 83 .lss 82 (kI 2147483648)),Pa 84 80 83,Mv 68 84] (.cut [0,3,6,8,10,11,68,1000000] 2 jB)) nW)))))) dw)))))
def eh:List RV:=[.cell 8 5 true,.t 9]
theorem afE:FnC Try.prog aR [120,148,149,2000120,2000148,2000149] 1 yy Try.f120 afD eh:=fnC Try.func120
abbrev gF:Type:=(Int×Int×Int×Bs×List aB×Bss×Int×Bs×Bss×Int×Bss×Bool×Bs×Int×List aM×List Int×Bool×Bool×List aA×Int×Int×Bs×List aO×Bss×Int)
def f8:gF→St:=fun(p,q,r,s,t,u,v,w,x,y,a,b,c,d,e,f,g,h,i,j,k,l,m,n,o)=>{env:=(.ptr 0 0::.undef::.undef::.int .i64 p::.undef::.undef::.ea [.int .i64 q,.int .i64 r,.str s,.sl .jnode (.may false) t,.sl .str (.may false) u]::.undef::.ptr 1 0::.undef::.ea [.int .i64 v,.str w,.sl .str (.may false) x,.int .i64 y,.sl .str (.may false) a,.bool b,.str c,.int .i64 d,.sl .afield (.may false) e,.sl (.num .i64) (.may false) f]::.bool g::(U 56 (.bool h::(U 184 [])))),hp:=[some [.sl .atype (.may false) i,.int .i64 j],some [.int .u64 k,.str l,.sl .aval .own m,.sl .str .own n,.int .i64 o]]}
def pu(R:IR→(Ex→St→Ro)→St→Ro):Ex→St→Ro:=(bj (R nW) (aP 0 (bj (R dw) (fin eh))))
abbrev gG:Type:=(Int×Int×Int×Bs×List aB×Bss×Int×Bs×Bss×Int×Bss×Bool×Bs×Int×List aM×List Int×Bool×Bool×List aA×Int×Int×Bs×List aO×Bss×Int)
def eI:gG→St:=fun(p,q,r,s,t,u,v,w,x,y,a,b,c,d,e,f,g,h,i,j,k,l,m,n,o)=>{env:=(.ptr 0 0::.undef::.undef::.int .i64 p::.undef::.undef::.ea [.int .i64 q,.int .i64 r,.str s,.sl .jnode (.may false) t,.sl .str (.may false) u]::.undef::.ptr 1 0::.undef::.ea [.int .i64 v,.str w,.sl .str (.may false) x,.int .i64 y,.sl .str (.may false) a,.bool b,.str c,.int .i64 d,.sl .afield (.may false) e,.sl (.num .i64) (.may false) f]::.bool g::(U 56 (.bool h::(U 184 [])))),hp:=[some [.sl .atype (.may false) i,.int .i64 j],some [.int .u64 k,.str l,.sl .aval .own m,.sl .str .own n,.int .i64 o]]}
def cN(R:IR→(Ex→St→Ro)→St→Ro):Ex→St→Ro:=(aP 0 (bj (R dw) (fin eh)))
abbrev gH:Type:=(Int×Int×Int×Bs×List aB×Bss×Int×Bs×Bss×Int×Bss×Bool×Bs×Int×List aM×List Int×Bool×List aA×Int×Int×Bs×List aO×Bss×Int)
def eJ:gH→St:=fun(o,p,q,r,s,t,u,v,w,x,a,b,c,d,e,f,g,h,i,j,k,l,m,n)=>{env:=(.ptr 0 0::.undef::.undef::.int .i64 o::.undef::.undef::.ea [.int .i64 p,.int .i64 q,.str r,.sl .jnode (.may false) s,.sl .str (.may false) t]::.undef::.ptr 1 0::.undef::.ea [.int .i64 u,.str v,.sl .str (.may false) w,.int .i64 x,.sl .str (.may false) a,.bool b,.str c,.int .i64 d,.sl .afield (.may false) e,.sl (.num .i64) (.may false) f]::(U 119 (.bool g::(U 122 [])))),hp:=[some [.sl .atype (.may false) h,.int .i64 i],some [.int .u64 j,.str k,.sl .aval .own l,.sl .str .own m,.int .i64 n]]}
abbrev pv:Type:=(Bs×Bool×List aA×Int×Int×Bs×List aO×Bss×Int)
def jC:pv→St:=fun(a,b,c,d,e,f,g,h,i)=>{env:=(U 8 (.ptr 1 0::(U 3 (.str a::(U 149 (.bool b::(U 90 []))))))),hp:=[some [.sl .atype (.may false) c,.int .i64 d],some [.int .u64 e,.str f,.sl .aval .own g,.sl .str .own h,.int .i64 i]]}
def pw(N:Nat):St→Ro:=fun s=>run aR N uS (cN (run aR N)) s
def gI(N:Nat):pv→Ro:=fun(d,a,b,c,_,_,_,_,_)=>
 let e:=fun f g=>(some (.tup [.agg [.int .u64 0,.str f,.sl .aval (.may false) ([]:List aO),.sl .str (.may false) ([]:Bss),.int .i64 0],.int .i64 g],[some [.sl .atype (.may false) b,.int .i64 c],some [.int .u64 0,.str f,.sl .aval .own ([]:List aO),.sl .str .own ([]:Bss),.int .i64 0]]):Ro)
 cond a (
 e d 0) (
 e ([]:Bs) 7)
theorem adr(N:Nat):LJ (pw N) jC (gI N):=fun _=>by kernel_rfl
def aeA(R:IR→(Ex→St→Ro)→St→Ro)(a:St→Ro):Ex→St→Ro:=(bk a [6,8,10,14,1000002] 2 (aP 1 (cN R)))
abbrev kP:Type:=(Int×Int×Bs×List aB×Bss×Int×Bs×Bss×Int×Bss×Bool×Bs×Int×List aM×List Int×Int×List aA×Int×Int×Bs×List aO×Bss×Int)
def f9:kP→St:=fun(n,o,p,q,r,s,t,u,v,w,a,b,c,d,e,f,g,h,i,j,k,l,m)=>{env:=(U 6 (.ea [.int .i64 n,.int .i64 o,.str p,.sl .jnode (.may false) q,.sl .str (.may false) r]::.undef::.ptr 1 0::.undef::.ea [.int .i64 s,.str t,.sl .str (.may false) u,.int .i64 v,.sl .str (.may false) w,.bool a,.str b,.int .i64 c,.sl .afield (.may false) d,.sl (.num .i64) (.may false) e]::(U 3 (.int .i64 f::(U 238 []))))),hp:=[some [.sl .atype (.may false) g,.int .i64 h],some [.int .u64 i,.str j,.sl .aval .own k,.sl .str .own l,.int .i64 m]]}
def kQ(N:Nat):(St→Ro)→St→Ro:=fun a s=>run aR N uT (aeA (run aR N) a) s
def fg(N:Nat)(c:kP→Ro):kP→Ro:=fun(p,q,d,r,s,g,h,i,j,a,k,l,m,n,o,b,e,f,t,u,v,w,x)=>
 let x6:=(↑(List.length a):Int)
 let y:=fun z g1=>(some (.tup [.agg [.int .u64 z,.str ([]:Bs),.sl .aval (.may false) ([]:List aO),.sl .str (.may false) ([]:Bss),.int .i64 0],.int .i64 g1],[some [.sl .atype (.may false) e,.int .i64 f],some [.int .u64 z,.str ([]:Bs),.sl .aval .own ([]:List aO),.sl .str .own ([]:Bss),.int .i64 0]]):Ro)
 cond (decide (b<x6)) (
 chk (ixl b a) (
 let x7:=List.getD a (Int.toNat b) (aG .str)
 cond (decide (x7=d)) (
 y (IntKind.wrap .u64 b) 0) (
 let x8:=(IntKind.wrap .i64 (b+1))
 c (p,q,d,r,s,g,h,i,j,a,k,l,m,n,o,x8,e,f,t,u,v,w,x)))) (
 y 0 7)
theorem ads(N:Nat):LB (kQ N) f9 (fg N):=fun _ _=>by kernel_rfl
abbrev px:Type:=(Int×Int×Int×Bs×List aB×Bss×Int×Bs×Bss×Int×Bss×Bool×Bs×Int×List aM×List Int×Bool×List aA×Int×Int×Bs×List aO×Bss×Int)
def jD:px→St:=fun(o,p,q,r,s,t,u,v,w,x,a,b,c,d,e,f,g,h,i,j,k,l,m,n)=>{env:=(.ptr 0 0::.undef::.undef::.int .i64 o::.undef::.undef::.ea [.int .i64 p,.int .i64 q,.str r,.sl .jnode (.may false) s,.sl .str (.may false) t]::.undef::.ptr 1 0::.undef::.ea [.int .i64 u,.str v,.sl .str (.may false) w,.int .i64 x,.sl .str (.may false) a,.bool b,.str c,.int .i64 d,.sl .afield (.may false) e,.sl (.num .i64) (.may false) f]::(U 181 (.bool g::(U 60 [])))),hp:=[some [.sl .atype (.may false) h,.int .i64 i],some [.int .u64 j,.str k,.sl .aval .own l,.sl .str .own m,.int .i64 n]]}
def py(N:Nat):St→Ro:=fun s=>run aR N uU (cN (run aR N)) s
def gJ(N:Nat):px→Ro:=fun(w,e,f,g,h,i,b,n,o,p,q,r,s,t,u,a,v,c,d,_,_,_,_,_)=>
 cond v (
 aF (iH c d b n o p q r s t u a e f g h i w) (fun j=>
 some (.tup [.agg [.int .u64 j.1,.str j.2.1,.sl .aval (.may false) j.2.2.1,.sl .str (.may false) j.2.2.2.1,.int .i64 j.2.2.2.2.1],.int .i64 j.2.2.2.2.2.1],[some [.sl .atype (.may false) j.2.2.2.2.2.2.1,.int .i64 j.2.2.2.2.2.2.2],some [.int .u64 j.1,.str j.2.1,.sl .aval (.may false) j.2.2.1,.sl .str (.may false) j.2.2.2.1,.int .i64 j.2.2.2.2.1]]))) (
 cond (b==9) (
 cond (e==6) (
 aF (hZ c d b n o p q r s t u a e f g h i w) (fun k=>
 some (.tup [.agg [.int .u64 k.1,.str k.2.1,.sl .aval (.may false) k.2.2.1,.sl .str (.may false) k.2.2.2.1,.int .i64 k.2.2.2.2.1],.int .i64 k.2.2.2.2.2.1],[some [.sl .atype (.may false) k.2.2.2.2.2.2.1,.int .i64 k.2.2.2.2.2.2.2],some [.int .u64 k.1,.str k.2.1,.sl .aval (.may false) k.2.2.1,.sl .str (.may false) k.2.2.2.1,.int .i64 k.2.2.2.2.1]]))) (
 cond (b==14) (
 chk (decide ((0:Int)<↑(List.length a))) (
 let x9:=List.getD a (Int.toNat 0) (aG (.num .i64))
 let x:=(IntKind.wrap .i64 (w+1))
 aF (cn c d x9 e f g h i x) (fun l=>
 some (.tup [.agg [.int .u64 0,.str ([]:Bs),.sl .aval (.may true) ([⟨l.1,l.2.1,l.2.2.1,l.2.2.2.1,l.2.2.2.2.1⟩]:List aO),.sl .str (.may false) ([]:Bss),.int .i64 0],.int .i64 l.2.2.2.2.2.1],[some [.sl .atype (.may false) l.2.2.2.2.2.2.1,.int .i64 l.2.2.2.2.2.2.2],some [.int .u64 0,.str ([]:Bs),.sl .aval (.may true) ([⟨l.1,l.2.1,l.2.2.1,l.2.2.2.1,l.2.2.2.2.1⟩]:List aO),.sl .str .own ([]:Bss),.int .i64 0]])))) (
 some (.tup [.agg [.int .u64 0,.str ([]:Bs),.sl .aval (.may false) ([]:List aO),.sl .str (.may false) ([]:Bss),.int .i64 0],.int .i64 7],[some [.sl .atype (.may false) c,.int .i64 d],some [.int .u64 0,.str ([]:Bs),.sl .aval .own ([]:List aO),.sl .str .own ([]:Bss),.int .i64 0]])))) (
 cond (b==14) (
 chk (decide ((0:Int)<↑(List.length a))) (
 let y:=List.getD a (Int.toNat 0) (aG (.num .i64))
 let z:=(IntKind.wrap .i64 (w+1))
 aF (cn c d y e f g h i z) (fun m=>
 some (.tup [.agg [.int .u64 0,.str ([]:Bs),.sl .aval (.may true) ([⟨m.1,m.2.1,m.2.2.1,m.2.2.2.1,m.2.2.2.2.1⟩]:List aO),.sl .str (.may false) ([]:Bss),.int .i64 0],.int .i64 m.2.2.2.2.2.1],[some [.sl .atype (.may false) m.2.2.2.2.2.2.1,.int .i64 m.2.2.2.2.2.2.2],some [.int .u64 0,.str ([]:Bs),.sl .aval (.may true) ([⟨m.1,m.2.1,m.2.2.1,m.2.2.2.1,m.2.2.2.2.1⟩]:List aO),.sl .str .own ([]:Bss),.int .i64 0]])))) (
 some (.tup [.agg [.int .u64 0,.str ([]:Bs),.sl .aval (.may false) ([]:List aO),.sl .str (.may false) ([]:Bss),.int .i64 0],.int .i64 7],[some [.sl .atype (.may false) c,.int .i64 d],some [.int .u64 0,.str ([]:Bs),.sl .aval .own ([]:List aO),.sl .str .own ([]:Bss),.int .i64 0]]))))
theorem adt(N:Nat):LJ (py N) jD (gJ N):=fun _=>by kernel_rfl
def kR(N:Nat):St→Ro:=fun s=>run aR N iR (cN (run aR N)) s
def jE(N:Nat)(q3:pv→Ro)(q4:kP→Ro)(q5:px→Ro):gH→Ro:=fun(v3,b,u,d,v,w,a,e,f,g,h,i,j,c,k,l,x,m,n,o,p,q,r,s)=>
 let z:=fun g0 g1=>q3 (g0,g1,m,n,o,p,q,r,s)
 let t:=fun g0=>q5 (v3,b,u,d,v,w,a,e,f,g,h,i,j,c,k,l,g0,m,n,o,p,q,r,s)
 cond x (
 aF (wi d) (fun y=>
 cond y.2 (
 cond (a==7) (
 z y.1 true) (
 let x5:=(↑(List.length y.1):Int)
 z y.1 (x5==c))) (
 z y.1 false))) (
 cond (a==10) (
 cond (b==4) (
 q4 (b,u,d,v,w,a,e,f,g,h,i,j,c,k,l,0,m,n,o,p,q,r,s)) (
 cond (a==12) (
 cond (b==5) (
 t true) (
 cond (a==13) (
 t (b==6)) (
 t false))) (
 cond (a==13) (
 t (b==6)) (
 t false)))) (
 cond (a==12) (
 cond (b==5) (
 t true) (
 cond (a==13) (
 t (b==6)) (
 t false))) (
 cond (a==13) (
 t (b==6)) (
 t false))))
def gK(N:Nat)(x:gH):Ro:=jE N (fun z=>gI N z) (fun z=>aS N (fg N) z) (fun z=>gJ N z) x
def pz(N:Nat):List (Nat×(St→Ro)):=(bQ aR N iR (cN (run aR N))++(bQ aR N dw (fin eh)++[]))
theorem adu(N:Nat):∀(x:gH),kR N (eJ x)=gK N x:=by
 intro x
 have hX:∀C:Nat→St→Ro,bT C aR N iR (cN (bT C aR N)) (eJ x)=jE N (fun z=>C 1000001 (jC z)) (fun z=>C 1000002 (f9 z)) (fun z=>C 1000003 (jD z)) x:=by
  intro C
  kernel_rfl
 have h:kR N (eJ x)=jE N (fun z=>pw N (jC z)) (fun z=>aW N (kQ N) (f9 z)) (fun z=>py N (jD z)) x:=(cW (C:=fb (pz N)) (bS (ba (l:=(pz N)) (by kernel_rfl))) (cD (fI (bS (dR (ba (l:=(pz N)) (by kernel_rfl)))) rfl)) _).trans ((hX _).trans (by kernel_rfl))
 have e3:(fun z=>pw N (jC z))=(fun z=>gI N z):=funext fun z=>adr N z
 have e4:(fun z=>aW N (kQ N) (f9 z))=(fun z=>aS N (fg N) z):=funext fun z=>aV (f9) (kQ N) (fg N) (ads N) N z
 have e5:(fun z=>py N (jD z))=(fun z=>gJ N z):=funext fun z=>adt N z
 rw[h,e3,e4,e5]
 rfl
def kT(N:Nat):St→Ro:=fun s=>run aR N iS (cN (run aR N)) s
def jF(N:Nat)(q2:gH→Ro):gG→Ro:=fun(v3,b,d,e,s,t,a,i,j,k,l,m,n,o,p,q,r,aa,f,g,u,v,w,x,y)=>
 let h:=fun z g1=>(some (.tup [.agg [.int .u64 z,.str g1,.sl .aval (.may false) ([]:List aO),.sl .str (.may false) ([]:Bss),.int .i64 0],.int .i64 0],[some [.sl .atype (.may false) f,.int .i64 g],some [.int .u64 z,.str g1,.sl .aval .own ([]:List aO),.sl .str .own ([]:Bss),.int .i64 0]]):Ro)
 let c:=fun z=>q2 (v3,b,d,e,s,t,a,i,j,k,l,m,n,o,p,q,z,f,g,u,v,w,x,y)
 cond aa (
 h (IntKind.wrap .u64 d) ([]:Bs)) (
 cond (a==5) (
 cond r (
 aF (uo d) (fun(r1:Int)=>
 h (IntKind.wrap .u64 r1) ([]:Bs))) (
 cond (a==6) (
 cond r (
 aF (oC d) (fun(r2:Int)=>
 h r2 ([]:Bs))) (
 cond (a==8) (
 cond (b==4) (
 h 0 e) (
 cond (a==7) (
 c (b==4)) (
 cond (a==11) (
 c (b==4)) (
 c false)))) (
 cond (a==7) (
 c (b==4)) (
 cond (a==11) (
 c (b==4)) (
 c false))))) (
 cond (a==8) (
 cond (b==4) (
 h 0 e) (
 cond (a==7) (
 c (b==4)) (
 cond (a==11) (
 c (b==4)) (
 c false)))) (
 cond (a==7) (
 c (b==4)) (
 cond (a==11) (
 c (b==4)) (
 c false)))))) (
 cond (a==6) (
 cond r (
 aF (oC d) (fun(r8:Int)=>
 h r8 ([]:Bs))) (
 cond (a==8) (
 cond (b==4) (
 h 0 e) (
 cond (a==7) (
 c (b==4)) (
 cond (a==11) (
 c (b==4)) (
 c false)))) (
 cond (a==7) (
 c (b==4)) (
 cond (a==11) (
 c (b==4)) (
 c false))))) (
 cond (a==8) (
 cond (b==4) (
 h 0 e) (
 cond (a==7) (
 c (b==4)) (
 cond (a==11) (
 c (b==4)) (
 c false)))) (
 cond (a==7) (
 c (b==4)) (
 cond (a==11) (
 c (b==4)) (
 c false))))))
def gL(N:Nat)(x:gG):Ro:=jF N (fun z=>gK N z) x
def pA(N:Nat):List (Nat×(St→Ro)):=(bQ aR N iS (cN (run aR N))++(bQ aR N dw (fin eh)++[]))
theorem adv(N:Nat):∀(x:gG),kT N (eI x)=gL N x:=by
 intro x
 have hX:∀C:Nat→St→Ro,bT C aR N iS (cN (bT C aR N)) (eI x)=jF N (fun z=>C 1000004 (eJ z)) x:=by
  intro C
  kernel_rfl
 have h:kT N (eI x)=jF N (fun z=>kR N (eJ z)) x:=(cW (C:=fb (pA N)) (bS (ba (l:=(pA N)) (by kernel_rfl))) (cD (fI (bS (dR (ba (l:=(pA N)) (by kernel_rfl)))) rfl)) _).trans ((hX _).trans (by kernel_rfl))
 have e2:(fun z=>kR N (eJ z))=(fun z=>gK N z):=funext fun z=>adu N z
 rw[h,e2]
 rfl
def pB(N:Nat):St→Ro:=fun s=>run aR N jB (pu (run aR N)) s
def jG(N:Nat)(z:gG→Ro):gF→Ro:=fun(v3,k,l,m,n,o,a,b,c,d,e,f,g,h,i,j,p,x,q,r,s,t,u,v,w)=>
 let y:=fun g0=>z (v3,k,l,m,n,o,a,b,c,d,e,f,g,h,i,j,p,g0,q,r,s,t,u,v,w)
 cond x (
 y true) (
 cond (a==4) (
 y p) (
 y false))
def kV(N:Nat)(x:gF):Ro:=jG N (fun z=>gL N z) x
def kW(N:Nat):List (Nat×(St→Ro)):=(bQ aR N jB (pu (run aR N))++(bQ aR N nW (aP 0 (bj (run aR N dw) (fin eh)))++(bQ aR N dw (fin eh)++[])))
theorem adw(N:Nat):∀(x:gF),pB N (f8 x)=kV N x:=by
 intro x
 have hX:∀C:Nat→St→Ro,bT C aR N jB (pu (bT C aR N)) (f8 x)=jG N (fun z=>C 1000005 (eI z)) x:=by
  intro C
  kernel_rfl
 have h:pB N (f8 x)=jG N (fun z=>kT N (eI z)) x:=(cW (C:=fb (kW N)) (bS (ba (l:=(kW N)) (by kernel_rfl))) (fI (bS (dR (ba (l:=(kW N)) (by kernel_rfl)))) (cD (fI (bS (dR (dR (ba (l:=(kW N)) (by kernel_rfl))))) rfl))) _).trans ((hX _).trans (by kernel_rfl))
 have e1:(fun z=>kT N (eI z))=(fun z=>gL N z):=funext fun z=>adv N z
 rw[h,e1]
 rfl
def ik(N:Nat)(d:List aA)(k s b c:Int)(e:Bs)(f:List aB)(g:Bss)(i:Int)(j:gF→Ro):Ro:=
 let h:=(IntKind.wrap .i64 (k+1))
 let l:=fun t u=>(some (.tup [.agg [.int .u64 t,.str ([]:Bs),.sl .aval (.may false) ([]:List aO),.sl .str (.may false) ([]:Bss),.int .i64 0],.int .i64 u],[some [.sl .atype (.may false) d,.int .i64 h],some [.int .u64 t,.str ([]:Bs),.sl .aval .own ([]:List aO),.sl .str .own ([]:Bss),.int .i64 0]]):Ro)
 cond (decide (20<i)) (
 l 0 3) (
 cond (decide (2000<h)) (
 l 0 3) (
 chk (ixl s d) (
 let a:=(List.getD d (Int.toNat s) (aG .atype))
 cond (a.kind==1) (
 cond (b==1) (
 l 0 0) (
 cond (a.kind==2) (
 cond (b==2) (
 l (IntKind.wrap .u64 c) 0) (
 cond (a.kind==3) (
 cond (b==3) (
 let v:=decide ((-2147483648)≤c)
 cond v (
 let w:=decide (c<2147483648)
 j (i,b,c,e,f,g,a.kind,a.name,a.aliases,a.items,a.syms,a.hasdef,a.df,a.size,a.fields,a.branches,(b==3),w,d,h,0,([]:Bs),([]:List aO),([]:Bss),0)) (
 j (i,b,c,e,f,g,a.kind,a.name,a.aliases,a.items,a.syms,a.hasdef,a.df,a.size,a.fields,a.branches,(b==3),false,d,h,0,([]:Bs),([]:List aO),([]:Bss),0))) (
 j (i,b,c,e,f,g,a.kind,a.name,a.aliases,a.items,a.syms,a.hasdef,a.df,a.size,a.fields,a.branches,(b==3),false,d,h,0,([]:Bs),([]:List aO),([]:Bss),0))) (
 j (i,b,c,e,f,g,a.kind,a.name,a.aliases,a.items,a.syms,a.hasdef,a.df,a.size,a.fields,a.branches,(b==3),false,d,h,0,([]:Bs),([]:List aO),([]:Bss),0)))) (
 cond (a.kind==3) (
 cond (b==3) (
 let m:=decide ((-2147483648)≤c)
 cond m (
 let n:=decide (c<2147483648)
 j (i,b,c,e,f,g,a.kind,a.name,a.aliases,a.items,a.syms,a.hasdef,a.df,a.size,a.fields,a.branches,(b==3),n,d,h,0,([]:Bs),([]:List aO),([]:Bss),0)) (
 j (i,b,c,e,f,g,a.kind,a.name,a.aliases,a.items,a.syms,a.hasdef,a.df,a.size,a.fields,a.branches,(b==3),false,d,h,0,([]:Bs),([]:List aO),([]:Bss),0))) (
 j (i,b,c,e,f,g,a.kind,a.name,a.aliases,a.items,a.syms,a.hasdef,a.df,a.size,a.fields,a.branches,(b==3),false,d,h,0,([]:Bs),([]:List aO),([]:Bss),0))) (
 j (i,b,c,e,f,g,a.kind,a.name,a.aliases,a.items,a.syms,a.hasdef,a.df,a.size,a.fields,a.branches,(b==3),false,d,h,0,([]:Bs),([]:List aO),([]:Bss),0))))) (
 cond (a.kind==2) (
 cond (b==2) (
 l (IntKind.wrap .u64 c) 0) (
 cond (a.kind==3) (
 cond (b==3) (
 let o:=decide ((-2147483648)≤c)
 cond o (
 let p:=decide (c<2147483648)
 j (i,b,c,e,f,g,a.kind,a.name,a.aliases,a.items,a.syms,a.hasdef,a.df,a.size,a.fields,a.branches,(b==3),p,d,h,0,([]:Bs),([]:List aO),([]:Bss),0)) (
 j (i,b,c,e,f,g,a.kind,a.name,a.aliases,a.items,a.syms,a.hasdef,a.df,a.size,a.fields,a.branches,(b==3),false,d,h,0,([]:Bs),([]:List aO),([]:Bss),0))) (
 j (i,b,c,e,f,g,a.kind,a.name,a.aliases,a.items,a.syms,a.hasdef,a.df,a.size,a.fields,a.branches,(b==3),false,d,h,0,([]:Bs),([]:List aO),([]:Bss),0))) (
 j (i,b,c,e,f,g,a.kind,a.name,a.aliases,a.items,a.syms,a.hasdef,a.df,a.size,a.fields,a.branches,(b==3),false,d,h,0,([]:Bs),([]:List aO),([]:Bss),0)))) (
 cond (a.kind==3) (
 cond (b==3) (
 let q:=decide ((-2147483648)≤c)
 cond q (
 let r:=decide (c<2147483648)
 j (i,b,c,e,f,g,a.kind,a.name,a.aliases,a.items,a.syms,a.hasdef,a.df,a.size,a.fields,a.branches,(b==3),r,d,h,0,([]:Bs),([]:List aO),([]:Bss),0)) (
 j (i,b,c,e,f,g,a.kind,a.name,a.aliases,a.items,a.syms,a.hasdef,a.df,a.size,a.fields,a.branches,(b==3),false,d,h,0,([]:Bs),([]:List aO),([]:Bss),0))) (
 j (i,b,c,e,f,g,a.kind,a.name,a.aliases,a.items,a.syms,a.hasdef,a.df,a.size,a.fields,a.branches,(b==3),false,d,h,0,([]:Bs),([]:List aO),([]:Bss),0))) (
 j (i,b,c,e,f,g,a.kind,a.name,a.aliases,a.items,a.syms,a.hasdef,a.df,a.size,a.fields,a.branches,(b==3),false,d,h,0,([]:Bs),([]:List aO),([]:Bss),0)))))))
def xV(N:Nat)(a:List aA)(b h c d:Int)(e:Bs)(f:List aB)(g:Bss)(i:Int):Ro:=ik N a b h c d e f g i (fun z=>kV N z)
theorem aeB(N:Nat)(a:List aA)(c l d g:Int)(i:Bs)(j:List aB)(k:Bss)(m:Int)(h:Tot (xV N a c l d g i j k m) (fun z=>∃(n:Int)(o:Bs)(p:List aO)(s:Bss)(t:Int)(u:Int)(v:List aA)(w:Int)(rest:List aJ),z.1.dimR=.tup [.agg [.int .u64 n,.str o,.sl .aval (.may false) p,.sl .str (.may false) s,.int .i64 t],.int .i64 u]∧z.2=some [.sl .atype (.may false) v,.int .i64 w]::rest∧cZ a c l d g i j k m (n,o,p,s,t,u,v,w))):∃r,cn a c l d g i j k m r:=FnC.finO (css:=[[.sl .atype (.may false) a,.int .i64 c]]) afE (N:=N) ((bu _ (by kernel_rfl) rfl (fun C=>ik N a c l d g i j k m (fun z=>C 1000000 (f8 z))) (fun C=>by kernel_rfl)).trans (Eq.trans (b:=ik N a c l d g i j k m (fun z=>pB N (f8 z))) (by kernel_rfl) (congrArg (ik N a c l d g i j k m) (funext fun z=>adw N z)))) h fun _ ⟨n,o,p,s,t,u,v,w,_,e,f,q⟩=>⟨(n,o,p,s,t,u,v,w),e,⟨_,f⟩,q⟩
noncomputable def aqW:aL:=tab (P:=Try.prog) [] [mS] [] [agp]
def ao6:IR:=Rs [Bx 3 0,Bx 5 2,Pp (.new 6 [vU 0,vS,nl .aval,nl .str,vI 0]),Mi 7 0] (Sq (Rs [Ld 11 1 true 3,Mv 12 1,Ca 13 45 [11,12],Un 14 13] (Cn 14 (Rs [Pp (.bld 15 [vU 0,vS,nl .aval,nl .str,vI 0] []),Sv 5 6 15,Mi 7 1] .ret) .skip)) (Rs [Ld 16 1 true 3,Pp (.bld 17 [fu .atype true,vI 0] [(0,1,16)]),Pp (.box 18 17),Mv 8 18] (Rs [Mv 20 8,Mv 21 1,Ld 22 5 true 5,Ca 23 120 [20,21,22,kI 1],Mv 19 23,Ex_ 24 0 19,Ex_ 25 1 19,Pp (.alr 9 5),Fz 9 5 24,Mv 10 25] (Sq (Rs [Mv 26 10,Bc 27 .neq 26 0] (Cn 27 (Rs [Pp (.bld 28 [vU 0,vS,nl .aval,nl .str,vI 0] []),Mv 29 10,Sv 5 6 28,Mv 7 29] .ret) .skip)) (Rs [Ld 30 5 true 9,Sv 5 6 30,Mi 7 0] .ret)))))
def ao7:List RV:=[.cell 6 5 true,.t 7]
theorem ao8:FnC Try.prog aqW [120,2000120] 0 ahg Try.f74 ao6 ao7:=fnC Try.func74
def afF(N:Nat)(b:List aA)(i c d:Int)(e:Bs)(f:List aB)(g:Bss):Ro:=
 let h:=fun j k l m n o p=>(some (.tup [.agg [.int .u64 j,.str k,.sl .aval (.may false) l,.sl .str (.may false) m,.int .i64 n],.int .i64 o],p):Ro)
 aF (mR b i) (fun(q:Bool)=>
 cond (!q) (
 h 0 ([]:Bs) ([]:List aO) ([]:Bss) 0 1 [some [.int .u64 0,.str ([]:Bs),.sl .aval .own ([]:List aO),.sl .str .own ([]:Bss),.int .i64 0]]) (
 aF (cn b 0 i c d e f g 1) (fun a=>
 cond (!(a.2.2.2.2.2.1==0)) (
 h 0 ([]:Bs) ([]:List aO) ([]:Bss) 0 a.2.2.2.2.2.1 [some [.int .u64 0,.str ([]:Bs),.sl .aval .own ([]:List aO),.sl .str .own ([]:Bss),.int .i64 0],some [.sl .atype (.may false) a.2.2.2.2.2.2.1,.int .i64 a.2.2.2.2.2.2.2]]) (
 h a.1 a.2.1 a.2.2.1 a.2.2.2.1 a.2.2.2.2.1 0 [some [.int .u64 a.1,.str a.2.1,.sl .aval (.may false) a.2.2.1,.sl .str (.may false) a.2.2.2.1,.int .i64 a.2.2.2.2.1],some [.sl .atype (.may false) a.2.2.2.2.2.2.1,.int .i64 a.2.2.2.2.2.2.2]]))))
def afG(N:Nat)(a:List aA)(g b c:Int)(d:Bs)(e:List aB)(f:Bss):Ro:=afF N a g b c d e f
theorem anE(N:Nat)(a:List aA)(o b c:Int)(d:Bs)(f:List aB)(g:Bss)(h:Tot (afG N a o b c d f g) (fun z=>∃(i:Int)(j:Bs)(k:List aO)(l:Bss)(m:Int)(n:Int)(rest:List aJ),z.1.dimR=.tup [.agg [.int .u64 i,.str j,.sl .aval (.may false) k,.sl .str (.may false) l,.int .i64 m],.int .i64 n]∧z.2=rest)):∃r,sg a o b c d f g r:=ao8.finP0 (N:=N) (by kernel_rfl) h fun _ ⟨i,j,k,l,m,n,_,e,_⟩=>⟨(i,j,k,l,m,n),e⟩
noncomputable def fU:aL:=tab (P:=Try.prog) [] [] [] [apJ]
def abN:IR:=Sq (Rs [Mv 17 6,Fa 18 0 1,Lq 19 18,Mv 20 5,Ix 21 .atype 19 20,Fa 22 8 21,Lo 23 22,Ll 24 23,Bi 25 .lss 17 24] (Cn 25 .skip (.exit 2))) (Sq (.block 3 (Rs [Fa 28 0 1,Lq 29 28,Mv 30 5,Ix 31 .atype 29 30,Fa 32 8 31,Lo 33 32,Mv 34 6,Ix 35 .afield 33 34,Ld 36 9 true 35,Pp (.alr 7 9),Fz 7 9 36] (Sq (Rs [Fa 37 3 7,Lq 38 37,Un 39 38] (Cn 39 (.exit 3) .skip)) (Rs [Ld 41 1 true 1,Fa 42 2 7,Lq 43 42,Fa 44 4 7,Ld 45 5 true 44,Ca 46 74 [41,43,45],Mv 40 46,Ex_ 47 0 40,Ex_ 48 1 40,Pp (.alr 8 5),Fz 8 5 47,Mv 9 48] (Rs [Mv 49 9,Bc 50 .neq 49 0] (Cn 50 (Rs [Mv 51 9,Mv 52 5,Mv 53 6,Mv 2 51,Mv 3 52,Mv 4 53] .ret) .skip)))))) (Rg [Mv 26 6,Bc 27 .add 26 1,Mv 6 27]))
def abO:IR:=Rg [Mv 15 5,Bc 16 .add 15 1,Mv 5 16]
def p7:IR:=Sq (Rs [Mv 10 5,Fa 11 0 1,Lq 12 11,Ll 13 12,Bi 14 .lss 10 13] (Cn 14 .skip (.exit 0))) (Sq (.block 1 (Rs [Mi 6 0] (.block 2 (.loop [1,5,6,1000000] 0 abN)))) abO)
def vY:IR:=Rs [Mi 2 0,Mi 3 0,Mi 4 0] .ret
def ao9:IR:=Rs [Bx 1 0,Mi 2 0,Mi 3 0,Mi 4 0] (Sq (Rs [Mi 5 0] (.block 0 (.loop [1,5,1000001] 0 p7))) vY)
def aal:List RV:=[.t 2,.t 3,.t 4]
theorem apa:FnC Try.prog fU [] 0 ahf Try.f41 ao9 aal:=fnC Try.func41
def tW(R:IR→(Ex→St→Ro)→St→Ro)(a:St→Ro):Ex→St→Ro:=(bk a [1,5,1000001] 0 (aP 0 (bj (R vY) (fin aal))))
abbrev gn:Type:=(List aA×Int)
def cY:gn→St:=fun(a,b)=>{env:=(.undef::.ea [.sl .atype (.may false) a]::(U 3 (.int .i64 b::(U 48 [])))),hp:=[]}
def anF(R:IR→(Ex→St→Ro)→St→Ro)(a b:St→Ro):Ex→St→Ro:=(bk b [1,5,6,1000000] 0 (aP 2 (aP 1 (bj (R abO) (tW R a)))))
abbrev tX:Type:=(List aA×Int×Int)
def nX:tX→St:=fun(a,b,c)=>{env:=(.undef::.ea [.sl .atype (.may false) a]::(U 3 (.int .i64 b::.int .i64 c::(U 47 [])))),hp:=[]}
def tY(N:Nat)(a:St→Ro):(St→Ro)→St→Ro:=fun b s=>run fU N abN (anF (run fU N) a b) s
def pi(N:Nat)(c:gn→Ro)(b:tX→Ro):tX→Ro:=fun(a,d,f)=>
 chk (ixl d a) (
 let i:=(List.getD a (Int.toNat d) (aG .atype))
 let j:=(↑(List.length i.fields):Int)
 cond (decide (f<j)) (
 chk (ixl d a) (
 let g:=(List.getD a (Int.toNat d) (aG .atype))
 chk (ixl f g.fields) (
 let e:=(List.getD g.fields (Int.toNat f) (aG .afield))
 cond (!e.hasdef) (
 let k:=(IntKind.wrap .i64 (f+1))
 b (a,d,k)) (
 aF (sg a e.typ e.df.kind e.df.n e.df.s e.df.l e.df.names) (fun h=>
 cond (!(h.2.2.2.2.2==0)) (
 some (.tup [.int .i64 h.2.2.2.2.2,.int .i64 d,.int .i64 f],[])) (
 let m:=(IntKind.wrap .i64 (f+1))
 b (a,d,m))))))) (
 let o:=(IntKind.wrap .i64 (d+1))
 c (a,o)))
theorem ame(N:Nat)(a:St→Ro):LB (tY N a) nX (pi N (fun y=>a (cY y))):=fun _ _=>by kernel_rfl
def tZ(N:Nat):(St→Ro)→St→Ro:=fun a s=>run fU N p7 (tW (run fU N) a) s
def rQ(N:Nat)(b:gn→Ro)(d:tX→Ro):gn→Ro:=fun(a,c)=>
 let e:=(↑(List.length a):Int)
 cond (decide (c<e)) (
 d (a,c,0)) (
 some (.tup [.int .i64 0,.int .i64 0,.int .i64 0],[]))
def t6(N:Nat)(a:gn→Ro)(x:gn):Ro:=rQ N a (fun z=>aS N (pi N a) z) x
def zg(N:Nat)(a:St→Ro):List (Nat×(St→Ro)):=(bQ fU N p7 (tW (run fU N) a)++(bQ fU N vY (fin aal)++[]))
theorem amf(N:Nat):∀(a:St→Ro)(x:gn),tZ N a (cY x)=t6 N (fun y=>a (cY y)) x:=by
 intro a x
 have hX:∀C:Nat→St→Ro,bT C fU N p7 (tW (bT C fU N) a) (cY x)=rQ N (fun y=>a (cY y)) (fun z=>C 1000000 (nX z)) x:=by
  intro C
  kernel_rfl
 have h:tZ N a (cY x)=rQ N (fun y=>a (cY y)) (fun z=>aW N (tY N a) (nX z)) x:=(cW (C:=fb (zg N a)) (bS (ba (l:=(zg N a)) (by kernel_rfl))) (iD (cD (fI (bS (dR (ba (l:=(zg N a)) (by kernel_rfl)))) rfl))) _).trans ((hX _).trans (by kernel_rfl))
 have e1:(fun z=>aW N (tY N a) (nX z))=(fun z=>aS N (pi N (fun y=>a (cY y))) z):=funext fun z=>aV (nX) (tY N a) (pi N (fun y=>a (cY y))) (ame N a) N z
 rw[h,e1]
 rfl
def qJ(N:Nat)(a:List aA)(b:gn→Ro):Ro:=
 b (a,0)
def afH(N:Nat)(a:List aA):Ro:=qJ N a (fun z=>aS N (t6 N) z)
theorem anG(N:Nat)(a:List aA)(h:Tot (afH N a) (fun z=>∃(c:Int)(d:Int)(f:Int)(rest:List aJ),z.1.dimR=.tup [.int .i64 c,.int .i64 d,.int .i64 f]∧z.2=rest)):∃r,sf a r:=apa.finP0 (N:=N) ((bu _ (by kernel_rfl) rfl (fun C=>qJ N a (fun z=>C 1000001 (cY z))) (fun C=>by kernel_rfl)).trans (Eq.trans (b:=qJ N a (fun z=>aW N (tZ N) (cY z))) (by kernel_rfl) (congrArg (qJ N a) (funext fun z=>aV (cY) (tZ N) (t6 N) (amf N) N z)))) h fun _ ⟨c,d,f,_,e,_⟩=>⟨(c,d,f),e⟩
noncomputable def aeC:aL:=tab (P:=Try.prog) [] [] [] [arO]
def afI:IR:=Sq (Rs [Mv 7 0,Pp (.lens 8 7),Bc 9 .gtr 8 0] (Cn 9 .skip (.exit 0))) (.block 1 (Rs [Mv 11 0,Ca 12 162 [11],Mv 10 12,Ex_ 13 0 10,Ex_ 14 1 10,Mv 5 13,Mv 6 14] (Sq (Rs [Mv 15 6,Bc 16 .eql 15 0,Mv 17 16,Gf 17 (.mov 18 5),Gf 17 (.bin 19 .gtr 18 (.c (.int .u32 255))),Po 20 17 19] (Cn 20 (Rs [Ms 2 [],Mb 3 false] .ret) .skip)) (.reg [Mv 21 4,Mv 22 5,Pp (.cvi 23 .u8 22),Pp (.bsl 24 .u8 [23] true),Pp (.b2s 25 24),Bi 26 .add 21 25,Mv 27 0,Mv 28 6,Pp (.subs 29 27 (some 28) none),Mv 4 26,Mv 0 29] [[],[],[1],[1,2],[1,2,3],rg 0 4,[],[],[6,7],rg 0 5,rg 0 9]))))
def afJ:IR:=Rs [Mv 30 4,Mv 2 30,Mb 3 true] .ret
def asL:IR:=Rs [Ms 2 [],Mb 3 false] (Rs [Ms 4 []] (Sq (.block 0 (.loop [0,4,1000000] 0 afI)) afJ))
def ajY:List RV:=[.t 2,.t 3]
theorem asM:FnC Try.prog aeC [] 0 akX Try.f147 asL ajY:=fnC Try.func147
def aqX(R:IR→(Ex→St→Ro)→St→Ro)(a:St→Ro):Ex→St→Ro:=(bk a [0,4,1000000] 0 (aP 0 (bj (R afJ) (fin ajY))))
abbrev xg:Type:=(Bs×Bs)
def vF:xg→St:=fun(a,b)=>{env:=(.str a::(U 3 (.str b::(U 26 [])))),hp:=[]}
def abj(N:Nat):(St→Ro)→St→Ro:=fun a s=>run aeC N afI (aqX (run aeC N) a) s
def xh(N:Nat)(a:xg→Ro):xg→Ro:=fun(c,d)=>
 let f:=(↑(List.length c):Int)
 let e:=(some (.tup [.str ([]:Bs),.bool false],[]):Ro)
 cond (decide (0<f)) (
 aF (uv c) (fun b=>
 cond (b.2==0) (
 e) (
 cond (decide (255<b.1)) (
 e) (
 chk (decide (List.length d+List.length ([(UInt8.ofNat (Int.toNat (IntKind.wrap .u8 b.1)))]:Bs)≤9223372036854775807)) (
 let g:=(d++([(UInt8.ofNat (Int.toNat (IntKind.wrap .u8 b.1)))]:Bs))
 chk (decide (0≤b.2)&&decide (b.2≤(↑(List.length c):Int))) (
 let h:=(List.drop (Int.toNat b.2) (List.take (List.length c) c))
 a (h,g))))))) (
 some (.tup [.str d,.bool true],[]))
theorem apb(N:Nat):LB (abj N) vF (xh N):=fun _ _=>by kernel_rfl
def uV(N:Nat)(a:Bs)(b:xg→Ro):Ro:=
 b (a,([]:Bs))
def ajZ(N:Nat)(a:Bs):Ro:=uV N a (fun z=>aS N (xh N) z)
theorem aqY(N:Nat)(a:Bs)(h:Tot (ajZ N a) (fun z=>∃(c:Bs)(d:Bool)(rest:List aJ),z.1.dimR=.tup [.str c,.bool d]∧z.2=rest)):∃r,wi a r:=asM.finP0 (N:=N) ((bu _ (by kernel_rfl) rfl (fun C=>uV N a (fun z=>C 1000000 (vF z))) (fun C=>by kernel_rfl)).trans (Eq.trans (b:=uV N a (fun z=>aW N (abj N) (vF z))) (by kernel_rfl) (congrArg (uV N a) (funext fun z=>aV (vF) (abj N) (xh N) (apb N) N z)))) h fun _ ⟨c,d,_,e,_⟩=>⟨(c,d),e⟩
end Go.Proofs.Ytdpajabhmmmjoaa
end
noncomputable section
namespace Go.Proofs.Ytdpajabhmmmjoaa
open Go.AM
set_option autoImplicit false
set_option linter.unusedVariables false
set_option maxRecDepth 100000
noncomputable def cI:aL:=tab (P:=Try.prog) [] [aki,kq,zA,vQ,ajb] [] [sM,acs]
def ne:IR:=Cn 62 (Sq (.reg [Mv 72 2,Nk 73 72,Fo [1] [] (.ld 74 1 false false 73),Mv 75 0,Mv 76 2,Nk 77 76,Fo [1] [] (.ld 78 1 false false 77),Ll 79 78,Fo [] [0] (.call 80 60 [75,79]),Ix 81 .str 74 80,Lq 82 81,Ca 83 86 [82],Fo [] [2] (.st none 5 6 83)] [[],[0],[0,1],[],[],[4],[4,5],[4,5,6],rg 3 7,rg 0 8,rg 0 9,rg 0 10,rg 0 11]) .ret) .skip
def xW:IR:=Rs [Mv 84 2,Nk 85 84,Lo 86 85,Ll 87 86,Bc 88 .rem 87 26,Pp (.bin 89 .add (kI 97) 88),Pp (.cvi 90 .u8 89),Pp (.bsl 91 .u8 [90] true),Pp (.b2s 92 91),Pp (.bin 93 .add (kS [78]) 92),Mv 9 93] (Rs [Mv 94 2,Mv 95 2,Nk 96 95,Pp (.ld 97 1 false true 96),Mv 98 9,Pp (.bsl 99 .str [98] true),Pp (.app 100 .str (.tk 97) 99),Nk 101 94,Sk 1 101 100] (Sq (.block 1 (Rs [Mv 103 7,Bc 104 .eql 103 15,Mv 102 104] (Cn 102 (Rs [Pp (.bsl 105 .str [kS [116,121,112,101],kS [110,97,109,101],kS [115,105,122,101]] true),Ca 106 86 [kS [102,105,120,101,100]],Mv 107 9,Ca 108 86 [107],Mv 109 0,Ca 110 60 [109,kI 4],Pp (.bld 111 [vI 0,vI 0,vS,fu .jnode true,fu .str true] [(0,1,kI 3),(1,1,110)]),Pp (.bsl 112 .jnode [106,108,111] true),Ca 113 118 [105,112],Sv 5 6 113] .ret) (Rs [Mv 115 7,Bc 116 .eql 115 16,Mv 114 116] (Cn 114 (Rs [Ca 117 86 [kS [88]],Ca 118 86 [kS [89]],Ca 119 86 [kS [90]],Pp (.bsl 120 .jnode [117,118,119] true),Mv 121 0,Ca 122 60 [121,kI 3],Pp (.bin 123 .add (kI 1) 122),Pp (.subl 124 .jnode 120 none (some 123)),Mv 10 124] (Rs [Pp (.bsl 125 .str [kS [116,121,112,101],kS [110,97,109,101],kS [115,121,109,98,111,108,115]] true),Ca 126 86 [kS [101,110,117,109]],Mv 127 9,Ca 128 86 [127],Mv 129 10,Pp (.bld 130 [vI 0,vI 0,vS,fu .jnode true,fu .str true] [(0,1,kI 5),(3,1,129)]),Pp (.bsl 131 .jnode [126,128,130] true),Ca 132 118 [125,131],Pp (.new 11 [vI 0,vI 0,vS,nl .jnode,nl .str]),Sv 5 11 132] (Sq (Rs [Mv 133 0,Ca 134 60 [133,kI 2],Bc 135 .eql 134 0] (Cn 135 (.reg [Fa 136 4 11,Fo [3] [] (.ld 137 1 false false 136),Pp (.bsl 138 .str [kS [100,101,102,97,117,108,116]] true),Pp (.app 139 .str (.tk 137) 138),Fa 140 3 11,Fo [3] [] (.ld 141 1 false false 140),Ca 142 86 [kS [88]],Pp (.bsl 143 .jnode [142] true),Pp (.app 144 .jnode (.tk 141) 143),Fa 145 4 11,Fo [] [3] (.st none 1 145 (.tk 139)),Fa 146 3 11,Fo [] [3] (.st none 1 146 (.tk 144))] [[],[0],[],[0,1,2],[],[4],rg 0 3,[0,1,2,3,6],rg 0 7,rg 0 5,rg 0 9,rg 0 10,rg 0 11]) .skip)) (Rs [Pp (.ld 147 5 true false 11),Sv 5 6 147] .ret)))) .skip))))) (Rs [Mv 148 0,Mv 149 9,Mv 150 1,Mv 151 2,Ca 152 73 [148,149,150,151],Sv 5 6 152] .ret)))
def qK:IR:=.cut [0,1,2,6,7,1000001] 3 xW
def lS:IR:=Rs [Pp (.bsl 22 .str [kS [105,110,116],kS [108,111,110,103],kS [115,116,114,105,110,103],kS [98,121,116,101,115],kS [98,111,111,108,101,97,110],kS [110,117,108,108],kS [102,108,111,97,116],kS [100,111,117,98,108,101]] true),Mv 8 22] (Sq (.block 0 (Rs [Mv 24 7,Bc 25 .lss 24 8,Mv 23 25] (Cn 23 (Rs [Mv 26 8,Mv 27 7,Ix 28 .str 26 27,Lq 29 28,Ca 30 86 [29],Sv 5 6 30] .ret) (Rs [Mv 32 7,Bc 33 .lss 32 10,Mv 31 33] (Cn 31 (Rs [Pp (.bsl 34 .str [kS [116,121,112,101],kS [105,116,101,109,115]] true),Ca 35 86 [kS [97,114,114,97,121]],Mv 36 0,Mv 37 1,Bc 38 .add 37 1,Mv 39 2,Ca 40 117 [36,38,39],Pp (.bsl 41 .jnode [35,40] true),Ca 42 118 [34,41],Sv 5 6 42] .ret) (Rs [Mv 44 7,Bc 45 .eql 44 10,Mv 43 45] (Cn 43 (Rs [Pp (.bsl 46 .str [kS [116,121,112,101],kS [118,97,108,117,101,115]] true),Ca 47 86 [kS [109,97,112]],Mv 48 0,Mv 49 1,Bc 50 .add 49 1,Mv 51 2,Ca 52 117 [48,50,51],Pp (.bsl 53 .jnode [47,52] true),Ca 54 118 [46,53],Sv 5 6 54] .ret) (Rs [Mv 56 7,Bc 57 .lss 56 14,Mv 55 57] (Cn 55 (Rs [Mv 58 0,Mv 59 1,Mv 60 2,Ca 61 146 [58,59,60],Sv 5 6 61] .ret) (Rs [Mv 63 7,Bc 64 .eql 63 14,Mv 65 64,Gt 65 (.mov 66 2),Gt 65 (.nck 67 66),Gt 65 (.ld 68 1 false false 67),Gt 65 (.lenl 69 68),Gt 65 (.bin 70 .gtr 69 (kI 0)),Pa 71 65 70,Mv 62 71] (.cut [0,1,2,6,7,62,1000000] 3 ne))))))))))) qK)
def aj0:IR:=Rs [Pp (.new 6 [vI 0,vI 0,vS,nl .jnode,nl .str])] (Rs [Mv 12 0,Ca 13 60 [12,kI 20],Mv 7 13] (Sq (Rs [Mv 14 1,Bc 15 .gtr 14 3,Mv 16 15,Gf 16 (.mov 17 0),Gf 16 (.call 18 59 [17]),Po 19 16 18] (Cn 19 (Rg [Mv 20 7,Bc 21 .rem 20 8,Mv 7 21]) .skip)) (.cut [0,1,2,6,7,1000002] 3 lS)))
def fQ:List RV:=[.cell 6 5 true]
theorem aj1:FnC Try.prog cI [59,60,73,117,146,2000059,2000060,2000073,2000117,2000146] 2 abm Try.f117 aj0 fQ:=fnC Try.func117
abbrev kc:Type:=(Int×Int×Bs×Int×Bss×Int×Int×Bs×List aB×Bss)
def iT:kc→St:=fun(a,b,c,d,e,f,g,h,i,j)=>{env:=(.ptr 0 0::.int .i64 a::.ptr 1 0::(U 3 (.ptr 2 0::.int .i64 b::(U 145 [])))),hp:=[some [.sl .u8 (.may false) c,.int .i64 d],some [.sl .str .own e],some [.int .i64 f,.int .i64 g,.str h,.sl .jnode .own i,.sl .str .own j]]}
abbrev kd:Type:=(Int×Int×Bool×Bs×Int×Bss×Int×Int×Bs×List aB×Bss)
def fX:kd→St:=fun(b,c,d,e,f,g,h,i,j,k,a)=>{env:=(.ptr 0 0::.int .i64 b::.ptr 1 0::(U 3 (.ptr 2 0::.int .i64 c::(U 54 (.bool d::(U 90 [])))))),hp:=[some [.sl .u8 (.may false) e,.int .i64 f],some [.sl .str .own g],some [.int .i64 h,.int .i64 i,.str j,.sl .jnode .own k,.sl .str .own a]]}
def sS(R:IR→(Ex→St→Ro)→St→Ro):Ex→St→Ro:=(aP 0 (bj (R qK) (fin fQ)))
abbrev sT:Type:=(Int×Int×Bs×Int×Bss×Int×Int×Bs×List aB×Bss)
def ng:sT→St:=fun(a,b,c,d,e,f,g,h,i,j)=>{env:=(.ptr 0 0::.int .i64 a::.ptr 1 0::(U 3 (.ptr 2 0::.int .i64 b::(U 145 [])))),hp:=[some [.sl .u8 (.may false) c,.int .i64 d],some [.sl .str .own e],some [.int .i64 f,.int .i64 g,.str h,.sl .jnode .own i,.sl .str .own j]]}
def sU(N:Nat):St→Ro:=fun s=>run cI N xW (fin fQ) s
def ke(N:Nat):sT→Ro:=fun(v1,x,h,i,j,_,_,_,_,_)=>
 let x7:=(↑(List.length j):Int)
 let y:=(IntKind.wrap .i64 (97+(Int.tmod x7 26)))
 let z:=fun g0 g1 g2 g3 g4 g5 g6 g7 g8 g9=>(some (.agg [.int .i64 g0,.int .i64 g1,.str g2,.sl .jnode (.may g3) g4,.sl .str (.may g5) g6],[some [.sl .u8 (.may false) g7,.int .i64 g8],some [.sl .str .own g9],some [.int .i64 g0,.int .i64 g1,.str g2,.sl .jnode (.may g3) g4,.sl .str (.may g5) g6]]):Ro)
 chk (decide (List.length ([78]:Bs)+List.length ([(UInt8.ofNat (Int.toNat (IntKind.wrap .u8 y)))]:Bs)≤9223372036854775807)) (
 let v:=(([78]:Bs)++([(UInt8.ofNat (Int.toNat (IntKind.wrap .u8 y)))]:Bs))
 chk (decide ((List.length j+List.length ([v]:Bss))*16≤140737488355328)) (
 let p:=(j++([v]:Bss))
 cond (x==15) (
 aF (bh ([102,105,120,101,100]:Bs)) (fun k=>
 aF (bh v) (fun l=>
 aF (bc h i 4) (fun q=>
 aF (d8 true ([([116,121,112,101]:Bs),([110,97,109,101]:Bs),([115,105,122,101]:Bs)]:Bss) true ([⟨k.1,k.2.1,k.2.2.1,k.2.2.2.1,k.2.2.2.2⟩,⟨l.1,l.2.1,l.2.2.1,l.2.2.2.1,l.2.2.2.2⟩,⟨3,q.1,([]:Bs),([]:List aB),([]:Bss)⟩]:List aB)) (fun g=>
 z g.1 g.2.1 g.2.2.1 g.2.2.2.1 g.2.2.2.2.1 g.2.2.2.2.2.1 g.2.2.2.2.2.2 q.2.1 q.2.2 p))))) (
 cond (x==16) (
 aF (bh ([88]:Bs)) (fun c=>
 aF (bh ([89]:Bs)) (fun d=>
 aF (bh ([90]:Bs)) (fun e=>
 aF (bc h i 3) (fun r=>
 let s:=(IntKind.wrap .i64 (1+r.1))
 chk (decide (0≤s)&&decide (s≤(↑(List.length ([⟨c.1,c.2.1,c.2.2.1,c.2.2.2.1,c.2.2.2.2⟩,⟨d.1,d.2.1,d.2.2.1,d.2.2.2.1,d.2.2.2.2⟩,⟨e.1,e.2.1,e.2.2.1,e.2.2.2.1,e.2.2.2.2⟩]:List aB)):Int))) (
 let w:=(List.drop 0 (List.take (Int.toNat s) ([⟨c.1,c.2.1,c.2.2.1,c.2.2.2.1,c.2.2.2.2⟩,⟨d.1,d.2.1,d.2.2.1,d.2.2.2.1,d.2.2.2.2⟩,⟨e.1,e.2.1,e.2.2.1,e.2.2.2.1,e.2.2.2.2⟩]:List aB)))
 aF (bh ([101,110,117,109]:Bs)) (fun m=>
 aF (bh v) (fun n=>
 aF (d8 true ([([116,121,112,101]:Bs),([110,97,109,101]:Bs),([115,121,109,98,111,108,115]:Bs)]:Bss) true ([⟨m.1,m.2.1,m.2.2.1,m.2.2.2.1,m.2.2.2.2⟩,⟨n.1,n.2.1,n.2.2.1,n.2.2.2.1,n.2.2.2.2⟩,⟨5,0,([]:Bs),w,([]:Bss)⟩]:List aB)) (fun a=>
 aF (bc r.2.1 r.2.2 2) (fun o=>
 cond (o.1==0) (
 chk ((a.2.2.2.2.2.1&&decide (0<List.length ([([100,101,102,97,117,108,116]:Bs)]:Bss)))&&decide ((List.length a.2.2.2.2.2.2+List.length ([([100,101,102,97,117,108,116]:Bs)]:Bss))*16≤140737488355328)) (
 let t:=(a.2.2.2.2.2.2++([([100,101,102,97,117,108,116]:Bs)]:Bss))
 aF (bh ([88]:Bs)) (fun b=>
 chk ((a.2.2.2.1&&decide (0<List.length ([⟨b.1,b.2.1,b.2.2.1,b.2.2.2.1,b.2.2.2.2⟩]:List aB)))&&decide ((List.length a.2.2.2.2.1+List.length ([⟨b.1,b.2.1,b.2.2.1,b.2.2.2.1,b.2.2.2.2⟩]:List aB))*80≤140737488355328)) (
 let u:=(a.2.2.2.2.1++([⟨b.1,b.2.1,b.2.2.1,b.2.2.2.1,b.2.2.2.2⟩]:List aB))
 some (.agg [.int .i64 a.1,.int .i64 a.2.1,.str a.2.2.1,.sl .jnode (.may false) u,.sl .str (.may false) t],[some [.sl .u8 (.may false) o.2.1,.int .i64 o.2.2],some [.sl .str .own p],some [.int .i64 a.1,.int .i64 a.2.1,.str a.2.2.1,.sl .jnode (.may false) u,.sl .str (.may false) t],some [.int .i64 a.1,.int .i64 a.2.1,.str a.2.2.1,.sl .jnode .own u,.sl .str .own t]]))))) (
 some (.agg [.int .i64 a.1,.int .i64 a.2.1,.str a.2.2.1,.sl .jnode (.may a.2.2.2.1) a.2.2.2.2.1,.sl .str (.may a.2.2.2.2.2.1) a.2.2.2.2.2.2],[some [.sl .u8 (.may false) o.2.1,.int .i64 o.2.2],some [.sl .str .own p],some [.int .i64 a.1,.int .i64 a.2.1,.str a.2.2.1,.sl .jnode (.may a.2.2.2.1) a.2.2.2.2.1,.sl .str (.may a.2.2.2.2.2.1) a.2.2.2.2.2.2],some [.int .i64 a.1,.int .i64 a.2.1,.str a.2.2.1,.sl .jnode (.may a.2.2.2.1) a.2.2.2.2.1,.sl .str (.may a.2.2.2.2.2.1) a.2.2.2.2.2.2]])))))))))))) (
 aF (gp h i p v v1) (fun f=>
 z f.1 f.2.1 f.2.2.1 false f.2.2.2.1 false f.2.2.2.2.1 f.2.2.2.2.2.1 f.2.2.2.2.2.2.1 f.2.2.2.2.2.2.2)))))
theorem agO(N:Nat):LJ (sU N) ng (ke N):=fun _=>by kernel_rfl
def og(N:Nat):St→Ro:=fun s=>run cI N ne (sS (run cI N)) s
def nh(N:Nat)(l:sT→Ro):kd→Ro:=fun(m,n,k,d,e,b,f,g,h,i,j)=>
 cond k (
 let o:=(↑(List.length b):Int)
 aF (bc d e o) (fun c=>
 chk (ixl c.1 b) (
 let p:=List.getD b (Int.toNat c.1) (aG .str)
 aF (bh p) (fun a=>
 some (.agg [.int .i64 a.1,.int .i64 a.2.1,.str a.2.2.1,.sl .jnode (.may false) a.2.2.2.1,.sl .str (.may false) a.2.2.2.2],[some [.sl .u8 (.may false) c.2.1,.int .i64 c.2.2],some [.sl .str .own b],some [.int .i64 a.1,.int .i64 a.2.1,.str a.2.2.1,.sl .jnode (.may false) a.2.2.2.1,.sl .str (.may false) a.2.2.2.2]]))))) (
 l (m,n,d,e,b,f,g,h,i,j))
def kf(N:Nat)(x:kd):Ro:=nh N (fun z=>ke N z) x
def sV(N:Nat):List (Nat×(St→Ro)):=(bQ cI N ne (sS (run cI N))++(bQ cI N qK (fin fQ)++[]))
theorem agP(N:Nat):∀(x:kd),og N (fX x)=kf N x:=by
 intro x
 have hX:∀C:Nat→St→Ro,bT C cI N ne (sS (bT C cI N)) (fX x)=nh N (fun z=>C 1000001 (ng z)) x:=by
  intro C
  kernel_rfl
 have h:og N (fX x)=nh N (fun z=>sU N (ng z)) x:=(cW (C:=fb (sV N)) (bS (ba (l:=(sV N)) (by kernel_rfl))) (cD (fI (bS (dR (ba (l:=(sV N)) (by kernel_rfl)))) rfl)) _).trans ((hX _).trans (by kernel_rfl))
 have e2:(fun z=>sU N (ng z))=(fun z=>ke N z):=funext fun z=>agO N z
 rw[h,e2]
 rfl
def sW(N:Nat):St→Ro:=fun s=>run cI N lS (fin fQ) s
def ni(N:Nat)(q1:kd→Ro):kc→Ro:=fun(r,d,b,c,a,j,k,l,m,n)=>
 let s:=fun t u v w x y z g7 g8 g9=>(some (.agg [.int .i64 t,.int .i64 u,.str v,.sl .jnode (.may w) x,.sl .str (.may y) z],[some [.sl .u8 (.may false) g7,.int .i64 g8],some [.sl .str .own g9],some [.int .i64 t,.int .i64 u,.str v,.sl .jnode (.may w) x,.sl .str (.may y) z]]):Ro)
 let z1:=fun t=>q1 (r,d,t,b,c,a,j,k,l,m,n)
 cond (decide (d<8)) (
 chk (ixl d ([([105,110,116]:Bs),([108,111,110,103]:Bs),([115,116,114,105,110,103]:Bs),([98,121,116,101,115]:Bs),([98,111,111,108,101,97,110]:Bs),([110,117,108,108]:Bs),([102,108,111,97,116]:Bs),([100,111,117,98,108,101]:Bs)]:Bss)) (
 let x1:=List.getD ([([105,110,116]:Bs),([108,111,110,103]:Bs),([115,116,114,105,110,103]:Bs),([98,121,116,101,115]:Bs),([98,111,111,108,101,97,110]:Bs),([110,117,108,108]:Bs),([102,108,111,97,116]:Bs),([100,111,117,98,108,101]:Bs)]:Bss) (Int.toNat d) (aG .str)
 aF (bh x1) (fun o=>
 s o.1 o.2.1 o.2.2.1 false o.2.2.2.1 false o.2.2.2.2 b c a))) (
 cond (decide (d<10)) (
 aF (bh ([97,114,114,97,121]:Bs)) (fun p=>
 let x2:=(IntKind.wrap .i64 (r+1))
 aF (dA b c a x2) (fun e=>
 aF (d8 true ([([116,121,112,101]:Bs),([105,116,101,109,115]:Bs)]:Bss) true ([⟨p.1,p.2.1,p.2.2.1,p.2.2.2.1,p.2.2.2.2⟩,⟨e.1,e.2.1,e.2.2.1,e.2.2.2.1,e.2.2.2.2.1⟩]:List aB)) (fun h=>
 s h.1 h.2.1 h.2.2.1 h.2.2.2.1 h.2.2.2.2.1 h.2.2.2.2.2.1 h.2.2.2.2.2.2 e.2.2.2.2.2.1 e.2.2.2.2.2.2.1 e.2.2.2.2.2.2.2)))) (
 cond (d==10) (
 aF (bh ([109,97,112]:Bs)) (fun q=>
 let x3:=(IntKind.wrap .i64 (r+1))
 aF (dA b c a x3) (fun f=>
 aF (d8 true ([([116,121,112,101]:Bs),([118,97,108,117,101,115]:Bs)]:Bss) true ([⟨q.1,q.2.1,q.2.2.1,q.2.2.2.1,q.2.2.2.2⟩,⟨f.1,f.2.1,f.2.2.1,f.2.2.2.1,f.2.2.2.2.1⟩]:List aB)) (fun i=>
 s i.1 i.2.1 i.2.2.1 i.2.2.2.1 i.2.2.2.2.1 i.2.2.2.2.2.1 i.2.2.2.2.2.2 f.2.2.2.2.2.1 f.2.2.2.2.2.2.1 f.2.2.2.2.2.2.2)))) (
 cond (decide (d<14)) (
 aF (lw b c a r) (fun g=>
 s g.1 g.2.1 g.2.2.1 false g.2.2.2.1 false g.2.2.2.2.1 g.2.2.2.2.2.1 g.2.2.2.2.2.2.1 g.2.2.2.2.2.2.2)) (
 cond (d==14) (
 let x4:=(↑(List.length a):Int)
 z1 (decide (0<x4))) (
 z1 false)))))
def oh(N:Nat)(x:kc):Ro:=ni N (fun z=>kf N z) x
def zG(N:Nat):List (Nat×(St→Ro)):=(bQ cI N lS (fin fQ)++[])
theorem agQ(N:Nat):∀(x:kc),sW N (iT x)=oh N x:=by
 intro x
 have hX:∀C:Nat→St→Ro,bT C cI N lS (fin fQ) (iT x)=ni N (fun z=>C 1000000 (fX z)) x:=by
  intro C
  kernel_rfl
 have h:sW N (iT x)=ni N (fun z=>og N (fX z)) x:=(cW (C:=fb (zG N)) (bS (ba (l:=(zG N)) (by kernel_rfl))) rfl _).trans ((hX _).trans (by kernel_rfl))
 have e1:(fun z=>og N (fX z))=(fun z=>kf N z):=funext fun z=>agP N z
 rw[h,e1]
 rfl
def lG(N:Nat)(c:Bs)(d:Int)(e:Bss)(g:Int)(h:kc→Ro):Ro:=
 let f:=fun i j k=>h (g,i,j,k,e,0,0,([]:Bs),([]:List aB),([]:Bss))
 aF (bc c d 20) (fun b=>
 cond (decide (3<g)) (
 f (Int.tmod b.1 8) b.2.1 b.2.2) (
 aF (mz b.2.1 b.2.2) (fun a=>
 cond a.1 (
 f (Int.tmod b.1 8) a.2.1 a.2.2) (
 f b.1 a.2.1 a.2.2))))
def aaY(N:Nat)(a:Bs)(b:Int)(c:Bss)(d:Int):Ro:=lG N a b c d (fun z=>oh N z)
theorem ain(N:Nat)(a:Bs)(c:Int)(d:Bss)(g:Int)(h:Tot (aaY N a c d g) (fun z=>∃(i:Int)(j:Int)(k:Bs)(l:List aB)(m:Bss)(n:Bs)(o:Int)(p:Bss)(rest:List aJ),z.1.dimR=.agg [.int .i64 i,.int .i64 j,.str k,.sl .jnode (.may false) l,.sl .str (.may false) m]∧z.2=some [.sl .u8 (.may false) n,.int .i64 o]::some [.sl .str .own p]::rest∧fW a c d g (i,j,k,l,m,n,o,p))):∃r,dA a c d g r:=FnC.finO (css:=[[.sl .u8 (.may false) a,.int .i64 c],[.sl .str .own d]]) aj1 (N:=N) ((bu _ (by kernel_rfl) rfl (fun C=>lG N a c d g (fun z=>C 1000002 (iT z))) (fun C=>by kernel_rfl)).trans (Eq.trans (b:=lG N a c d g (fun z=>sW N (iT z))) (by kernel_rfl) (congrArg (lG N a c d g) (funext fun z=>agQ N z)))) h fun _ ⟨i,j,k,l,m,n,o,p,_,e,f,q⟩=>⟨(i,j,k,l,m,n,o,p),e,⟨_,f⟩,q⟩
noncomputable def aj2:aL:=tab (P:=Try.prog) [] [kq,vQ] [] [sM]
def aio:IR:=Rs [Pp (.new 6 [vI 0,vI 0,vS,nl .jnode,nl .str])] (Rs [Ca 9 86 [kS [110,117,108,108]],Pp (.bsl 10 .jnode [9] true),Pp (.bld 11 [vI 0,vI 0,vS,nl .jnode,nl .str] [(0,1,kI 5),(3,1,10)]),Pp (.new 7 [vI 0,vI 0,vS,nl .jnode,nl .str]),Sv 5 7 11] (Sq (Rs [Mv 12 0,Ca 13 60 [12,kI 2],Bc 14 .eql 13 0] (Cn 14 (.reg [Fa 15 3 7,Fo [3] [] (.ld 16 1 false false 15),Pp (.bsl 17 .str [kS [105,110,116],kS [115,116,114,105,110,103]] true),Mv 18 0,Fo [] [0] (.call 19 60 [18,kI 2]),Ix 20 .str 17 19,Lq 21 20,Ca 22 86 [21],Pp (.bsl 23 .jnode [22] true),Pp (.app 24 .jnode (.tk 16) 23),Fa 25 3 7,Fo [] [3] (.st none 1 25 (.tk 24))] [[],[0],[],[],[3],[2,3,4],rg 2 5,rg 2 6,rg 2 7,rg 0 8,rg 0 9,rg 0 10]) .skip)) (Rs [Mv 26 0,Mv 27 1,Bc 28 .add 27 1,Mv 29 2,Ca 30 117 [26,28,29],Pp (.alr 8 5),Fz 8 5 30] (Sq (Rs [Fa 31 0 8,Lq 32 31,Bc 33 .eql 32 6] (Cn 33 (Rg [Fa 34 3 7,Pp (.ld 35 1 false true 34),Ld 36 5 true 8,Pp (.bsl 37 .jnode [36] true),Pp (.app 38 .jnode (.tk 35) 37),Fa 39 3 7,Sk 1 39 38]) .skip)) (Rs [Pp (.ld 40 5 true false 7),Sv 5 6 40] .ret)))))
def aip:List RV:=[.cell 6 5 true]
theorem aiq:FnC Try.prog aj2 [60,117,2000060,2000117] 2 aay Try.f146 aio aip:=fnC Try.func146
def zH(N:Nat)(f:Bs)(g:Int)(e:Bss)(l:Int):Ro:=
 let i:=fun m n q r s t=>(some (.agg [.int .i64 5,.int .i64 0,.str ([]:Bs),.sl .jnode (.may m) n,.sl .str (.may false) ([]:Bss)],[some [.sl .u8 (.may false) q,.int .i64 r],some [.sl .str .own s],some [.int .i64 5,.int .i64 0,.str ([]:Bs),.sl .jnode (.may m) n,.sl .str (.may false) ([]:Bss)],some [.int .i64 5,.int .i64 0,.str ([]:Bs),t,.sl .str .own ([]:Bss)]]):Ro)
 aF (bh ([110,117,108,108]:Bs)) (fun a=>
 aF (bc f g 2) (fun h=>
 cond (h.1==0) (
 aF (bc h.2.1 h.2.2 2) (fun j=>
 chk (ixl j.1 ([([105,110,116]:Bs),([115,116,114,105,110,103]:Bs)]:Bss)) (
 let u:=List.getD ([([105,110,116]:Bs),([115,116,114,105,110,103]:Bs)]:Bss) (Int.toNat j.1) (aG .str)
 aF (bh u) (fun d=>
 chk ((true&&decide (0<List.length ([⟨d.1,d.2.1,d.2.2.1,d.2.2.2.1,d.2.2.2.2⟩]:List aB)))&&decide ((List.length ([⟨a.1,a.2.1,a.2.2.1,a.2.2.2.1,a.2.2.2.2⟩]:List aB)+List.length ([⟨d.1,d.2.1,d.2.2.1,d.2.2.2.1,d.2.2.2.2⟩]:List aB))*80≤140737488355328)) (
 let k:=(([⟨a.1,a.2.1,a.2.2.1,a.2.2.2.1,a.2.2.2.2⟩]:List aB)++([⟨d.1,d.2.1,d.2.2.1,d.2.2.2.1,d.2.2.2.2⟩]:List aB))
 let v:=(IntKind.wrap .i64 (l+1))
 aF (dA j.2.1 j.2.2 e v) (fun c=>
 cond (c.1==6) (
 chk (decide ((List.length k+List.length ([⟨c.1,c.2.1,c.2.2.1,c.2.2.2.1,c.2.2.2.2.1⟩]:List aB))*80≤140737488355328)) (
 let o:=(k++([⟨c.1,c.2.1,c.2.2.1,c.2.2.2.1,c.2.2.2.2.1⟩]:List aB))
 i false o c.2.2.2.2.2.1 c.2.2.2.2.2.2.1 c.2.2.2.2.2.2.2 (.sl .jnode .own o))) (
 i false k c.2.2.2.2.2.1 c.2.2.2.2.2.2.1 c.2.2.2.2.2.2.2 (.sl .jnode .own k)))))))) (
 let w:=(IntKind.wrap .i64 (l+1))
 aF (dA h.2.1 h.2.2 e w) (fun b=>
 cond (b.1==6) (
 chk ((true&&decide (0<List.length ([⟨b.1,b.2.1,b.2.2.1,b.2.2.2.1,b.2.2.2.2.1⟩]:List aB)))&&decide ((List.length ([⟨a.1,a.2.1,a.2.2.1,a.2.2.2.1,a.2.2.2.2⟩]:List aB)+List.length ([⟨b.1,b.2.1,b.2.2.1,b.2.2.2.1,b.2.2.2.2.1⟩]:List aB))*80≤140737488355328)) (
 let p:=(([⟨a.1,a.2.1,a.2.2.1,a.2.2.2.1,a.2.2.2.2⟩]:List aB)++([⟨b.1,b.2.1,b.2.2.1,b.2.2.2.1,b.2.2.2.2.1⟩]:List aB))
 i false p b.2.2.2.2.2.1 b.2.2.2.2.2.2.1 b.2.2.2.2.2.2.2 (.sl .jnode .own p))) (
 i true ([⟨a.1,a.2.1,a.2.2.1,a.2.2.2.1,a.2.2.2.2⟩]:List aB) b.2.2.2.2.2.1 b.2.2.2.2.2.2.1 b.2.2.2.2.2.2.2 (.sl .jnode (.may true) ([⟨a.1,a.2.1,a.2.2.1,a.2.2.2.1,a.2.2.2.2⟩]:List aB)))))))
def zI(N:Nat)(a:Bs)(b:Int)(c:Bss)(d:Int):Ro:=zH N a b c d
theorem agR(N:Nat)(a:Bs)(b:Int)(c:Bss)(o:Int)(h:Tot (zI N a b c o) (fun z=>∃(d:Int)(g:Int)(i:Bs)(j:List aB)(k:Bss)(l:Bs)(m:Int)(n:Bss)(rest:List aJ),z.1.dimR=.agg [.int .i64 d,.int .i64 g,.str i,.sl .jnode (.may false) j,.sl .str (.may false) k]∧z.2=some [.sl .u8 (.may false) l,.int .i64 m]::some [.sl .str .own n]::rest∧xJ a b c o (d,g,i,j,k,l,m,n))):∃r,lw a b c o r:=FnC.finO (css:=[[.sl .u8 (.may false) a,.int .i64 b],[.sl .str .own c]]) aiq (N:=N) (by kernel_rfl) h fun _ ⟨d,g,i,j,k,l,m,n,_,e,f,q⟩=>⟨(d,g,i,j,k,l,m,n),e,⟨_,f⟩,q⟩
noncomputable def sX:aL:=tab (P:=Try.prog) [] [kq,vQ,agr] [] [sM,acs]
def wC:IR:=Sq (Rs [Mv 17 10,Mv 18 11,Bi 19 .lss 17 18] (Cn 19 .skip (.exit 0))) (Sq (.block 1 (Rs [Mv 22 0,Mv 23 2,Bc 24 .add 23 1,Mv 25 3,Ca 26 117 [22,24,25],Pp (.alr 12 5),Fz 12 5 26] (Sq (.reg [Pp (.bsl 27 .str [kS [110,97,109,101],kS [116,121,112,101]] true),Mv 28 10,Pp (.bin 29 .add (kI 97) 28),Pp (.cvi 30 .u8 29),Pp (.bsl 31 .u8 [30] true),Pp (.b2s 32 31),Pp (.bin 33 .add (kS [102]) 32),Ca 34 86 [33],Ld 35 5 true 12,Pp (.bsl 36 .jnode [34,35] true),Ca 37 118 [27,36],Pp (.new 13 [vI 0,vI 0,vS,nl .jnode,nl .str]),Fo [] [4] (.st none 5 13 37)] [[],[],[1],[1,2],[1,2,3],rg 1 4,rg 1 5,rg 1 6,[],rg 1 8,rg 0 9,[],rg 0 11]) (Sq (Rs [Mv 38 0,Ca 39 60 [38,kI 3],Bc 40 .eql 39 0] (Cn 40 (.reg [Fa 41 4 13,Fo [4] [] (.ld 42 1 false false 41),Pp (.bsl 43 .str [kS [100,101,102,97,117,108,116]] true),Pp (.app 44 .str (.tk 42) 43),Fa 45 3 13,Fo [4] [] (.ld 46 1 false false 45),Mv 47 0,Ld 48 5 true 12,Fo [] [0] (.call 49 119 [47,48]),Pp (.bsl 50 .jnode [49] true),Pp (.app 51 .jnode (.tk 46) 50),Fa 52 4 13,Fo [] [4] (.st none 1 52 (.tk 44)),Fa 53 3 13,Fo [] [4] (.st none 1 53 (.tk 51))] [[],[0],[],[0,1,2],[],[4],[],[],[0,1,2,3,6,7],[0,1,2,3,6,7,8],rg 0 9,rg 0 5,rg 0 11,rg 0 12,rg 0 13]) .skip)) (Rg [Fa 54 3 9,Pp (.ld 55 1 false true 54),Pp (.ld 56 5 true false 13),Pp (.bsl 57 .jnode [56] true),Pp (.app 58 .jnode (.tk 55) 57),Fa 59 3 9,Sk 1 59 58]))))) (Rg [Mv 20 10,Bc 21 .add 20 1,Mv 10 21]))
def vK:IR:=Sq (.reg [Pp (.bsl 60 .str [kS [116,121,112,101],kS [110,97,109,101],kS [110,97,109,101,115,112,97,99,101],kS [102,105,101,108,100,115]] true),Ca 61 86 [kS [114,101,99,111,114,100]],Mv 62 1,Ca 63 86 [62],Ca 64 86 [kS [115]],Fo [3] [] (.ld 65 5 true false 9),Pp (.bsl 66 .jnode [61,63,64,65] true),Ca 67 118 [60,66],Fo [] [2] (.st none 5 8 67)] [[],[],[],[1,2],[1,2,3],[],rg 1 5,rg 0 6,rg 0 7]) .ret
def agS:IR:=Rs [Pp (.new 8 [vI 0,vI 0,vS,nl .jnode,nl .str])] (Rs [Pp (.bld 14 [vI 0,vI 0,vS,nl .jnode,nl .str] [(0,1,kI 5)]),Pp (.new 9 [vI 0,vI 0,vS,nl .jnode,nl .str]),Sv 5 9 14] (Sq (Rs [Mv 15 0,Ca 16 60 [15,kI 5],Mi 10 0,Mv 11 16] (.block 0 (.loop [0,1,2,3,8,9,10,11,1000000] 4 wC))) vK))
def zh:List RV:=[.cell 8 5 true]
theorem agT:FnC Try.prog sX [60,117,119,2000060,2000117,2000119] 2 zv Try.f73 agS zh:=fnC Try.func73
def afK(R:IR→(Ex→St→Ro)→St→Ro)(a:St→Ro):Ex→St→Ro:=(bk a [0,1,2,3,8,9,10,11,1000000] 4 (aP 0 (bj (R vK) (fin zh))))
abbrev lT:Type:=(Bs×Int×Int×Int×Bs×Int×Bss×Int×Int×Bs×List aB×Bss×Int×Int×Bs×List aB×Bss)
def kX:lT→St:=fun(h,i,j,k,l,m,n,o,p,q,a,b,c,d,e,f,g)=>{env:=(.ptr 0 0::.str h::.int .i64 i::.ptr 1 0::(U 4 (.ptr 2 0::.ptr 3 0::.int .i64 j::.int .i64 k::(U 56 [])))),hp:=[some [.sl .u8 (.may false) l,.int .i64 m],some [.sl .str .own n],some [.int .i64 o,.int .i64 p,.str q,.sl .jnode .own a,.sl .str .own b],some [.int .i64 c,.int .i64 d,.str e,.sl .jnode .own f,.sl .str .own g]]}
def qL(N:Nat):(St→Ro)→St→Ro:=fun a s=>run sX N wC (afK (run sX N) a) s
def lU(N:Nat)(j:lT→Ro):lT→Ro:=fun(z,v2,k,o,l,m,n,p,q,r,s,t,f,g,h,c,i)=>
 let z0:=fun g0 g1 g2 g3 g4=>j (z,v2,g0,o,g1,g2,g3,p,q,r,s,t,f,g,h,g4,i)
 cond (decide (k<o)) (
 let x1:=(IntKind.wrap .i64 (v2+1))
 aF (dA l m n x1) (fun e=>
 let x2:=(IntKind.wrap .i64 (97+k))
 chk (decide (List.length ([102]:Bs)+List.length ([(UInt8.ofNat (Int.toNat (IntKind.wrap .u8 x2)))]:Bs)≤9223372036854775807)) (
 let x3:=(([102]:Bs)++([(UInt8.ofNat (Int.toNat (IntKind.wrap .u8 x2)))]:Bs))
 aF (bh x3) (fun u=>
 aF (d8 true ([([110,97,109,101]:Bs),([116,121,112,101]:Bs)]:Bss) true ([⟨u.1,u.2.1,u.2.2.1,u.2.2.2.1,u.2.2.2.2⟩,⟨e.1,e.2.1,e.2.2.1,e.2.2.2.1,e.2.2.2.2.1⟩]:List aB)) (fun b=>
 aF (bc e.2.2.2.2.2.1 e.2.2.2.2.2.2.1 3) (fun v=>
 cond (v.1==0) (
 chk ((b.2.2.2.2.2.1&&decide (0<List.length ([([100,101,102,97,117,108,116]:Bs)]:Bss)))&&decide ((List.length b.2.2.2.2.2.2+List.length ([([100,101,102,97,117,108,116]:Bs)]:Bss))*16≤140737488355328)) (
 let x4:=(b.2.2.2.2.2.2++([([100,101,102,97,117,108,116]:Bs)]:Bss))
 aF (iE v.2.1 v.2.2 e.1 e.2.1 e.2.2.1 e.2.2.2.1 e.2.2.2.2.1) (fun d=>
 chk ((b.2.2.2.1&&decide (0<List.length ([⟨d.1,d.2.1,d.2.2.1,d.2.2.2.1,d.2.2.2.2.1⟩]:List aB)))&&decide ((List.length b.2.2.2.2.1+List.length ([⟨d.1,d.2.1,d.2.2.1,d.2.2.2.1,d.2.2.2.2.1⟩]:List aB))*80≤140737488355328)) (
 let x5:=(b.2.2.2.2.1++([⟨d.1,d.2.1,d.2.2.1,d.2.2.2.1,d.2.2.2.2.1⟩]:List aB))
 chk (decide ((List.length c+List.length ([⟨b.1,b.2.1,b.2.2.1,x5,x4⟩]:List aB))*80≤140737488355328)) (
 let x6:=(c++([⟨b.1,b.2.1,b.2.2.1,x5,x4⟩]:List aB))
 let x7:=(IntKind.wrap .i64 (k+1))
 z0 x7 d.2.2.2.2.2.1 d.2.2.2.2.2.2 e.2.2.2.2.2.2.2 x6))))) (
 chk (decide ((List.length c+List.length ([⟨b.1,b.2.1,b.2.2.1,b.2.2.2.2.1,b.2.2.2.2.2.2⟩]:List aB))*80≤140737488355328)) (
 let x8:=(c++([⟨b.1,b.2.1,b.2.2.1,b.2.2.2.2.1,b.2.2.2.2.2.2⟩]:List aB))
 let x9:=(IntKind.wrap .i64 (k+1))
 z0 x9 v.2.1 v.2.2 e.2.2.2.2.2.2.2 x8)))))))) (
 aF (bh ([114,101,99,111,114,100]:Bs)) (fun w=>
 aF (bh z) (fun x=>
 aF (bh ([115]:Bs)) (fun y=>
 aF (d8 true ([([116,121,112,101]:Bs),([110,97,109,101]:Bs),([110,97,109,101,115,112,97,99,101]:Bs),([102,105,101,108,100,115]:Bs)]:Bss) true ([⟨w.1,w.2.1,w.2.2.1,w.2.2.2.1,w.2.2.2.2⟩,⟨x.1,x.2.1,x.2.2.1,x.2.2.2.1,x.2.2.2.2⟩,⟨y.1,y.2.1,y.2.2.1,y.2.2.2.1,y.2.2.2.2⟩,⟨f,g,h,c,i⟩]:List aB)) (fun a=>
 some (.agg [.int .i64 a.1,.int .i64 a.2.1,.str a.2.2.1,.sl .jnode (.may a.2.2.2.1) a.2.2.2.2.1,.sl .str (.may a.2.2.2.2.2.1) a.2.2.2.2.2.2],[some [.sl .u8 (.may false) l,.int .i64 m],some [.sl .str .own n],some [.int .i64 a.1,.int .i64 a.2.1,.str a.2.2.1,.sl .jnode (.may a.2.2.2.1) a.2.2.2.2.1,.sl .str (.may a.2.2.2.2.2.1) a.2.2.2.2.2.2],some [.int .i64 f,.int .i64 g,.str h,.sl .jnode .own c,.sl .str .own i]]))))))
theorem aeD(N:Nat):LB (qL N) kX (lU N):=fun _ _=>by kernel_rfl
def iU(N:Nat)(a:Bs)(b:Int)(c:Bss)(e:Bs)(f:Int)(g:lT→Ro):Ro:=
 aF (bc a b 5) (fun d=>
 g (e,f,0,d.1,d.2.1,d.2.2,c,0,0,([]:Bs),([]:List aB),([]:Bss),5,0,([]:Bs),([]:List aB),([]:Bss)))
def zi(N:Nat)(a:Bs)(b:Int)(c:Bss)(d:Bs)(e:Int):Ro:=iU N a b c d e (fun z=>aS N (lU N) z)
theorem afL(N:Nat)(a:Bs)(c:Int)(d:Bss)(g:Bs)(i:Int)(h:Tot (zi N a c d g i) (fun z=>∃(j:Int)(k:Int)(l:Bs)(m:List aB)(n:Bss)(o:Bs)(p:Int)(s:Bss)(rest:List aJ),z.1.dimR=.agg [.int .i64 j,.int .i64 k,.str l,.sl .jnode (.may false) m,.sl .str (.may false) n]∧z.2=some [.sl .u8 (.may false) o,.int .i64 p]::some [.sl .str .own s]::rest∧wc a c d g i (j,k,l,m,n,o,p,s))):∃r,gp a c d g i r:=FnC.finO (css:=[[.sl .u8 (.may false) a,.int .i64 c],[.sl .str .own d]]) agT (N:=N) ((bu _ (by kernel_rfl) rfl (fun C=>iU N a c d g i (fun z=>C 1000000 (kX z))) (fun C=>by kernel_rfl)).trans (Eq.trans (b:=iU N a c d g i (fun z=>aW N (qL N) (kX z))) (by kernel_rfl) (congrArg (iU N a c d g i) (funext fun z=>aV (kX) (qL N) (lU N) (aeD N) N z)))) h fun _ ⟨j,k,l,m,n,o,p,s,_,e,f,q⟩=>⟨(j,k,l,m,n,o,p,s),e,⟨_,f⟩,q⟩
noncomputable def cO:aL:=tab (P:=Try.prog) [] [kq] [] [sM,amG]
def iV:IR:=Cn 12 (Rs [Mv 17 0,Ca 18 60 [17,kI 200],Bc 19 .sub 18 50,Pp (.bld 20 [vI 0,vI 0,vS,nl .jnode,nl .str] [(0,1,kI 3),(1,1,19)]),Sv 5 4 20] .ret) (Sq (Rs [Pp (.bin 22 .eql 11 (kS [115,116,114,105,110,103])),Mv 21 22] (Cn 21 .skip (Rg [Pp (.bin 23 .eql 11 (kS [98,121,116,101,115])),Mv 21 23]))) (Cn 21 (Rs [Pp (.bsl 24 .str [kS [],kS [100],kS [195,164]] true),Mv 25 0,Ca 26 60 [25,kI 3],Ix 27 .str 24 26,Lq 28 27,Ca 29 86 [28],Sv 5 4 29] .ret) (Rs [Pp (.bin 31 .eql 11 (kS [98,111,111,108,101,97,110])),Mv 30 31] (Cn 30 (Rs [Mv 32 0,Ca 33 60 [32,kI 2],Pp (.bld 34 [vI 0,vI 0,vS,nl .jnode,nl .str] [(0,1,kI 2),(1,1,33)]),Sv 5 4 34] .ret) (Rs [Pp (.bin 36 .eql 11 (kS [110,117,108,108])),Mv 35 36] (Cn 35 (Rs [Pp (.bld 37 [vI 0,vI 0,vS,nl .jnode,nl .str] [(0,1,kI 1)]),Sv 5 4 37] .ret) .skip))))))
def nY:IR:=Sq (Rs [Fa 38 0 3,Lq 39 38,Bc 40 .eql 39 5] (Cn 40 (Rs [Pp (.bld 41 [vI 0,vI 0,vS,nl .jnode,nl .str] [(0,1,kI 1)]),Sv 5 4 41] .ret) .skip)) (Rs [Ld 43 5 true 3,Ca 44 87 [43,kS [116,121,112,101]],Mv 42 44,Ex_ 45 0 42,Ex_ 46 1 42,Pp (.alr 5 5),Fz 5 5 45,Mv 6 46] (Sq (Rs [Fa 47 2 5,Lq 48 47] (.block 1 (Rs [Pp (.bin 50 .eql 48 (kS [97,114,114,97,121])),Mv 49 50] (Cn 49 (Rs [Pp (.bld 51 [vI 0,vI 0,vS,nl .jnode,nl .str] [(0,1,kI 5)]),Sv 5 4 51] .ret) (Rs [Pp (.bin 53 .eql 48 (kS [101,110,117,109])),Mv 52 53] (Cn 52 (Rs [Ca 54 86 [kS [88]],Sv 5 4 54] .ret) .skip)))))) (Rs [Pp (.bld 55 [vI 0,vI 0,vS,nl .jnode,nl .str] [(0,1,kI 6)]),Sv 5 4 55] .ret)))
def nZ:IR:=.cut [3,4,1000001] 2 nY
def afM:IR:=Rs [Bx 3 1,Pp (.new 4 [vI 0,vI 0,vS,nl .jnode,nl .str])] (Sq (Rs [Fa 7 0 3,Lq 8 7,Bc 9 .eql 8 4] (Cn 9 (Rs [Fa 10 2 3,Lq 11 10] (.block 0 (Sq (Rs [Pp (.bin 13 .eql 11 (kS [105,110,116])),Mv 12 13] (Cn 12 .skip (Rs [Pp (.bin 14 .eql 11 (kS [108,111,110,103])),Mv 12 14] (Cn 12 .skip (Rs [Pp (.bin 15 .eql 11 (kS [102,108,111,97,116])),Mv 12 15] (Cn 12 .skip (Rg [Pp (.bin 16 .eql 11 (kS [100,111,117,98,108,101])),Mv 12 16]))))))) (.cut [0,3,4,11,12,1000000] 2 iV)))) .skip)) nZ)
def il:List RV:=[.cell 4 5 true]
theorem afN:FnC Try.prog cO [60,2000060] 1 yv Try.f119 afM il:=fnC Try.func119
abbrev gM:Type:=(Int×Int×Bs×List aB×Bss×Bs×Bool×Bs×Int×Int×Int×Bs×List aB×Bss)
def ga:gM→St:=fun(e,f,g,h,i,j,k,l,m,n,a,b,c,d)=>{env:=(.ptr 0 0::.undef::.undef::.ea [.int .i64 e,.int .i64 f,.str g,.sl .jnode (.may false) h,.sl .str (.may false) i]::.ptr 1 0::(U 6 (.str j::.bool k::(U 43 [])))),hp:=[some [.sl .u8 (.may false) l,.int .i64 m],some [.int .i64 n,.int .i64 a,.str b,.sl .jnode .own c,.sl .str .own d]]}
def pC(R:IR→(Ex→St→Ro)→St→Ro):Ex→St→Ro:=(aP 0 (bj (R nZ) (fin il)))
abbrev pD:Type:=(Int×Int×Bs×List aB×Bss×Bs×Int×Int×Int×Bs×List aB×Bss)
def jH:pD→St:=fun(c,d,e,f,g,h,i,j,k,l,a,b)=>{env:=(U 3 (.ea [.int .i64 c,.int .i64 d,.str e,.sl .jnode (.may false) f,.sl .str (.may false) g]::.ptr 1 0::(U 51 []))),hp:=[some [.sl .u8 (.may false) h,.int .i64 i],some [.int .i64 j,.int .i64 k,.str l,.sl .jnode .own a,.sl .str .own b]]}
def pE(N:Nat):St→Ro:=fun s=>run cO N nY (fin il) s
def gP(N:Nat):pD→Ro:=fun(a,c,d,e,f,g,h,_,_,_,_,_)=>
 let i:=fun k l m o p q r=>(some (.agg [.int .i64 k,.int .i64 l,.str m,.sl .jnode (.may false) o,.sl .str (.may false) p],[some [.sl .u8 (.may false) g,.int .i64 h],some [.int .i64 k,.int .i64 l,.str m,q,r]]):Ro)
 cond (a==5) (
 i 1 0 ([]:Bs) ([]:List aB) ([]:Bss) (.sl .jnode .own ([]:List aB)) (.sl .str .own ([]:Bss))) (
 aF (rf a c d e f ([116,121,112,101]:Bs)) (fun n=>
 let s:=decide (n.2.2.1=([97,114,114,97,121]:Bs))
 cond s (
 i 5 0 ([]:Bs) ([]:List aB) ([]:Bss) (.sl .jnode .own ([]:List aB)) (.sl .str .own ([]:Bss))) (
 let j:=decide (n.2.2.1=([101,110,117,109]:Bs))
 cond j (
 aF (bh ([88]:Bs)) (fun b=>
 i b.1 b.2.1 b.2.2.1 b.2.2.2.1 b.2.2.2.2 (.sl .jnode (.may false) b.2.2.2.1) (.sl .str (.may false) b.2.2.2.2))) (
 i 6 0 ([]:Bs) ([]:List aB) ([]:Bss) (.sl .jnode .own ([]:List aB)) (.sl .str .own ([]:Bss))))))
theorem adx(N:Nat):LJ (pE N) jH (gP N):=fun _=>by kernel_rfl
def pF(N:Nat):St→Ro:=fun s=>run cO N iV (pC (run cO N)) s
def jI(N:Nat)(y:pD→Ro):gM→Ro:=fun(f,g,h,i,j,c,s,a,b,k,l,m,n,o)=>
 let p:=fun v w x z g4 g5 g6 g7 g8=>(some (.agg [.int .i64 v,.int .i64 w,.str x,.sl .jnode (.may false) z,.sl .str (.may false) g4],[some [.sl .u8 (.may false) g5,.int .i64 g6],some [.int .i64 v,.int .i64 w,.str x,g7,g8]]):Ro)
 cond s (
 aF (bc a b 200) (fun t=>
 let x2:=(IntKind.wrap .i64 (t.1-50))
 p 3 x2 ([]:Bs) ([]:List aB) ([]:Bss) t.2.1 t.2.2 (.sl .jnode .own ([]:List aB)) (.sl .str .own ([]:Bss)))) (
 let x3:=decide (c=([115,116,114,105,110,103]:Bs))
 cond x3 (
 aF (bc a b 3) (fun q=>
 chk (ixl q.1 ([([]:Bs),([100]:Bs),([195,164]:Bs)]:Bss)) (
 let x4:=List.getD ([([]:Bs),([100]:Bs),([195,164]:Bs)]:Bss) (Int.toNat q.1) (aG .str)
 aF (bh x4) (fun d=>
 p d.1 d.2.1 d.2.2.1 d.2.2.2.1 d.2.2.2.2 q.2.1 q.2.2 (.sl .jnode (.may false) d.2.2.2.1) (.sl .str (.may false) d.2.2.2.2))))) (
 let x5:=decide (c=([98,121,116,101,115]:Bs))
 cond x5 (
 aF (bc a b 3) (fun r=>
 chk (ixl r.1 ([([]:Bs),([100]:Bs),([195,164]:Bs)]:Bss)) (
 let x6:=List.getD ([([]:Bs),([100]:Bs),([195,164]:Bs)]:Bss) (Int.toNat r.1) (aG .str)
 aF (bh x6) (fun e=>
 p e.1 e.2.1 e.2.2.1 e.2.2.2.1 e.2.2.2.2 r.2.1 r.2.2 (.sl .jnode (.may false) e.2.2.2.1) (.sl .str (.may false) e.2.2.2.2))))) (
 let x7:=decide (c=([98,111,111,108,101,97,110]:Bs))
 cond x7 (
 aF (bc a b 2) (fun u=>
 p 2 u.1 ([]:Bs) ([]:List aB) ([]:Bss) u.2.1 u.2.2 (.sl .jnode .own ([]:List aB)) (.sl .str .own ([]:Bss)))) (
 let x8:=decide (c=([110,117,108,108]:Bs))
 cond x8 (
 p 1 0 ([]:Bs) ([]:List aB) ([]:Bss) a b (.sl .jnode .own ([]:List aB)) (.sl .str .own ([]:Bss))) (
 y (f,g,h,i,j,a,b,k,l,m,n,o))))))
def kY(N:Nat)(x:gM):Ro:=jI N (fun z=>gP N z) x
def pG(N:Nat):List (Nat×(St→Ro)):=(bQ cO N iV (pC (run cO N))++(bQ cO N nZ (fin il)++[]))
theorem ady(N:Nat):∀(x:gM),pF N (ga x)=kY N x:=by
 intro x
 have hX:∀C:Nat→St→Ro,bT C cO N iV (pC (bT C cO N)) (ga x)=jI N (fun z=>C 1000001 (jH z)) x:=by
  intro C
  kernel_rfl
 have h:pF N (ga x)=jI N (fun z=>pE N (jH z)) x:=(cW (C:=fb (pG N)) (bS (ba (l:=(pG N)) (by kernel_rfl))) (cD (fI (bS (dR (ba (l:=(pG N)) (by kernel_rfl)))) rfl)) _).trans ((hX _).trans (by kernel_rfl))
 have e1:(fun z=>pE N (jH z))=(fun z=>gP N z):=funext fun z=>adx N z
 rw[h,e1]
 rfl
abbrev pH:Type:=(Int×Int×Bs×List aB×Bss×Bs×Int×Int×Int×Bs×List aB×Bss)
def ov:pH→St:=fun(c,d,e,f,g,h,i,j,k,l,a,b)=>{env:=(U 3 (.ea [.int .i64 c,.int .i64 d,.str e,.sl .jnode (.may false) f,.sl .str (.may false) g]::.ptr 1 0::(U 51 []))),hp:=[some [.sl .u8 (.may false) h,.int .i64 i],some [.int .i64 j,.int .i64 k,.str l,.sl .jnode .own a,.sl .str .own b]]}
def wD(N:Nat):St→Ro:=fun s=>run cO N nY (fin il) s
def kZ(N:Nat):pH→Ro:=fun(b,c,d,e,f,g,h,_,_,_,_,_)=>
 let i:=fun l m n p q r s=>(some (.agg [.int .i64 l,.int .i64 m,.str n,.sl .jnode (.may false) p,.sl .str (.may false) q],[some [.sl .u8 (.may false) g,.int .i64 h],some [.int .i64 l,.int .i64 m,.str n,r,s]]):Ro)
 cond (b==5) (
 i 1 0 ([]:Bs) ([]:List aB) ([]:Bss) (.sl .jnode .own ([]:List aB)) (.sl .str .own ([]:Bss))) (
 aF (rf b c d e f ([116,121,112,101]:Bs)) (fun o=>
 let j:=decide (o.2.2.1=([97,114,114,97,121]:Bs))
 cond j (
 i 5 0 ([]:Bs) ([]:List aB) ([]:Bss) (.sl .jnode .own ([]:List aB)) (.sl .str .own ([]:Bss))) (
 let k:=decide (o.2.2.1=([101,110,117,109]:Bs))
 cond k (
 aF (bh ([88]:Bs)) (fun a=>
 i a.1 a.2.1 a.2.2.1 a.2.2.2.1 a.2.2.2.2 (.sl .jnode (.may false) a.2.2.2.1) (.sl .str (.may false) a.2.2.2.2))) (
 i 6 0 ([]:Bs) ([]:List aB) ([]:Bss) (.sl .jnode .own ([]:List aB)) (.sl .str .own ([]:Bss))))))
theorem adz(N:Nat):LJ (wD N) ov (kZ N):=fun _=>by kernel_rfl
def im(N:Nat)(c:Bs)(d b e:Int)(a:Bs)(f:List aB)(g:Bss)(l:gM→Ro)(m:pH→Ro):Ro:=
 let h:=fun n=>l (b,e,a,f,g,a,n,c,d,0,0,([]:Bs),([]:List aB),([]:Bss))
 cond (b==4) (
 let o:=decide (a=([105,110,116]:Bs))
 cond o (
 h true) (
 let i:=decide (a=([108,111,110,103]:Bs))
 cond i (
 h true) (
 let j:=decide (a=([102,108,111,97,116]:Bs))
 cond j (
 h true) (
 let k:=decide (a=([100,111,117,98,108,101]:Bs))
 h k)))) (
 m (b,e,a,f,g,c,d,0,0,([]:Bs),([]:List aB),([]:Bss)))
def xX(N:Nat)(a:Bs)(b c d:Int)(e:Bs)(f:List aB)(g:Bss):Ro:=im N a b c d e f g (fun z=>kY N z) (fun z=>kZ N z)
theorem aeE(N:Nat)(a:Bs)(c d g:Int)(i:Bs)(j:List aB)(k:Bss)(h:Tot (xX N a c d g i j k) (fun z=>∃(l:Int)(m:Int)(n:Bs)(o:List aB)(p:Bss)(s:Bs)(t:Int)(rest:List aJ),z.1.dimR=.agg [.int .i64 l,.int .i64 m,.str n,.sl .jnode (.may false) o,.sl .str (.may false) p]∧z.2=some [.sl .u8 (.may false) s,.int .i64 t]::rest∧fY a c d g i j k (l,m,n,o,p,s,t))):∃r,iE a c d g i j k r:=FnC.finO (css:=[[.sl .u8 (.may false) a,.int .i64 c]]) afN (N:=N) ((bu _ (by kernel_rfl) rfl (fun C=>im N a c d g i j k (fun z=>C 1000000 (ga z)) (fun z=>C 1000001 (ov z))) (fun C=>by kernel_rfl)).trans (Eq.trans (b:=im N a c d g i j k (fun z=>pF N (ga z)) (fun z=>wD N (ov z))) (by kernel_rfl) (congr (congrArg (im N a c d g i j k) (funext fun z=>ady N z)) (funext fun z=>adz N z)))) h fun _ ⟨l,m,n,o,p,s,t,_,e,f,q⟩=>⟨(l,m,n,o,p,s,t),e,⟨_,f⟩,q⟩
end Go.Proofs.Ytdpajabhmmmjoaa
end
noncomputable section
namespace Go.Proofs.Ytdpajabhmmmjoaa
open Go.AM
set_option autoImplicit false
set_option linter.unusedVariables false
set_option maxRecDepth 100000
noncomputable def aam:aL:=tab (P:=Try.prog) [] [] [] []
def abP:IR:=Sq (Rs [Mv 7 3,Bc 8 .geq 7 0] (Cn 8 .skip (.exit 0))) (Sq (.block 1 (Rs [Mv 11 0,Mv 12 3,Pp (.idx 13 11 12),Pp (.bin 14 .eql 13 (.c (.int .u8 46)))] (Cn 14 (Rs [Mv 15 0,Mv 16 3,Pp (.subs 17 15 none (some 16)),Mv 2 17] .ret) .skip))) (Rg [Mv 9 3,Bc 10 .sub 9 1,Mv 3 10]))
def abQ:IR:=Rs [Ms 2 []] .ret
def anH:IR:=Rs [Ms 2 []] (Sq (Rs [Mv 4 0,Pp (.lens 5 4),Bc 6 .sub 5 1,Mv 3 6] (.block 0 (.loop [0,3,1000000] 0 abP))) abQ)
def aei:List RV:=[.t 2]
theorem anI:FnC Try.prog aam [] 0 aeY Try.f142 anH aei:=fnC Try.func142
def amg(R:IR→(Ex→St→Ro)→St→Ro)(a:St→Ro):Ex→St→Ro:=(bk a [0,3,1000000] 0 (aP 0 (bj (R abQ) (fin aei))))
abbrev rR:Type:=(Bs×Int)
def p8:rR→St:=fun(a,b)=>{env:=(.str a::.undef::.undef::.int .i64 b::(U 14 [])),hp:=[]}
def xD(N:Nat):(St→Ro)→St→Ro:=fun a s=>run aam N abP (amg (run aam N) a) s
def rS(N:Nat)(a:rR→Ro):rR→Ro:=fun(c,b)=>
 cond (decide (0≤b)) (
 chk (ixl b c) (
 let d:=(↑(UInt8.toNat (List.getD c (Int.toNat b) 0)):Int)
 cond (d==46) (
 chk (decide (0≤b)&&decide (b≤(↑(List.length c):Int))) (
 let e:=(List.drop 0 (List.take (Int.toNat b) c))
 some (.str e,[]))) (
 let f:=(IntKind.wrap .i64 (b-1))
 a (c,f)))) (
 some (.str ([]:Bs),[]))
theorem akF(N:Nat):LB (xD N) p8 (rS N):=fun _ _=>by kernel_rfl
def pj(N:Nat)(a:Bs)(b:rR→Ro):Ro:=
 let c:=(↑(List.length a):Int)
 let d:=(IntKind.wrap .i64 (c-1))
 b (a,d)
def aej(N:Nat)(a:Bs):Ro:=pj N a (fun z=>aS N (rS N) z)
theorem amh(N:Nat)(a:Bs)(h:Tot (aej N a) (fun z=>∃(c:Bs)(rest:List aJ),z.1.dimR=.str c∧z.2=rest∧my a (c))):∃r,qe a r:=anI.finP (N:=N) ((bu _ (by kernel_rfl) rfl (fun C=>pj N a (fun z=>C 1000000 (p8 z))) (fun C=>by kernel_rfl)).trans (Eq.trans (b:=pj N a (fun z=>aW N (xD N) (p8 z))) (by kernel_rfl) (congrArg (pj N a) (funext fun z=>aV (p8) (xD N) (rS N) (akF N) N z)))) h fun _ ⟨c,_,e,_,q⟩=>⟨(c),e,q⟩
noncomputable def atH:aL:=tab (P:=Try.prog) [] [] [] [arK]
def asN:IR:=Rs [Bx 2 0,Ms 4 []] (Sq (Rs [Mv 5 1,Bc 6 .lss 5 0,Mv 7 6,Gf 7 (.mov 8 1),Gf 7 (.fad 9 0 2),Gf 7 (.lde 10 1 false 9),Gf 7 (.lenl 11 10),Gf 7 (.bin 12 .geq 8 11),Po 13 7 12] (Cn 13 (Rs [Ms 4 []] .ret) .skip)) (Sq (Rs [Fa 14 0 2,Lq 15 14,Mv 16 1,Ix 17 .atype 15 16,Fa 18 1 17,Lo 19 18,Pp (.bin 20 .neq 19 (kS []))] (Cn 20 (Rs [Fa 21 0 2,Lq 22 21,Mv 23 1,Ix 24 .atype 22 23,Fa 25 1 24,Lo 26 25,Mv 4 26] .ret) .skip)) (Rs [Fa 27 0 2,Lq 28 27,Mv 29 1,Ix 30 .atype 28 29,Fa 31 0 30,Lo 32 31,Ca 33 158 [32],Mv 4 33] .ret)))
def asO:List RV:=[.t 4]
theorem asP:FnC Try.prog atH [] 0 akW Try.f139 asN asO:=fnC Try.func139
def aj3(N:Nat)(a:List aA)(b:Int):Ro:=
 cond (decide (b<0)) (
 some (.str ([]:Bs),[])) (
 let c:=(↑(List.length a):Int)
 cond (decide (c≤b)) (
 some (.str ([]:Bs),[])) (
 chk (ixl b a) (
 let d:=(List.getD a (Int.toNat b) (aG .atype))
 let e:=(!decide (d.name=([]:Bs)))
 cond e (
 chk (ixl b a) (
 let f:=(List.getD a (Int.toNat b) (aG .atype))
 some (.str f.name,[]))) (
 chk (ixl b a) (
 let g:=(List.getD a (Int.toNat b) (aG .atype))
 aF (ur g.kind) (fun(h:Bs)=>
 some (.str h,[])))))))
def aj4(N:Nat)(a:List aA)(b:Int):Ro:=aj3 N a b
theorem aqZ(N:Nat)(a:List aA)(c:Int)(h:Tot (aj4 N a c) (fun z=>∃(b:Bs)(rest:List aJ),z.1.dimR=.str b∧z.2=rest)):∃r,sN a c r:=asP.finP0 (N:=N) (by kernel_rfl) h fun _ ⟨b,_,e,_⟩=>⟨(b),e⟩
noncomputable def sY:aL:=tab (P:=Try.prog) [] [dk] [] [ati,arM]
def wE:IR:=Sq (Rs [Mv 12 8,Mv 13 1,Pp (.lens 14 13),Bi 15 .lss 12 14] (Cn 15 .skip (.exit 0))) (Sq (.block 1 (Rs [Mv 18 1,Mv 19 8,Pp (.idx 20 18 19),Pp (.bin 21 .eql 20 (.c (.int .u8 46)))] (Cn 21 (Rg [Mv 22 1,Mv 7 22]) .skip))) (Rg [Mv 16 8,Bc 17 .add 16 1,Mv 8 17]))
def wF:IR:=Sq (Rs [Mv 23 1,Pp (.bin 24 .eql 23 (kS [])),Mv 25 24,Gf 25 (.mov 26 7),Gf 25 (.call 27 160 [26]),Gf 25 (.un 28 .not 27),Po 29 25 28] (Cn 29 (Rg [Mv 30 0,Ca 31 110 [30,kI 6]]) .skip)) (Rs [Mv 32 7,Mv 6 32] .ret)
def agU:IR:=Rs [Ms 6 []] (Rs [Mv 9 2,Mv 10 1,Ca 11 159 [9,10],Mv 7 11] (Sq (Rs [Mi 8 0] (.block 0 (.loop [0,1,7,8,1000000] 1 wE))) wF))
def zj:List RV:=[.t 6]
theorem agV:FnC Try.prog sY [110,2000110] 1 zz Try.f141 agU zj:=fnC Try.func141
def afO(R:IR→(Ex→St→Ro)→St→Ro)(a:St→Ro):Ex→St→Ro:=(bk a [0,1,7,8,1000000] 1 (aP 0 (bj (R wF) (fin zj))))
abbrev lV:Type:=(Bs×Bs×Int×List aA×Int)
def la:lV→St:=fun(a,b,c,d,e)=>{env:=(.ptr 0 0::.str a::(U 5 (.str b::.int .i64 c::(U 24 [])))),hp:=[some [.ul .atype d,.int .i64 e]]}
def qM(N:Nat):(St→Ro)→St→Ro:=fun a s=>run sY N wE (afO (run sY N) a) s
def lW(N:Nat)(c:lV→Ro):lV→Ro:=fun(d,f,e,a,b)=>
 let j:=(↑(List.length d):Int)
 let g:=fun k l=>(some (.str f,[some [.ul .atype k,.int .i64 l]]):Ro)
 cond (decide (e<j)) (
 chk (ixl e d) (
 let m:=(↑(UInt8.toNat (List.getD d (Int.toNat e) 0)):Int)
 cond (m==46) (
 let n:=(IntKind.wrap .i64 (e+1))
 c (d,d,n,a,b)) (
 let o:=(IntKind.wrap .i64 (e+1))
 c (d,f,o,a,b)))) (
 let p:=decide (d=([]:Bs))
 cond p (
 aF (aK a b 6) (fun h=>
 g h.2.1 h.2.2)) (
 aF (uu f) (fun(q:Bool)=>
 cond (!q) (
 aF (aK a b 6) (fun i=>
 g i.2.1 i.2.2)) (
 g a b))))
theorem aeF(N:Nat):LB (qM N) la (lW N):=fun _ _=>by kernel_rfl
def iW(N:Nat)(a:List aA)(b:Int)(c d:Bs)(e:lV→Ro):Ro:=
 aF (wj d c) (fun(f:Bs)=>
 e (c,f,0,a,b))
def zk(N:Nat)(a:List aA)(b:Int)(c d:Bs):Ro:=iW N a b c d (fun z=>aS N (lW N) z)
theorem afP(N:Nat)(a:List aA)(c:Int)(d g:Bs)(h:Tot (zk N a c d g) (fun z=>∃(i:Bs)(j:List aA)(k:Int)(rest:List aJ),z.1.dimR=.str i∧z.2=some [.ul .atype j,.int .i64 k]::rest∧wg a c d g (i,j,k))):∃r,gq a c d g r:=FnC.finO (css:=[[.ul .atype a,.int .i64 c]]) agV (N:=N) ((bu _ (by kernel_rfl) rfl (fun C=>iW N a c d g (fun z=>C 1000000 (la z))) (fun C=>by kernel_rfl)).trans (Eq.trans (b:=iW N a c d g (fun z=>aW N (qM N) (la z))) (by kernel_rfl) (congrArg (iW N a c d g) (funext fun z=>aV (la) (qM N) (lW N) (aeF N) N z)))) h fun _ ⟨i,j,k,_,e,f,q⟩=>⟨(i,j,k),e,⟨_,f⟩,q⟩
noncomputable def aj5:aL:=tab (P:=Try.prog) [] [dk] [] [rh]
def air:IR:=Rs [Bx 5 1,Ms 8 []] (Rs [Ld 12 5 true 5,Mv 13 2,Ca 14 113 [12,13],Mv 11 14,Ex_ 15 0 11,Ex_ 16 1 11,Pp (.alr 9 5),Fz 9 5 15,Mv 10 16] (Sq (Rs [Mv 17 10,Un 18 17,Mv 19 18,Gt 19 (.mov 20 3),Gt 19 (.un 21 .not 20),Pa 22 19 21] (Cn 22 (Rs [Ms 8 []] .ret) .skip)) (Sq (Rs [Mv 23 10,Un 24 23,Mv 25 24,Gf 25 (.fad 26 0 9),Gf 25 (.lde 27 1 false 26),Gf 25 (.bin 28 .neq 27 (kI 4)),Po 29 25 28] (Cn 29 (Rs [Mv 30 0,Ca 31 110 [30,kI 2]] (Rs [Ms 8 []] .ret)) .skip)) (Rs [Fa 32 2 9,Lq 33 32,Mv 8 33] .ret))))
def ais:List RV:=[.t 8]
theorem ait:FnC Try.prog aj5 [110,2000110] 1 aaD Try.f140 air ais:=fnC Try.func140
def zJ(N:Nat)(a:List aA)(b d e:Int)(f:Bs)(g:List aB)(h:Bss)(p:Bs)(q:Bool):Ro:=
 let i:=fun j r=>(some (.str ([]:Bs),[some [.ul .atype j,.int .i64 r]]):Ro)
 let k:=fun j=>(some (.str j,[some [.ul .atype a,.int .i64 b]]):Ro)
 aF (dx d e f g h p) (fun c=>
 cond (!c.2.2.2.2.2) (
 cond (!q) (
 i a b) (
 cond (!c.2.2.2.2.2) (
 aF (aK a b 2) (fun l=>
 i l.2.1 l.2.2)) (
 cond (!(c.1==4)) (
 aF (aK a b 2) (fun m=>
 i m.2.1 m.2.2)) (
 k c.2.2.1)))) (
 cond (!c.2.2.2.2.2) (
 aF (aK a b 2) (fun n=>
 i n.2.1 n.2.2)) (
 cond (!(c.1==4)) (
 aF (aK a b 2) (fun o=>
 i o.2.1 o.2.2)) (
 k c.2.2.1))))
def zK(N:Nat)(a:List aA)(b c d:Int)(e:Bs)(f:List aB)(g:Bss)(h:Bs)(i:Bool):Ro:=zJ N a b c d e f g h i
theorem agW(N:Nat)(a:List aA)(b c d:Int)(g:Bs)(i:List aB)(j:Bss)(n:Bs)(o:Bool)(h:Tot (zK N a b c d g i j n o) (fun z=>∃(k:Bs)(l:List aA)(m:Int)(rest:List aJ),z.1.dimR=.str k∧z.2=some [.ul .atype l,.int .i64 m]::rest∧xL a b c d g i j n o (k,l,m))):∃r,eC a b c d g i j n o r:=FnC.finO (css:=[[.ul .atype a,.int .i64 b]]) ait (N:=N) (by kernel_rfl) h fun _ ⟨k,l,m,_,e,f,q⟩=>⟨(k,l,m),e,⟨_,f⟩,q⟩
noncomputable def sZ:aL:=tab (P:=Try.prog) [] [dk] [] [rh]
def wG:IR:=Sq (Rs [Mv 25 11,Fa 26 3 8,Lq 27 26,Ll 28 27,Bi 29 .lss 25 28,Mv 30 29,Gt 30 (.mov 31 0),Gt 30 (.nck 32 31),Gt 30 (.fad 33 1 32),Gt 30 (.ld 34 1 false false 33),Gt 30 (.bin 35 .eql 34 (kI 0)),Pa 36 30 35] (Cn 36 .skip (.exit 0))) (Sq (.block 1 (Sq (Rs [Fa 39 3 8,Lq 40 39,Mv 41 11,Ix 42 .jnode 40 41,Fa 43 0 42,Lo 44 43,Bc 45 .neq 44 4] (Cn 45 (Rg [Mv 46 0,Ca 47 110 [46,kI 2]]) .skip)) (Rg [Pp (.mov 48 (.tk 10)),Fa 49 3 8,Lq 50 49,Mv 51 11,Ix 52 .jnode 50 51,Fa 53 2 52,Lo 54 53,Pp (.bsl 55 .str [54] true),Pp (.app 56 .str (.tk 48) 55),Pp (.mov 10 (.tk 56))]))) (Rg [Mv 37 11,Bc 38 .add 37 1,Mv 11 38]))
def vL:IR:=Rs [Mv 57 10,Mv 6 57,Mb 7 true] .ret
def agX:IR:=Rs [Bx 4 1,Pp (.mov 6 (.c (nl .str))),Mb 7 false] (Rs [Ld 13 5 true 4,Mv 14 2,Ca 15 113 [13,14],Mv 12 15,Ex_ 16 0 12,Ex_ 17 1 12,Pp (.alr 8 5),Fz 8 5 16,Mv 9 17] (Sq (Rs [Mv 18 9,Un 19 18] (Cn 19 (Rs [Pp (.mov 6 (.c (nl .str))),Mb 7 false] .ret) .skip)) (Sq (Rs [Fa 20 0 8,Lq 21 20,Bc 22 .neq 21 5] (Cn 22 (Rg [Mv 23 0,Ca 24 110 [23,kI 2]]) .skip)) (Rs [Pp (.mov 10 (.c (nl .str)))] (Sq (Rs [Mi 11 0] (.block 0 (.loop [0,8,10,11,1000000] 1 wG))) vL)))))
def zl:List RV:=[.t 6,.t 7]
theorem agY:FnC Try.prog sZ [110,2000110] 1 zx Try.f143 agX zl:=fnC Try.func143
def afQ(R:IR→(Ex→St→Ro)→St→Ro)(a:St→Ro):Ex→St→Ro:=(bk a [0,8,10,11,1000000] 1 (aP 0 (bj (R vL) (fin zl))))
abbrev lX:Type:=(Int×Int×Bs×List aB×Bss×Bss×Int×List aA×Int)
def lb:lX→St:=fun(a,b,c,d,e,f,g,h,i)=>{env:=(.ptr 0 0::(U 7 (.ea [.int .i64 a,.int .i64 b,.str c,.sl .jnode (.may false) d,.sl .str (.may false) e]::.undef::.sl .str .own f::.int .i64 g::(U 46 [])))),hp:=[some [.ul .atype h,.int .i64 i]]}
def qN(N:Nat):(St→Ro)→St→Ro:=fun a s=>run sZ N wG (afQ (run sZ N) a) s
def io(N:Nat)(c:lX→Ro):lX→Ro:=fun(g,h,i,a,j,e,b,f,d)=>
 let o:=(↑(List.length a):Int)
 let k:=(some (.tup [.sl .str (.may false) e,.bool true],[some [.ul .atype f,.int .i64 d]]):Ro)
 cond (decide (b<o)) (
 cond (d==0) (
 chk (ixl b a) (
 let p:=(List.getD a (Int.toNat b) (aG .jnode))
 cond (!(p.kind==4)) (
 aF (aK f d 2) (fun l=>
 chk (ixl b a) (
 let m:=(List.getD a (Int.toNat b) (aG .jnode))
 chk (decide ((List.length e+List.length ([m.s]:Bss))*16≤140737488355328)) (
 let q:=(e++([m.s]:Bss))
 let r:=(IntKind.wrap .i64 (b+1))
 c (g,h,i,a,j,q,r,l.2.1,l.2.2))))) (
 chk (ixl b a) (
 let n:=(List.getD a (Int.toNat b) (aG .jnode))
 chk (decide ((List.length e+List.length ([n.s]:Bss))*16≤140737488355328)) (
 let t:=(e++([n.s]:Bss))
 let u:=(IntKind.wrap .i64 (b+1))
 c (g,h,i,a,j,t,u,f,d)))))) (
 k)) (
 k)
theorem aeG(N:Nat):LB (qN N) lb (io N):=fun _ _=>by kernel_rfl
def iX(N:Nat)(b:List aA)(c d e:Int)(f:Bs)(g:List aB)(h:Bss)(k:Bs)(i:lX→Ro):Ro:=
 aF (dx d e f g h k) (fun a=>
 cond (!a.2.2.2.2.2) (
 some (.tup [.sl .str (.may false) ([]:Bss),.bool false],[some [.ul .atype b,.int .i64 c]])) (
 cond (!(a.1==5)) (
 aF (aK b c 2) (fun j=>
 i (a.1,a.2.1,a.2.2.1,a.2.2.2.1,a.2.2.2.2.1,([]:Bss),0,j.2.1,j.2.2))) (
 i (a.1,a.2.1,a.2.2.1,a.2.2.2.1,a.2.2.2.2.1,([]:Bss),0,b,c))))
def zm(N:Nat)(a:List aA)(b c d:Int)(e:Bs)(f:List aB)(g:Bss)(h:Bs):Ro:=iX N a b c d e f g h (fun z=>aS N (io N) z)
theorem afR(N:Nat)(a:List aA)(c d g:Int)(i:Bs)(j:List aB)(k:Bss)(l:Bs)(h:Tot (zm N a c d g i j k l) (fun z=>∃(m:Bss)(n:Bool)(o:List aA)(p:Int)(rest:List aJ),z.1.dimR=.tup [.sl .str (.may false) m,.bool n]∧z.2=some [.ul .atype o,.int .i64 p]::rest∧pm a c d g i j k l (m,n,o,p))):∃r,dy a c d g i j k l r:=FnC.finO (css:=[[.ul .atype a,.int .i64 c]]) agY (N:=N) ((bu _ (by kernel_rfl) rfl (fun C=>iX N a c d g i j k l (fun z=>C 1000000 (lb z))) (fun C=>by kernel_rfl)).trans (Eq.trans (b:=iX N a c d g i j k l (fun z=>aW N (qN N) (lb z))) (by kernel_rfl) (congrArg (iX N a c d g i j k l) (funext fun z=>aV (lb) (qN N) (io N) (aeG N) N z)))) h fun _ ⟨m,n,o,p,_,e,f,q⟩=>⟨(m,n,o,p),e,⟨_,f⟩,q⟩
noncomputable def bP:aL:=tab (P:=Try.prog) [] [dk,uq,sO] [] [rh,aem]
def uW:IR:=Sq (Rs [Mv 56 9,Mv 57 8,Bi 58 .lss 56 57] (Cn 58 .skip (.exit 2))) (Sq (.block 3 (Sq (.reg [Mv 61 6,Mv 62 9,Ix 63 .str 61 62,Lq 64 63,Mv 65 6,Mv 66 8,Ix 67 .str 65 66,Lq 68 67,Bi 69 .eql 64 68] [[],[],[0,1],[0,1,2],[],[],[4,5],[4,5,6],rg 0 7]) (Cn 69 (Rg [Mv 70 0,Ca 71 110 [70,kI 5]]) .skip))) (Rg [Mv 59 9,Bc 60 .add 59 1,Mv 9 60]))
def t7:IR:=Rg [Mv 46 8,Bc 47 .add 46 1,Mv 8 47]
def iy:IR:=Sq (Rs [Mv 35 8,Mv 36 6,Ll 37 36,Bi 38 .lss 35 37,Mv 39 38,Gt 39 (.mov 40 0),Gt 39 (.nck 41 40),Gt 39 (.fad 42 1 41),Gt 39 (.ld 43 1 false false 42),Gt 39 (.bin 44 .eql 43 (kI 0)),Pa 45 39 44] (Cn 45 .skip (.exit 0))) (Sq (.block 1 (Sq (Rs [Mv 48 6,Mv 49 8,Ix 50 .str 48 49,Lq 51 50,Ca 52 161 [51],Un 53 52] (Cn 53 (Rg [Mv 54 0,Ca 55 110 [54,kI 6]]) .skip)) (Rs [Mi 9 0] (.block 2 (.loop [0,2,4,6,8,9,1000000] 1 uW))))) t7)
def t9:IR:=Sq (Rs [Mv 80 14,Mv 81 6,Ll 82 81,Bi 83 .lss 80 82] (Cn 83 .skip (.exit 4))) (Sq (.block 5 (Rg [Mv 86 13,Mv 87 86,Gf 87 (.mov 88 6),Gf 87 (.mov 89 14),Gf 87 (.ixa 90 .str 88 89),Gf 87 (.lde 91 1 false 90),Gf 87 (.mov 92 12),Gf 87 (.bin 93 .eql 91 92),Po 94 87 93,Mv 13 94])) (Rg [Mv 84 14,Bc 85 .add 84 1,Mv 14 85]))
def ua:IR:=Sq (Rs [Mv 95 11,Mv 96 95,Gt 96 (.mov 97 13),Gt 96 (.un 98 .not 97),Pa 99 96 98] (Cn 99 (Rg [Mv 100 0,Ca 101 110 [100,kI 6]]) .skip)) (Rs [Mv 102 0,Nk 103 102,Fa 104 1 103,Lo 105 104,Bc 106 .eql 105 0] (Cn 106 (.gh (.opn (.cell 0 0)) (.ghp (.cls (.cell 0 0)) (.reg [Mv 107 0,Nk 108 107,Fa 109 0 108,Fa 110 0 109,Fo [0] [] (.ld 111 1 false false 110),Mv 112 2,Mv 113 0,Nk 114 113,Fa 115 0 114,Fa 116 0 115,Fo [0] [] (.ld 117 1 false false 116),Mv 118 2,Mv 119 0,Nk 120 119,Fa 121 0 120,Fa 122 0 121,Fo [0] [] (.ld 123 1 false false 122),Mv 124 2,Mv 125 6,Mv 126 11,Mv 127 12,Pp (.ixw 128 .atype 111 112),Pp (.fdw 129 4 128),Fo [] [1] (.stw none 1 129 125),Pp (.ixw 130 .atype 117 118),Pp (.fdw 131 5 130),Fo [] [1] (.stw none 1 131 126),Pp (.ixw 132 .atype 123 124),Pp (.fdw 133 6 132),Fo [] [1] (.stw none 1 133 127)] [[],[0],[0,1],[0,1,2],rg 0 3,[],[],[6],[6,7],[6,7,8],rg 6 9,[],[],[12],[12,13],[12,13,14],rg 12 15,[],[],[],[],rg 0 10++rg 12 16++[18],rg 0 10++rg 12 16++[18]++[21],rg 0 10++rg 12 16++[18]++[21,22],rg 0 16++[18,19]++[21,22,23],rg 0 16++[18,19]++rg 21 24,rg 0 16++[18,19]++rg 21 25,rg 0 26,rg 0 27,rg 0 28]))) .skip))
def nj:IR:=Rs [Ld 73 5 true 4,Ca 74 113 [73,kS [100,101,102,97,117,108,116]],Mv 72 74,Ex_ 75 0 72,Ex_ 76 1 72,Pp (.alr 10 5),Fz 10 5 75,Mv 11 76] (Rs [Mv 77 0,Ld 78 5 true 4,Ca 79 140 [77,78,kS [100,101,102,97,117,108,116],kB false],Mv 12 79] (Rs [Mb 13 false] (Sq (Rs [Mi 14 0] (.block 4 (.loop [0,2,6,11,12,13,14,1000002] 1 t9))) ua)))
def aeH:IR:=Rs [Bx 4 1] (Rs [Mv 16 0,Ld 17 5 true 4,Ca 18 143 [16,17,kS [115,121,109,98,111,108,115]],Mv 15 18,Ex_ 19 0 15,Ex_ 20 1 15,Mv 6 19,Mv 7 20] (Sq (Rs [Mv 21 7,Un 22 21] (Cn 22 (Rg [Mv 23 0,Ca 24 110 [23,kI 2]]) .skip)) (Sq (Rs [Mv 25 6,Ll 26 25,Bc 27 .eql 26 0] (Cn 27 (Rg [Mv 28 0,Ca 29 110 [28,kI 6]]) .skip)) (Sq (Rs [Mv 30 6,Ll 31 30,Bc 32 .gtr 31 30] (Cn 32 (Rg [Mv 33 0,Ca 34 110 [33,kI 3]]) .skip)) (Sq (Rs [Mi 8 0] (.block 0 (.loop [0,2,4,6,8,1000001] 1 iy))) nj)))))
def lc:List RV:=[]
theorem aeI:FnC Try.prog bP [110,140,143,2000110,2000140,2000143] 1 xM Try.f145 aeH lc:=fnC Try.func145
def jJ(R:IR→(Ex→St→Ro)→St→Ro)(a:St→Ro):Ex→St→Ro:=(bk a [0,2,4,6,8,1000001] 1 (aP 0 (bj (R nj) (fin lc))))
abbrev da:Type:=(Int×Int×Int×Bs×List aB×Bss×Bss×Int×List aA×Int)
def bx:da→St:=fun(a,b,c,d,e,f,g,h,i,j)=>{env:=(.ptr 0 0::.undef::.int .i64 a::.undef::.ea [.int .i64 b,.int .i64 c,.str d,.sl .jnode (.may false) e,.sl .str (.may false) f]::.undef::.sl .str (.may false) g::.undef::.int .i64 h::(U 125 [])),hp:=[some [.ul .atype i,.int .i64 j]]}
def adA(R:IR→(Ex→St→Ro)→St→Ro)(a b:St→Ro):Ex→St→Ro:=(bk b [0,2,4,6,8,9,1000000] 1 (aP 2 (aP 1 (bj (R t7) (jJ R a)))))
abbrev jK:Type:=(Int×Int×Int×Bs×List aB×Bss×Bss×Int×Int×List aA×Int)
def fR:jK→St:=fun(b,c,d,e,f,g,h,i,j,k,a)=>{env:=(.ptr 0 0::.undef::.int .i64 b::.undef::.ea [.int .i64 c,.int .i64 d,.str e,.sl .jnode (.may false) f,.sl .str (.may false) g]::.undef::.sl .str (.may false) h::.undef::.int .i64 i::.int .i64 j::(U 124 [])),hp:=[some [.ul .atype k,.int .i64 a]]}
def jL(N:Nat)(a:St→Ro):(St→Ro)→St→Ro:=fun b s=>run bP N uW (adA (run bP N) a b) s
def eK(N:Nat)(i:da→Ro)(a:jK→Ro):jK→Ro:=fun(m,b,c,d,e,f,j,k,l,g,h)=>
 cond (decide (l<k)) (
 chk (ixl l j) (
 let o:=List.getD j (Int.toNat l) (aG .str)
 chk (ixl k j) (
 let p:=List.getD j (Int.toNat k) (aG .str)
 cond (decide (o=p)) (
 aF (aK g h 5) (fun n=>
 let q:=(IntKind.wrap .i64 (l+1))
 a (m,b,c,d,e,f,j,k,q,n.2.1,n.2.2))) (
 let r:=(IntKind.wrap .i64 (l+1))
 a (m,b,c,d,e,f,j,k,r,g,h))))) (
 let s:=(IntKind.wrap .i64 (k+1))
 i (m,b,c,d,e,f,j,s,g,h))
theorem adf(N:Nat)(a:St→Ro):LB (jL N a) fR (eK N (fun y=>a (bx y))):=fun _ _=>by kernel_rfl
def adB(R:IR→(Ex→St→Ro)→St→Ro)(a:St→Ro):Ex→St→Ro:=(bk a [0,2,6,11,12,13,14,1000002] 1 (aP 4 (bj (R ua) (fin lc))))
abbrev jM:Type:=(Int×Bss×Bool×Bs×Bool×Int×List aA×Int)
def fS:jM→St:=fun(a,b,c,d,e,f,g,h)=>{env:=(.ptr 0 0::.undef::.int .i64 a::(U 3 (.sl .str (.may false) b::(U 4 (.bool c::.str d::.bool e::.int .i64 f::(U 119 [])))))),hp:=[some [.ul .atype g,.int .i64 h]]}
def jN(N:Nat):(St→Ro)→St→Ro:=fun a s=>run bP N t9 (adB (run bP N) a) s
def eL(N:Nat)(f:jM→Ro):jM→Ro:=fun(c,j,g,h,q,i,b,d)=>
 let u:=(↑(List.length j):Int)
 let v:=fun w x=>(some (.tup [],[some [.ul .atype w,.int .i64 x],none,none]):Ro)
 let y:=fun w x=>(some (.tup [],[some [.ul .atype w,.int .i64 x]]):Ro)
 cond (decide (i<u)) (
 cond q (
 let z:=(IntKind.wrap .i64 (i+1))
 f (c,j,g,h,true,z,b,d)) (
 chk (ixl i j) (
 let aa:=List.getD j (Int.toNat i) (aG .str)
 let ab:=(IntKind.wrap .i64 (i+1))
 f (c,j,g,h,decide (aa=h),ab,b,d)))) (
 cond g (
 cond (!q) (
 aF (aK b d 6) (fun e=>
 cond (e.2.2==0) (
 chk (decide (0<List.length e.2.1)) (
 chk (decide (0≤c)&&decide (c<↑(List.length e.2.1))) (
 chk (decide ((Int.toNat c)<List.length e.2.1)) (
 let k:=(List.set e.2.1 (Int.toNat c) (let a:=List.getD e.2.1 (Int.toNat c) (aG .atype);⟨a.kind,a.name,a.aliases,a.items,j,a.hasdef,a.df,a.size,a.fields,a.branches⟩))
 chk (decide (0≤c)&&decide (c<↑(List.length e.2.1))) (
 chk (decide ((Int.toNat c)<List.length k)) (
 let l:=(List.set k (Int.toNat c) (let a:=List.getD k (Int.toNat c) (aG .atype);⟨a.kind,a.name,a.aliases,a.items,a.syms,g,a.df,a.size,a.fields,a.branches⟩))
 chk (decide (0≤c)&&decide (c<↑(List.length e.2.1))) (
 chk (decide ((Int.toNat c)<List.length l)) (
 let r:=(List.set l (Int.toNat c) (let a:=List.getD l (Int.toNat c) (aG .atype);⟨a.kind,a.name,a.aliases,a.items,a.syms,a.hasdef,h,a.size,a.fields,a.branches⟩))
 chk (Nat.beq (List.length e.2.1) (List.length r)) (
 v r e.2.2))))))))) (
 y e.2.1 e.2.2))) (
 cond (d==0) (
 chk (decide (0<List.length b)) (
 chk (decide (0≤c)&&decide (c<↑(List.length b))) (
 chk (decide ((Int.toNat c)<List.length b)) (
 let m:=(List.set b (Int.toNat c) (let a:=List.getD b (Int.toNat c) (aG .atype);⟨a.kind,a.name,a.aliases,a.items,j,a.hasdef,a.df,a.size,a.fields,a.branches⟩))
 chk (decide (0≤c)&&decide (c<↑(List.length b))) (
 chk (decide ((Int.toNat c)<List.length m)) (
 let n:=(List.set m (Int.toNat c) (let a:=List.getD m (Int.toNat c) (aG .atype);⟨a.kind,a.name,a.aliases,a.items,a.syms,g,a.df,a.size,a.fields,a.branches⟩))
 chk (decide (0≤c)&&decide (c<↑(List.length b))) (
 chk (decide ((Int.toNat c)<List.length n)) (
 let s:=(List.set n (Int.toNat c) (let a:=List.getD n (Int.toNat c) (aG .atype);⟨a.kind,a.name,a.aliases,a.items,a.syms,a.hasdef,h,a.size,a.fields,a.branches⟩))
 chk (Nat.beq (List.length b) (List.length s)) (
 v s d))))))))) (
 y b d))) (
 cond (d==0) (
 chk (decide (0<List.length b)) (
 chk (decide (0≤c)&&decide (c<↑(List.length b))) (
 chk (decide ((Int.toNat c)<List.length b)) (
 let o:=(List.set b (Int.toNat c) (let a:=List.getD b (Int.toNat c) (aG .atype);⟨a.kind,a.name,a.aliases,a.items,j,a.hasdef,a.df,a.size,a.fields,a.branches⟩))
 chk (decide (0≤c)&&decide (c<↑(List.length b))) (
 chk (decide ((Int.toNat c)<List.length o)) (
 let p:=(List.set o (Int.toNat c) (let a:=List.getD o (Int.toNat c) (aG .atype);⟨a.kind,a.name,a.aliases,a.items,a.syms,g,a.df,a.size,a.fields,a.branches⟩))
 chk (decide (0≤c)&&decide (c<↑(List.length b))) (
 chk (decide ((Int.toNat c)<List.length p)) (
 let t:=(List.set p (Int.toNat c) (let a:=List.getD p (Int.toNat c) (aG .atype);⟨a.kind,a.name,a.aliases,a.items,a.syms,a.hasdef,h,a.size,a.fields,a.branches⟩))
 chk (Nat.beq (List.length b) (List.length t)) (
 v t d))))))))) (
 y b d)))
theorem adg(N:Nat):LB (jN N) fS (eL N):=fun _ _=>by kernel_rfl
def jO(N:Nat):(St→Ro)→St→Ro:=fun a s=>run bP N iy (jJ (run bP N) a) s
def iY(N:Nat)(k:da→Ro)(o:jK→Ro)(p:jM→Ro):da→Ro:=fun(l,a,b,c,d,e,h,j,g,f)=>
 let r:=(↑(List.length h):Int)
 cond (decide (j<r)) (
 cond (f==0) (
 chk (ixl j h) (
 let s:=List.getD h (Int.toNat j) (aG .str)
 aF (kG s) (fun(t:Bool)=>
 cond (!t) (
 aF (aK g f 6) (fun q=>
 o (l,a,b,c,d,e,h,j,0,q.2.1,q.2.2))) (
 o (l,a,b,c,d,e,h,j,0,g,f))))) (
 aF (dx a b c d e ([100,101,102,97,117,108,116]:Bs)) (fun u=>
 aF (eC g f a b c d e ([100,101,102,97,117,108,116]:Bs) false) (fun m=>
 p (l,h,u.2.2.2.2.2,m.1,false,0,m.2.1,m.2.2))))) (
 aF (dx a b c d e ([100,101,102,97,117,108,116]:Bs)) (fun n=>
 aF (eC g f a b c d e ([100,101,102,97,117,108,116]:Bs) false) (fun i=>
 p (l,h,n.2.2.2.2.2,i.1,false,0,i.2.1,i.2.2))))
def gb(N:Nat)(a:da→Ro)(x:da):Ro:=iY N a (fun z=>aS N (eK N a) z) (fun z=>aS N (eL N) z) x
def oz(N:Nat)(a:St→Ro):List (Nat×(St→Ro)):=(bQ bP N iy (jJ (run bP N) a)++(bQ bP N nj (fin lc)++[]))
theorem adh(N:Nat):∀(a:St→Ro)(x:da),jO N a (bx x)=gb N (fun y=>a (bx y)) x:=by
 intro a x
 have hX:∀C:Nat→St→Ro,bT C bP N iy (jJ (bT C bP N) a) (bx x)=iY N (fun y=>a (bx y)) (fun z=>C 1000000 (fR z)) (fun z=>C 1000002 (fS z)) x:=by
  intro C
  kernel_rfl
 have h:jO N a (bx x)=iY N (fun y=>a (bx y)) (fun z=>aW N (jL N a) (fR z)) (fun z=>aW N (jN N) (fS z)) x:=(cW (C:=fb (oz N a)) (bS (ba (l:=(oz N a)) (by kernel_rfl))) (iD (cD (fI (bS (dR (ba (l:=(oz N a)) (by kernel_rfl)))) rfl))) _).trans ((hX _).trans (by kernel_rfl))
 have e1:(fun z=>aW N (jL N a) (fR z))=(fun z=>aS N (eK N (fun y=>a (bx y))) z):=funext fun z=>aV (fR) (jL N a) (eK N (fun y=>a (bx y))) (adf N a) N z
 have e2:(fun z=>aW N (jN N) (fS z))=(fun z=>aS N (eL N) z):=funext fun z=>aV (fS) (jN N) (eL N) (adg N) N z
 rw[h,e1,e2]
 rfl
def gQ(N:Nat)(k:List aA)(l a b:Int)(c:Bs)(d:List aB)(e:Bss)(h:Int)(i:da→Ro):Ro:=
 aF (dy k l a b c d e ([115,121,109,98,111,108,115]:Bs)) (fun f=>
 cond (!f.2.1) (
 aF (aK f.2.2.1 f.2.2.2 2) (fun j=>
 let v:=(↑(List.length f.1):Int)
 cond (v==0) (
 aF (aK j.2.1 j.2.2 6) (fun p=>
 let w:=(↑(List.length f.1):Int)
 cond (decide (30<w)) (
 aF (aK p.2.1 p.2.2 3) (fun u=>
 i (h,a,b,c,d,e,f.1,0,u.2.1,u.2.2))) (
 i (h,a,b,c,d,e,f.1,0,p.2.1,p.2.2)))) (
 let q:=(↑(List.length f.1):Int)
 cond (decide (30<q)) (
 aF (aK j.2.1 j.2.2 3) (fun m=>
 i (h,a,b,c,d,e,f.1,0,m.2.1,m.2.2))) (
 i (h,a,b,c,d,e,f.1,0,j.2.1,j.2.2))))) (
 let r:=(↑(List.length f.1):Int)
 cond (r==0) (
 aF (aK f.2.2.1 f.2.2.2 6) (fun g=>
 let s:=(↑(List.length f.1):Int)
 cond (decide (30<s)) (
 aF (aK g.2.1 g.2.2 3) (fun n=>
 i (h,a,b,c,d,e,f.1,0,n.2.1,n.2.2))) (
 i (h,a,b,c,d,e,f.1,0,g.2.1,g.2.2)))) (
 let t:=(↑(List.length f.1):Int)
 cond (decide (30<t)) (
 aF (aK f.2.2.1 f.2.2.2 3) (fun o=>
 i (h,a,b,c,d,e,f.1,0,o.2.1,o.2.2))) (
 i (h,a,b,c,d,e,f.1,0,f.2.2.1,f.2.2.2)))))
def wH(N:Nat)(a:List aA)(b c d:Int)(e:Bs)(f:List aB)(g:Bss)(h:Int):Ro:=gQ N a b c d e f g h (fun z=>aS N (gb N) z)
theorem adC(N:Nat)(a:List aA)(c d g:Int)(i:Bs)(j:List aB)(k:Bss)(l:Int)(h:Tot (wH N a c d g i j k l) (fun z=>∃(m:List aA)(n:Int)(rest:List aJ),z.1.dimR=.tup []∧z.2=some [.ul .atype m,.int .i64 n]::rest∧d7 a c d g i j k l (m,n))):∃r,hY a c d g i j k l r:=FnC.finO (css:=[[.ul .atype a,.int .i64 c]]) aeI (N:=N) ((bu _ (by kernel_rfl) rfl (fun C=>gQ N a c d g i j k l (fun z=>C 1000001 (bx z))) (fun C=>by kernel_rfl)).trans (Eq.trans (b:=gQ N a c d g i j k l (fun z=>aW N (jO N) (bx z))) (by kernel_rfl) (congrArg (gQ N a c d g i j k l) (funext fun z=>aV (bx) (jO N) (gb N) (adh N) N z)))) h fun _ ⟨m,n,_,e,f,q⟩=>⟨(m,n),e,⟨_,f⟩,q⟩
noncomputable def uX:aL:=tab (P:=Try.prog) [] [dk,pP,aaE] [] [ai7]
def xY:IR:=Sq (Rs [Mv 26 9,Mv 27 1,Pp (.lens 28 27),Bi 29 .lss 26 28] (Cn 29 .skip (.exit 0))) (Sq (.block 1 (Rg [Mv 32 8,Mv 33 32,Gf 33 (.mov 34 1),Gf 33 (.mov 35 9),Gf 33 (.idx 36 34 35),Gf 33 (.bin 37 .eql 36 (.c (.int .u8 46))),Po 38 33 37,Mv 8 38])) (Rg [Mv 30 9,Bc 31 .add 30 1,Mv 9 31]))
def wI:IR:=Sq (Rs [Mv 39 8,Un 40 39,Mv 41 40,Gt 41 (.mov 42 2),Gt 41 (.bin 43 .neq 42 (kS [])),Pa 44 41 43] (Cn 44 (Rs [Mv 46 0,Mv 47 2,Pp (.bin 48 .add 47 (kS [46])),Mv 49 1,Bi 50 .add 48 49,Ca 51 138 [46,50],Mv 45 51,Ex_ 52 0 45,Ex_ 53 1 45,Mv 10 52,Mv 11 53] (Rs [Mv 54 11] (Cn 54 (Rs [Mv 55 10,Mv 6 55] .ret) .skip))) .skip)) (Rs [Mv 57 0,Mv 58 1,Ca 59 138 [57,58],Mv 56 59,Ex_ 60 0 56,Ex_ 61 1 56,Mv 12 60,Mv 13 61] (Sq (Rs [Mv 62 13,Un 63 62] (Cn 63 (Rs [Mv 64 0,Ca 65 110 [64,kI 4],Mv 6 65] .ret) .skip)) (Rs [Mv 66 12,Mv 6 66] .ret)))
def aiu:IR:=Rs [Mi 6 0] (Rs [Mv 14 1,Ca 15 115 [14],Mv 7 15] (Sq (Rs [Mv 16 7,Bc 17 .geq 16 1,Mv 18 17,Gt 18 (.mov 19 7),Gt 18 (.bin 20 .leq 19 (kI 8)),Pa 21 18 20] (Cn 21 (Rs [Mv 22 0,Mv 23 7,Pp (.bld 24 [vI 0,vS,fu .str true,vI 0,fu .str true,.bool false,vS,vI 0,fu .afield true,fu (.num .i64) true] [(0,1,23)]),Ca 25 116 [22,24],Mv 6 25] .ret) .skip)) (Rs [Mb 8 false] (Sq (Rs [Mi 9 0] (.block 0 (.loop [0,1,2,8,9,1000000] 1 xY))) wI))))
def zL:List RV:=[.t 6]
theorem aiv:FnC Try.prog uX [110,116,138,2000110,2000116,2000138] 1 aaB Try.f111 aiu zL:=fnC Try.func111
def agZ(R:IR→(Ex→St→Ro)→St→Ro)(a:St→Ro):Ex→St→Ro:=(bk a [0,1,2,8,9,1000000] 1 (aP 0 (bj (R wI) (fin zL))))
abbrev nk:Type:=(Bs×Bs×Bool×Int×List aA×Int)
def lY:nk→St:=fun(a,b,c,d,e,f)=>{env:=(.ptr 0 0::.str a::.str b::(U 5 (.bool c::.int .i64 d::(U 57 [])))),hp:=[some [.ul .atype e,.int .i64 f]]}
def rT(N:Nat):(St→Ro)→St→Ro:=fun a s=>run uX N xY (agZ (run uX N) a) s
def iZ(N:Nat)(c:nk→Ro):nk→Ro:=fun(d,i,n,j,a,b)=>
 let p:=(↑(List.length d):Int)
 cond (decide (j<p)) (
 cond n (
 let q:=(IntKind.wrap .i64 (j+1))
 c (d,i,true,q,a,b)) (
 chk (ixl j d) (
 let r:=(↑(UInt8.toNat (List.getD d (Int.toNat j) 0)):Int)
 let s:=(IntKind.wrap .i64 (j+1))
 c (d,i,(r==46),s,a,b)))) (
 cond (!n) (
 let t:=(!decide (i=([]:Bs)))
 cond t (
 chk (decide (List.length i+List.length ([46]:Bs)≤9223372036854775807)) (
 let o:=(i++([46]:Bs))
 chk (decide (List.length o+List.length d≤9223372036854775807)) (
 aF (dl a b (o++d)) (fun e=>
 cond e.2.1 (
 some (.int .i64 e.1,[some [.ul .atype e.2.2.1,.int .i64 e.2.2.2]])) (
 aF (dl e.2.2.1 e.2.2.2 d) (fun f=>
 cond (!f.2.1) (
 aF (aK f.2.2.1 f.2.2.2 4) (fun k=>
 some (.int .i64 k.1,[some [.ul .atype k.2.1,.int .i64 k.2.2]]))) (
 some (.int .i64 f.1,[some [.ul .atype f.2.2.1,.int .i64 f.2.2.2]])))))))) (
 aF (dl a b d) (fun g=>
 cond (!g.2.1) (
 aF (aK g.2.2.1 g.2.2.2 4) (fun l=>
 some (.int .i64 l.1,[some [.ul .atype l.2.1,.int .i64 l.2.2]]))) (
 some (.int .i64 g.1,[some [.ul .atype g.2.2.1,.int .i64 g.2.2.2]]))))) (
 aF (dl a b d) (fun h=>
 cond (!h.2.1) (
 aF (aK h.2.2.1 h.2.2.2 4) (fun m=>
 some (.int .i64 m.1,[some [.ul .atype m.2.1,.int .i64 m.2.2]]))) (
 some (.int .i64 h.1,[some [.ul .atype h.2.2.1,.int .i64 h.2.2.2]])))))
theorem afS(N:Nat):LB (rT N) lY (iZ N):=fun _ _=>by kernel_rfl
def kg(N:Nat)(a:List aA)(b:Int)(c f:Bs)(g:nk→Ro):Ro:=
 aF (nK c) (fun(d:Int)=>
 cond (decide (1≤d)) (
 cond (decide (d≤8)) (
 aF (fj a b d ([]:Bs) ([]:Bss) 0 ([]:Bss) false ([]:Bs) 0 ([]:List aM) ([]:List Int)) (fun e=>
 some (.int .i64 e.1,[some [.ul .atype e.2.1,.int .i64 e.2.2]]))) (
 g (c,f,false,0,a,b))) (
 g (c,f,false,0,a,b)))
def zM(N:Nat)(a:List aA)(b:Int)(c d:Bs):Ro:=kg N a b c d (fun z=>aS N (iZ N) z)
theorem ag0(N:Nat)(a:List aA)(c:Int)(d g:Bs)(h:Tot (zM N a c d g) (fun z=>∃(i:Int)(j:List aA)(k:Int)(rest:List aJ),z.1.dimR=.int .i64 i∧z.2=some [.ul .atype j,.int .i64 k]::rest∧qc a c d g (i,j,k))):∃r,hU a c d g r:=FnC.finO (css:=[[.ul .atype a,.int .i64 c]]) aiv (N:=N) ((bu _ (by kernel_rfl) rfl (fun C=>kg N a c d g (fun z=>C 1000000 (lY z))) (fun C=>by kernel_rfl)).trans (Eq.trans (b:=kg N a c d g (fun z=>aW N (rT N) (lY z))) (by kernel_rfl) (congrArg (kg N a c d g) (funext fun z=>aV (lY) (rT N) (iZ N) (afS N) N z)))) h fun _ ⟨i,j,k,_,e,f,q⟩=>⟨(i,j,k),e,⟨_,f⟩,q⟩
noncomputable def cU:aL:=tab (P:=Try.prog) [] [oK,dk,pP] [139] [atd]
def vM:IR:=Sq (Rs [Mv 70 13,Mv 71 10,Ll 72 71,Bi 73 .lss 70 72] (Cn 73 .skip (.exit 2))) (Sq (.block 3 (Sq (.gh (.opn (.cell 0 0)) (.ghp (.cls (.cell 0 0)) (.reg [Mv 76 0,Nk 77 76,Fa 78 0 77,Fo [0] [] (.ld 79 1 true false 78),Mv 80 10,Mv 81 13,Ix 82 (.num .i64) 80 81,Lq 83 82,Fo [1] [] (.call 84 139 [79,83]),Mv 85 0,Nk 86 85,Fa 87 0 86,Fo [0] [] (.ld 88 1 true false 87),Mv 89 12,Fo [1] [] (.call 90 139 [88,89]),Bi 91 .eql 84 90] [[],[0],[0,1],[0,1,2],[],[],[4,5],[4,5,6],rg 0 7,[],[9],[9,10],[9,10,11],[],rg 0 13,rg 0 14]))) (Cn 91 (Rs [Mv 92 0,Ca 93 110 [92,kI 6],Mv 8 93] .ret) .skip))) (Rg [Mv 74 13,Bc 75 .add 74 1,Mv 13 75]))
def vN:IR:=Rg [Pp (.mov 94 (.tk 10)),Mv 95 12,Pp (.bsl 96 (.num .i64) [95] true),Pp (.app 97 (.num .i64) (.tk 94) 96),Pp (.mov 10 (.tk 97))]
def vO:IR:=Rg [Mv 41 11,Bc 42 .add 41 1,Mv 11 42]
def jP:IR:=Sq (Rs [Mv 29 11,Fa 30 3 5,Lq 31 30,Ll 32 31,Bi 33 .lss 29 32,Mv 34 33,Gt 34 (.mov 35 0),Gt 34 (.nck 36 35),Gt 34 (.fad 37 1 36),Gt 34 (.ld 38 1 false false 37),Gt 34 (.bin 39 .eql 38 (kI 0)),Pa 40 34 39] (Cn 40 .skip (.exit 0))) (Sq (.block 1 (Rs [Mv 43 0,Fa 44 3 5,Lq 45 44,Mv 46 11,Ix 47 .jnode 45 46,Ld 48 5 true 47,Mv 49 2,Mv 50 3,Bc 51 .add 50 1,Ca 52 72 [43,48,49,51],Mv 12 52] (Sq (Rs [Mv 53 0,Nk 54 53,Fa 55 1 54,Lo 56 55,Bc 57 .neq 56 0] (Cn 57 (Rs [Mi 8 0] .ret) .skip)) (Sq (Sq (.gh (.opn (.cell 0 0)) (.ghp (.cls (.cell 0 0)) (Rg [Mv 58 0,Nk 59 58,Fa 60 0 59,Fa 61 0 60,Lo 62 61,Mv 63 12,Pp (.ixw 64 .atype 62 63),Pp (.fdw 65 0 64),Pp (.ldw 66 1 false 65),Bc 67 .eql 66 14]))) (Cn 67 (Rs [Mv 68 0,Ca 69 110 [68,kI 6],Mv 8 69] .ret) .skip)) (Sq (Rs [Mi 13 0] (.block 2 (.loop [0,2,3,5,9,10,11,12,13,1000000] 1 vM))) vN))))) vO)
def oA:IR:=Sq (Rs [Mv 98 0,Nk 99 98,Fa 100 1 99,Lo 101 100,Bc 102 .eql 101 0] (Cn 102 (.gh (.opn (.cell 0 0)) (.ghp (.cls (.cell 0 0)) (Rg [Mv 103 0,Nk 104 103,Fa 105 0 104,Fa 106 0 105,Lo 107 106,Mv 108 9,Mv 109 10,Pp (.ixw 110 .atype 107 108),Pp (.fdw 111 9 110),Pp (.stw none 1 111 109)]))) .skip)) (Rs [Mv 112 9,Mv 8 112] .ret)
def ag1:IR:=Rs [Bx 5 1,Mi 8 0] (Rs [Mv 14 0,Pp (.bld 15 [vI 0,vS,fu .str true,vI 0,fu .str true,.bool false,vS,vI 0,fu .afield true,fu (.num .i64) true] [(0,1,kI 14)]),Ca 16 116 [14,15],Mv 9 16] (Sq (Rs [Fa 17 3 5,Lq 18 17,Ll 19 18,Bc 20 .eql 19 0] (Cn 20 (Rs [Mv 21 0,Ca 22 110 [21,kI 6],Mv 8 22] .ret) .skip)) (Sq (Rs [Fa 23 3 5,Lq 24 23,Ll 25 24,Bc 26 .gtr 25 30] (Cn 26 (Rs [Mv 27 0,Ca 28 110 [27,kI 3],Mv 8 28] .ret) .skip)) (Rs [Pp (.mov 10 (.c (nl (.num .i64))))] (Sq (Rs [Mi 11 0] (.block 0 (.loop [0,2,3,5,9,10,11,1000001] 1 jP))) oA)))))
def rU:List RV:=[.t 8]
theorem ag2:FnC Try.prog cU [72,110,116,139,2000072,2000110,2000116,2000139] 1 zy Try.f112 ag1 rU:=fnC Try.func112
def lZ(R:IR→(Ex→St→Ro)→St→Ro)(a:St→Ro):Ex→St→Ro:=(bk a [0,2,3,5,9,10,11,1000001] 1 (aP 0 (bj (R oA) (fin rU))))
abbrev dz:Type:=(Bs×Int×Int×Int×Bs×List aB×Bss×Int×List Int×Int×List aA×Int)
def bJ:dz→St:=fun(c,d,e,f,g,h,i,j,k,l,a,b)=>{env:=(.ptr 0 0::.undef::.str c::.int .i64 d::.undef::.ea [.int .i64 e,.int .i64 f,.str g,.sl .jnode (.may false) h,.sl .str (.may false) i]::(U 3 (.int .i64 j::.sl (.num .i64) .own k::.int .i64 l::(U 101 [])))),hp:=[some [.ul .atype a,.int .i64 b]]}
def afT(R:IR→(Ex→St→Ro)→St→Ro)(a b:St→Ro):Ex→St→Ro:=(bk b [0,2,3,5,9,10,11,12,13,1000000] 1 (aP 2 (bj (R vN) (aP 1 (bj (R vO) (lZ R a))))))
abbrev l7:Type:=(Bs×Int×Int×Int×Bs×List aB×Bss×Int×List Int×Int×Int×Int×List aA×Int)
def gR:l7→St:=fun(e,f,g,h,i,j,k,l,m,n,a,b,c,d)=>{env:=(.ptr 0 0::.undef::.str e::.int .i64 f::.undef::.ea [.int .i64 g,.int .i64 h,.str i,.sl .jnode (.may false) j,.sl .str (.may false) k]::(U 3 (.int .i64 l::.sl (.num .i64) .own m::.int .i64 n::.int .i64 a::.int .i64 b::(U 99 [])))),hp:=[some [.ul .atype c,.int .i64 d]]}
def l8(N:Nat)(a:St→Ro):(St→Ro)→St→Ro:=fun b s=>run cU N vM (afT (run cU N) a b) s
def ip(N:Nat)(d:dz→Ro)(e:l7→Ro):l7→Ro:=fun(q,r,h,i,j,k,l,s,b,m,f,g,a,c)=>
 let t:=(↑(List.length b):Int)
 cond (decide (g<t)) (
 chk (decide (0<List.length a)) (
 chk (ixl g b) (
 let u:=List.getD b (Int.toNat g) (aG (.num .i64))
 aq8 (sN a u) (Nat.beq (List.length a) (List.length a)&&true) (fun(v:Bs)=>
 aq8 (sN a f) (Nat.beq (List.length a) (List.length a)&&true) (fun(w:Bs)=>
 chk (Nat.beq (List.length a) (List.length a)) (
 cond (decide (v=w)) (
 aF (aK a c 6) (fun n=>
 some (.int .i64 n.1,[some [.ul .atype n.2.1,.int .i64 n.2.2],none,none]))) (
 let x:=(IntKind.wrap .i64 (g+1))
 e (q,r,h,i,j,k,l,s,b,m,f,x,a,c)))))))) (
 chk (decide ((List.length b+List.length ([f]:List Int))*8≤140737488355328)) (
 let o:=(b++([f]:List Int))
 let p:=(IntKind.wrap .i64 (m+1))
 d (q,r,h,i,j,k,l,s,o,p,a,c)))
theorem aeJ(N:Nat)(a:St→Ro):LB (l8 N a) gR (ip N (fun y=>a (bJ y))):=fun _ _=>by kernel_rfl
def l9(N:Nat):(St→Ro)→St→Ro:=fun a s=>run cU N jP (lZ (run cU N) a) s
def lg(N:Nat)(r:dz→Ro)(y:l7→Ro):dz→Ro:=fun(v,w,i,j,k,e,m,f,h,g,a,b)=>
 let z:=(↑(List.length e):Int)
 let t:=fun g0 g1 g2=>(some (.int .i64 g0,[some [.ul .atype g1,.int .i64 g2],none,none]):Ro)
 let x:=(some (.int .i64 f,[some [.ul .atype a,.int .i64 b]]):Ro)
 cond (decide (g<z)) (
 cond (b==0) (
 chk (ixl g e) (
 let o:=(List.getD e (Int.toNat g) (aG .jnode))
 let x5:=(IntKind.wrap .i64 (w+1))
 aF (cP a b o.kind o.n o.s o.l o.names v x5) (fun d=>
 cond (!(d.2.2==0)) (
 some (.int .i64 0,[some [.ul .atype d.2.1,.int .i64 d.2.2]])) (
 chk (decide (0<List.length d.2.1)) (
 chk (decide (0≤d.1)&&decide (d.1<↑(List.length d.2.1))) (
 chk (decide ((Int.toNat d.1)<List.length d.2.1)) (
 let x6:=(List.getD d.2.1 (Int.toNat d.1) (aG .atype)).kind
 chk (Nat.beq (List.length d.2.1) (List.length d.2.1)) (
 cond (x6==14) (
 aF (aK d.2.1 d.2.2 6) (fun u=>
 t u.1 u.2.1 u.2.2)) (
 y (v,w,i,j,k,e,m,f,h,g,d.1,0,d.2.1,d.2.2)))))))))) (
 cond (b==0) (
 chk (decide (0<List.length a)) (
 chk (decide (0≤f)&&decide (f<↑(List.length a))) (
 chk (decide ((Int.toNat f)<List.length a)) (
 let p:=(List.set a (Int.toNat f) (let c:=List.getD a (Int.toNat f) (aG .atype);⟨c.kind,c.name,c.aliases,c.items,c.syms,c.hasdef,c.df,c.size,c.fields,h⟩))
 chk (Nat.beq (List.length a) (List.length p)) (
 t f p b))))) (
 x))) (
 cond (b==0) (
 chk (decide (0<List.length a)) (
 chk (decide (0≤f)&&decide (f<↑(List.length a))) (
 chk (decide ((Int.toNat f)<List.length a)) (
 let q:=(List.set a (Int.toNat f) (let c:=List.getD a (Int.toNat f) (aG .atype);⟨c.kind,c.name,c.aliases,c.items,c.syms,c.hasdef,c.df,c.size,c.fields,h⟩))
 chk (Nat.beq (List.length a) (List.length q)) (
 t f q b))))) (
 x))
def ma(N:Nat)(a:dz→Ro)(x:dz):Ro:=lg N a (fun z=>aS N (ip N a) z) x
def qO(N:Nat)(a:St→Ro):List (Nat×(St→Ro)):=(bQ cU N jP (lZ (run cU N) a)++(bQ cU N oA (fin rU)++[]))
theorem aeK(N:Nat):∀(a:St→Ro)(x:dz),l9 N a (bJ x)=ma N (fun y=>a (bJ y)) x:=by
 intro a x
 have hX:∀C:Nat→St→Ro,bT C cU N jP (lZ (bT C cU N) a) (bJ x)=lg N (fun y=>a (bJ y)) (fun z=>C 1000000 (gR z)) x:=by
  intro C
  kernel_rfl
 have h:l9 N a (bJ x)=lg N (fun y=>a (bJ y)) (fun z=>aW N (l8 N a) (gR z)) x:=(cW (C:=fb (qO N a)) (bS (ba (l:=(qO N a)) (by kernel_rfl))) (iD (cD (fI (bS (dR (ba (l:=(qO N a)) (by kernel_rfl)))) rfl))) _).trans ((hX _).trans (by kernel_rfl))
 have e1:(fun z=>aW N (l8 N a) (gR z))=(fun z=>aS N (ip N (fun y=>a (bJ y))) z):=funext fun z=>aV (gR) (l8 N a) (ip N (fun y=>a (bJ y))) (aeJ N a) N z
 rw[h,e1]
 rfl
def i9(N:Nat)(c:List aA)(d e f:Int)(g:Bs)(a:List aB)(h:Bss)(k:Bs)(l:Int)(m:dz→Ro):Ro:=
 aF (fj c d 14 ([]:Bs) ([]:Bss) 0 ([]:Bss) false ([]:Bs) 0 ([]:List aM) ([]:List Int)) (fun b=>
 let n:=(↑(List.length a):Int)
 cond (n==0) (
 aF (aK b.2.1 b.2.2 6) (fun i=>
 some (.int .i64 i.1,[some [.ul .atype i.2.1,.int .i64 i.2.2]]))) (
 let o:=(↑(List.length a):Int)
 cond (decide (30<o)) (
 aF (aK b.2.1 b.2.2 3) (fun j=>
 some (.int .i64 j.1,[some [.ul .atype j.2.1,.int .i64 j.2.2]]))) (
 m (k,l,e,f,g,a,h,b.1,([]:List Int),0,b.2.1,b.2.2))))
def zn(N:Nat)(a:List aA)(b c d:Int)(e:Bs)(f:List aB)(g:Bss)(h:Bs)(i:Int):Ro:=i9 N a b c d e f g h i (fun z=>aS N (ma N) z)
theorem afU(N:Nat)(a:List aA)(c d g:Int)(i:Bs)(j:List aB)(k:Bss)(l:Bs)(m:Int)(h:Tot (zn N a c d g i j k l m) (fun z=>∃(n:Int)(o:List aA)(p:Int)(rest:List aJ),z.1.dimR=.int .i64 n∧z.2=some [.ul .atype o,.int .i64 p]::rest∧we a c d g i j k l m (n,o,p))):∃r,jU a c d g i j k l m r:=FnC.finO (css:=[[.ul .atype a,.int .i64 c]]) ag2 (N:=N) ((bu _ (by kernel_rfl) rfl (fun C=>i9 N a c d g i j k l m (fun z=>C 1000001 (bJ z))) (fun C=>by kernel_rfl)).trans (Eq.trans (b:=i9 N a c d g i j k l m (fun z=>aW N (l9 N) (bJ z))) (by kernel_rfl) (congrArg (i9 N a c d g i j k l m) (funext fun z=>aV (bJ) (l9 N) (ma N) (aeK N) N z)))) h fun _ ⟨n,o,p,_,e,f,q⟩=>⟨(n,o,p),e,⟨_,f⟩,q⟩
noncomputable def aY:aL:=tab (P:=Try.prog) [] [oK,dk,uq,sO] [] [rh,aem]
def ja:IR:=Sq (Rs [Mv 81 16,Mv 82 12,Ll 83 82,Bi 84 .lss 81 83] (Cn 84 .skip (.exit 2))) (Sq (.block 3 (Sq (.reg [Mv 87 12,Mv 88 16,Ix 89 .afield 87 88,Fa 90 0 89,Fo [] [] (.ld 91 1 false false 90),Fa 92 0 15,Fo [1] [] (.ld 93 1 false false 92),Bi 94 .eql 91 93] [[],[],[0,1],[0,1,2],rg 0 3,[],[5],rg 0 6]) (Cn 94 (Rg [Mv 95 0,Ca 96 110 [95,kI 5]]) .skip))) (Rg [Mv 85 16,Bc 86 .add 85 1,Mv 16 86]))
def uY:IR:=Sq (Rs [Mv 127 19,Fa 128 1 15,Lo 129 128,Ll 130 129,Bi 131 .lss 127 130,Mv 132 131,Gt 132 (.mov 133 0),Gt 132 (.nck 134 133),Gt 132 (.fad 135 1 134),Gt 132 (.ld 136 1 false false 135),Gt 132 (.bin 137 .eql 136 (kI 0)),Pa 138 132 137] (Cn 138 .skip (.exit 4))) (Sq (.block 5 (Rs [Fa 141 1 15,Lo 142 141,Mv 143 19,Ix 144 .str 142 143,Lq 145 144,Ca 146 161 [145],Un 147 146] (Cn 147 (Rg [Mv 148 0,Ca 149 110 [148,kI 6]]) .skip))) (Rg [Mv 139 19,Bc 140 .add 139 1,Mv 19 140]))
def uZ:IR:=Rg [Pp (.mov 150 (.tk 12)),Pp (.ld 151 9 true false 15),Pp (.bsl 152 .afield [151] true),Pp (.app 153 .afield (.tk 150) 152),Pp (.mov 12 (.tk 153))]
def n7:IR:=Rs [Ld 98 5 true 14,Ca 99 113 [98,kS [116,121,112,101]],Mv 97 99,Ex_ 100 0 97,Ex_ 101 1 97,Pp (.alr 17 5),Fz 17 5 100,Mv 18 101] (Sq (Rs [Mv 102 18,Un 103 102] (Cn 103 (Rg [Mv 104 0,Ca 105 110 [104,kI 2]]) .skip)) (Rs [Mv 106 0,Ld 107 5 true 17,Mv 108 3,Mv 109 4,Bc 110 .add 109 1,Ca 111 72 [106,107,108,110],Fa 112 2 15,Sv 1 112 111] (Rs [Ld 114 5 true 14,Ca 115 113 [114,kS [100,101,102,97,117,108,116]],Mv 113 115,Ex_ 116 0 113,Ex_ 117 1 113,Fa 118 4 15,Sv 5 118 116,Fa 119 3 15,Sv 1 119 117] (Rs [Mv 121 0,Ld 122 5 true 14,Ca 123 143 [121,122,kS [97,108,105,97,115,101,115]],Mv 120 123,Ex_ 124 0 120,Ex_ 125 1 120,Fa 126 1 15,Sk 1 126 124] (Sq (Rs [Mi 19 0] (.block 4 (.loop [0,2,3,4,10,12,13,15,19,1000001] 2 uY))) uZ)))))
def fT:IR:=Rg [Mv 52 13,Bc 53 .add 52 1,Mv 13 53]
def jb:IR:=Sq (Rs [Mv 40 13,Fa 41 3 10,Lq 42 41,Ll 43 42,Bi 44 .lss 40 43,Mv 45 44,Gt 45 (.mov 46 0),Gt 45 (.nck 47 46),Gt 45 (.fad 48 1 47),Gt 45 (.ld 49 1 false false 48),Gt 45 (.bin 50 .eql 49 (kI 0)),Pa 51 45 50] (Cn 51 .skip (.exit 0))) (Sq (.block 1 (Rs [Fa 54 3 10,Lq 55 54,Mv 56 13,Ix 57 .jnode 55 56,Ld 58 5 true 57,Pp (.alr 14 5),Fz 14 5 58] (Sq (Rs [Fa 59 0 14,Lq 60 59,Bc 61 .neq 60 6] (Cn 61 (Rs [Mv 62 0,Ca 63 110 [62,kI 2]] .ret) .skip)) (Rs [Mv 64 0,Ld 65 5 true 14,Ca 66 140 [64,65,kS [110,97,109,101],kB true],Pp (.bld 67 [vS,nl .str,vI 0,.bool false,vI 0,vI 0,vS,nl .jnode,nl .str] [(0,1,66)]),Pp (.new 15 [vS,nl .str,vI 0,.bool false,vI 0,vI 0,vS,nl .jnode,nl .str]),Sv 9 15 67] (Sq (Rs [Mv 68 0,Nk 69 68,Fa 70 1 69,Lo 71 70,Bc 72 .eql 71 0,Mv 73 72,Gt 73 (.fad 74 0 15),Gt 73 (.ld 75 1 false false 74),Gt 73 (.call 76 161 [75]),Gt 73 (.un 77 .not 76),Pa 78 73 77] (Cn 78 (Rg [Mv 79 0,Ca 80 110 [79,kI 6]]) .skip)) (Sq (Rs [Mi 16 0] (.block 2 (.loop [0,2,3,4,10,12,13,14,15,16,1000000] 2 ja))) n7)))))) fT)
def jc:IR:=Rs [Mv 154 0,Nk 155 154,Fa 156 1 155,Lo 157 156,Bc 158 .eql 157 0] (Cn 158 (.gh (.opn (.cell 0 0)) (.ghp (.cls (.cell 0 0)) (Rg [Mv 159 0,Nk 160 159,Fa 161 0 160,Fa 162 0 161,Lo 163 162,Mv 164 2,Mv 165 12,Pp (.ixw 166 .atype 163 164),Pp (.fdw 167 8 166),Pp (.stw none 1 167 165)]))) .skip)
def afV:IR:=Rs [Bx 6 1] (Rs [Ld 21 5 true 6,Ca 22 113 [21,kS [102,105,101,108,100,115]],Mv 20 22,Ex_ 23 0 20,Ex_ 24 1 20,Pp (.alr 10 5),Fz 10 5 23,Mv 11 24] (Sq (Rs [Mv 25 11,Un 26 25,Mv 27 26,Gf 27 (.fad 28 0 10),Gf 27 (.lde 29 1 false 28),Gf 27 (.bin 30 .neq 29 (kI 5)),Po 31 27 30] (Cn 31 (Rs [Mv 32 0,Ca 33 110 [32,kI 2]] .ret) .skip)) (Sq (Rs [Fa 34 3 10,Lq 35 34,Ll 36 35,Bc 37 .gtr 36 30] (Cn 37 (Rs [Mv 38 0,Ca 39 110 [38,kI 3]] .ret) .skip)) (Rs [Pp (.mov 12 (.c (nl .afield)))] (Sq (Rs [Mi 13 0] (.block 0 (.loop [0,2,3,4,10,12,13,1000002] 1 jb))) jc)))))
def mb:List RV:=[]
theorem afW:FnC Try.prog aY [72,110,140,143,2000072,2000110,2000140,2000143] 1 yw Try.f144 afV mb:=fnC Try.func144
def dM(R:IR→(Ex→St→Ro)→St→Ro)(a:St→Ro):Ex→St→Ro:=(bk a [0,2,3,4,10,12,13,1000002] 1 (aP 0 (bj (R jc) (fin mb))))
abbrev cl:Type:=(Int×Bs×Int×Int×Int×Bs×List aB×Bss×List aM×Int×List aA×Int)
def bg:cl→St:=fun(c,d,e,f,g,h,i,j,k,l,a,b)=>{env:=(.ptr 0 0::.undef::.int .i64 c::.str d::.int .i64 e::(U 5 (.ea [.int .i64 f,.int .i64 g,.str h,.sl .jnode (.may false) i,.sl .str (.may false) j]::.undef::.sl .afield .own k::.int .i64 l::(U 154 [])))),hp:=[some [.ul .atype a,.int .i64 b]]}
def pI(R:IR→(Ex→St→Ro)→St→Ro)(a b:St→Ro):Ex→St→Ro:=(bk b [0,2,3,4,10,12,13,14,15,16,1000000] 2 (aP 2 (bj (R n7) (aP 1 (bj (R fT) (dM R a))))))
abbrev dN:Type:=(Int×Bs×Int×Int×Int×Bs×List aB×Bss×List aM×Int×Int×Int×Bs×List aB×Bss×Int×List aA×Int×Bs×Bss×Int×Bool×Int×Int×Bs×List aB×Bss)
def cb:dN→St:=fun(r,s,t,u,v,w,x,y,z,x9,a,b,c,d,e,f,g,h,i,j,k,l,m,n,o,p,q)=>{env:=(.ptr 0 0::.undef::.int .i64 r::.str s::.int .i64 t::(U 5 (.ea [.int .i64 u,.int .i64 v,.str w,.sl .jnode (.may false) x,.sl .str (.may false) y]::.undef::.sl .afield .own z::.int .i64 x9::.ea [.int .i64 a,.int .i64 b,.str c,.sl .jnode (.may false) d,.sl .str (.may false) e]::.ptr 1 0::.int .i64 f::(U 151 [])))),hp:=[some [.ul .atype g,.int .i64 h],some [.str i,.sl .str .own j,.int .i64 k,.bool l,.int .i64 m,.int .i64 n,.str o,.sl .jnode .own p,.sl .str .own q]]}
def aeL(R:IR→(Ex→St→Ro)→St→Ro)(a b:St→Ro):Ex→St→Ro:=(bk b [0,2,3,4,10,12,13,15,19,1000001] 2 (aP 4 (bj (R uZ) (aP 1 (bj (R fT) (dM R a))))))
abbrev lh:Type:=(Int×Bs×Int×Int×Int×Bs×List aB×Bss×List aM×Int×Int×List aA×Int×Bs×Bss×Int×Bool×Int×Int×Bs×List aB×Bss)
def gc:lh→St:=fun(m,n,o,p,q,r,s,t,u,v,a,b,c,d,e,f,g,h,i,j,k,l)=>{env:=(.ptr 0 0::.undef::.int .i64 m::.str n::.int .i64 o::(U 5 (.ea [.int .i64 p,.int .i64 q,.str r,.sl .jnode (.may false) s,.sl .str (.may false) t]::.undef::.sl .afield .own u::.int .i64 v::.undef::.ptr 1 0::(U 3 (.int .i64 a::(U 148 [])))))),hp:=[some [.ul .atype b,.int .i64 c],some [.str d,.sl .str (.may false) e,.int .i64 f,.bool g,.int .i64 h,.int .i64 i,.str j,.sl .jnode (.may false) k,.sl .str (.may false) l]]}
def li(N:Nat)(a:St→Ro):(St→Ro)→St→Ro:=fun b s=>run aY N uY (aeL (run aY N) a b) s
def dO(N:Nat)(s:cl→Ro)(t:lh→Ro):lh→Ro:=fun(v2,v3,v4,k,l,m,n,o,p,u,q,r,j,b,a,c,d,e,f,g,h,i)=>
 let x9:=(↑(List.length a):Int)
 let z0:=fun w x g2=>t (v2,v3,v4,k,l,m,n,o,p,u,w,x,g2,b,a,c,d,e,f,g,h,i)
 let z1:=fun w x=>s (v2,v3,v4,k,l,m,n,o,w,x,r,j)
 cond (decide (q<x9)) (
 cond (j==0) (
 chk (ixl q a) (
 let y:=List.getD a (Int.toNat q) (aG .str)
 aF (kG y) (fun(z:Bool)=>
 cond (!z) (
 aF (aK r j 6) (fun v=>
 let aa:=(IntKind.wrap .i64 (q+1))
 z0 aa v.2.1 v.2.2)) (
 let ab:=(IntKind.wrap .i64 (q+1))
 z0 ab r j)))) (
 chk (decide ((List.length p+List.length ([⟨b,a,c,d,⟨e,f,g,h,i⟩⟩]:List aM))*136≤140737488355328)) (
 let ac:=(p++([⟨b,a,c,d,⟨e,f,g,h,i⟩⟩]:List aM))
 let ad:=(IntKind.wrap .i64 (u+1))
 z1 ac ad))) (
 chk (decide ((List.length p+List.length ([⟨b,a,c,d,⟨e,f,g,h,i⟩⟩]:List aM))*136≤140737488355328)) (
 let ae:=(p++([⟨b,a,c,d,⟨e,f,g,h,i⟩⟩]:List aM))
 let af:=(IntKind.wrap .i64 (u+1))
 z1 ae af))
theorem adD(N:Nat)(a:St→Ro):LB (li N a) gc (dO N (fun y=>a (bg y))):=fun _ _=>by kernel_rfl
def gS(N:Nat)(a:St→Ro):(St→Ro)→St→Ro:=fun b s=>run aY N ja (pI (run aY N) a b) s
def jQ(N:Nat)(aj:cl→Ro)(s:dN→Ro)(q2:lh→Ro):dN→Ro:=fun(v2,y,z,g,h,i,j,k,o,t,a,b,c,d,e,r,l,m,n,aa,ab,ac,ad,ae,af,ag,ah)=>
 let x4:=(↑(List.length o):Int)
 let z0:=fun g0 g1 g2=>s (v2,y,z,g,h,i,j,k,o,t,a,b,c,d,e,g0,g1,g2,n,aa,ab,ac,ad,ae,af,ag,ah)
 cond (decide (r<x4)) (
 chk (ixl r o) (
 let x5:=(List.getD o (Int.toNat r) (aG .afield))
 cond (decide (x5.name=n)) (
 aF (aK l m 5) (fun r9=>
 let x6:=(IntKind.wrap .i64 (r+1))
 z0 x6 r9.2.1 r9.2.2)) (
 let x7:=(IntKind.wrap .i64 (r+1))
 z0 x7 l m))) (
 aF (dx a b c d e ([116,121,112,101]:Bs)) (fun f=>
 cond (!f.2.2.2.2.2) (
 aF (aK l m 2) (fun ai=>
 let x8:=(IntKind.wrap .i64 (z+1))
 aF (cP ai.2.1 ai.2.2 f.1 f.2.1 f.2.2.1 f.2.2.2.1 f.2.2.2.2.1 y x8) (fun u=>
 aF (dx a b c d e ([100,101,102,97,117,108,116]:Bs)) (fun p=>
 aF (dy u.2.1 u.2.2 a b c d e ([97,108,105,97,115,101,115]:Bs)) (fun v=>
 q2 (v2,y,z,g,h,i,j,k,o,t,0,v.2.2.1,v.2.2.2,n,v.1,u.1,p.2.2.2.2.2,p.1,p.2.1,p.2.2.1,p.2.2.2.1,p.2.2.2.2.1)))))) (
 let al:=(IntKind.wrap .i64 (z+1))
 aF (cP l m f.1 f.2.1 f.2.2.1 f.2.2.2.1 f.2.2.2.2.1 y al) (fun w=>
 aF (dx a b c d e ([100,101,102,97,117,108,116]:Bs)) (fun q=>
 aF (dy w.2.1 w.2.2 a b c d e ([97,108,105,97,115,101,115]:Bs)) (fun x=>
 q2 (v2,y,z,g,h,i,j,k,o,t,0,x.2.2.1,x.2.2.2,n,x.1,w.1,q.2.2.2.2.2,q.1,q.2.1,q.2.2.1,q.2.2.2.1,q.2.2.2.2.1)))))))
def fh(N:Nat)(a:cl→Ro)(b:dN→Ro)(x:dN):Ro:=jQ N a b (fun z=>aS N (dO N a) z) x
def gT(N:Nat)(a b:St→Ro):List (Nat×(St→Ro)):=(bQ aY N ja (pI (run aY N) a b)++(bQ aY N n7 (aP 1 (bj (run aY N fT) (dM (run aY N) a)))++(bQ aY N fT (dM (run aY N) a)++(bQ aY N jc (fin mb)++[]))))
theorem adE(N:Nat)(a:St→Ro):∀(b:St→Ro)(x:dN),gS N a b (cb x)=fh N (fun y=>a (bg y)) (fun y=>b (cb y)) x:=by
 intro b x
 have hX:∀C:Nat→St→Ro,bT C aY N ja (pI (bT C aY N) a b) (cb x)=jQ N (fun y=>a (bg y)) (fun y=>b (cb y)) (fun z=>C 1000001 (gc z)) x:=by
  intro C
  kernel_rfl
 have h:gS N a b (cb x)=jQ N (fun y=>a (bg y)) (fun y=>b (cb y)) (fun z=>aW N (li N a) (gc z)) x:=(cW (C:=fb (gT N a b)) (bS (ba (l:=(gT N a b)) (by kernel_rfl))) (iD (cD (fI (bS (dR (ba (l:=(gT N a b)) (by kernel_rfl)))) (cD (fI (bS (dR (dR (ba (l:=(gT N a b)) (by kernel_rfl))))) (iD (cD (fI (bS (dR (dR (dR (ba (l:=(gT N a b)) (by kernel_rfl)))))) rfl)))))))) _).trans ((hX _).trans (by kernel_rfl))
 have e2:(fun z=>aW N (li N a) (gc z))=(fun z=>aS N (dO N (fun y=>a (bg y))) z):=funext fun z=>aV (gc) (li N a) (dO N (fun y=>a (bg y))) (adD N a) N z
 rw[h,e2]
 rfl
def lj(N:Nat):(St→Ro)→St→Ro:=fun a s=>run aY N jb (dM (run aY N) a) s
def jR(N:Nat)(t:cl→Ro)(q1:dN→Ro):cl→Ro:=fun(f,v3,v4,i,j,k,d,m,o,h,a,b)=>
 let x2:=(↑(List.length d):Int)
 let u:=fun p v=>(some (.tup [],[some [.ul .atype p,.int .i64 v]]):Ro)
 let x:=fun p=>(some (.tup [],[some [.ul .atype p,.int .i64 b],none,none]):Ro)
 let w:=fun p v g2 g3 g4 g5 g6 g7=>q1 (f,v3,v4,i,j,k,d,m,o,h,p,v,g2,g3,g4,0,g5,g6,g7,([]:Bss),0,false,0,0,([]:Bs),([]:List aB),([]:Bss))
 cond (decide (h<x2)) (
 cond (b==0) (
 chk (ixl h d) (
 let c:=(List.getD d (Int.toNat h) (aG .jnode))
 cond (!(c.kind==6)) (
 aF (aK a b 2) (fun y=>
 u y.2.1 y.2.2)) (
 aF (eC a b c.kind c.n c.s c.l c.names ([110,97,109,101]:Bs) true) (fun g=>
 cond (g.2.2==0) (
 aF (kG g.1) (fun(r7:Bool)=>
 cond (!r7) (
 aF (aK g.2.1 g.2.2 6) (fun z=>
 w c.kind c.n c.s c.l c.names z.2.1 z.2.2 g.1)) (
 w c.kind c.n c.s c.l c.names g.2.1 g.2.2 g.1))) (
 w c.kind c.n c.s c.l c.names g.2.1 g.2.2 g.1))))) (
 cond (b==0) (
 chk (decide (0<List.length a)) (
 chk (decide (0≤f)&&decide (f<↑(List.length a))) (
 chk (decide ((Int.toNat f)<List.length a)) (
 let q:=(List.set a (Int.toNat f) (let e:=List.getD a (Int.toNat f) (aG .atype);⟨e.kind,e.name,e.aliases,e.items,e.syms,e.hasdef,e.df,e.size,o,e.branches⟩))
 chk (Nat.beq (List.length a) (List.length q)) (
 x q))))) (
 u a b))) (
 cond (b==0) (
 chk (decide (0<List.length a)) (
 chk (decide (0≤f)&&decide (f<↑(List.length a))) (
 chk (decide ((Int.toNat f)<List.length a)) (
 let r:=(List.set a (Int.toNat f) (let e:=List.getD a (Int.toNat f) (aG .atype);⟨e.kind,e.name,e.aliases,e.items,e.syms,e.hasdef,e.df,e.size,o,e.branches⟩))
 chk (Nat.beq (List.length a) (List.length r)) (
 x r))))) (
 u a b))
def lk(N:Nat)(a:cl→Ro)(x:cl):Ro:=jR N a (fun z=>aS N (fh N a) z) x
def pJ(N:Nat)(a:St→Ro):List (Nat×(St→Ro)):=(bQ aY N jb (dM (run aY N) a)++(bQ aY N jc (fin mb)++[]))
theorem adF(N:Nat):∀(a:St→Ro)(x:cl),lj N a (bg x)=lk N (fun y=>a (bg y)) x:=by
 intro a x
 have hX:∀C:Nat→St→Ro,bT C aY N jb (dM (bT C aY N) a) (bg x)=jR N (fun y=>a (bg y)) (fun z=>C 1000000 (cb z)) x:=by
  intro C
  kernel_rfl
 have h:lj N a (bg x)=jR N (fun y=>a (bg y)) (fun z=>aW N (gS N a) (cb z)) x:=(cW (C:=fb (pJ N a)) (bS (ba (l:=(pJ N a)) (by kernel_rfl))) (iD (cD (fI (bS (dR (ba (l:=(pJ N a)) (by kernel_rfl)))) rfl))) _).trans ((hX _).trans (by kernel_rfl))
 have e1:(fun z=>aW N (gS N a) (cb z))=(fun z=>aS N (fh N (fun y=>a (bg y))) z):=funext fun z=>aV (cb) (gS N a) (fh N (fun y=>a (bg y))) (adE N a) N z
 rw[h,e1]
 rfl
def iq(N:Nat)(a:List aA)(b d e:Int)(f:Bs)(g:List aB)(h:Bss)(m:Int)(n:Bs)(o:Int)(p:cl→Ro):Ro:=
 let i:=fun q r=>(some (.tup [],[some [.ul .atype q,.int .i64 r]]):Ro)
 aF (dx d e f g h ([102,105,101,108,100,115]:Bs)) (fun c=>
 cond (!c.2.2.2.2.2) (
 aF (aK a b 2) (fun j=>
 i j.2.1 j.2.2)) (
 cond (!(c.1==5)) (
 aF (aK a b 2) (fun k=>
 i k.2.1 k.2.2)) (
 let s:=(↑(List.length c.2.2.2.1):Int)
 cond (decide (30<s)) (
 aF (aK a b 3) (fun l=>
 i l.2.1 l.2.2)) (
 p (m,n,o,c.1,c.2.1,c.2.2.1,c.2.2.2.1,c.2.2.2.2.1,([]:List aM),0,a,b)))))
def xZ(N:Nat)(a:List aA)(b c d:Int)(e:Bs)(f:List aB)(g:Bss)(h:Int)(i:Bs)(j:Int):Ro:=iq N a b c d e f g h i j (fun z=>aS N (lk N) z)
theorem aeM(N:Nat)(a:List aA)(c d g:Int)(i:Bs)(j:List aB)(k:Bss)(l:Int)(m:Bs)(n:Int)(h:Tot (xZ N a c d g i j k l m n) (fun z=>∃(o:List aA)(p:Int)(rest:List aJ),z.1.dimR=.tup []∧z.2=some [.ul .atype o,.int .i64 p]::rest∧eH a c d g i j k l m n (o,p))):∃r,iG a c d g i j k l m n r:=FnC.finO (css:=[[.ul .atype a,.int .i64 c]]) afW (N:=N) ((bu _ (by kernel_rfl) rfl (fun C=>iq N a c d g i j k l m n (fun z=>C 1000002 (bg z))) (fun C=>by kernel_rfl)).trans (Eq.trans (b:=iq N a c d g i j k l m n (fun z=>aW N (lj N) (bg z))) (by kernel_rfl) (congrArg (iq N a c d g i j k l m n) (funext fun z=>aV (bg) (lj N) (lk N) (adF N) N z)))) h fun _ ⟨o,p,_,e,f,q⟩=>⟨(o,p),e,⟨_,f⟩,q⟩
noncomputable def ck:aL:=tab (P:=Try.prog) [] [dk,pP,aaE,uq,ah9,sO,agu,ae0] [] [rh,anX]
def ll:IR:=Sq (Rs [Mv 59 17,Mv 60 15,Ll 61 60,Bi 62 .lss 59 61,Mv 63 62,Gt 63 (.mov 64 0),Gt 63 (.nck 65 64),Gt 63 (.fad 66 1 65),Gt 63 (.ld 67 1 false false 66),Gt 63 (.bin 68 .eql 67 (kI 0)),Pa 69 63 68] (Cn 69 .skip (.exit 0))) (Sq (.block 1 (.reg [Fa 72 2 14,Fo [] [1] (.ld 73 1 false true 72),Mv 74 0,Mv 75 15,Mv 76 17,Ix 77 .str 75 76,Lq 78 77,Mv 79 3,Fo [] [0] (.call 80 141 [74,78,79]),Pp (.bsl 81 .str [80] true),Pp (.app 82 .str (.tk 73) 81),Fa 83 2 14,Fo [] [1] (.st none 1 83 (.tk 82))] [[],[0],[],[],[],[3,4],[3,4,5],[],rg 2 7,rg 2 8,rg 0 9,rg 0 10,rg 0 11])) (Rg [Mv 70 17,Bc 71 .add 70 1,Mv 17 71]))
def vP:IR:=Sq (Rs [Mv 101 0,Nk 102 101,Fa 103 1 102,Lo 104 103,Bc 105 .neq 104 0] (Cn 105 (Rs [Mi 10 0] .ret) .skip)) (Rs [Mv 106 0,Pp (.ld 107 10 true false 14),Ca 108 116 [106,107],Mv 20 108] (Sq (Rs [Mv 109 2] (.block 2 (Rs [Bc 150 .eql 109 9,Mv 149 150] (Cn 149 (Rg [Mv 151 0,Ld 152 5 true 6,Mv 153 20,Mv 154 3,Mv 155 4,Ca 156 144 [151,152,153,154,155]]) (Rs [Bc 158 .eql 109 10,Mv 157 158] (Cn 157 (Rg [Mv 159 0,Ld 160 5 true 6,Mv 161 20,Ca 162 145 [159,160,161]]) (Rs [Ld 111 5 true 6,Ca 112 113 [111,kS [115,105,122,101]],Mv 110 112,Ex_ 113 0 110,Ex_ 114 1 110,Pp (.alr 21 5),Fz 21 5 113,Mv 22 114] (Sq (Rs [Mv 115 22,Un 116 115,Mv 117 116,Gf 117 (.fad 118 0 21),Gf 117 (.lde 119 1 false 118),Gf 117 (.bin 120 .neq 119 (kI 3)),Po 121 117 120] (Cn 121 (Rs [Mv 122 0,Ca 123 110 [122,kI 2],Mv 10 123] .ret) .skip)) (Sq (Rs [Fa 124 1 21,Lq 125 124,Bc 126 .lss 125 0,Mv 127 126,Gf 127 (.fad 128 1 21),Gf 127 (.lde 129 1 false 128),Gf 127 (.bin 130 .gtr 129 (kI 5000)),Po 131 127 130] (Cn 131 (Rs [Mv 132 0,Ca 133 110 [132,kI 6],Mv 10 133] .ret) .skip)) (Rs [Mv 134 0,Nk 135 134,Fa 136 1 135,Lo 137 136,Bc 138 .eql 137 0] (Cn 138 (.gh (.opn (.cell 0 0)) (.ghp (.cls (.cell 0 0)) (.reg [Mv 139 0,Nk 140 139,Fa 141 0 140,Fa 142 0 141,Fo [0] [] (.ld 143 1 false false 142),Mv 144 20,Fa 145 1 21,Lq 146 145,Pp (.ixw 147 .atype 143 144),Pp (.fdw 148 7 147),Fo [] [2] (.stw none 1 148 146)] [[],[0],[0,1],[0,1,2],rg 0 3,[],[],[6],rg 0 7,rg 0 8,rg 0 9]))) .skip))))))))))) (Rs [Mv 163 20,Mv 10 163] .ret)))
def oB:IR:=Rs [Mv 85 0,Fa 86 1 14,Lo 87 86,Ca 88 138 [85,87],Mv 84 88,Ex_ 89 0 84,Ex_ 90 1 84,Mv 18 89,Mv 19 90] (Sq (Rs [Mv 91 0,Nk 92 91,Fa 93 1 92,Lo 94 93,Bc 95 .eql 94 0,Mv 96 95,Gt 96 (.mov 97 19),Pa 98 96 97] (Cn 98 (Rg [Mv 99 0,Ca 100 110 [99,kI 5]]) .skip)) (.cut [0,2,3,4,6,14,1000001] 2 vP))
def jS:IR:=Sq (Rs [Mv 39 0,Nk 40 39,Fa 41 1 40,Lo 42 41,Bc 43 .neq 42 0] (Cn 43 (Rs [Mi 10 0] .ret) .skip)) (Rs [Mv 44 2,Mv 45 0,Mv 46 11,Mv 47 3,Ca 48 141 [45,46,47],Pp (.bld 49 [vI 0,vS,nl .str,vI 0,nl .str,.bool false,vS,vI 0,nl .afield,nl (.num .i64)] [(0,1,44),(1,1,48)]),Pp (.new 14 [vI 0,vS,nl .str,vI 0,nl .str,.bool false,vS,vI 0,nl .afield,nl (.num .i64)]),Sv 10 14 49] (Rs [Fa 50 1 14,Lo 51 50,Ca 52 142 [51],Mv 3 52] (Rs [Mv 54 0,Ld 55 5 true 6,Ca 56 143 [54,55,kS [97,108,105,97,115,101,115]],Mv 53 56,Ex_ 57 0 53,Ex_ 58 1 53,Mv 15 57,Mv 16 58] (Sq (Rs [Mi 17 0] (.block 0 (.loop [0,2,3,4,6,14,15,17,1000000] 2 ll))) oB))))
def ag3:IR:=Rs [Bx 6 1,Mi 10 0] (Rs [Mv 23 0,Ld 24 5 true 6,Ca 25 140 [23,24,kS [110,97,109,101],kB true],Mv 11 25] (Rs [Ld 27 5 true 6,Ca 28 113 [27,kS [110,97,109,101,115,112,97,99,101]],Mv 26 28,Ex_ 29 0 26,Ex_ 30 1 26,Pp (.alr 12 5),Fz 12 5 29,Mv 13 30] (Sq (Rs [Mv 31 13] (Cn 31 (Sq (Rs [Fa 32 0 12,Lq 33 32,Bc 34 .neq 33 4] (Cn 34 (Rg [Mv 35 0,Ca 36 110 [35,kI 2]]) .skip)) (Rg [Fa 37 2 12,Lq 38 37,Mv 3 38])) .skip)) (.cut [0,2,3,4,6,11,1000002] 1 jS))))
def eO:List RV:=[.t 10]
theorem ag4:FnC Try.prog ck [110,116,138,140,141,143,144,145,2000110,2000116,2000138,2000140,2000141,2000143,2000144,2000145] 1 zw Try.f114 ag3 eO:=fnC Try.func114
abbrev iu:Type:=(Int×Bs×Int×Int×Int×Bs×List aB×Bss×Bs×List aA×Int)
def gU:iu→St:=fun(b,c,d,e,f,g,h,i,j,k,a)=>{env:=(.ptr 0 0::.undef::.int .i64 b::.str c::.int .i64 d::.undef::.ea [.int .i64 e,.int .i64 f,.str g,.sl .jnode (.may false) h,.sl .str (.may false) i]::(U 4 (.str j::(U 152 [])))),hp:=[some [.ul .atype k,.int .i64 a]]}
def qP(R:IR→(Ex→St→Ro)→St→Ro)(a:St→Ro):Ex→St→Ro:=(bk a [0,2,3,4,6,14,15,17,1000000] 2 (aP 0 (bj (R oB) (fin eO))))
abbrev el:Type:=(Int×Bs×Int×Int×Int×Bs×List aB×Bss×Bss×Int×List aA×Int×Int×Bs×Bss×Int×Bss×Bool×Bs×Int×List aM×List Int)
def cm:el→St:=fun(m,n,o,p,q,r,s,t,u,v,a,b,c,d,e,f,g,h,i,j,k,l)=>{env:=(.ptr 0 0::.undef::.int .i64 m::.str n::.int .i64 o::.undef::.ea [.int .i64 p,.int .i64 q,.str r,.sl .jnode (.may false) s,.sl .str (.may false) t]::(U 7 (.ptr 1 0::.sl .str (.may false) u::.undef::.int .i64 v::(U 146 [])))),hp:=[some [.ul .atype a,.int .i64 b],some [.int .i64 c,.str d,.sl .str .own e,.int .i64 f,.sl .str .own g,.bool h,.str i,.int .i64 j,.sl .afield .own k,.sl (.num .i64) .own l]]}
abbrev qQ:Type:=(Int×Bs×Int×Int×Int×Bs×List aB×Bss×List aA×Int×Int×Bs×Bss×Int×Bss×Bool×Bs×Int×List aM×List Int)
def lm:qQ→St:=fun(k,l,m,n,o,p,q,r,s,t,a,b,c,d,e,f,g,h,i,j)=>{env:=(.ptr 0 0::.undef::.int .i64 k::.str l::.int .i64 m::.undef::.ea [.int .i64 n,.int .i64 o,.str p,.sl .jnode (.may false) q,.sl .str (.may false) r]::(U 7 (.ptr 1 0::(U 149 [])))),hp:=[some [.ul .atype s,.int .i64 t],some [.int .i64 a,.str b,.sl .str .own c,.int .i64 d,.sl .str .own e,.bool f,.str g,.int .i64 h,.sl .afield .own i,.sl (.num .i64) .own j]]}
def qR(N:Nat):St→Ro:=fun s=>run ck N vP (fin eO) s
def fF(N:Nat):qQ→Ro:=fun(v2,v3,v4,b,c,d,e,f,t,g,h,i,j,k,l,m,n,o,p,q)=>
 let u:=fun g0 g1 g2=>(some (.int .i64 g0,[some [.ul .atype g1,.int .i64 g2],some [.int .i64 h,.str i,.sl .str .own j,.int .i64 k,.sl .str .own l,.bool m,.str n,.int .i64 o,.sl .afield .own p,.sl (.num .i64) .own q]]):Ro)
 cond (!(g==0)) (
 u 0 t g) (
 aF (fj t g h i j k l m n o p q) (fun a=>
 cond (v2==9) (
 aF (iG a.2.1 a.2.2 b c d e f a.1 v3 v4) (fun z=>
 u a.1 z.1 z.2)) (
 cond (v2==10) (
 aF (hY a.2.1 a.2.2 b c d e f a.1) (fun aa=>
 u a.1 aa.1 aa.2)) (
 aF (dx b c d e f ([115,105,122,101]:Bs)) (fun r=>
 cond (!r.2.2.2.2.2) (
 aF (aK a.2.1 a.2.2 2) (fun v=>
 u v.1 v.2.1 v.2.2)) (
 cond (!(r.1==3)) (
 aF (aK a.2.1 a.2.2 2) (fun w=>
 u w.1 w.2.1 w.2.2)) (
 cond (decide (r.2.1<0)) (
 aF (aK a.2.1 a.2.2 6) (fun x=>
 u x.1 x.2.1 x.2.2)) (
 cond (decide (5000<r.2.1)) (
 aF (aK a.2.1 a.2.2 6) (fun y=>
 u y.1 y.2.1 y.2.2)) (
 cond (a.2.2==0) (
 chk (decide (0<List.length a.2.1)) (
 chk (decide (0≤a.1)&&decide (a.1<↑(List.length a.2.1))) (
 chk (decide ((Int.toNat a.1)<List.length a.2.1)) (
 let x5:=(List.set a.2.1 (Int.toNat a.1) (let s:=List.getD a.2.1 (Int.toNat a.1) (aG .atype);⟨s.kind,s.name,s.aliases,s.items,s.syms,s.hasdef,s.df,r.2.1,s.fields,s.branches⟩))
 chk (Nat.beq (List.length a.2.1) (List.length x5)) (
 some (.int .i64 a.1,[some [.ul .atype x5,.int .i64 a.2.2],some [.int .i64 h,.str i,.sl .str .own j,.int .i64 k,.sl .str .own l,.bool m,.str n,.int .i64 o,.sl .afield .own p,.sl (.num .i64) .own q],none,none])))))) (
 u a.1 a.2.1 a.2.2))))))))))
theorem aeN(N:Nat):LJ (qR N) lm (fF N):=fun _=>by kernel_rfl
def iv(N:Nat):(St→Ro)→St→Ro:=fun a s=>run ck N ll (qP (run ck N) a) s
def ln(N:Nat)(f:el→Ro)(q2:qQ→Ro):el→Ro:=fun(v2,z,v4,i,j,k,l,m,g,h,d,b,n,c,e,o,p,q,r,s,t,u)=>
 let x1:=(↑(List.length g):Int)
 let w:=fun g0 g1=>q2 (v2,z,v4,i,j,k,l,m,g0,g1,n,c,e,o,p,q,r,s,t,u)
 cond (decide (h<x1)) (
 cond (b==0) (
 chk (ixl h g) (
 let x2:=List.getD g (Int.toNat h) (aG .str)
 aF (gq d b x2 z) (fun y=>
 chk (decide ((List.length e+List.length ([y.1]:Bss))*16≤140737488355328)) (
 let x3:=(e++([y.1]:Bss))
 let x4:=(IntKind.wrap .i64 (h+1))
 f (v2,z,v4,i,j,k,l,m,g,x4,y.2.1,y.2.2,n,c,x3,o,p,q,r,s,t,u))))) (
 aF (dl d b c) (fun v=>
 cond (v.2.2.2==0) (
 cond v.2.1 (
 aF (aK v.2.2.1 v.2.2.2 5) (fun r9=>
 w r9.2.1 r9.2.2)) (
 w v.2.2.1 v.2.2.2)) (
 w v.2.2.1 v.2.2.2)))) (
 aF (dl d b c) (fun a=>
 cond (a.2.2.2==0) (
 cond a.2.1 (
 aF (aK a.2.2.1 a.2.2.2 5) (fun x=>
 w x.2.1 x.2.2)) (
 w a.2.2.1 a.2.2.2)) (
 w a.2.2.1 a.2.2.2)))
def fG(N:Nat)(a:el→Ro)(x:el):Ro:=ln N a (fun z=>fF N z) x
def qS(N:Nat)(a:St→Ro):List (Nat×(St→Ro)):=(bQ ck N ll (qP (run ck N) a)++(bQ ck N oB (fin eO)++[]))
theorem aeO(N:Nat):∀(a:St→Ro)(x:el),iv N a (cm x)=fG N (fun y=>a (cm y)) x:=by
 intro a x
 have hX:∀C:Nat→St→Ro,bT C ck N ll (qP (bT C ck N) a) (cm x)=ln N (fun y=>a (cm y)) (fun z=>C 1000001 (lm z)) x:=by
  intro C
  kernel_rfl
 have h:iv N a (cm x)=ln N (fun y=>a (cm y)) (fun z=>qR N (lm z)) x:=(cW (C:=fb (qS N a)) (bS (ba (l:=(qS N a)) (by kernel_rfl))) (iD (cD (fI (bS (dR (ba (l:=(qS N a)) (by kernel_rfl)))) rfl))) _).trans ((hX _).trans (by kernel_rfl))
 have e2:(fun z=>qR N (lm z))=(fun z=>fF N z):=funext fun z=>aeN N z
 rw[h,e2]
 rfl
def qT(N:Nat):St→Ro:=fun s=>run ck N jS (fin eO) s
def lp(N:Nat)(l:el→Ro):iu→Ro:=fun(k,m,n,b,c,d,e,f,i,g,a)=>
 cond (!(a==0)) (
 some (.int .i64 0,[some [.ul .atype g,.int .i64 a]])) (
 aF (gq g a i m) (fun h=>
 aF (qe h.1) (fun(o:Bs)=>
 aF (dy h.2.1 h.2.2 b c d e f ([97,108,105,97,115,101,115]:Bs)) (fun j=>
 l (k,o,n,b,c,d,e,f,j.1,0,j.2.2.1,j.2.2.2,k,h.1,([]:Bss),0,([]:Bss),false,([]:Bs),0,([]:List aM),([]:List Int))))))
def mc(N:Nat)(x:iu):Ro:=lp N (fun z=>aS N (fG N) z) x
def ya(N:Nat):List (Nat×(St→Ro)):=(bQ ck N jS (fin eO)++[])
theorem aeP(N:Nat):∀(x:iu),qT N (gU x)=mc N x:=by
 intro x
 have hX:∀C:Nat→St→Ro,bT C ck N jS (fin eO) (gU x)=lp N (fun z=>C 1000000 (cm z)) x:=by
  intro C
  kernel_rfl
 have h:qT N (gU x)=lp N (fun z=>aW N (iv N) (cm z)) x:=(cW (C:=fb (ya N)) (bS (ba (l:=(ya N)) (by kernel_rfl))) rfl _).trans ((hX _).trans (by kernel_rfl))
 have e1:(fun z=>aW N (iv N) (cm z))=(fun z=>aS N (fG N) z):=funext fun z=>aV (cm) (iv N) (fG N) (aeO N) N z
 rw[h,e1]
 rfl
def jd(N:Nat)(g:List aA)(h a b:Int)(c:Bs)(d:List aB)(e:Bss)(j:Int)(n:Bs)(k:Int)(l:iu→Ro):Ro:=
 aF (eC g h a b c d e ([110,97,109,101]:Bs) true) (fun f=>
 aF (dx a b c d e ([110,97,109,101,115,112,97,99,101]:Bs)) (fun i=>
 cond i.2.2.2.2.2 (
 cond (!(i.1==4)) (
 aF (aK f.2.1 f.2.2 2) (fun m=>
 l (j,i.2.2.1,k,a,b,c,d,e,f.1,m.2.1,m.2.2))) (
 l (j,i.2.2.1,k,a,b,c,d,e,f.1,f.2.1,f.2.2))) (
 l (j,n,k,a,b,c,d,e,f.1,f.2.1,f.2.2))))
def zo(N:Nat)(a:List aA)(b c d:Int)(e:Bs)(f:List aB)(g:Bss)(h:Int)(i:Bs)(j:Int):Ro:=jd N a b c d e f g h i j (fun z=>mc N z)
theorem afX(N:Nat)(a:List aA)(c d g:Int)(i:Bs)(j:List aB)(k:Bss)(l:Int)(m:Bs)(n:Int)(h:Tot (zo N a c d g i j k l m n) (fun z=>∃(o:Int)(p:List aA)(s:Int)(rest:List aJ),z.1.dimR=.int .i64 o∧z.2=some [.ul .atype p,.int .i64 s]::rest∧gv a c d g i j k l m n (o,p,s))):∃r,jV a c d g i j k l m n r:=FnC.finO (css:=[[.ul .atype a,.int .i64 c]]) ag4 (N:=N) ((bu _ (by kernel_rfl) rfl (fun C=>jd N a c d g i j k l m n (fun z=>C 1000002 (gU z))) (fun C=>by kernel_rfl)).trans (Eq.trans (b:=jd N a c d g i j k l m n (fun z=>qT N (gU z))) (by kernel_rfl) (congrArg (jd N a c d g i j k l m n) (funext fun z=>aeP N z)))) h fun _ ⟨o,p,s,_,e,f,q⟩=>⟨(o,p,s),e,⟨_,f⟩,q⟩
noncomputable def bd:aL:=tab (P:=Try.prog) [] [oK,dk,ai6,ah5,ah7,pP] [] [rh,ai7]
def wJ:IR:=Rs [Ld 88 5 true 5,Mv 89 12,Ca 90 113 [88,89],Mv 87 90,Ex_ 91 0 87,Ex_ 92 1 87,Pp (.alr 13 5),Fz 13 5 91,Mv 14 92] (Sq (Rs [Mv 93 14,Un 94 93] (Cn 94 (Rs [Mv 95 0,Ca 96 110 [95,kI 2],Mv 8 96] .ret) .skip)) (Rs [Mv 97 0,Ld 98 5 true 13,Mv 99 2,Mv 100 3,Bc 101 .add 100 1,Ca 102 72 [97,98,99,101],Mv 15 102] (Sq (Rs [Mv 103 0,Nk 104 103,Fa 105 1 104,Lo 106 105,Bc 107 .eql 106 0] (Cn 107 (.gh (.opn (.cell 0 0)) (.ghp (.cls (.cell 0 0)) (Rg [Mv 108 0,Nk 109 108,Fa 110 0 109,Fa 111 0 110,Lo 112 111,Mv 113 11,Mv 114 15,Pp (.ixw 115 .atype 112 113),Pp (.fdw 116 3 115),Pp (.stw none 1 116 114)]))) .skip)) (Rs [Mv 117 11,Mv 8 117] .ret))))
def lq:IR:=Cn 75 (Rs [Mv 78 0,Fa 79 2 9,Lq 80 79,Ca 81 115 [80],Pp (.bld 82 [vI 0,vS,fu .str true,vI 0,fu .str true,.bool false,vS,vI 0,fu .afield true,fu (.num .i64) true] [(0,1,81)]),Ca 83 116 [78,82],Mv 11 83] (Rs [Ms 12 [105,116,101,109,115]] (Sq (Rs [Fa 84 2 9,Lq 85 84,Pp (.bin 86 .eql 85 (kS [109,97,112]))] (Cn 86 (Rg [Ms 12 [118,97,108,117,101,115]]) .skip)) (.cut [0,2,3,5,11,12,1000000] 1 wJ)))) .skip
def lr:IR:=Cn 63 (Sq (.reg [Mv 67 0,Ld 68 5 true 5,Fa 69 2 9,Lq 70 69,Ca 71 115 [70],Mv 72 2,Mv 73 3,Fo [] [0] (.call 74 114 [67,68,71,72,73]),Mv 8 74] [[],[],[],[2],[2,3],[],[],rg 0 6,rg 0 7]) .ret) (Sq (Rs [Pp (.bin 76 .eql 62 (kS [97,114,114,97,121])),Mv 75 76] (Cn 75 .skip (Rg [Pp (.bin 77 .eql 62 (kS [109,97,112])),Mv 75 77]))) (.cut [0,2,3,5,9,75,1000001] 1 lq))
def wK:IR:=Rs [Mv 118 0,Fa 119 2 9,Lq 120 119,Mv 121 2,Ca 122 111 [118,120,121],Mv 8 122] .ret
def lu:IR:=.cut [0,2,9,1000003] 1 wK
def dP:IR:=Rs [Mv 123 0,Ca 124 110 [123,kI 2],Mv 8 124] .ret
def aiw:IR:=Rs [Bx 5 1,Mi 8 0] (Sq (Rs [Mv 16 0,Nk 17 16,Fa 18 1 17,Lo 19 18,Bc 20 .neq 19 0] (Cn 20 (Rs [Mi 8 0] .ret) .skip)) (Sq (Rs [Mv 21 3,Bc 22 .gtr 21 20] (Cn 22 (Rs [Mv 23 0,Ca 24 110 [23,kI 3],Mv 8 24] .ret) .skip)) (Sq (Rs [Fa 25 0 5,Lq 26 25] (.block 0 (Rs [Bc 28 .eql 26 4,Mv 27 28] (Cn 27 (Rs [Mv 29 0,Fa 30 2 5,Lq 31 30,Mv 32 2,Ca 33 111 [29,31,32],Mv 8 33] .ret) (Rs [Bc 35 .eql 26 5,Mv 34 35] (Cn 34 (Rs [Mv 36 0,Ld 37 5 true 5,Mv 38 2,Mv 39 3,Ca 40 112 [36,37,38,39],Mv 8 40] .ret) (Rs [Bc 42 .eql 26 6,Mv 41 42] (Cn 41 (Rs [Ld 44 5 true 5,Ca 45 113 [44,kS [116,121,112,101]],Mv 43 45,Ex_ 46 0 43,Ex_ 47 1 43,Pp (.alr 9 5),Fz 9 5 46,Mv 10 47] (Sq (Rs [Mv 48 10,Un 49 48] (Cn 49 (Rs [Mv 50 0,Ca 51 110 [50,kI 2],Mv 8 51] .ret) .skip)) (Sq (Rs [Fa 52 0 9,Lq 53 52,Bc 54 .neq 53 4] (Cn 54 (Rs [Mv 55 0,Ld 56 5 true 9,Mv 57 2,Mv 58 3,Bc 59 .add 58 1,Ca 60 72 [55,56,57,59],Mv 8 60] .ret) .skip)) (Sq (Rs [Fa 61 2 9,Lq 62 61] (.block 1 (Sq (Rs [Pp (.bin 64 .eql 62 (kS [114,101,99,111,114,100])),Mv 63 64] (Cn 63 .skip (Rs [Pp (.bin 65 .eql 62 (kS [101,110,117,109])),Mv 63 65] (Cn 63 .skip (Rg [Pp (.bin 66 .eql 62 (kS [102,105,120,101,100])),Mv 63 66]))))) (.cut [0,2,3,5,9,62,63,1000002] 1 lr)))) lu)))) .skip)))))))) dP)))
def ft:List RV:=[.t 8]
theorem aix:FnC Try.prog bd [72,110,111,112,114,116,2000072,2000110,2000111,2000112,2000114,2000116] 1 aaC Try.f72 aiw ft:=fnC Try.func72
abbrev je:Type:=(Bs×Int×Int×Int×Bs×List aB×Bss×Int×Int×Bs×List aB×Bss×Bs×Bool×List aA×Int)
def iw:je→St:=fun(g,h,i,j,k,l,m,n,o,p,a,b,c,d,e,f)=>{env:=(.ptr 0 0::.undef::.str g::.int .i64 h::.undef::.ea [.int .i64 i,.int .i64 j,.str k,.sl .jnode (.may false) l,.sl .str (.may false) m]::(U 3 (.ea [.int .i64 n,.int .i64 o,.str p,.sl .jnode (.may false) a,.sl .str (.may false) b]::(U 52 (.str c::.bool d::(U 61 [])))))),hp:=[some [.ul .atype e,.int .i64 f]]}
def eP(R:IR→(Ex→St→Ro)→St→Ro):Ex→St→Ro:=(aP 1 (bj (R lu) (aP 0 (bj (R dP) (fin ft)))))
abbrev jf:Type:=(Bs×Int×Int×Int×Bs×List aB×Bss×Int×Int×Bs×List aB×Bss×Bool×List aA×Int)
def fH:jf→St:=fun(f,g,h,i,j,k,l,m,n,o,a,b,c,d,e)=>{env:=(.ptr 0 0::.undef::.str f::.int .i64 g::.undef::.ea [.int .i64 h,.int .i64 i,.str j,.sl .jnode (.may false) k,.sl .str (.may false) l]::(U 3 (.ea [.int .i64 m,.int .i64 n,.str o,.sl .jnode (.may false) a,.sl .str (.may false) b]::(U 65 (.bool c::(U 49 [])))))),hp:=[some [.ul .atype d,.int .i64 e]]}
abbrev rV:Type:=(Bs×Int×Int×Int×Bs×List aB×Bss×Int×Bs×List aA×Int)
def md:rV→St:=fun(b,c,d,e,f,g,h,i,j,k,a)=>{env:=(.ptr 0 0::.undef::.str b::.int .i64 c::.undef::.ea [.int .i64 d,.int .i64 e,.str f,.sl .jnode (.may false) g,.sl .str (.may false) h]::(U 5 (.int .i64 i::.str j::(U 112 [])))),hp:=[some [.ul .atype k,.int .i64 a]]}
def rW(N:Nat):St→Ro:=fun s=>run bd N wJ (eP (run bd N)) s
def jg(N:Nat):rV→Ro:=fun(o,p,h,i,j,k,l,b,m,e,f)=>
 aF (dx h i j k l m) (fun c=>
 cond (!c.2.2.2.2.2) (
 aF (aK e f 2) (fun g=>
 some (.int .i64 g.1,[some [.ul .atype g.2.1,.int .i64 g.2.2]]))) (
 let q:=(IntKind.wrap .i64 (p+1))
 aF (cP e f c.1 c.2.1 c.2.2.1 c.2.2.2.1 c.2.2.2.2.1 o q) (fun a=>
 cond (a.2.2==0) (
 chk (decide (0<List.length a.2.1)) (
 chk (decide (0≤b)&&decide (b<↑(List.length a.2.1))) (
 chk (decide ((Int.toNat b)<List.length a.2.1)) (
 let n:=(List.set a.2.1 (Int.toNat b) (let d:=List.getD a.2.1 (Int.toNat b) (aG .atype);⟨d.kind,d.name,d.aliases,a.1,d.syms,d.hasdef,d.df,d.size,d.fields,d.branches⟩))
 chk (Nat.beq (List.length a.2.1) (List.length n)) (
 some (.int .i64 b,[some [.ul .atype n,.int .i64 a.2.2],none,none])))))) (
 some (.int .i64 b,[some [.ul .atype a.2.1,.int .i64 a.2.2]])))))
theorem afY(N:Nat):LJ (rW N) md (jg N):=fun _=>by kernel_rfl
abbrev rX:Type:=(Bs×Int×Int×Bs×List aB×Bss×List aA×Int)
def me:rX→St:=fun(a,b,c,d,e,f,g,h)=>{env:=(.ptr 0 0::.undef::.str a::(U 6 (.ea [.int .i64 b,.int .i64 c,.str d,.sl .jnode (.may false) e,.sl .str (.may false) f]::(U 115 [])))),hp:=[some [.ul .atype g,.int .i64 h]]}
def ag5(R:IR→(Ex→St→Ro)→St→Ro):Ex→St→Ro:=(aP 0 (bj (R dP) (fin ft)))
def rY(N:Nat):St→Ro:=fun s=>run bd N wK (ag5 (run bd N)) s
def jh(N:Nat):rX→Ro:=fun(e,_,_,b,_,_,c,d)=>
 aF (hU c d b e) (fun a=>
 some (.int .i64 a.1,[some [.ul .atype a.2.1,.int .i64 a.2.2]]))
theorem afZ(N:Nat):LJ (rY N) me (jh N):=fun _=>by kernel_rfl
def no(N:Nat):St→Ro:=fun s=>run bd N lq (eP (run bd N)) s
def mf(N:Nat)(p:rV→Ro)(r:rX→Ro):jf→Ro:=fun(n,q,c,d,e,f,g,j,k,b,l,m,o,h,i)=>
 cond o (
 aF (nK b) (fun(s:Int)=>
 aF (fj h i s ([]:Bs) ([]:Bss) 0 ([]:Bss) false ([]:Bs) 0 ([]:List aM) ([]:List Int)) (fun a=>
 let t:=decide (b=([109,97,112]:Bs))
 cond t (
 p (n,q,c,d,e,f,g,a.1,([118,97,108,117,101,115]:Bs),a.2.1,a.2.2)) (
 p (n,q,c,d,e,f,g,a.1,([105,116,101,109,115]:Bs),a.2.1,a.2.2))))) (
 r (n,j,k,b,l,m,h,i))
def ji(N:Nat)(x:jf):Ro:=mf N (fun z=>jg N z) (fun z=>jh N z) x
def np(N:Nat):List (Nat×(St→Ro)):=(bQ bd N lq (eP (run bd N))++(bQ bd N lu (aP 0 (bj (run bd N dP) (fin ft)))++(bQ bd N dP (fin ft)++[])))
theorem af0(N:Nat):∀(x:jf),no N (fH x)=ji N x:=by
 intro x
 have hX:∀C:Nat→St→Ro,bT C bd N lq (eP (bT C bd N)) (fH x)=mf N (fun z=>C 1000000 (md z)) (fun z=>C 1000003 (me z)) x:=by
  intro C
  kernel_rfl
 have h:no N (fH x)=mf N (fun z=>rW N (md z)) (fun z=>rY N (me z)) x:=(cW (C:=fb (np N)) (bS (ba (l:=(np N)) (by kernel_rfl))) (cD (fI (bS (dR (ba (l:=(np N)) (by kernel_rfl)))) (cD (fI (bS (dR (dR (ba (l:=(np N)) (by kernel_rfl))))) rfl)))) _).trans ((hX _).trans (by kernel_rfl))
 have e2:(fun z=>rW N (md z))=(fun z=>jg N z):=funext fun z=>afY N z
 have e3:(fun z=>rY N (me z))=(fun z=>jh N z):=funext fun z=>afZ N z
 rw[h,e2,e3]
 rfl
def rZ(N:Nat):St→Ro:=fun s=>run bd N lr (eP (run bd N)) s
def mg(N:Nat)(s:jf→Ro):je→Ro:=fun(p,q,a,b,c,d,e,i,j,f,k,l,m,n,g,h)=>
 let r:=fun t=>s (p,q,a,b,c,d,e,i,j,f,k,l,t,g,h)
 cond n (
 aF (nK f) (fun(u:Int)=>
 aF (jV g h a b c d e u p q) (fun o=>
 some (.int .i64 o.1,[some [.ul .atype o.2.1,.int .i64 o.2.2]])))) (
 let v:=decide (m=([97,114,114,97,121]:Bs))
 cond v (
 r true) (
 let w:=decide (m=([109,97,112]:Bs))
 r w))
def nq(N:Nat)(x:je):Ro:=mg N (fun z=>ji N z) x
def nr(N:Nat):List (Nat×(St→Ro)):=(bQ bd N lr (eP (run bd N))++(bQ bd N lu (aP 0 (bj (run bd N dP) (fin ft)))++(bQ bd N dP (fin ft)++[])))
theorem af1(N:Nat):∀(x:je),rZ N (iw x)=nq N x:=by
 intro x
 have hX:∀C:Nat→St→Ro,bT C bd N lr (eP (bT C bd N)) (iw x)=mg N (fun z=>C 1000001 (fH z)) x:=by
  intro C
  kernel_rfl
 have h:rZ N (iw x)=mg N (fun z=>no N (fH z)) x:=(cW (C:=fb (nr N)) (bS (ba (l:=(nr N)) (by kernel_rfl))) (cD (fI (bS (dR (ba (l:=(nr N)) (by kernel_rfl)))) (cD (fI (bS (dR (dR (ba (l:=(nr N)) (by kernel_rfl))))) rfl)))) _).trans ((hX _).trans (by kernel_rfl))
 have e1:(fun z=>no N (fH z))=(fun z=>ji N z):=funext fun z=>af0 N z
 rw[h,e1]
 rfl
def kh(N:Nat)(b:List aA)(a d f:Int)(e:Bs)(g:List aB)(h:Bss)(j:Bs)(k:Int)(s:je→Ro):Ro:=
 let l:=fun t u r v w x=>s (j,k,d,f,e,g,h,t,u,r,v,w,r,x,b,a)
 cond (!(a==0)) (
 some (.int .i64 0,[some [.ul .atype b,.int .i64 a]])) (
 cond (decide (20<k)) (
 aF (aK b a 3) (fun m=>
 some (.int .i64 m.1,[some [.ul .atype m.2.1,.int .i64 m.2.2]]))) (
 cond (d==4) (
 aF (hU b a e j) (fun n=>
 some (.int .i64 n.1,[some [.ul .atype n.2.1,.int .i64 n.2.2]]))) (
 cond (d==5) (
 aF (jU b a d f e g h j k) (fun o=>
 some (.int .i64 o.1,[some [.ul .atype o.2.1,.int .i64 o.2.2]]))) (
 cond (d==6) (
 aF (dx d f e g h ([116,121,112,101]:Bs)) (fun c=>
 cond (!c.2.2.2.2.2) (
 aF (aK b a 2) (fun p=>
 some (.int .i64 p.1,[some [.ul .atype p.2.1,.int .i64 p.2.2]]))) (
 cond (!(c.1==4)) (
 let y:=(IntKind.wrap .i64 (k+1))
 aF (cP b a c.1 c.2.1 c.2.2.1 c.2.2.2.1 c.2.2.2.2.1 j y) (fun q=>
 some (.int .i64 q.1,[some [.ul .atype q.2.1,.int .i64 q.2.2]]))) (
 let z:=decide (c.2.2.1=([114,101,99,111,114,100]:Bs))
 cond z (
 l c.1 c.2.1 c.2.2.1 c.2.2.2.1 c.2.2.2.2.1 true) (
 let x8:=decide (c.2.2.1=([101,110,117,109]:Bs))
 cond x8 (
 l c.1 c.2.1 c.2.2.1 c.2.2.2.1 c.2.2.2.2.1 true) (
 let x9:=decide (c.2.2.1=([102,105,120,101,100]:Bs))
 l c.1 c.2.1 c.2.2.1 c.2.2.2.1 c.2.2.2.2.1 x9)))))) (
 aF (aK b a 2) (fun i=>
 some (.int .i64 i.1,[some [.ul .atype i.2.1,.int .i64 i.2.2]])))))))
def zN(N:Nat)(a:List aA)(b c d:Int)(e:Bs)(f:List aB)(g:Bss)(h:Bs)(i:Int):Ro:=kh N a b c d e f g h i (fun z=>nq N z)
theorem ag6(N:Nat)(a:List aA)(c d g:Int)(i:Bs)(j:List aB)(k:Bss)(l:Bs)(m:Int)(h:Tot (zN N a c d g i j k l m) (fun z=>∃(n:Int)(o:List aA)(p:Int)(rest:List aJ),z.1.dimR=.int .i64 n∧z.2=some [.ul .atype o,.int .i64 p]::rest∧fy a c d g i j k l m (n,o,p))):∃r,cP a c d g i j k l m r:=FnC.finO (css:=[[.ul .atype a,.int .i64 c]]) aix (N:=N) ((bu _ (by kernel_rfl) rfl (fun C=>kh N a c d g i j k l m (fun z=>C 1000002 (iw z))) (fun C=>by kernel_rfl)).trans (Eq.trans (b:=kh N a c d g i j k l m (fun z=>rZ N (iw z))) (by kernel_rfl) (congrArg (kh N a c d g i j k l m) (funext fun z=>af1 N z)))) h fun _ ⟨n,o,p,_,e,f,q⟩=>⟨(n,o,p),e,⟨_,f⟩,q⟩
noncomputable def asQ:aL:=tab (P:=Try.prog) [] [oK] [] []
def aq0:IR:=Rs [Bx 1 0,Pp (.new 2 [nl .atype]),Mi 3 0] (Rs [Pp (.bld 5 [.ul .atype ([]:List aA),vI 0] []),Pp (.box 6 5),Mv 4 6] (Rs [Mv 7 4,Ld 8 5 true 1,Ca 9 72 [7,8,kS [],kI 1]] (Sq (Rs [Mv 10 4,Nk 11 10,Fa 12 1 11,Lo 13 12,Bc 14 .neq 13 0] (Cn 14 (Sq (.reg [Pp (.bld 15 [nl .atype] []),Mv 16 4,Nk 17 16,Fa 18 1 17,Fo [1] [] (.ld 19 1 false false 18),Fo [] [0] (.st none 1 2 15),Mv 3 19] [[],[],[1],[1,2],[1,2,3],[0],rg 0 5]) .ret) .skip)) (Sq (.gh (.fz (.cell 1 0)) (Rg [Mv 20 4,Nk 21 20,Fa 22 0 21,Pp (.ld 23 1 true false 22),Sv 1 2 23,Mi 3 0])) .ret))))
def aq1:List RV:=[.cell 2 1 true,.t 3]
theorem aq2:FnC Try.prog asQ [72,2000072] 0 aiY Try.f39 aq0 aq1:=fnC Try.func39
def ahZ(N:Nat)(b c:Int)(d:Bs)(e:List aB)(f:Bss):Ro:=
 let g:=fun h i j k l=>(some (.tup [.agg [.sl .atype (.may false) h],.int .i64 i],[some [j],some [k,.int .i64 l]]):Ro)
 aF (cP ([]:List aA) 0 b c d e f ([]:Bs) 1) (fun a=>
 cond (!(a.2.2==0)) (
 g ([]:List aA) a.2.2 (.sl .atype .own ([]:List aA)) (.ul .atype a.2.1) a.2.2) (
 g a.2.1 0 (.sl .atype (.may false) a.2.1) (.sl .atype .own a.2.1) a.2.2))
def ah0(N:Nat)(a b:Int)(c:Bs)(d:List aB)(e:Bss):Ro:=ahZ N a b c d e
theorem apc(N:Nat)(a b:Int)(c:Bs)(d:List aB)(f:Bss)(h:Tot (ah0 N a b c d f) (fun z=>∃(g:List aA)(i:Int)(rest:List aJ),z.1.dimR=.tup [.agg [.sl .atype (.may false) g],.int .i64 i]∧z.2=rest∧adQ a b c d f (g,i))):∃r,qd a b c d f r:=aq2.finP (N:=N) (by kernel_rfl) h fun _ ⟨g,i,_,e,_,q⟩=>⟨(g,i),e,q⟩
end Go.Proofs.Ytdpajabhmmmjoaa
end
noncomputable section
namespace Go.Proofs.Ytdpajabhmmmjoaa
open Go.AM
set_option autoImplicit false
set_option linter.unusedVariables false
set_option linter.unusedSimpArgs false
set_option maxRecDepth 100000
theorem nz{e c:Int}(hc:c≠0):(if e=0 then c else e)≠0:=by split<;>assumption
theorem auU(s:List UInt8)(hs:s.length≤1000000):∃r,qe s r:=by
 apply amh 2000000
 unfold aej pj
 dsimp only
 refine aT (fun x=>x.1=s∧ -1≤x.2∧x.2<(s.length:Int)) (fun x=>(x.2+1).toNat) ?_ _ _ ⟨rfl,by simp only[aI ((s.length:Int)-1) (by omega)];omega,by simp only[aI ((s.length:Int)-1) (by omega)];omega⟩ (by simp only[aI ((s.length:Int)-1) (by omega)];omega)
 rintro again ⟨s,i⟩ ⟨rfl,i1,i2⟩ ih
 simp only at i1 i2 ih hs ⊢
 have e:=aI (i-1) (by omega)
 unfold rS
 dsimp only
 repeat' (first|(with_reducible refine aC ?_ ?_<;>(intro hb;(try simp only[bnl] at hb);(try revert hb;intro _)))|with_reducible refine aH ?_ ?_|with_reducible refine aE ?_|fail)
 ·first|(simp only[bnl,lnl];done)|(simp only[bnl,lnl];omega)
 ·first|(simp only[bnl,lnl];done)|(simp only[bnl,lnl];omega)
 ·exact⟨_,_,rfl,rfl,by simp only[my,List.length_drop,List.length_take];omega⟩
 ·exact ih (s,_) ⟨rfl,by simp only[e];omega,by simp only[e];omega⟩ (by simp only[e];omega)
 ·exact⟨_,_,rfl,rfl,by simp[my]⟩
theorem awX(ts:List aA)(t:Int):∃r,sN ts t r:=by
 apply aqZ 1
 unfold aj4 aj3
 dsimp only
 repeat' (first|(with_reducible refine aC ?_ ?_<;>(intro hb;(try simp only[bnl] at hb);(try revert hb;intro _)))|with_reducible refine aH ?_ ?_|with_reducible refine aE ?_|(refine aD (awm _) ?_;intro _ _)|fail)
 all_goals first|exact⟨_,_,rfl,rfl⟩|(first|(simp only[bnl,lnl];done)|(simp only[bnl,lnl];omega))
theorem apB(ts:List aA)(e:Int)(name space:List UInt8)(h1:name.length≤100)(h2:space.length≤10000):∃r,gq ts e name space r:=by
 apply afP 2000
 unfold zk iW
 refine aD (awr _ _ (by omega) (by omega)) ?_
 rintro j ⟨-,hj⟩
 dsimp only[va] at hj ⊢
 refine aT (fun x=>x.1=name∧x.2.1.length≤name.length+space.length+1∧0≤x.2.2.1∧x.2.2.1≤(name.length:Int)∧x.2.2.2.1=ts∧x.2.2.2.2=e) (fun x=>((name.length:Int)-x.2.2.1).toNat) ?_ _ _ ⟨rfl,by simp only;omega,by simp,by simp,rfl,rfl⟩ (by simp;omega)
 rintro again ⟨name,w,i,ts,e⟩ ⟨rfl,i0,i1,i2,rfl,rfl⟩ ih
 simp only at i0 i1 i2 ih h1 hj ⊢
 have ew:i<name.length→IntKind.i64.wrap (i+1)=i+1:=fun h=>aI (i+1) (by omega)
 unfold lW
 dsimp only
 have next:∀q:List UInt8,i<name.length→q.length≤name.length+space.length+1→Tot (again (name,q,IntKind.i64.wrap (i+1),ts,e)) _:=fun q h hq=>ih (name,q,IntKind.i64.wrap (i+1),ts,e)
  (by simp only[ew h];exact⟨trivial,hq,by omega,by omega,trivial,trivial⟩) (by simp only[ew h];omega)
 repeat' (first|(with_reducible refine aC ?_ ?_<;>(intro hb;(try simp only[bnl] at hb);(try revert hb;intro _)))|with_reducible refine aH ?_ ?_|with_reducible refine aE ?_|(refine aD (cR _ _ _) ?_;rintro _ ⟨-,rfl⟩;try dsimp only)|(refine aD (avv _ (by omega)) ?_;intro _ _)|fail)
 all_goals first|(first|(simp only[bnl,lnl];done)|(simp only[bnl,lnl];omega))|(refine next _ (by omega) (by omega))|skip
 ·refine⟨_,_,_,_,rfl,rfl,?_,rfl,fun h=>absurd h (nz (by decide))⟩
  simp only
  omega
 ·refine⟨_,_,_,_,rfl,rfl,?_,rfl,fun h=>absurd h (nz (by decide))⟩
  simp only
  omega
 ·refine⟨_,_,_,_,rfl,rfl,?_,rfl,fun h=>h⟩
  simp only
  omega
theorem ami(ts:List aA)(e c0 c1:Int)(c2:List UInt8)(c3:List aB)(c4:List (List UInt8))(name:List UInt8)(must:Bool)(h:bl (.mk c0 c1 c2 c3 c4)):∃r,eC ts e c0 c1 c2 c3 c4 name must r:=by
 obtain⟨k1,k2,k3,k4,k5,k6⟩:=h.kids
 apply agW 1
 unfold zK zJ
 dsimp only
 refine aD (qv _ _ _ _ _ _ (by omega)) ?_
 rintro r ⟨-,hr⟩
 have hg:=vm (k:=c0) (names:=c4) (name:=name) k6
 simp only[cX] at hr
 rw[←hr] at hg
 obtain⟨g1,g2,g3,g4,g5,g6⟩:=hg.kids
 repeat' (first|(with_reducible refine aC ?_ ?_<;>(intro hb;(try simp only[bnl] at hb);(try revert hb;intro _)))|with_reducible refine aH ?_ ?_|with_reducible refine aE ?_|(refine aD (cR _ _ _) ?_;rintro _ ⟨-,rfl⟩;try dsimp only)|fail)
 all_goals first|exact⟨_,_,_,_,rfl,rfl,g1,rfl,fun h=>h⟩|exact⟨_,_,_,_,rfl,rfl,Nat.zero_le _,rfl,fun h=>h⟩|exact⟨_,_,_,_,rfl,rfl,Nat.zero_le _,rfl,fun h=>absurd h (nz (by decide))⟩
theorem aj6(ts:List aA)(e c0 c1:Int)(c2:List UInt8)(c3:List aB)(c4:List (List UInt8))(name:List UInt8)(h:bl (.mk c0 c1 c2 c3 c4)):∃r,dy ts e c0 c1 c2 c3 c4 name r:=by
 obtain⟨k1,k2,k3,k4,k5,k6⟩:=h.kids
 apply afR 2000
 unfold zm iX
 refine aD (qv _ _ _ _ _ _ (by omega)) ?_
 rintro r ⟨-,hr⟩
 have hg:=vm (k:=c0) (names:=c4) (name:=name) k6
 simp only[cX] at hr
 rw[←hr] at hg
 obtain⟨d0,d1,d2,l,d4,d5⟩:=r
 obtain⟨g1,g2,g3,g4,g5,g6⟩:=hg.kids
 dsimp only at g2 g6 ⊢
 have loop:∀e1:Int,(e1=0→e=0)→Tot (aS 2000 (io 2000) (d0,d1,d2,l,d4,[],0,ts,e1)) (fun z=>∃(y0:List (List UInt8))(y1:Bool)(y2:List aA)(y3:Int)(rest:List aJ),z.1.dimR=.tup [.sl .str (.may false) y0,.bool y1]∧z.2=some [.ul .atype y2,.int .i64 y3]::rest∧pm ts e c0 c1 c2 c3 c4 name (y0,y1,y2,y3)):=by
  intro e1 he1
  refine aT (fun x=>x.2.2.2.1=l∧(x.2.2.2.2.2.1.length:Int)=x.2.2.2.2.2.2.1∧x.2.2.2.2.2.2.1≤(l.length:Int)∧ct x.2.2.2.2.2.1∧x.2.2.2.2.2.2.2.1=ts∧(x.2.2.2.2.2.2.2.2=0→e=0)) (fun x=>((l.length:Int)-x.2.2.2.2.2.2.1).toNat) ?_ _ _ ⟨rfl,rfl,by simp,by simp[ct],rfl,he1⟩ (by simp;omega)
  rintro again ⟨d0,d1,d2,l,d4,out,i,ts,e1⟩ ⟨rfl,i1,i2,i3,rfl,i4⟩ ih
  simp only at i1 i2 i3 i4 ih g2 g6 ⊢
  have ew:i<l.length→IntKind.i64.wrap (i+1)=i+1:=fun h=>aI (i+1) (by omega)
  unfold io
  dsimp only
  have next:∀e2:Int,i<l.length→(e2=0→e=0)→Tot (again (d0,d1,d2,l,d4,out++[(List.getD l (Int.toNat i) (aG .jnode)).s],IntKind.i64.wrap (i+1),ts,e2)) _:=fun e2 h hq=>ih (d0,d1,d2,l,d4,out++[(List.getD l (Int.toNat i) (aG .jnode)).s],IntKind.i64.wrap (i+1),ts,e2)
   (by
    simp only[ew h,List.length_append,List.length_cons,List.length_nil]
    refine⟨trivial,by omega,by omega,?_,trivial,hq⟩
    intro x hx
    rcases List.mem_append.1 hx with hx|hx
    ·exact i3 x hx
    ·simp only[List.mem_singleton] at hx
     subst hx
     exact(bl.eta.2 (bl.getD g6 i.toNat)).kids.1) (by simp only[ew h];omega)
  repeat' (first|(with_reducible refine aC ?_ ?_<;>(intro hb;(try simp only[bnl] at hb);(try revert hb;intro _)))|with_reducible refine aH ?_ ?_|with_reducible refine aE ?_|(refine aD (cR _ _ _) ?_;rintro _ ⟨-,rfl⟩;try dsimp only)|fail)
  all_goals first|(first|(simp only[bnl,lnl];done)|(simp only[bnl,lnl];omega))|(refine next _ (by omega) ?_)|skip
  ·exact fun h=>absurd h (nz (by decide))
  ·exact i4
  ·exact⟨_,_,_,_,_,rfl,rfl,by simp only;omega,i3,rfl,i4⟩
  ·exact⟨_,_,_,_,_,rfl,rfl,by simp only;omega,i3,rfl,i4⟩
 repeat' (first|(with_reducible refine aC ?_ ?_<;>(intro hb;(try simp only[bnl] at hb);(try revert hb;intro _)))|with_reducible refine aH ?_ ?_|with_reducible refine aE ?_|(refine aD (cR _ _ _) ?_;rintro _ ⟨-,rfl⟩;try dsimp only)|fail)
 ·exact⟨_,_,_,_,_,rfl,rfl,by simp,by simp[ct],rfl,fun h=>h⟩
 ·exact loop _ fun h=>absurd h (nz (by decide))
 ·exact loop _ fun h=>h
theorem apC(ts:List aA)(e:Int)(s space:List UInt8)(h:ts.length≤60)(h1:s.length≤100)(h2:space.length≤10000):∃r,hU ts e s space r:=by
 apply ag0 2000
 unfold zM kg
 have loop:Tot (aS 2000 (iZ 2000) (s,space,false,0,ts,e)) (fun z=>∃(y0:Int)(y1:List aA)(y2:Int)(rest:List aJ),z.1.dimR=.int .i64 y0∧z.2=some [.ul .atype y1,.int .i64 y2]::rest∧qc ts e s space (y0,y1,y2)):=by
  refine aT (fun x=>x.1=s∧x.2.1=space∧0≤x.2.2.2.1∧x.2.2.2.1≤(s.length:Int)∧x.2.2.2.2.1=ts∧x.2.2.2.2.2=e) (fun x=>((s.length:Int)-x.2.2.2.1).toNat) ?_ _ _ ⟨rfl,rfl,by simp,by simp,rfl,rfl⟩ (by simp;omega)
  rintro again ⟨s,space,d,i,ts,e⟩ ⟨rfl,rfl,i1,i2,rfl,rfl⟩ ih
  simp only at i1 i2 ih h h1 h2 ⊢
  have ew:i<s.length→IntKind.i64.wrap (i+1)=i+1:=fun h=>aI (i+1) (by omega)
  unfold iZ
  dsimp only
  have next:∀b:Bool,i<s.length→Tot (again (s,space,b,IntKind.i64.wrap (i+1),ts,e)) _:=fun b h=>ih (s,space,b,IntKind.i64.wrap (i+1),ts,e)
   (by simp only[ew h];exact⟨trivial,trivial,by omega,by omega,trivial,trivial⟩) (by simp only[ew h];omega)
  repeat' (first|(with_reducible refine aC ?_ ?_<;>(intro hb;(try simp only[bnl] at hb);(try revert hb;intro _)))|with_reducible refine aH ?_ ?_|with_reducible refine aE ?_|(refine aD (cR _ _ _) ?_;rintro _ ⟨-,rfl⟩;try dsimp only)|(refine aD (asj _ _ _ h) ?_;rintro⟨a,b,ts',e'⟩ ⟨-,hq,hf⟩;simp only[Prod.mk.injEq] at hq;obtain⟨rfl,rfl⟩:=hq;dsimp only at hf ⊢)|fail)
  all_goals first|(first|(simp only[bnl,lnl];done)|(simp only[bnl,lnl];omega))|(refine next _ (by omega))|exact⟨_,_,_,_,rfl,rfl,bB.bad h (nz (by decide)),fun h=>absurd h (nz (by decide))⟩|exact⟨_,_,_,_,rfl,rfl,bB.refl h,fun _=>hf (by assumption)⟩
 refine aD (alN _) ?_
 rintro(k:Int) ⟨-,hk1,hk2,hk3⟩
 repeat' (first|(with_reducible refine aC ?_ ?_<;>(intro hb;(try simp only[bnl] at hb);(try revert hb;intro _)))|with_reducible refine aH ?_ ?_|with_reducible refine aE ?_|(refine aD (akf _ _ _ _ _ _ _ _ _ _ _ _ h) ?_;rintro _ ⟨-,rfl⟩;try dsimp only)|fail)
 ·by_cases hl:60≤ts.length
  ·skip
   simp only[if_pos hl]
   exact⟨_,_,_,_,rfl,rfl,bB.bad h (nz (by decide)),fun h=>absurd h (nz (by decide))⟩
  ·simp only[if_neg hl]
   refine⟨_,_,_,_,rfl,rfl,bB.push (by omega) _ ⟨by simp only;omega,by simp,by simp,by simp,by simp,by simp,by simp,(fun h=>by simp only at h;omega),(by simp only;omega),(fun h=>by simp only at h;omega),fun _=>rfl,by simp,by simp⟩,fun _=>?_⟩
   simp only[List.length_append,List.length_cons,List.length_nil]
   omega
 ·exact loop
 ·exact loop
end Go.Proofs.Ytdpajabhmmmjoaa
end
noncomputable section
namespace Go.Proofs.Ytdpajabhmmmjoaa
open Go.AM
set_option autoImplicit false
set_option linter.unusedVariables false
set_option linter.unusedSimpArgs false
set_option maxRecDepth 100000
theorem qU{α:Type}{l:List α}{i:Nat}{x d:α}(h:l[i]? =some x):l.getD i d=x:=by
 rw[List.getD_eq_getElem?_getD,h];rfl
theorem atI{α:Type}{l:List α}{i:Nat}{x d:α}(h:i<l.length):(l.set i x).getD i d=x:=qU (List.getElem?_set_self h)
theorem atJ(ts:List aA)(e c0 c1:Int)(c2:List UInt8)(c3:List aB)(c4:List (List UInt8))(at_:Int)(h:bl (.mk c0 c1 c2 c3 c4))(hat:e=0→0≤at_∧at_<ts.length):∃r,hY ts e c0 c1 c2 c3 c4 at_ r:=by
 obtain⟨k1,k2,k3,k4,k5,k6⟩:=h.kids
 apply adC 2000
 unfold wH gQ
 dsimp only
 refine aD (aj6 _ _ _ _ _ _ _ _ h) ?_
 rintro⟨l,is,ts',e1⟩ ⟨-,h1,h2,rfl,h3⟩
 dsimp only at h1 h2 h3 hat ⊢
 have loop2:∀(hd:Bool)(d:List UInt8)(e1:Int),(e1=0→e=0∧l≠[])→Tot (aS 2000 (eL 2000) (at_,l,hd,d,false,0,ts',e1)) (fun z=>∃(y0:List aA)(y1:Int)(rest:List aJ),z.1.dimR=.tup []∧z.2=some [.ul .atype y0,.int .i64 y1]::rest∧d7 ts' e c0 c1 c2 c3 c4 at_ (y0,y1)):=by
  intro hd d e1 he1
  refine aT (fun x=>match x with|(a,l',hd',d',b,i,ts2,e2)=>a=at_∧l'=l∧hd'=hd∧d'=d∧0≤i∧i≤(l.length:Int)∧ts2=ts'∧e2=e1) (fun x=>((l.length:Int)-x.2.2.2.2.2.1).toNat) ?_ _ _ ⟨rfl,rfl,rfl,rfl,by simp,by simp,rfl,rfl⟩ (by simp;omega)
  rintro again ⟨a,l',hd',d',b,i,ts2,e2⟩ ⟨rfl,rfl,rfl,rfl,i1,i2,rfl,rfl⟩ ih
  dsimp only at ih
  have ew:i<l'.length→IntKind.i64.wrap (i+1)=i+1:=fun h=>aI (i+1) (by omega)
  have next:∀b:Bool,i<l'.length→Tot (again (a,l',hd',d',b,IntKind.i64.wrap (i+1),ts2,e2)) _:=fun b h=>ih (a,l',hd',d',b,IntKind.i64.wrap (i+1),ts2,e2)
   (by simp only[ew h];exact⟨trivial,trivial,trivial,trivial,by omega,by omega,trivial,trivial⟩) (by simp only[ew h];omega)
  unfold eL
  dsimp only
  have fin:∀(h0:e2=0)(e3:Int),e3=e2→d7 ts2 e c0 c1 c2 c3 c4 a (List.set (List.set (List.set ts2 (Int.toNat a) (let e_:=List.getD ts2 (Int.toNat a) (aG .atype);⟨(e_).kind,(e_).name,(e_).aliases,(e_).items,l',(e_).hasdef,(e_).df,(e_).size,(e_).fields,(e_).branches⟩)) (Int.toNat a) (let e_:=List.getD (List.set ts2 (Int.toNat a) (let e_:=List.getD ts2 (Int.toNat a) (aG .atype);⟨(e_).kind,(e_).name,(e_).aliases,(e_).items,l',(e_).hasdef,(e_).df,(e_).size,(e_).fields,(e_).branches⟩)) (Int.toNat a) (aG .atype);⟨(e_).kind,(e_).name,(e_).aliases,(e_).items,(e_).syms,hd',(e_).df,(e_).size,(e_).fields,(e_).branches⟩)) (Int.toNat a) (let e_:=List.getD (List.set (List.set ts2 (Int.toNat a) (let e_:=List.getD ts2 (Int.toNat a) (aG .atype);⟨(e_).kind,(e_).name,(e_).aliases,(e_).items,l',(e_).hasdef,(e_).df,(e_).size,(e_).fields,(e_).branches⟩)) (Int.toNat a) (let e_:=List.getD (List.set ts2 (Int.toNat a) (let e_:=List.getD ts2 (Int.toNat a) (aG .atype);⟨(e_).kind,(e_).name,(e_).aliases,(e_).items,l',(e_).hasdef,(e_).df,(e_).size,(e_).fields,(e_).branches⟩)) (Int.toNat a) (aG .atype);⟨(e_).kind,(e_).name,(e_).aliases,(e_).items,(e_).syms,hd',(e_).df,(e_).size,(e_).fields,(e_).branches⟩)) (Int.toNat a) (aG .atype);⟨(e_).kind,(e_).name,(e_).aliases,(e_).items,(e_).syms,(e_).hasdef,d',(e_).size,(e_).fields,(e_).branches⟩),e3):=by
   rintro h0 e3 rfl
   have ha:=hat (he1 h0).1
   have hl:a.toNat<ts2.length:=by omega
   refine⟨fun h=>(he1 h).1,fun h=>absurd h0 h,fun _=>⟨l',hd',d',(he1 h0).2,h1,ts2[a.toNat],List.getElem?_eq_getElem hl,?_⟩⟩
   have g:∀x:aA,(ts2.set a.toNat x).getD a.toNat (aG .atype)=x:=fun x=>atI hl
   have g0:ts2.getD a.toNat (aG .atype)=ts2[a.toNat]:=qU (List.getElem?_eq_getElem hl)
   simp only[List.set_set,g,g0]
  repeat' (first|(with_reducible refine aC ?_ ?_<;>(intro hb;(try simp only[bnl] at hb);(try revert hb;intro _)))|with_reducible refine aH ?_ ?_|with_reducible refine aE ?_|(refine aD (cR _ _ _) ?_;rintro _ ⟨-,rfl⟩;try dsimp only)|fail)
  all_goals first|(refine next _ (by omega))|skip
  all_goals have hat':e2=0→0≤a∧a<ts2.length:=fun h=>hat (he1 h).1
  all_goals first|(first|(simp only[bnl,lnl];done)|(simp only[bnl,lnl];omega))|skip
  all_goals first|exact⟨_,_,_,rfl,rfl,fun h=>(he1 h).1,fun _=>rfl,fun h=>absurd h (by assumption)⟩|exact⟨_,_,_,rfl,rfl,fun h=>absurd h (nz (by decide)),fun _=>rfl,fun h=>absurd h (nz (by decide))⟩|exact⟨_,_,_,rfl,rfl,fin (by assumption) _ rfl⟩|(exfalso;exact nz (by decide) (by assumption))|skip
 have loop1:∀(e1:Int),(e1=0→e=0∧l≠[])→Tot (aS 2000 (gb 2000) (at_,c0,c1,c2,c3,c4,l,0,ts',e1)) (fun z=>∃(y0:List aA)(y1:Int)(rest:List aJ),z.1.dimR=.tup []∧z.2=some [.ul .atype y0,.int .i64 y1]::rest∧d7 ts' e c0 c1 c2 c3 c4 at_ (y0,y1)):=by
  intro e1 he1
  refine aT (fun x=>match x with|(a,d0,d1,d2,d3,d4,l',i,ts2,e2)=>a=at_∧d0=c0∧d1=c1∧d2=c2∧d3=c3∧d4=c4∧l'=l∧0≤i∧i≤(l.length:Int)∧ts2=ts'∧(e2=0→e=0∧l≠[])) (fun x=>((l.length:Int)-x.2.2.2.2.2.2.2.1).toNat) ?_ _ _ ⟨rfl,rfl,rfl,rfl,rfl,rfl,rfl,by simp,by simp,rfl,he1⟩ (by simp;omega)
  rintro again ⟨a,d0,d1,d2,d3,d4,l',i,ts2,e2⟩ ⟨rfl,rfl,rfl,rfl,rfl,rfl,rfl,i1,i2,rfl,i3⟩ ih
  dsimp only at ih
  have ew:i<l'.length→IntKind.i64.wrap (i+1)=i+1:=fun h=>aI (i+1) (by omega)
  have next:∀e2:Int,i<l'.length→(e2=0→e=0∧l'≠[])→Tot (again (a,d0,d1,d2,d3,d4,l',IntKind.i64.wrap (i+1),ts2,e2)) _:=fun e2 h he=>ih (a,d0,d1,d2,d3,d4,l',IntKind.i64.wrap (i+1),ts2,e2)
   (by simp only[ew h];exact⟨trivial,trivial,trivial,trivial,trivial,trivial,trivial,by omega,by omega,trivial,he⟩) (by simp only[ew h];omega)
  have inner:∀e2:Int,i<l'.length→(e2=0→e=0∧l'≠[])→Tot (aS 2000 (eK 2000 again) (a,d0,d1,d2,d3,d4,l',i,0,ts2,e2)) (fun z=>∃(y0:List aA)(y1:Int)(rest:List aJ),z.1.dimR=.tup []∧z.2=some [.ul .atype y0,.int .i64 y1]::rest∧d7 ts2 e d0 d1 d2 d3 d4 a (y0,y1)):=by
   intro e2 hi he
   refine aT (fun x=>match x with|(a',b0,b1,b2,b3,b4,l2,i',k,ts3,e3)=>a'=a∧b0=d0∧b1=d1∧b2=d2∧b3=d3∧b4=d4∧l2=l'∧i'=i∧0≤k∧k≤i∧ts3=ts2∧(e3=0→e=0∧l'≠[])) (fun x=>(i-x.2.2.2.2.2.2.2.2.1).toNat) ?_ _ _ ⟨rfl,rfl,rfl,rfl,rfl,rfl,rfl,rfl,by simp,i1,rfl,he⟩ (by simp only;omega)
   rintro again1 ⟨a',b0,b1,b2,b3,b4,l2,i',k,ts3,e3⟩ ⟨rfl,rfl,rfl,rfl,rfl,rfl,rfl,rfl,j1,j2,rfl,j3⟩ ih1
   dsimp only at ih1
   have ek:k<i'→IntKind.i64.wrap (k+1)=k+1:=fun h=>aI (k+1) (by omega)
   have next1:∀e2:Int,k<i'→(e2=0→e=0∧l2≠[])→Tot (again1 (a',b0,b1,b2,b3,b4,l2,i',IntKind.i64.wrap (k+1),ts3,e2)) _:=fun e2 h he=>ih1 (a',b0,b1,b2,b3,b4,l2,i',IntKind.i64.wrap (k+1),ts3,e2)
    (by simp only[ek h];exact⟨trivial,trivial,trivial,trivial,trivial,trivial,trivial,trivial,by omega,by omega,trivial,he⟩) (by simp only[ek h];omega)
   unfold eK
   dsimp only
   repeat' (first|(with_reducible refine aC ?_ ?_<;>(intro hb;(try simp only[bnl] at hb);(try revert hb;intro _)))|with_reducible refine aH ?_ ?_|with_reducible refine aE ?_|(refine aD (cR _ _ _) ?_;rintro _ ⟨-,rfl⟩;try dsimp only)|fail)
   all_goals first|(first|(simp only[bnl,lnl];done)|(simp only[bnl,lnl];omega))|exact next1 _ (by omega) j3|exact next1 _ (by omega) (fun h=>absurd h (nz (by decide)))|exact next _ hi j3
  unfold gb iY
  dsimp only
  repeat' (first|(with_reducible refine aC ?_ ?_<;>(intro hb;(try simp only[bnl] at hb);(try revert hb;intro _)))|with_reducible refine aH ?_ ?_|with_reducible refine aE ?_|(refine aD (cR _ _ _) ?_;rintro _ ⟨-,rfl⟩;try dsimp only)|(refine aD (agI _ ?_) ?_;rotate_left;intro _ _)|(refine aD (qv _ _ _ _ _ _ (by omega)) ?_;intro _ _)|(refine aD (ami _ _ _ _ _ _ _ _ _ h) ?_;rintro⟨w,ts4,e4⟩ ⟨-,w1,rfl,w2⟩;dsimp only at w2 ⊢)|fail)
  all_goals first|(first|(simp only[bnl,lnl];done)|(simp only[bnl,lnl];omega))|exact inner _ (by omega) i3|exact inner _ (by omega) (fun h=>absurd h (nz (by decide)))|exact loop2 _ _ _ (fun h=>i3 (w2 h))|skip
  ·have:(l'.getD i.toNat (aG .str)).length≤100:=by
    rw[List.getD_eq_getElem?_getD]
    cases hq:l'[i.toNat]? with
    |none=>exact Nat.zero_le _
    |some y=>exact h2 y (List.mem_of_getElem? hq)
   omega
 have nz':∀{e c:Int},c≠0→(if e=0 then c else e)=0→∀{p:Prop},p:=fun hc h=>absurd h (nz hc)
 repeat' (first|(with_reducible refine aC ?_ ?_<;>(intro hb;(try simp only[bnl] at hb);(try revert hb;intro _)))|with_reducible refine aH ?_ ?_|with_reducible refine aE ?_|(refine aD (cR _ _ _) ?_;rintro _ ⟨-,rfl⟩;try dsimp only)|fail)
 all_goals first|exact loop1 _ (fun h=>absurd h (nz (by decide)))|skip
 all_goals refine loop1 _ (fun h=>⟨h3 h,fun hl=>?_⟩)
 all_goals subst hl;simp at*
end Go.Proofs.Ytdpajabhmmmjoaa
end
noncomputable section
namespace Go.Proofs.Ytdpajabhmmmjoaa
open Go.AM
set_option autoImplicit false
set_option linter.unusedVariables false
set_option linter.unusedSimpArgs false
set_option maxRecDepth 100000
def acf(deep:Int):Prop:=∀(ts:List aA)(e c0 c1:Int)(c2:List UInt8)(c3:List aB)(c4:List (List UInt8))(space:List UInt8),
 ts.length≤60→bl (.mk c0 c1 c2 c3 c4)→(space.length:Int)≤202*deep→∃r,cP ts e c0 c1 c2 c3 c4 space deep r
theorem bB.stuck{ts ts':List aA}{e e':Int}(h1:ts.length≤ts'.length)(h2:ts'.length≤60)(he:e'≠0):bB ts e ts' e':=
 ⟨h1,h2,fun h=>absurd h he,fun h=>absurd h he,fun h=>absurd h he⟩
structure n8(ts:List aA)(e:Int)(t0:aA)(at_:Int)(ts2:List aA)(e2:Int):Prop where
 len:ts.length≤ts2.length
 cap:ts2.length≤60
 grow:e2=0→at_=ts.length∧bB (ts++[t0]) e ts2 e2
theorem n8.add{ts:List aA}{e:Int}{t0:aA}(h:ts.length≤60){r:Int×List aA×Int}(hr:r=if 60≤ts.length then (0,ts,if e=0 then 3 else e) else ((ts.length:Int),ts++[t0],e)):n8 ts e t0 r.1 r.2.1 r.2.2:=by
 by_cases hl:60≤ts.length
 ·rw[if_pos hl] at hr
  subst hr
  exact⟨Nat.le_refl _,h,fun h=>absurd h (nz (by decide))⟩
 ·rw[if_neg hl] at hr
  subst hr
  exact⟨by simp,by simp;omega,fun h=>⟨rfl,bB.refl (by simp;omega)⟩⟩
theorem n8.more{ts ts2 ts3:List aA}{e e2 e3:Int}{t0:aA}{a:Int}(h:n8 ts e t0 a ts2 e2)(h':bB ts2 e2 ts3 e3):n8 ts e t0 a ts3 e3:=
 ⟨Nat.le_trans h.len h'.len,h'.cap,fun he=>⟨(h.grow (h'.err he)).1,(h.grow (h'.err he)).2.trans h'⟩⟩
theorem n8.bad{ts ts2:List aA}{e e2 e3:Int}{t0:aA}{a:Int}(h:n8 ts e t0 a ts2 e2)(he:e3≠0):n8 ts e t0 a ts2 e3:=
 ⟨h.len,h.cap,fun h'=>absurd h' he⟩
theorem n8.stuck{ts ts2:List aA}{e e2:Int}{t0:aA}{a:Int}(h:n8 ts e t0 a ts2 e2)(he:e2≠0):bB ts e ts2 e2:=bB.stuck h.len h.cap he
theorem n8.range{ts ts2:List aA}{e e2:Int}{t0:aA}{a:Int}(h:n8 ts e t0 a ts2 e2)(he:e2=0):0≤a∧a<ts2.length:=by
 obtain⟨rfl,g⟩:=h.grow he
 have:=g.len
 simp only[List.length_append,List.length_singleton] at this
 omega
theorem n8.done{ts ts2:List aA}{e e2:Int}{t0 t:aA}{a:Int}(h:n8 ts e t0 a ts2 e2)(he:e2=0)(ht:oJ ts2.length t):bB ts e (ts2.set a.toNat t) e2:=by
 obtain⟨rfl,g⟩:=h.grow he
 rw[Int.toNat_natCast]
 exact g.close ht
theorem n8.get{ts ts2:List aA}{e e2:Int}{t0:aA}{a:Int}(h:n8 ts e t0 a ts2 e2)(he:e2=0):ts2[a.toNat]? =some t0:=by
 obtain⟨rfl,g⟩:=h.grow he
 rw[Int.toNat_natCast]
 exact g.at_open he
theorem n8.kept{ts ts2:List aA}{e e2:Int}{t0:aA}{a:Int}(h:n8 ts e t0 a ts2 e2)(ht:oJ (ts.length+1) t0):bB ts e ts2 e2:=by
 by_cases he:e2=0
 ·obtain⟨rfl,g⟩:=h.grow he
  have:=g.len
  have:=g.cap
  simp only[List.length_append,List.length_singleton] at*
  exact(bB.push (by omega) t0 ht).trans g
 ·exact h.stuck he
theorem avL(deep:Int)(hd:1≤deep∧deep≤20)(hT:acf (deep+1))(ts:List aA)(e c0 c1:Int)(c2:List UInt8)(c3:List aB)(c4:List (List UInt8))(space:List UInt8)
  (h:ts.length≤60) (hn:bl (.mk c0 c1 c2 c3 c4)) (hs:(space.length:Int)≤202*deep):∃r,jU ts e c0 c1 c2 c3 c4 space deep r:=by
 obtain⟨k1,k2,k3,k4,k5,k6⟩:=hn.kids
 apply afU 2000
 unfold zn i9
 dsimp only
 refine aD (akf _ _ _ _ _ _ _ _ _ _ _ _ h) ?_
 rintro r ⟨-,hr⟩
 have ho:=n8.add h hr
 clear hr
 obtain⟨a,ts1,e1⟩:=r
 dsimp only at ho ⊢
 repeat' (first|(with_reducible refine aC ?_ ?_<;>(intro hb;(try simp only[bnl] at hb);(try revert hb;intro _)))|with_reducible refine aH ?_ ?_|with_reducible refine aE ?_|(refine aD (cR _ _ _) ?_;rintro _ ⟨-,rfl⟩;try dsimp only)|fail)
 ·exact⟨_,_,_,_,rfl,rfl,ho.bad (nz (by decide)) |>.stuck (nz (by decide)),fun h=>absurd h (nz (by decide))⟩
 ·exact⟨_,_,_,_,rfl,rfl,ho.bad (nz (by decide)) |>.stuck (nz (by decide)),fun h=>absurd h (nz (by decide))⟩
 rename_i hl1 hl2
 refine aT (fun x=>match x with|(sp,dp,d0,d1,d2,l,d4,a',bs,i,ts2,e2)=>sp=space∧dp=deep∧l=c3∧a'=a∧(bs.length:Int)=i∧i≤(c3.length:Int)∧(∀b∈bs,0≤b∧b<(ts2.length:Int))∧n8 ts e ⟨14,[],[],0,[],false,[],0,[],[]⟩ a ts2 e2) (fun x=>((c3.length:Int)-x.2.2.2.2.2.2.2.2.2.1).toNat) ?_ _ _
  ⟨rfl,rfl,rfl,rfl,rfl,by simp,by simp,ho⟩ (by simp;omega)
 rintro again ⟨sp,dp,d0,d1,d2,l,d4,a',bs,i,ts2,e2⟩ ⟨rfl,rfl,rfl,rfl,i1,i2,i3,i4⟩ ih
 dsimp only at ih
 have ew:i<l.length→IntKind.i64.wrap (i+1)=i+1:=fun h=>aI (i+1) (by omega)
 have ed:IntKind.i64.wrap (dp+1)=dp+1:=aI (dp+1) (by omega)
 unfold ma lg
 dsimp only
 have fin:e2=0→i=l.length→oJ ts2.length (let e_:=List.getD ts2 (Int.toNat a') (aG .atype);⟨(e_).kind,(e_).name,(e_).aliases,(e_).items,(e_).syms,(e_).hasdef,(e_).df,(e_).size,(e_).fields,bs⟩):=by
  intro h0 hi
  rw[qU (i4.get h0)]
  have hr:=i4.range h0
  exact⟨⟨by simp,by simp only;omega⟩,by simp,by simp,i3,by simp only;omega,by simp,by simp,fun _ hb=>by
   have hb:bs=[]:=hb
   rw[hb] at i1
   simp at i1
   omega,by simp,by simp,fun _=>rfl,by simp,by simp⟩
 have hat:e2=0→0≤a'∧a'<ts2.length:=fun h0=>i4.range h0
 repeat' (first|(with_reducible refine aC ?_ ?_<;>(intro hb;(try simp only[bnl] at hb);(try revert hb;intro _)))|with_reducible refine aH ?_ ?_|with_reducible refine aE ?_|(refine aD (cR _ _ _) ?_;rintro _ ⟨-,rfl⟩;try dsimp only)|fail)
 all_goals try simp only[ed]
 ·first|(simp only[bnl,lnl];done)|(simp only[bnl,lnl];omega)
 ·have hkid:=bl.eta.2 (bl.getD k6 i.toNat)
  refine aD (hT _ _ _ _ _ _ _ _ i4.cap hkid (by omega)) ?_
  rintro⟨k,ts3,e3⟩ ⟨-,g1,g2⟩
  dsimp only at g1 g2 ⊢
  have i5:=i4.more g1
  have hl3:=g1.len
  repeat' (first|(with_reducible refine aC ?_ ?_<;>(intro hb;(try simp only[bnl] at hb);(try revert hb;intro _)))|with_reducible refine aH ?_ ?_|with_reducible refine aE ?_|(refine aD (cR _ _ _) ?_;rintro _ ⟨-,rfl⟩;try dsimp only)|fail)
  ·rename_i he3
   exact⟨_,_,_,_,rfl,rfl,i5.stuck he3,fun h=>absurd h he3⟩
  ·have:=g2 (by assumption);first|(simp only[bnl,lnl];done)|(simp only[bnl,lnl];omega)
  ·have:=g2 (by assumption);first|(simp only[bnl,lnl];done)|(simp only[bnl,lnl];omega)
  ·have:=g2 (by assumption);first|(simp only[bnl,lnl];done)|(simp only[bnl,lnl];omega)
  ·first|(simp only[bnl,lnl];done)|(simp only[bnl,lnl];omega)
  ·exact⟨_,_,_,_,rfl,rfl,(i5.bad (nz (by decide))).stuck (nz (by decide)),fun h=>absurd h (nz (by decide))⟩
  ·rename_i he3 hk
   have g2':=g2 he3
   refine aT (fun x=>match x with|(sp',dp',d0,d1,d2,l',d4,a2,bs',i',k',m,ts4,e4)=>sp'=sp∧dp'=dp∧l'=l∧a2=a'∧bs'=bs∧i'=i∧k'=k∧0≤m∧m≤(bs.length:Int)∧ts4=ts3∧e4=e3) (fun x=>((bs.length:Int)-x.2.2.2.2.2.2.2.2.2.2.2.1).toNat) ?_ _ _
    ⟨rfl,rfl,rfl,rfl,rfl,rfl,rfl,by simp,by simp,rfl,rfl⟩ (by simp;omega)
   rintro again1 ⟨sp',dp',d0',d1',d2',l',d4',a2,bs',i',k',m,ts4,e4⟩ ⟨rfl,rfl,rfl,rfl,rfl,rfl,rfl,j1,j2,rfl,rfl⟩ ih1
   dsimp only at ih1
   have em:m<bs'.length→IntKind.i64.wrap (m+1)=m+1:=fun h=>aI (m+1) (by omega)
   unfold ip
   dsimp only
   repeat' (first|(with_reducible refine aC ?_ ?_<;>(intro hb;(try simp only[bnl] at hb);(try revert hb;intro _)))|with_reducible refine aH ?_ ?_|with_reducible refine aE ?_|(refine aD (cR _ _ _) ?_;rintro _ ⟨-,rfl⟩;try dsimp only)|(refine atX ?_ (awX _ _) ?_;rotate_left;intro _ _)|fail)
   all_goals first|(first|(simp only[bnl,lnl];done)|(simp only[bnl,lnl];omega))|exact⟨_,_,_,_,rfl,rfl,(i5.bad (nz (by decide))).stuck (nz (by decide)),fun h=>absurd h (nz (by decide))⟩|skip
   ·rename_i hm _ _ _ _ _
    refine ih1 (sp',dp',d0',d1',d2',l',d4',a2,bs',i',k',_,ts4,e4) ?_ ?_
    ·simp only[em hm];exact⟨trivial,trivial,trivial,trivial,trivial,trivial,trivial,by omega,by omega,trivial,trivial⟩
    ·simp only[em hm];omega
   ·have hil:i'<l'.length:=by omega
    refine ih (sp',dp',d0',d1',d2',l',d4',a2,_,_,ts4,e4) ?_ ?_
    ·simp only[ew hil,List.length_append,List.length_cons,List.length_nil]
     refine⟨trivial,trivial,trivial,trivial,by omega,by omega,?_,i5⟩
     intro b hb
     rcases List.mem_append.1 hb with hb|hb
     ·have:=i3 b hb;omega
     ·simp only[List.mem_singleton] at hb
      subst hb;exact g2'
    ·simp only[ew hil];omega
 all_goals first|(exfalso;omega)|skip
 all_goals have hat2:=fun h0=>hat h0
 all_goals first|(first|(simp only[bnl,lnl];done)|(simp only[bnl,lnl];omega))|skip
 ·rename_i h0
  exact⟨_,_,_,_,rfl,rfl,i4.stuck h0,fun h=>absurd h h0⟩
 ·rename_i h0
  have hr:=i4.range h0
  exact⟨_,_,_,_,rfl,rfl,i4.done h0 (fin h0 (by omega)),fun _=>by simpa using hr⟩
 ·rename_i h0
  exact⟨_,_,_,_,rfl,rfl,i4.stuck h0,fun h=>absurd h h0⟩
end Go.Proofs.Ytdpajabhmmmjoaa
end
noncomputable section
namespace Go.Proofs.Ytdpajabhmmmjoaa
open Go.AM
set_option autoImplicit false
set_option linter.unusedVariables false
set_option linter.unusedSimpArgs false
set_option maxRecDepth 100000
theorem ag7{l:List (List UInt8)}(h:ct l)(i:Nat):(l.getD i (aG .str)).length≤100:=by
 rw[List.getD_eq_getElem?_getD]
 cases hq:l[i]? with
 |none=>exact Nat.zero_le _
 |some y=>exact h y (List.mem_of_getElem? hq)
def xE(m:Nat)(l:List aM):Prop:=l.length≤8∧(∀f∈l,0≤f.typ∧f.typ<m∧bl f.df)∧∀f∈l,f.aliases.length≤100
theorem xE.mono{m m':Nat}{l:List aM}(h:xE m l)(hm:m≤m'):xE m' l:=
 ⟨h.1,fun f hf=>⟨(h.2.1 f hf).1,by have:=(h.2.1 f hf).2.1;omega,(h.2.1 f hf).2.2⟩,h.2.2⟩
theorem auV(deep:Int)(hd:1≤deep∧deep≤20)(hT:acf (deep+1))(ts:List aA)(e c0 c1:Int)(c2:List UInt8)(c3:List aB)(c4:List (List UInt8))(at_:Int)(space:List UInt8)
  (h:ts.length≤60) (hn:bl (.mk c0 c1 c2 c3 c4)) (hs:(space.length:Int)≤202*deep+201) (hat:e=0→0≤at_∧at_<ts.length):∃r,iG ts e c0 c1 c2 c3 c4 at_ space deep r:=by
 obtain⟨k1,k2,k3,k4,k5,k6⟩:=hn.kids
 apply aeM 2000
 unfold xZ iq
 dsimp only
 refine aD (qv _ _ _ _ _ _ (by omega)) ?_
 rintro r ⟨-,hr⟩
 have hg:=vm (k:=c0) (names:=c4) (name:=[102,105,101,108,100,115]) k6
 simp only[cX] at hr
 rw[←hr] at hg
 obtain⟨b0,b1,b2,l,b4,b5⟩:=r
 obtain⟨g1,g2,g3,g4,g5,g6⟩:=hg.kids
 dsimp only at g2 g6 ⊢
 have bad:∀c:Int,c≠0→eH ts e c0 c1 c2 c3 c4 at_ space deep (ts,if e=0 then c else e):=fun c hc=>⟨ts,bB.stuck (Nat.le_refl _) h (nz hc),.inl rfl⟩
 repeat' (first|(with_reducible refine aC ?_ ?_<;>(intro hb;(try simp only[bnl] at hb);(try revert hb;intro _)))|with_reducible refine aH ?_ ?_|with_reducible refine aE ?_|(refine aD (cR _ _ _) ?_;rintro _ ⟨-,rfl⟩;try dsimp only)|fail)
 ·exact⟨_,_,_,rfl,rfl,bad 2 (by decide)⟩
 ·exact⟨_,_,_,rfl,rfl,bad 2 (by decide)⟩
 ·exact⟨_,_,_,rfl,rfl,bad 3 (by decide)⟩
 rename_i hl
 refine aT (fun x=>match x with|(a,sp,dp,d0,d1,d2,l',d4,out,i,ts2,e2)=>a=at_∧sp=space∧dp=deep∧l'=l∧(out.length:Int)=i∧i≤(l.length:Int)∧bB ts e ts2 e2∧(e2=0→xE ts2.length out)) (fun x=>((l.length:Int)-x.2.2.2.2.2.2.2.2.2.1).toNat) ?_ _ _
  ⟨rfl,rfl,rfl,rfl,rfl,by simp,bB.refl h,fun _=>⟨by simp,by simp,by simp⟩⟩ (by simp;omega)
 rintro again ⟨a,sp,dp,d0,d1,d2,l,d4,out,i,ts2,e2⟩ ⟨rfl,rfl,rfl,rfl,i1,i2,i3,i4⟩ ih
 dsimp only at ih
 have ew:i<l.length→IntKind.i64.wrap (i+1)=i+1:=fun h=>aI (i+1) (by omega)
 have ed:IntKind.i64.wrap (dp+1)=dp+1:=aI (dp+1) (by omega)
 have hat2:e2=0→0≤a∧a<ts2.length:=fun h0=>by
  have:=hat (i3.err h0)
  have:=i3.len
  omega
 unfold lk jR
 dsimp only
 have hkid:=bl.eta.2 (bl.getD g6 i.toNat)
 have hkk:=hkid.kids
 have inner2:∀(ts3:List aA)(e3:Int)(nm:List UInt8)(al:List (List UInt8))(ty:Int)(hd':Bool)(f0 f1:Int)(f2:List UInt8)(f3:List aB)(f4:List (List UInt8)),i<l.length→bB ts e ts3 e3→ct al→al.length≤100→(e3=0→xE ts3.length out∧0≤ty∧ty<ts3.length)→bl (.mk f0 f1 f2 f3 f4)→
   Tot (aS 2000 (dO 2000 again) (a,sp,dp,d0,d1,d2,l,d4,out,i,0,ts3,e3,nm,al,ty,hd',f0,f1,f2,f3,f4)) (fun z=>∃(y0:List aA)(y1:Int)(rest:List aJ),z.1.dimR=.tup []∧z.2=some [.ul .atype y0,.int .i64 y1]::rest∧eH ts e c0 c1 c2 c3 c4 a sp dp (y0,y1)):=by
  intro ts3 e3 nm al ty hd' f0 f1 f2 f3 f4 hil hgr hal hal2 hty hnd
  refine aT (fun x=>match x with|(a',sp',dp',d0',d1',d2',l',d4',out',i',m,ts4,e4,nm',al',ty',hd2,f0',f1',f2',f3',f4')=>a'=a∧sp'=sp∧dp'=dp∧l'=l∧out'=out∧i'=i∧0≤m∧m≤(al.length:Int)∧bB ts e ts4 e4∧al'=al∧ty'=ty∧(e4=0→xE ts4.length out∧0≤ty∧ty<ts4.length)∧bl (.mk f0' f1' f2' f3' f4')) (fun x=>((al.length:Int)-x.2.2.2.2.2.2.2.2.2.2.1).toNat) ?_ _ _
   ⟨rfl,rfl,rfl,rfl,rfl,rfl,by simp,by simp,hgr,rfl,rfl,hty,hnd⟩ (by simp;omega)
  rintro again2 ⟨a',sp',dp',d0',d1',d2',l',d4',out',i',m,ts4,e4,nm',al',ty',hd2,f0',f1',f2',f3',f4'⟩ ⟨rfl,rfl,rfl,rfl,rfl,rfl,j1,j2,j3,rfl,rfl,j4,j5⟩ ih2
  dsimp only at ih2
  have em:m<al'.length→IntKind.i64.wrap (m+1)=m+1:=fun h=>aI (m+1) (by omega)
  have out1:Tot (again (a',sp',dp',d0',d1',d2',l',d4',out'++[⟨nm',al',ty',hd2,⟨f0',f1',f2',f3',f4'⟩⟩],IntKind.i64.wrap (i'+1),ts4,e4)) _:=ih (a',sp',dp',d0',d1',d2',l',d4',out'++[⟨nm',al',ty',hd2,⟨f0',f1',f2',f3',f4'⟩⟩],IntKind.i64.wrap (i'+1),ts4,e4)
   (by
    simp only[ew hil,List.length_append,List.length_cons,List.length_nil]
    refine⟨trivial,trivial,trivial,trivial,by omega,by omega,j3,fun h0=>?_⟩
    obtain⟨q1,q2⟩:=j4 h0
    refine⟨by simp;omega,fun f hf=>?_,fun f hf=>?_⟩
    ·rcases List.mem_append.1 hf with hf|hf
     ·exact q1.2.1 f hf
     ·simp only[List.mem_singleton] at hf
      subst hf
      exact⟨q2.1,q2.2,j5⟩
    ·rcases List.mem_append.1 hf with hf|hf
     ·exact q1.2.2 f hf
     ·simp only[List.mem_singleton] at hf
      subst hf
      exact hal2) (by simp only[ew hil];omega)
  have next:∀e5:Int,m<al'.length→bB ts e ts4 e5→(e5=0→e4=0)→Tot (again2 (a',sp',dp',d0',d1',d2',l',d4',out',i',IntKind.i64.wrap (m+1),ts4,e5,nm',al',ty',hd2,f0',f1',f2',f3',f4')) _:=fun e5 hm hg5 he5=>ih2 (a',sp',dp',d0',d1',d2',l',d4',out',i',IntKind.i64.wrap (m+1),ts4,e5,nm',al',ty',hd2,f0',f1',f2',f3',f4')
   (by
    simp only[em hm]
    exact⟨trivial,trivial,trivial,trivial,trivial,trivial,by omega,by omega,hg5,trivial,trivial,fun h0=>j4 (he5 h0),j5⟩) (by simp only[em hm];omega)
  unfold dO
  dsimp only
  repeat' (first|(with_reducible refine aC ?_ ?_<;>(intro hb;(try simp only[bnl] at hb);(try revert hb;intro _)))|with_reducible refine aH ?_ ?_|with_reducible refine aE ?_|(refine aD (cR _ _ _) ?_;rintro _ ⟨-,rfl⟩;try dsimp only)|(refine aD (agI _ ?_) ?_;rotate_left;intro _ _)|fail)
  all_goals first|(first|(simp only[bnl,lnl];done)|(simp only[bnl,lnl];omega))|exact out1|exact next _ (by omega) j3 (fun h=>h)|exact next _ (by omega) (bB.stuck j3.len j3.cap (nz (by decide))) (fun h=>absurd h (nz (by decide)))|skip
  ·have:=ag7 hal m.toNat;omega
 have inner1:∀(ts3:List aA)(e3:Int)(nm:List UInt8),i<l.length→bB ts2 e2 ts3 e3→
   Tot (aS 2000 (fh 2000 again) (a,sp,dp,d0,d1,d2,l,d4,out,i,(List.getD l (Int.toNat i) (aG .jnode)).kind,(List.getD l (Int.toNat i) (aG .jnode)).n,(List.getD l (Int.toNat i) (aG .jnode)).s,(List.getD l (Int.toNat i) (aG .jnode)).l,(List.getD l (Int.toNat i) (aG .jnode)).names,0,ts3,e3,nm,([]:List (List UInt8)),0,false,0,0,([]:List UInt8),([]:List aB),([]:List (List UInt8)))) (fun z=>∃(y0:List aA)(y1:Int)(rest:List aJ),z.1.dimR=.tup []∧z.2=some [.ul .atype y0,.int .i64 y1]::rest∧eH ts e c0 c1 c2 c3 c4 a sp dp (y0,y1)):=by
  intro ts3 e3 nm hil hgr
  refine aT (fun x=>match x with|(a',sp',dp',d0',d1',d2',l',d4',out',i',v0,v1,v2,v3,v4,m,ts4,e4,nm',al',ty',hd2,f0',f1',f2',f3',f4')=>a'=a∧sp'=sp∧dp'=dp∧d0'=d0∧d1'=d1∧d2'=d2∧l'=l∧d4'=d4∧out'=out∧i'=i∧bl (.mk v0 v1 v2 v3 v4)∧0≤m∧m≤(out.length:Int)∧bB ts2 e2 ts4 e4) (fun x=>((out.length:Int)-x.2.2.2.2.2.2.2.2.2.2.2.2.2.2.2.1).toNat) ?_ _ _
   ⟨rfl,rfl,rfl,rfl,rfl,rfl,rfl,rfl,rfl,rfl,hkid,by simp,by simp,hgr⟩ (by simp;omega)
  rintro again1 ⟨a',sp',dp',d0',d1',d2',l',d4',out',i',v0,v1,v2,v3,v4,m,ts4,e4,nm',al',ty',hd2,f0',f1',f2',f3',f4'⟩ ⟨rfl,rfl,rfl,rfl,rfl,rfl,rfl,rfl,rfl,rfl,hv,j1,j2,j3⟩ ih1
  dsimp only at ih1
  have em:m<out'.length→IntKind.i64.wrap (m+1)=m+1:=fun h=>aI (m+1) (by omega)
  have next:∀e5:Int,m<out'.length→bB ts2 e2 ts4 e5→Tot (again1 (a',sp',dp',d0',d1',d2',l',d4',out',i',v0,v1,v2,v3,v4,IntKind.i64.wrap (m+1),ts4,e5,nm',al',ty',hd2,f0',f1',f2',f3',f4')) _:=fun e5 hm hg5=>ih1 (a',sp',dp',d0',d1',d2',l',d4',out',i',v0,v1,v2,v3,v4,IntKind.i64.wrap (m+1),ts4,e5,nm',al',ty',hd2,f0',f1',f2',f3',f4')
   (by
    simp only[em hm]
    exact⟨trivial,trivial,trivial,trivial,trivial,trivial,trivial,trivial,trivial,trivial,hv,by omega,by omega,hg5⟩) (by simp only[em hm];omega)
  obtain⟨q1,q2,q3,q4,q5,q6⟩:=hv.kids
  have behind:∀(e5 w0 w1:Int)(w2:List UInt8)(w3:List aB)(w4:List (List UInt8)),bl (.mk w0 w1 w2 w3 w4)→bB ts2 e2 ts4 e5→Tot (aF (cP ts4 e5 w0 w1 w2 w3 w4 sp' (dp'+1)) (fun r12=>
      aF (dx v0 v1 v2 v3 v4 ([100,101,102,97,117,108,116]:List UInt8)) (fun r13=>
       aF (dy r12.2.1 r12.2.2 v0 v1 v2 v3 v4 ([97,108,105,97,115,101,115]:List UInt8)) (fun r14=>
        (fun z=>aS 2000 (dO 2000 again) z) (a',sp',dp',d0',d1',d2',l',d4',out',i',0,r14.2.2.1,r14.2.2.2,nm',r14.1,r12.1,r13.2.2.2.2.2,r13.1,r13.2.1,r13.2.2.1,r13.2.2.2.1,r13.2.2.2.2.1))))) (fun z=>∃(y0:List aA)(y1:Int)(rest:List aJ),z.1.dimR=.tup []∧z.2=some [.ul .atype y0,.int .i64 y1]::rest∧eH ts e c0 c1 c2 c3 c4 a' sp' dp' (y0,y1)):=by
   intro e5 w0 w1 w2 w3 w4 hw hg5
   refine aD (hT _ _ _ _ _ _ _ _ j3.cap hw (by omega)) ?_
   rintro⟨k,ts5,e6⟩ ⟨-,x1,x2⟩
   dsimp only at x1 x2 ⊢
   refine aD (qv _ _ _ _ _ _ (by omega)) ?_
   rintro r ⟨-,hr⟩
   have hg:=vm (k:=v0) (names:=v4) (name:=[100,101,102,97,117,108,116]) q6
   simp only[cX] at hr
   rw[←hr] at hg
   refine aD (aj6 _ _ _ _ _ _ _ _ hv) ?_
   rintro⟨al,is,ts6,e7⟩ ⟨-,t1,t2,rfl,t3⟩
   dsimp only at t1 t2 t3 ⊢
   have hgg:=hg5.trans x1
   have g7:bB ts2 e2 ts6 e7:=by
    by_cases h7:e7=0
    ·have h6:=t3 h7
     rw[h6] at hgg
     rw[h7];exact hgg
    ·exact bB.stuck hgg.len hgg.cap h7
   exact inner2 ts6 e7 _ _ _ _ _ _ _ _ _ hil (i3.trans g7) t2 t1 (fun h0=>⟨(i4 (g7.err h0)).mono g7.len,x2 (t3 h0)⟩) hg
  unfold fh jQ
  dsimp only
  repeat' (first|(with_reducible refine aC ?_ ?_<;>(intro hb;(try simp only[bnl] at hb);(try revert hb;intro _)))|with_reducible refine aH ?_ ?_|with_reducible refine aE ?_|(refine aD (cR _ _ _) ?_;rintro _ ⟨-,rfl⟩;try dsimp only)|fail)
  all_goals first|(first|(simp only[bnl,lnl];done)|(simp only[bnl,lnl];omega))|exact next _ (by omega) j3|exact next _ (by omega) (bB.stuck j3.len j3.cap (nz (by decide)))|skip
  refine aD (qv _ _ _ _ _ _ (by omega)) ?_
  rintro r ⟨-,hr⟩
  have hg:=vm (k:=v0) (names:=v4) (name:=[116,121,112,101]) q6
  simp only[cX] at hr
  rw[←hr] at hg
  repeat' (first|(with_reducible refine aC ?_ ?_<;>(intro hb;(try simp only[bnl] at hb);(try revert hb;intro _)))|with_reducible refine aH ?_ ?_|with_reducible refine aE ?_|(refine aD (cR _ _ _) ?_;rintro _ ⟨-,rfl⟩;try dsimp only)|fail)
  all_goals simp only[ed]
  ·exact behind _ _ _ _ _ _ hg (bB.stuck j3.len j3.cap (nz (by decide)))
  ·exact behind _ _ _ _ _ _ hg j3
 repeat' (first|(with_reducible refine aC ?_ ?_<;>(intro hb;(try simp only[bnl] at hb);(try revert hb;intro _)))|with_reducible refine aH ?_ ?_|with_reducible refine aE ?_|(refine aD (cR _ _ _) ?_;rintro _ ⟨-,rfl⟩;try dsimp only)|(refine aD (ami _ _ _ _ _ _ _ _ _ hkid) ?_;rintro⟨w,ts3,e3⟩ ⟨-,w1,rfl,w2⟩;dsimp only at w1 w2 ⊢)|fail)
 all_goals first|(first|(simp only[bnl,lnl];done)|(simp only[bnl,lnl];omega))|skip
 ·exact⟨_,_,_,rfl,rfl,_,bB.stuck i3.len i3.cap (nz (by decide)),.inl rfl⟩
 ·rename_i he3
  have g0:bB ts3 e2 ts3 e3:=by
   have:=w2 he3
   subst this;rw[he3];exact bB.refl i3.cap
  repeat' (first|(with_reducible refine aC ?_ ?_<;>(intro hb;(try simp only[bnl] at hb);(try revert hb;intro _)))|with_reducible refine aH ?_ ?_|with_reducible refine aE ?_|(refine aD (agI _ (by omega)) ?_;intro _ _)|(refine aD (cR _ _ _) ?_;rintro _ ⟨-,rfl⟩;try dsimp only)|fail)
  ·exact inner1 _ _ _ (by omega) (bB.stuck (Nat.le_refl _) i3.cap (nz (by decide)))
  ·exact inner1 _ _ _ (by omega) g0
 ·rename_i he3
  exact inner1 _ _ _ (by omega) (bB.stuck (Nat.le_refl _) i3.cap he3)
 all_goals first|(exfalso;omega)|skip
 all_goals first|(have:=hat2 (by assumption);first|(simp only[bnl,lnl];done)|(simp only[bnl,lnl];omega))|skip
 ·rename_i he
  exact⟨_,_,_,rfl,rfl,_,i3,.inl rfl⟩
 ·rename_i he
  have hr:=hat2 he
  have hl:a.toNat<ts2.length:=by omega
  refine⟨_,_,_,rfl,rfl,ts2,i3,.inr ⟨out,(i4 he).1,(i4 he).2.1,(i4 he).2.2,_,List.getElem?_eq_getElem hl,?_⟩⟩
  rw[qU (List.getElem?_eq_getElem hl)]
 ·exact⟨_,_,_,rfl,rfl,_,i3,.inl rfl⟩
end Go.Proofs.Ytdpajabhmmmjoaa
end
