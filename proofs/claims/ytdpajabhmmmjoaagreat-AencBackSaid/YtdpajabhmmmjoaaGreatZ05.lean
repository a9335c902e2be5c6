import Derived.KernelRfl
import Derived.Test.YtdpajabhmmmjoaaGreatZ02
import Derived.Test.YtdpajabhmmmjoaaGreatZ04
noncomputable section
namespace Go.Proofs.YtdpajabhmmmjoaaGreat
open Go.AM
set_option autoImplicit false
set_option linter.unusedVariables false
set_option maxRecDepth 100000
noncomputable def rG:aN:=tab (P:=Tryz.prog) [] [mV] [] [afm]
def vJ:IR:=Sq (Rs [Mv 15 11,Fa 16 3 6,Lq 17 16,Ll 18 17,Bi 19 .lss 15 18] (Cn 19 .skip (.exit 0))) (Sq (.block 1 (Sq (.reg [Mv 23 0,Fa 24 3 5,Lq 25 24,Fa 26 3 6,Lq 27 26,Mv 28 11,Ix 29 .jnode 27 28,Ld 30 5 true 29,Mv 31 3,Bc 32 .add 31 1,Fo [] [0] (.call 33 65 [23,25,30,32]),Mv 22 33,Ex_ 34 0 22,Ex_ 35 1 22,Pp (.alr 12 5),Fz 12 5 34,Mv 13 35] [[],[],[1],[],[3],[],[3,4,5],rg 3 6,[],[8],rg 0 9,rg 0 10,rg 0 11,rg 0 11,[],rg 0 12++[14],rg 0 15]) (Sq (Rs [Mv 36 13,Bc 37 .neq 36 0] (Cn 37 (Rs [Pp (.bld 38 [vU 0,vS,nl .aval,nl .str,vI 0] []),Mv 39 13,Sv 5 8 38,Mv 9 39] .ret) .skip)) (Rs [Fa 40 0 5,Lq 41 40,Bc 42 .eql 41 12] (Cn 42 (Rg [Fa 43 2 10,Pp (.ld 44 1 false true 43),Ld 45 5 true 12,Pp (.bsl 46 .aval [45] true),Pp (.app 47 .aval (.tk 44) 46),Fa 48 2 10,Sk 1 48 47]) (.reg [Fo [2] [] (.ld 49 5 true false 10),Fa 50 4 6,Lq 51 50,Mv 52 11,Ix 53 .str 51 52,Lq 54 53,Ld 55 5 true 12,Ca 56 18 [49,54,55],Fo [] [2] (.st none 5 10 56)] [[],[],[1],[],[1,2,3],rg 1 4,[],rg 0 6,rg 0 7])))))) (Rg [Mv 20 11,Bc 21 .add 20 1,Mv 11 21]))
def uu:IR:=Rs [Pp (.ld 57 5 true false 10),Sv 5 8 57,Mi 9 0] .ret
def ahc:IR:=Rs [Bx 5 1,Bx 6 2,Pp (.new 8 [vU 0,vS,nl .aval,nl .str,vI 0]),Mi 9 0] (Rs [Pp (.bld 14 [vU 0,vS,nl .aval,nl .str,vI 0] []),Pp (.new 10 [vU 0,vS,nl .aval,nl .str,vI 0]),Sv 5 10 14] (Sq (Rs [Mi 11 0] (.block 0 (.loop [0,3,5,6,8,10,11,1000000] 3 vJ))) uu))
def yh:List RV:=[.cell 8 5 true,.t 9]
theorem ahd:FnC Tryz.prog rG [65,2000065] 1 yO Tryz.f93 ahc yh:=fnC Tryz.func93
def afI(R:IR→(Ex→St→Ro)→St→Ro)(a:St→Ro):Ex→St→Ro:=(bF a [0,3,5,6,8,10,11,1000000] 3 (aQ 0 (bv (R uu) (fin yh))))
abbrev gU:Type:=(Int×Int×Bs×Bss×Int×Bss×Bool×Bs×Int×List aO×List Int×Int×Int×Bs×List aH×Bss×Int×List aA×Int×Int×Bs×List aB×Bss×Int×Int×Bs×List aB×Bss×Int)⊕(Int×Int×Bs×Bss×Int×Bss×Bool×Bs×Int×List aO×List Int×Int×Int×Bs×List aH×Bss×Int×List aA×Int×Int×Bs×List aB×Bss×Int×Int×Bs×List aB×Bss×Int)
def ac0:(Int×Int×Bs×Bss×Int×Bss×Bool×Bs×Int×List aO×List Int×Int×Int×Bs×List aH×Bss×Int×List aA×Int×Int×Bs×List aB×Bss×Int×Int×Bs×List aB×Bss×Int)→St:=fun(t,u,v,w,x,y,z,x7,x8,x9,a,b,c,d,e,f,g,h,i,j,k,l,m,n,o,p,q,r,s)=>{env:=(.ptr 0 0::.undef::.undef::.int .i64 t::.undef::.ea [.int .i64 u,.str v,.sl .str (.may false) w,.int .i64 x,.sl .str (.may false) y,.bool z,.str x7,.int .i64 x8,.sl .afield (.may false) x9,.sl (.num .i64) (.may false) a]::.ea [.int .i64 b,.int .i64 c,.str d,.sl .jnode (.may false) e,.sl .str (.may false) f]::.undef::.ptr 1 0::.undef::.ptr 2 0::.int .i64 g::(U 46 [])),hp:=[some [.sl .atype (.may false) h,.int .i64 i],some [.int .u64 j,.str k,.sl .aval .own l,.sl .str .own m,.int .i64 n],some [.int .u64 o,.str p,.sl .aval .own q,.sl .str .own r,.int .i64 s]]}
def ac1:(Int×Int×Bs×Bss×Int×Bss×Bool×Bs×Int×List aO×List Int×Int×Int×Bs×List aH×Bss×Int×List aA×Int×Int×Bs×List aB×Bss×Int×Int×Bs×List aB×Bss×Int)→St:=fun(t,u,v,w,x,y,z,x7,x8,x9,a,b,c,d,e,f,g,h,i,j,k,l,m,n,o,p,q,r,s)=>{env:=(.ptr 0 0::.undef::.undef::.int .i64 t::.undef::.ea [.int .i64 u,.str v,.sl .str (.may false) w,.int .i64 x,.sl .str (.may false) y,.bool z,.str x7,.int .i64 x8,.sl .afield (.may false) x9,.sl (.num .i64) (.may false) a]::.ea [.int .i64 b,.int .i64 c,.str d,.sl .jnode (.may false) e,.sl .str (.may false) f]::.undef::.ptr 1 0::.undef::.ptr 2 0::.int .i64 g::(U 46 [])),hp:=[some [.sl .atype (.may false) h,.int .i64 i],some [.int .u64 j,.str k,.sl .aval .own l,.sl .str .own m,.int .i64 n],some [.int .u64 o,.str p,.sl .aval (.may false) q,.sl .str (.may false) r,.int .i64 s]]}
def gt:gU→St
 |(Sum.inl x)=>ac0 x
 |(Sum.inr x)=>ac1 x
def ph(N:Nat):(St→Ro)→St→Ro:=fun a s=>run rG N vJ (afI (run rG N) a) s
def gW(N:Nat)(m:gU→Ro)(x:gU):Ro:=
 match x with
 |(Sum.inl (v3,j,q,r,k,t,u,v,w,y,z,aa,ab,ac,b,e,d,o,p,ad,ae,af,ag,ah,f,g,a,c,h))=>
  let x1:=(↑(List.length b):Int)
  let z0:=fun g0 g1 g2 g3 g4 g5 g6 g7 g8 g9=>(some (.tup [.agg [.int .u64 g0,.str g1,.sl .aval (.may false) g2,.sl .str (.may false) g3,.int .i64 g4],.int .i64 g5],[some [.sl .atype (.may false) g6,.int .i64 g7],some [.int .u64 g0,.str g1,g8,g9,.int .i64 g4],some [.int .u64 f,.str g,.sl .aval .own a,.sl .str .own c,.int .i64 h]]):Ro)
  cond (decide (d<x1)) (
   chk (ixl d b) (
    let x2:=(List.getD b (Int.toNat d) (aC .jnode))
    let x3:=(IntKind.wrap .i64 (v3+1))
    aE (dd o p k x2.kind x2.n x2.s x2.l x2.names x3) (fun i=>
     cond (!(i.2.2.2.2.2.1==0)) (
      z0 0 ([]:Bs) ([]:List aB) ([]:Bss) 0 i.2.2.2.2.2.1 i.2.2.2.2.2.2.1 i.2.2.2.2.2.2.2 (.sl .aval .own ([]:List aB)) (.sl .str .own ([]:Bss))) (
      cond (j==12) (
       chk (decide ((List.length a+List.length ([⟨i.1,i.2.1,i.2.2.1,i.2.2.2.1,i.2.2.2.2.1⟩]:List aB))*80≤140737488355328)) (
        let x4:=(a++([⟨i.1,i.2.1,i.2.2.1,i.2.2.2.1,i.2.2.2.2.1⟩]:List aB))
        let x5:=(IntKind.wrap .i64 (d+1))
        m (Sum.inl (v3,j,q,r,k,t,u,v,w,y,z,aa,ab,ac,b,e,x5,i.2.2.2.2.2.2.1,i.2.2.2.2.2.2.2,ad,ae,af,ag,ah,f,g,x4,c,h)))) (
       chk (ixl d e) (
        let x6:=List.getD e (Int.toNat d) (aC .str)
        aE (fy f g a c h x6 i.1 i.2.1 i.2.2.1 i.2.2.2.1 i.2.2.2.2.1) (fun r2=>
         let x7:=(IntKind.wrap .i64 (d+1))
         m (Sum.inr (v3,j,q,r,k,t,u,v,w,y,z,aa,ab,ac,b,e,x7,i.2.2.2.2.2.2.1,i.2.2.2.2.2.2.2,ad,ae,af,ag,ah,r2.1,r2.2.1,r2.2.2.1,r2.2.2.2.1,r2.2.2.2.2))))))))) (
   z0 f g a c h 0 o p (.sl .aval (.may false) a) (.sl .str (.may false) c))
 |(Sum.inr (v3,j,q,r,k,t,u,v,w,y,z,aa,ab,ac,b,e,d,o,p,ad,ae,af,ag,ah,f,g,a,c,h))=>
  let x8:=(↑(List.length b):Int)
  let z0:=fun g0 g1 g2 g3 g4 g5 g6 g7 g8 g9=>(some (.tup [.agg [.int .u64 g0,.str g1,.sl .aval (.may false) g2,.sl .str (.may false) g3,.int .i64 g4],.int .i64 g5],[some [.sl .atype (.may false) g6,.int .i64 g7],some [.int .u64 g0,.str g1,g8,g9,.int .i64 g4],some [.int .u64 f,.str g,.sl .aval (.may false) a,.sl .str (.may false) c,.int .i64 h]]):Ro)
  cond (decide (d<x8)) (
   chk (ixl d b) (
    let x9:=(List.getD b (Int.toNat d) (aC .jnode))
    let a1:=(IntKind.wrap .i64 (v3+1))
    aE (dd o p k x9.kind x9.n x9.s x9.l x9.names a1) (fun r3=>
     cond (!(r3.2.2.2.2.2.1==0)) (
      z0 0 ([]:Bs) ([]:List aB) ([]:Bss) 0 r3.2.2.2.2.2.1 r3.2.2.2.2.2.2.1 r3.2.2.2.2.2.2.2 (.sl .aval .own ([]:List aB)) (.sl .str .own ([]:Bss))) (
      cond (j==12) (
       none) (
       chk (ixl d e) (
        let a2:=List.getD e (Int.toNat d) (aC .str)
        aE (fy f g a c h a2 r3.1 r3.2.1 r3.2.2.1 r3.2.2.2.1 r3.2.2.2.2.1) (fun r4=>
         let a3:=(IntKind.wrap .i64 (d+1))
         m (Sum.inr (v3,j,q,r,k,t,u,v,w,y,z,aa,ab,ac,b,e,a3,r3.2.2.2.2.2.2.1,r3.2.2.2.2.2.2.2,ad,ae,af,ag,ah,r4.1,r4.2.1,r4.2.2.1,r4.2.2.2.1,r4.2.2.2.2))))))))) (
   z0 f g a c h 0 o p (.sl .aval (.may false) a) (.sl .str (.may false) c))
theorem aeh(N:Nat):∀(a:St→Ro)(x:gU),ph N a (gt x)=gW N (fun y=>a (gt y)) x:=by
 intro a x
 rcases x with x|x<;>kernel_rfl
def iz(N:Nat)(a:List aA)(b c:Int)(d:Bs)(e:Bss)(f:Int)(g:Bss)(h:Bool)(i:Bs)(j:Int)(k:List aO)(l:List Int)(m n:Int)(o:Bs)(p:List aH)(q:Bss)(r:Int)(s:gU→Ro):Ro:=
 s (Sum.inl (r,c,d,e,f,g,h,i,j,k,l,m,n,o,p,q,0,a,b,0,([]:Bs),([]:List aB),([]:Bss),0,0,([]:Bs),([]:List aB),([]:Bss),0))
def yi(N:Nat)(a:List aA)(b c:Int)(d:Bs)(e:Bss)(f:Int)(g:Bss)(h:Bool)(i:Bs)(j:Int)(k:List aO)(l:List Int)(m n:Int)(o:Bs)(p:List aH)(q:Bss)(r:Int):Ro:=iz N a b c d e f g h i j k l m n o p q r (fun z=>aS N (gW N) z)
theorem afJ(N:Nat)(a:List aA)(c d:Int)(g:Bs)(i:Bss)(j:Int)(k:Bss)(l:Bool)(m:Bs)(n:Int)(o:List aO)(p:List Int)(s t:Int)(u:Bs)(v:List aH)(w:Bss)(x:Int)(h:Tot (yi N a c d g i j k l m n o p s t u v w x) (fun z=>∃(y:Int)(y1:Bs)(y2:List aB)(y3:Bss)(y4:Int)(y5:Int)(y6:List aA)(y7:Int)(rest:List aJ),z.1.dimR=.tup [.agg [.int .u64 y,.str y1,.sl .aval (.may false) y2,.sl .str (.may false) y3,.int .i64 y4],.int .i64 y5]∧z.2=some [.sl .atype (.may false) y6,.int .i64 y7]::rest∧vB a c d g i j k l m n o p s t u v w x (y,y1,y2,y3,y4,y5,y6,y7))):∃r,iU a c d g i j k l m n o p s t u v w x r:=FnC.finO (css:=[[.sl .atype (.may false) a,.int .i64 c]]) ahd (N:=N) ((bM _ (by kernel_rfl) rfl (fun C=>iz N a c d g i j k l m n o p s t u v w x (fun z=>C 1000000 (gt z))) (fun C=>by kernel_rfl)).trans (Eq.trans (b:=iz N a c d g i j k l m n o p s t u v w x (fun z=>bo N (ph N) (gt z))) (by kernel_rfl) (congrArg (iz N a c d g i j k l m n o p s t u v w x) (funext fun z=>bk (gt) (ph N) (gW N) (aeh N) N z)))) h fun _ ⟨y,y1,y2,y3,y4,y5,y6,y7,_,e,f,q⟩=>⟨(y,y1,y2,y3,y4,y5,y6,y7),e,⟨_,f⟩,q⟩
noncomputable def qC:aN:=tab (P:=Tryz.prog) [] [mV] [] [qY]
def tC:IR:=Sq (Rs [Mv 18 11,Fa 19 8 5,Lq 20 19,Ll 21 20,Bi 22 .lss 18 21] (Cn 22 .skip (.exit 0))) (Sq (.block 1 (Rs [Fa 25 8 5,Lq 26 25,Mv 27 11,Ix 28 .afield 26 27,Ld 29 9 true 28,Pp (.alr 12 9),Fz 12 9 29] (Rs [Ld 31 5 true 6,Fa 32 0 12,Lq 33 32,Ca 34 57 [31,33],Mv 30 34,Ex_ 35 0 30,Ex_ 36 1 30,Pp (.new 13 [vI 0,vI 0,vS,nl .jnode,nl .str]),Sv 5 13 35,Mv 14 36] (Sq (Rs [Mv 37 14,Un 38 37] (Cn 38 (Sq (Rs [Fa 39 3 12,Lq 40 39,Un 41 40] (Cn 41 (Rs [Pp (.bld 42 [vU 0,vS,nl .aval,nl .str,vI 0] []),Sv 5 8 42,Mi 9 7] .ret) .skip)) (Rg [Fa 43 4 12,Ld 44 5 true 43,Sv 5 13 44])) .skip)) (Rs [Mv 46 0,Fa 47 2 12,Lq 48 47,Pp (.ld 49 5 true false 13),Mv 50 3,Bc 51 .add 50 1,Ca 52 65 [46,48,49,51],Mv 45 52,Ex_ 53 0 45,Ex_ 54 1 45,Pp (.alr 15 5),Fz 15 5 53,Mv 16 54] (Sq (Rs [Mv 55 16,Bc 56 .neq 55 0] (Cn 56 (Rs [Pp (.bld 57 [vU 0,vS,nl .aval,nl .str,vI 0] []),Mv 58 16,Sv 5 8 57,Mv 9 58] .ret) .skip)) (Rg [Fa 59 2 10,Pp (.ld 60 1 false true 59),Ld 61 5 true 15,Pp (.bsl 62 .aval [61] true),Pp (.app 63 .aval (.tk 60) 62),Fa 64 2 10,Sk 1 64 63]))))))) (Rg [Mv 23 11,Bc 24 .add 23 1,Mv 11 24]))
def tD:IR:=Rs [Pp (.ld 65 5 true false 10),Sv 5 8 65,Mi 9 0] .ret
def afK:IR:=Rs [Bx 5 1,Bx 6 2,Pp (.new 8 [vU 0,vS,nl .aval,nl .str,vI 0]),Mi 9 0] (Rs [Pp (.bld 17 [vU 0,vS,nl .aval,nl .str,vI 0] []),Pp (.new 10 [vU 0,vS,nl .aval,nl .str,vI 0]),Sv 5 10 17] (Sq (Rs [Mi 11 0] (.block 0 (.loop [0,3,5,6,8,10,11,1000000] 3 tC))) tD))
def wG:List RV:=[.cell 8 5 true,.t 9]
theorem afL:FnC Tryz.prog qC [65,2000065] 1 xY Tryz.f94 afK wG:=fnC Tryz.func94
def aei(R:IR→(Ex→St→Ro)→St→Ro)(a:St→Ro):Ex→St→Ro:=(bF a [0,3,5,6,8,10,11,1000000] 3 (aQ 0 (bv (R tD) (fin wG))))
abbrev jQ:Type:=(Int×Int×Bs×Bss×Int×Bss×Bool×Bs×Int×List aO×List Int×Int×Int×Bs×List aH×Bss×Int×List aA×Int×Int×Bs×List aB×Bss×Int×Int×Bs×List aB×Bss×Int)
def je:jQ→St:=fun(t,u,v,w,x,y,z,x7,x8,x9,a,b,c,d,e,f,g,h,i,j,k,l,m,n,o,p,q,r,s)=>{env:=(.ptr 0 0::.undef::.undef::.int .i64 t::.undef::.ea [.int .i64 u,.str v,.sl .str (.may false) w,.int .i64 x,.sl .str (.may false) y,.bool z,.str x7,.int .i64 x8,.sl .afield (.may false) x9,.sl (.num .i64) (.may false) a]::.ea [.int .i64 b,.int .i64 c,.str d,.sl .jnode (.may false) e,.sl .str (.may false) f]::.undef::.ptr 1 0::.undef::.ptr 2 0::.int .i64 g::(U 54 [])),hp:=[some [.sl .atype (.may false) h,.int .i64 i],some [.int .u64 j,.str k,.sl .aval .own l,.sl .str .own m,.int .i64 n],some [.int .u64 o,.str p,.sl .aval .own q,.sl .str .own r,.int .i64 s]]}
def oh(N:Nat):(St→Ro)→St→Ro:=fun a s=>run qC N tC (aei (run qC N) a) s
def jR(N:Nat)(p:jQ→Ro):jQ→Ro:=fun(v3,w,x,y,z,aa,ab,ac,ad,i,ae,q,r,t,u,v,o,j,k,af,ag,ah,ai,aj,b,c,a,d,e)=>
 let x1:=(↑(List.length i):Int)
 let z0:=fun g0 g1 g2 g3 g4 g5 g6 g7=>(some (.tup [.agg [.int .u64 0,.str ([]:Bs),.sl .aval (.may false) ([]:List aB),.sl .str (.may false) ([]:Bss),.int .i64 0],.int .i64 g0],[some [.sl .atype (.may false) g1,.int .i64 g2],some [.int .u64 0,.str ([]:Bs),.sl .aval .own ([]:List aB),.sl .str .own ([]:Bss),.int .i64 0],some [.int .u64 b,.str c,.sl .aval .own a,.sl .str .own d,.int .i64 e],some [.int .i64 g3,.int .i64 g4,.str g5,.sl .jnode (.may false) g6,.sl .str (.may false) g7]]):Ro)
 let z1:=fun g0 g1 g2 g3=>p (v3,w,x,y,z,aa,ab,ac,ad,i,ae,q,r,t,u,v,g0,g1,g2,af,ag,ah,ai,aj,b,c,g3,d,e)
 cond (decide (o<x1)) (
 chk (ixl o i) (
 let m:=(List.getD i (Int.toNat o) (aC .afield))
 aE (eb q r t u v m.name) (fun f=>
 cond (!f.2.2.2.2.2) (
 cond (!m.hasdef) (
 z0 7 j k f.1 f.2.1 f.2.2.1 f.2.2.2.1 f.2.2.2.2.1) (
 let x3:=(IntKind.wrap .i64 (v3+1))
 aE (dd j k m.typ m.df.kind m.df.n m.df.s m.df.l m.df.names x3) (fun g=>
 cond (!(g.2.2.2.2.2.1==0)) (
 z0 g.2.2.2.2.2.1 g.2.2.2.2.2.2.1 g.2.2.2.2.2.2.2 m.df.kind m.df.n m.df.s m.df.l m.df.names) (
 chk (decide ((List.length a+List.length ([⟨g.1,g.2.1,g.2.2.1,g.2.2.2.1,g.2.2.2.2.1⟩]:List aB))*80≤140737488355328)) (
 let x4:=(a++([⟨g.1,g.2.1,g.2.2.1,g.2.2.2.1,g.2.2.2.2.1⟩]:List aB))
 let x5:=(IntKind.wrap .i64 (o+1))
 z1 x5 g.2.2.2.2.2.2.1 g.2.2.2.2.2.2.2 x4))))) (
 let x6:=(IntKind.wrap .i64 (v3+1))
 aE (dd j k m.typ f.1 f.2.1 f.2.2.1 f.2.2.2.1 f.2.2.2.2.1 x6) (fun h=>
 cond (!(h.2.2.2.2.2.1==0)) (
 z0 h.2.2.2.2.2.1 h.2.2.2.2.2.2.1 h.2.2.2.2.2.2.2 f.1 f.2.1 f.2.2.1 f.2.2.2.1 f.2.2.2.2.1) (
 chk (decide ((List.length a+List.length ([⟨h.1,h.2.1,h.2.2.1,h.2.2.2.1,h.2.2.2.2.1⟩]:List aB))*80≤140737488355328)) (
 let x7:=(a++([⟨h.1,h.2.1,h.2.2.1,h.2.2.2.1,h.2.2.2.2.1⟩]:List aB))
 let x8:=(IntKind.wrap .i64 (o+1))
 z1 x8 h.2.2.2.2.2.2.1 h.2.2.2.2.2.2.2 x7))))))) (
 some (.tup [.agg [.int .u64 b,.str c,.sl .aval (.may false) a,.sl .str (.may false) d,.int .i64 e],.int .i64 0],[some [.sl .atype (.may false) j,.int .i64 k],some [.int .u64 b,.str c,.sl .aval (.may false) a,.sl .str (.may false) d,.int .i64 e],some [.int .u64 b,.str c,.sl .aval .own a,.sl .str .own d,.int .i64 e]]))
theorem ad7(N:Nat):LB (oh N) je (jR N):=fun _ _=>by kernel_rfl
def gX(N:Nat)(a:List aA)(b c:Int)(d:Bs)(e:Bss)(f:Int)(g:Bss)(h:Bool)(i:Bs)(j:Int)(k:List aO)(l:List Int)(m n:Int)(o:Bs)(p:List aH)(q:Bss)(r:Int)(s:jQ→Ro):Ro:=
 s (r,c,d,e,f,g,h,i,j,k,l,m,n,o,p,q,0,a,b,0,([]:Bs),([]:List aB),([]:Bss),0,0,([]:Bs),([]:List aB),([]:Bss),0)
def wH(N:Nat)(a:List aA)(b c:Int)(d:Bs)(e:Bss)(f:Int)(g:Bss)(h:Bool)(i:Bs)(j:Int)(k:List aO)(l:List Int)(m n:Int)(o:Bs)(p:List aH)(q:Bss)(r:Int):Ro:=gX N a b c d e f g h i j k l m n o p q r (fun z=>aS N (jR N) z)
theorem aej(N:Nat)(a:List aA)(c d:Int)(g:Bs)(i:Bss)(j:Int)(k:Bss)(l:Bool)(m:Bs)(n:Int)(o:List aO)(p:List Int)(s t:Int)(u:Bs)(v:List aH)(w:Bss)(x:Int)(h:Tot (wH N a c d g i j k l m n o p s t u v w x) (fun z=>∃(y:Int)(y1:Bs)(y2:List aB)(y3:Bss)(y4:Int)(y5:Int)(y6:List aA)(y7:Int)(rest:List aJ),z.1.dimR=.tup [.agg [.int .u64 y,.str y1,.sl .aval (.may false) y2,.sl .str (.may false) y3,.int .i64 y4],.int .i64 y5]∧z.2=some [.sl .atype (.may false) y6,.int .i64 y7]::rest∧tX a c d g i j k l m n o p s t u v w x (y,y1,y2,y3,y4,y5,y6,y7))):∃r,iw a c d g i j k l m n o p s t u v w x r:=FnC.finO (css:=[[.sl .atype (.may false) a,.int .i64 c]]) afL (N:=N) ((bM _ (by kernel_rfl) rfl (fun C=>gX N a c d g i j k l m n o p s t u v w x (fun z=>C 1000000 (je z))) (fun C=>by kernel_rfl)).trans (Eq.trans (b:=gX N a c d g i j k l m n o p s t u v w x (fun z=>bo N (oh N) (je z))) (by kernel_rfl) (congrArg (gX N a c d g i j k l m n o p s t u v w x) (funext fun z=>bk (je) (oh N) (jR N) (ad7 N) N z)))) h fun _ ⟨y,y1,y2,y3,y4,y5,y6,y7,_,e,f,q⟩=>⟨(y,y1,y2,y3,y4,y5,y6,y7),e,⟨_,f⟩,q⟩
noncomputable def aT:aN:=tab (P:=Tryz.prog) [] [mV,aig,agq] [] [awT,auI,ayH]
def jS:IR:=Cn 68 .skip (Rg [Fa 85 0 10,Lq 86 85,Bc 87 .eql 86 4,Mv 88 87,Gt 88 (.mov 89 11),Pa 90 88 89,Mv 68 90])
def uv:IR:=Cn 162 (Rs [Mv 163 12,Pp (.bld 164 [vU 0,vS,nl .aval,nl .str,vI 0] [(1,1,163)]),Sv 5 8 164,Mi 9 0] .ret) .skip
def uw:IR:=Sq (Rs [Mv 174 14,Fa 175 4 10,Lq 176 175,Ll 177 176,Bi 178 .lss 174 177] (Cn 178 .skip (.exit 1))) (Sq (.block 2 (Sq (.reg [Fa 181 4 10,Lq 182 181,Mv 183 14,Ix 184 .str 182 183,Lq 185 184,Fa 186 2 6,Lq 187 186,Bi 188 .eql 185 187] [[],[0],[],[0,1,2],rg 0 3,[],[5],rg 0 6]) (Cn 188 (Rs [Mv 189 14,Pp (.cvi 190 .u64 189),Pp (.bld 191 [vU 0,vS,nl .aval,nl .str,vI 0] [(0,1,190)]),Sv 5 8 191,Mi 9 0] .ret) .skip))) (Rg [Mv 179 14,Bc 180 .add 179 1,Mv 14 180]))
def uz:IR:=Cn 192 (Rs [Mv 209 0,Ld 210 10 true 10,Ld 211 5 true 6,Mv 212 3,Ca 213 93 [209,210,211,212],Ex_ 214 0 213,Ex_ 215 1 213,Sv 5 8 214,Mv 9 215] .ret) (Rs [Fa 217 0 10,Lq 218 217,Bc 219 .eql 218 9,Mv 220 219,Gt 220 (.fad 221 0 6),Gt 220 (.lde 222 1 false 221),Gt 220 (.bin 223 .eql 222 (kI 6)),Pa 224 220 223,Mv 216 224] (Cn 216 (Rs [Mv 225 0,Ld 226 10 true 10,Ld 227 5 true 6,Mv 228 3,Ca 229 94 [225,226,227,228],Ex_ 230 0 229,Ex_ 231 1 229,Sv 5 8 230,Mv 9 231] .ret) (Rs [Fa 233 0 10,Lq 234 233,Bc 235 .eql 234 14,Mv 232 235] (Cn 232 (Sq (.reg [Mv 237 0,Fa 238 9 10,Lq 239 238,Pp (.ixa 240 (.num .i64) 239 (kI 0)),Lq 241 240,Ld 242 5 true 6,Mv 243 3,Bc 244 .add 243 1,Fo [] [0] (.call 245 65 [237,241,242,244]),Mv 236 245,Ex_ 246 0 236,Ex_ 247 1 236,Pp (.alr 15 5),Fz 15 5 246,Mv 16 247] [[],[],[1],[1,2],[1,2,3],[],[],[6],rg 0 7,rg 0 8,rg 0 9,rg 0 9,[],rg 0 10++[12],rg 0 13]) (Rs [Ld 248 5 true 15,Pp (.bsl 249 .aval [248] true),Pp (.bld 250 [vU 0,vS,nl .aval,nl .str,vI 0] [(2,1,249)]),Mv 251 16,Sv 5 8 250,Mv 9 251] .ret)) .skip))))
def jf:IR:=Cn 130 (Rs [Fa 145 2 6,Lq 146 145,Ca 147 92 [146],Mv 144 147,Ex_ 148 0 144,Ex_ 149 1 144,Mv 12 148,Mv 13 149] (Rs [Mv 150 13,Mv 151 150,Gt 151 (.fad 152 0 10),Gt 151 (.lde 153 1 false 152),Gt 151 (.bin 154 .eql 153 (kI 7)),Gt 151 (.mov 155 154),Gf 155 (.mov 156 12),Gf 155 (.lens 157 156),Gf 155 (.fad 158 7 10),Gf 155 (.lde 159 1 false 158),Gf 155 (.bin 160 .eql 157 159),Gt 151 (.pick 161 155 (kB true) 160),Pa 162 151 161] (.cut [8,12,162,1000001] 2 uv))) (Rs [Fa 166 0 10,Lq 167 166,Bc 168 .eql 167 10,Mv 169 168,Gt 169 (.fad 170 0 6),Gt 169 (.lde 171 1 false 170),Gt 169 (.bin 172 .eql 171 (kI 4)),Pa 173 169 172,Mv 165 173] (Cn 165 (Rs [Mi 14 0] (.block 1 (.loop [6,8,10,14,1000002] 2 uw))) (Sq (Rs [Fa 193 0 10,Lq 194 193,Bc 195 .eql 194 12,Mv 196 195,Gt 196 (.fad 197 0 6),Gt 196 (.lde 198 1 false 197),Gt 196 (.bin 199 .eql 198 (kI 5)),Pa 200 196 199,Mv 192 200] (Cn 192 .skip (Rg [Fa 201 0 10,Lq 202 201,Bc 203 .eql 202 13,Mv 204 203,Gt 204 (.fad 205 0 6),Gt 204 (.lde 206 1 false 205),Gt 204 (.bin 207 .eql 206 (kI 6)),Pa 208 204 207,Mv 192 208]))) (.cut [0,3,6,8,10,192,1000003] 2 uz))))
def jg:IR:=Cn 68 (Rs [Fa 91 1 6,Lq 92 91,Pp (.cvi 93 .u64 92),Pp (.bld 94 [vU 0,vS,nl .aval,nl .str,vI 0] [(0,1,93)]),Sv 5 8 94,Mi 9 0] .ret) (Rs [Fa 96 0 10,Lq 97 96,Bc 98 .eql 97 5,Mv 99 98,Gt 99 (.mov 100 11),Pa 101 99 100,Mv 95 101] (Cn 95 (Rs [Fa 102 1 6,Lq 103 102,Ca 104 90 [103],Pp (.cvi 105 .u64 104),Pp (.bld 106 [vU 0,vS,nl .aval,nl .str,vI 0] [(0,1,105)]),Sv 5 8 106,Mi 9 0] .ret) (Rs [Fa 108 0 10,Lq 109 108,Bc 110 .eql 109 6,Mv 111 110,Gt 111 (.mov 112 11),Pa 113 111 112,Mv 107 113] (Cn 107 (Rs [Fa 114 1 6,Lq 115 114,Ca 116 91 [115],Pp (.bld 117 [vU 0,vS,nl .aval,nl .str,vI 0] [(0,1,116)]),Sv 5 8 117,Mi 9 0] .ret) (Rs [Fa 119 0 10,Lq 120 119,Bc 121 .eql 120 8,Mv 122 121,Gt 122 (.fad 123 0 6),Gt 122 (.lde 124 1 false 123),Gt 122 (.bin 125 .eql 124 (kI 4)),Pa 126 122 125,Mv 118 126] (Cn 118 (Rs [Fa 127 2 6,Lq 128 127,Pp (.bld 129 [vU 0,vS,nl .aval,nl .str,vI 0] [(1,1,128)]),Sv 5 8 129,Mi 9 0] .ret) (Rs [Fa 131 0 10,Lq 132 131,Bc 133 .eql 132 7,Mv 134 133,Gf 134 (.fad 135 0 10),Gf 134 (.lde 136 1 false 135),Gf 134 (.bin 137 .eql 136 (kI 11)),Po 138 134 137,Mv 139 138,Gt 139 (.fad 140 0 6),Gt 139 (.lde 141 1 false 140),Gt 139 (.bin 142 .eql 141 (kI 4)),Pa 143 139 142,Mv 130 143] (.cut [0,3,6,8,10,130,1000004] 2 jf))))))))
def nS:IR:=.cut [0,3,6,8,10,11,68,1000005] 2 jg
def dY:IR:=Rs [Pp (.bld 252 [vU 0,vS,nl .aval,nl .str,vI 0] []),Sv 5 8 252,Mi 9 7] .ret
def ahe:IR:=Rs [Bx 6 2,Pp (.new 8 [vU 0,vS,nl .aval,nl .str,vI 0]),Mi 9 0] (Rs [Mv 17 0,Nk 18 17,Fa 19 1 18,Lo 20 19,Bc 21 .add 20 1,Nk 22 17,Fa 23 1 22,Sv 1 23 21] (Sq (Rs [Mv 24 3,Bc 25 .gtr 24 20,Mv 26 25,Gf 26 (.mov 27 0),Gf 26 (.nck 28 27),Gf 26 (.fad 29 1 28),Gf 26 (.ld 30 1 false false 29),Gf 26 (.bin 31 .gtr 30 (kI 2000)),Po 32 26 31] (Cn 32 (Rs [Pp (.bld 33 [vU 0,vS,nl .aval,nl .str,vI 0] []),Sv 5 8 33,Mi 9 3] .ret) .skip)) (Rs [Mv 34 0,Nk 35 34,Fa 36 0 35,Fa 37 0 36,Lo 38 37,Mv 39 1,Ix 40 .atype 38 39,Ld 41 10 true 40,Pp (.alr 10 10),Fz 10 10 41] (Rs [Fa 42 0 6,Lq 43 42,Bc 44 .eql 43 3,Mv 11 44] (Sq (.block 0 (Rs [Fa 46 0 10,Lq 47 46,Bc 48 .eql 47 1,Mv 49 48,Gt 49 (.fad 50 0 6),Gt 49 (.lde 51 1 false 50),Gt 49 (.bin 52 .eql 51 (kI 1)),Pa 53 49 52,Mv 45 53] (Cn 45 (Rs [Pp (.bld 54 [vU 0,vS,nl .aval,nl .str,vI 0] []),Sv 5 8 54,Mi 9 0] .ret) (Rs [Fa 56 0 10,Lq 57 56,Bc 58 .eql 57 2,Mv 59 58,Gt 59 (.fad 60 0 6),Gt 59 (.lde 61 1 false 60),Gt 59 (.bin 62 .eql 61 (kI 2)),Pa 63 59 62,Mv 55 63] (Cn 55 (Rs [Fa 64 1 6,Lq 65 64,Pp (.cvi 66 .u64 65),Pp (.bld 67 [vU 0,vS,nl .aval,nl .str,vI 0] [(0,1,66)]),Sv 5 8 67,Mi 9 0] .ret) (Sq (Rs [Fa 69 0 10,Lq 70 69,Bc 71 .eql 70 3,Mv 72 71,Gt 72 (.mov 73 11),Pa 74 72 73,Mv 75 74,Gt 75 (.fad 76 1 6),Gt 75 (.lde 77 1 false 76),Gt 75 (.bin 78 .geq 77 (kI (-2147483648))),Pa 79 75 78,Mv 80 79,Gt 80 (.fad 81 1 6),Gt 80 (.lde 82 1 false 81),Gt 80 (.bin 83 .lss 82 (kI 2147483648)),Pa 84 80 83,Mv 68 84] (.cut [0,3,6,8,10,11,68,1000000] 2 jS)) nS)))))) dY)))))
def eP:List RV:=[.cell 8 5 true,.t 9]
theorem ahf:FnC Tryz.prog aT [65,93,94,2000065,2000093,2000094] 1 yP Tryz.f65 ahe eP:=fnC Tryz.func65
abbrev gY:Type:=(Int×Int×Int×Bs×List aH×Bss×Int×Bs×Bss×Int×Bss×Bool×Bs×Int×List aO×List Int×Bool×Bool×List aA×Int×Int×Bs×List aB×Bss×Int)
def gu:gY→St:=fun(p,q,r,s,t,u,v,w,x,y,a,b,c,d,e,f,g,h,i,j,k,l,m,n,o)=>{env:=(.ptr 0 0::.undef::.undef::.int .i64 p::.undef::.undef::.ea [.int .i64 q,.int .i64 r,.str s,.sl .jnode (.may false) t,.sl .str (.may false) u]::.undef::.ptr 1 0::.undef::.ea [.int .i64 v,.str w,.sl .str (.may false) x,.int .i64 y,.sl .str (.may false) a,.bool b,.str c,.int .i64 d,.sl .afield (.may false) e,.sl (.num .i64) (.may false) f]::.bool g::(U 56 (.bool h::(U 184 [])))),hp:=[some [.sl .atype (.may false) i,.int .i64 j],some [.int .u64 k,.str l,.sl .aval .own m,.sl .str .own n,.int .i64 o]]}
def pi(R:IR→(Ex→St→Ro)→St→Ro):Ex→St→Ro:=(bv (R nS) (aQ 0 (bv (R dY) (fin eP))))
abbrev gZ:Type:=(Int×Int×Int×Bs×List aH×Bss×Int×Bs×Bss×Int×Bss×Bool×Bs×Int×List aO×List Int×Bool×Bool×List aA×Int×Int×Bs×List aB×Bss×Int)
def eZ:gZ→St:=fun(p,q,r,s,t,u,v,w,x,y,a,b,c,d,e,f,g,h,i,j,k,l,m,n,o)=>{env:=(.ptr 0 0::.undef::.undef::.int .i64 p::.undef::.undef::.ea [.int .i64 q,.int .i64 r,.str s,.sl .jnode (.may false) t,.sl .str (.may false) u]::.undef::.ptr 1 0::.undef::.ea [.int .i64 v,.str w,.sl .str (.may false) x,.int .i64 y,.sl .str (.may false) a,.bool b,.str c,.int .i64 d,.sl .afield (.may false) e,.sl (.num .i64) (.may false) f]::.bool g::(U 56 (.bool h::(U 184 [])))),hp:=[some [.sl .atype (.may false) i,.int .i64 j],some [.int .u64 k,.str l,.sl .aval .own m,.sl .str .own n,.int .i64 o]]}
def dq(R:IR→(Ex→St→Ro)→St→Ro):Ex→St→Ro:=(aQ 0 (bv (R dY) (fin eP)))
abbrev hH:Type:=(Int×Int×Int×Bs×List aH×Bss×Int×Bs×Bss×Int×Bss×Bool×Bs×Int×List aO×List Int×Bool×List aA×Int×Int×Bs×List aB×Bss×Int)
def fa:hH→St:=fun(o,p,q,r,s,t,u,v,w,x,a,b,c,d,e,f,g,h,i,j,k,l,m,n)=>{env:=(.ptr 0 0::.undef::.undef::.int .i64 o::.undef::.undef::.ea [.int .i64 p,.int .i64 q,.str r,.sl .jnode (.may false) s,.sl .str (.may false) t]::.undef::.ptr 1 0::.undef::.ea [.int .i64 u,.str v,.sl .str (.may false) w,.int .i64 x,.sl .str (.may false) a,.bool b,.str c,.int .i64 d,.sl .afield (.may false) e,.sl (.num .i64) (.may false) f]::(U 119 (.bool g::(U 122 [])))),hp:=[some [.sl .atype (.may false) h,.int .i64 i],some [.int .u64 j,.str k,.sl .aval .own l,.sl .str .own m,.int .i64 n]]}
abbrev pj:Type:=(Bs×Bool×List aA×Int×Int×Bs×List aB×Bss×Int)
def jT:pj→St:=fun(a,b,c,d,e,f,g,h,i)=>{env:=(U 8 (.ptr 1 0::(U 3 (.str a::(U 149 (.bool b::(U 90 []))))))),hp:=[some [.sl .atype (.may false) c,.int .i64 d],some [.int .u64 e,.str f,.sl .aval .own g,.sl .str .own h,.int .i64 i]]}
def pk(N:Nat):St→Ro:=fun s=>run aT N uv (dq (run aT N)) s
def hJ(N:Nat):pj→Ro:=fun(d,a,b,c,_,_,_,_,_)=>
 let e:=fun f g=>(some (.tup [.agg [.int .u64 0,.str f,.sl .aval (.may false) ([]:List aB),.sl .str (.may false) ([]:Bss),.int .i64 0],.int .i64 g],[some [.sl .atype (.may false) b,.int .i64 c],some [.int .u64 0,.str f,.sl .aval .own ([]:List aB),.sl .str .own ([]:Bss),.int .i64 0]]):Ro)
 cond a (
 e d 0) (
 e ([]:Bs) 7)
theorem aek(N:Nat):LJ (pk N) jT (hJ N):=fun _=>by kernel_rfl
def afM(R:IR→(Ex→St→Ro)→St→Ro)(a:St→Ro):Ex→St→Ro:=(bF a [6,8,10,14,1000002] 2 (aQ 1 (dq R)))
abbrev kW:Type:=(Int×Int×Bs×List aH×Bss×Int×Bs×Bss×Int×Bss×Bool×Bs×Int×List aO×List Int×Int×List aA×Int×Int×Bs×List aB×Bss×Int)
def gv:kW→St:=fun(n,o,p,q,r,s,t,u,v,w,a,b,c,d,e,f,g,h,i,j,k,l,m)=>{env:=(U 6 (.ea [.int .i64 n,.int .i64 o,.str p,.sl .jnode (.may false) q,.sl .str (.may false) r]::.undef::.ptr 1 0::.undef::.ea [.int .i64 s,.str t,.sl .str (.may false) u,.int .i64 v,.sl .str (.may false) w,.bool a,.str b,.int .i64 c,.sl .afield (.may false) d,.sl (.num .i64) (.may false) e]::(U 3 (.int .i64 f::(U 238 []))))),hp:=[some [.sl .atype (.may false) g,.int .i64 h],some [.int .u64 i,.str j,.sl .aval .own k,.sl .str .own l,.int .i64 m]]}
def kX(N:Nat):(St→Ro)→St→Ro:=fun a s=>run aT N uw (afM (run aT N) a) s
def fB(N:Nat)(c:kW→Ro):kW→Ro:=fun(p,q,d,r,s,g,h,i,j,a,k,l,m,n,o,b,e,f,t,u,v,w,x)=>
 let x6:=(↑(List.length a):Int)
 let y:=fun z g1=>(some (.tup [.agg [.int .u64 z,.str ([]:Bs),.sl .aval (.may false) ([]:List aB),.sl .str (.may false) ([]:Bss),.int .i64 0],.int .i64 g1],[some [.sl .atype (.may false) e,.int .i64 f],some [.int .u64 z,.str ([]:Bs),.sl .aval .own ([]:List aB),.sl .str .own ([]:Bss),.int .i64 0]]):Ro)
 cond (decide (b<x6)) (
 chk (ixl b a) (
 let x7:=List.getD a (Int.toNat b) (aC .str)
 cond (decide (x7=d)) (
 y (IntKind.wrap .u64 b) 0) (
 let x8:=(IntKind.wrap .i64 (b+1))
 c (p,q,d,r,s,g,h,i,j,a,k,l,m,n,o,x8,e,f,t,u,v,w,x)))) (
 y 0 7)
theorem ael(N:Nat):LB (kX N) gv (fB N):=fun _ _=>by kernel_rfl
abbrev pl:Type:=(Int×Int×Int×Bs×List aH×Bss×Int×Bs×Bss×Int×Bss×Bool×Bs×Int×List aO×List Int×Bool×List aA×Int×Int×Bs×List aB×Bss×Int)
def jU:pl→St:=fun(o,p,q,r,s,t,u,v,w,x,a,b,c,d,e,f,g,h,i,j,k,l,m,n)=>{env:=(.ptr 0 0::.undef::.undef::.int .i64 o::.undef::.undef::.ea [.int .i64 p,.int .i64 q,.str r,.sl .jnode (.may false) s,.sl .str (.may false) t]::.undef::.ptr 1 0::.undef::.ea [.int .i64 u,.str v,.sl .str (.may false) w,.int .i64 x,.sl .str (.may false) a,.bool b,.str c,.int .i64 d,.sl .afield (.may false) e,.sl (.num .i64) (.may false) f]::(U 181 (.bool g::(U 60 [])))),hp:=[some [.sl .atype (.may false) h,.int .i64 i],some [.int .u64 j,.str k,.sl .aval .own l,.sl .str .own m,.int .i64 n]]}
def pm(N:Nat):St→Ro:=fun s=>run aT N uz (dq (run aT N)) s
def hU(N:Nat):pl→Ro:=fun(w,e,f,g,h,i,b,n,o,p,q,r,s,t,u,a,v,c,d,_,_,_,_,_)=>
 cond v (
 aE (iU c d b n o p q r s t u a e f g h i w) (fun j=>
 some (.tup [.agg [.int .u64 j.1,.str j.2.1,.sl .aval (.may false) j.2.2.1,.sl .str (.may false) j.2.2.2.1,.int .i64 j.2.2.2.2.1],.int .i64 j.2.2.2.2.2.1],[some [.sl .atype (.may false) j.2.2.2.2.2.2.1,.int .i64 j.2.2.2.2.2.2.2],some [.int .u64 j.1,.str j.2.1,.sl .aval (.may false) j.2.2.1,.sl .str (.may false) j.2.2.2.1,.int .i64 j.2.2.2.2.1]]))) (
 cond (b==9) (
 cond (e==6) (
 aE (iw c d b n o p q r s t u a e f g h i w) (fun k=>
 some (.tup [.agg [.int .u64 k.1,.str k.2.1,.sl .aval (.may false) k.2.2.1,.sl .str (.may false) k.2.2.2.1,.int .i64 k.2.2.2.2.1],.int .i64 k.2.2.2.2.2.1],[some [.sl .atype (.may false) k.2.2.2.2.2.2.1,.int .i64 k.2.2.2.2.2.2.2],some [.int .u64 k.1,.str k.2.1,.sl .aval (.may false) k.2.2.1,.sl .str (.may false) k.2.2.2.1,.int .i64 k.2.2.2.2.1]]))) (
 cond (b==14) (
 chk (decide ((0:Int)<↑(List.length a))) (
 let x9:=List.getD a (Int.toNat 0) (aC (.num .i64))
 let x:=(IntKind.wrap .i64 (w+1))
 aE (dd c d x9 e f g h i x) (fun l=>
 some (.tup [.agg [.int .u64 0,.str ([]:Bs),.sl .aval (.may true) ([⟨l.1,l.2.1,l.2.2.1,l.2.2.2.1,l.2.2.2.2.1⟩]:List aB),.sl .str (.may false) ([]:Bss),.int .i64 0],.int .i64 l.2.2.2.2.2.1],[some [.sl .atype (.may false) l.2.2.2.2.2.2.1,.int .i64 l.2.2.2.2.2.2.2],some [.int .u64 0,.str ([]:Bs),.sl .aval (.may true) ([⟨l.1,l.2.1,l.2.2.1,l.2.2.2.1,l.2.2.2.2.1⟩]:List aB),.sl .str .own ([]:Bss),.int .i64 0]])))) (
 some (.tup [.agg [.int .u64 0,.str ([]:Bs),.sl .aval (.may false) ([]:List aB),.sl .str (.may false) ([]:Bss),.int .i64 0],.int .i64 7],[some [.sl .atype (.may false) c,.int .i64 d],some [.int .u64 0,.str ([]:Bs),.sl .aval .own ([]:List aB),.sl .str .own ([]:Bss),.int .i64 0]])))) (
 cond (b==14) (
 chk (decide ((0:Int)<↑(List.length a))) (
 let y:=List.getD a (Int.toNat 0) (aC (.num .i64))
 let z:=(IntKind.wrap .i64 (w+1))
 aE (dd c d y e f g h i z) (fun m=>
 some (.tup [.agg [.int .u64 0,.str ([]:Bs),.sl .aval (.may true) ([⟨m.1,m.2.1,m.2.2.1,m.2.2.2.1,m.2.2.2.2.1⟩]:List aB),.sl .str (.may false) ([]:Bss),.int .i64 0],.int .i64 m.2.2.2.2.2.1],[some [.sl .atype (.may false) m.2.2.2.2.2.2.1,.int .i64 m.2.2.2.2.2.2.2],some [.int .u64 0,.str ([]:Bs),.sl .aval (.may true) ([⟨m.1,m.2.1,m.2.2.1,m.2.2.2.1,m.2.2.2.2.1⟩]:List aB),.sl .str .own ([]:Bss),.int .i64 0]])))) (
 some (.tup [.agg [.int .u64 0,.str ([]:Bs),.sl .aval (.may false) ([]:List aB),.sl .str (.may false) ([]:Bss),.int .i64 0],.int .i64 7],[some [.sl .atype (.may false) c,.int .i64 d],some [.int .u64 0,.str ([]:Bs),.sl .aval .own ([]:List aB),.sl .str .own ([]:Bss),.int .i64 0]]))))
theorem aem(N:Nat):LJ (pm N) jU (hU N):=fun _=>by kernel_rfl
def kZ(N:Nat):St→Ro:=fun s=>run aT N jf (dq (run aT N)) s
def jV(N:Nat)(q3:pj→Ro)(q4:kW→Ro)(q5:pl→Ro):hH→Ro:=fun(v3,b,u,d,v,w,a,e,f,g,h,i,j,c,k,l,x,m,n,o,p,q,r,s)=>
 let z:=fun g0 g1=>q3 (g0,g1,m,n,o,p,q,r,s)
 let t:=fun g0=>q5 (v3,b,u,d,v,w,a,e,f,g,h,i,j,c,k,l,g0,m,n,o,p,q,r,s)
 cond x (
 aE (ws d) (fun y=>
 cond y.2 (
 cond (a==7) (
 z y.1 true) (
 let x5:=(↑(List.length y.1):Int)
 z y.1 (x5==c))) (
 z y.1 false))) (
 cond (a==10) (
 cond (b==4) (
 q4 (b,u,d,v,w,a,e,f,g,h,i,j,c,k,l,0,m,n,o,p,q,r,s)) (
 cond (a==12) (
 cond (b==5) (
 t true) (
 cond (a==13) (
 t (b==6)) (
 t false))) (
 cond (a==13) (
 t (b==6)) (
 t false)))) (
 cond (a==12) (
 cond (b==5) (
 t true) (
 cond (a==13) (
 t (b==6)) (
 t false))) (
 cond (a==13) (
 t (b==6)) (
 t false))))
def hY(N:Nat)(x:hH):Ro:=jV N (fun z=>hJ N z) (fun z=>aS N (fB N) z) (fun z=>hU N z) x
def pn(N:Nat):List (Nat×(St→Ro)):=(bP aT N jf (dq (run aT N))++(bP aT N dY (fin eP)++[]))
theorem aen(N:Nat):∀(x:hH),kZ N (fa x)=hY N x:=by
 intro x
 have hX:∀C:Nat→St→Ro,cE C aT N jf (dq (cE C aT N)) (fa x)=jV N (fun z=>C 1000001 (jT z)) (fun z=>C 1000002 (gv z)) (fun z=>C 1000003 (jU z)) x:=by
  intro C
  kernel_rfl
 have h:kZ N (fa x)=jV N (fun z=>pk N (jT z)) (fun z=>bo N (kX N) (gv z)) (fun z=>pm N (jU z)) x:=(dh (C:=eJ (pn N)) (bU (aY (l:=(pn N)) (by kernel_rfl))) (de (eR (bU (dF (aY (l:=(pn N)) (by kernel_rfl)))) rfl)) _).trans ((hX _).trans (by kernel_rfl))
 have e3:(fun z=>pk N (jT z))=(fun z=>hJ N z):=funext fun z=>aek N z
 have e4:(fun z=>bo N (kX N) (gv z))=(fun z=>aS N (fB N) z):=funext fun z=>bk (gv) (kX N) (fB N) (ael N) N z
 have e5:(fun z=>pm N (jU z))=(fun z=>hU N z):=funext fun z=>aem N z
 rw[h,e3,e4,e5]
 rfl
def la(N:Nat):St→Ro:=fun s=>run aT N jg (dq (run aT N)) s
def jW(N:Nat)(q2:hH→Ro):gZ→Ro:=fun(v3,b,d,e,s,t,a,i,j,k,l,m,n,o,p,q,r,aa,f,g,u,v,w,x,y)=>
 let h:=fun z g1=>(some (.tup [.agg [.int .u64 z,.str g1,.sl .aval (.may false) ([]:List aB),.sl .str (.may false) ([]:Bss),.int .i64 0],.int .i64 0],[some [.sl .atype (.may false) f,.int .i64 g],some [.int .u64 z,.str g1,.sl .aval .own ([]:List aB),.sl .str .own ([]:Bss),.int .i64 0]]):Ro)
 let c:=fun z=>q2 (v3,b,d,e,s,t,a,i,j,k,l,m,n,o,p,q,z,f,g,u,v,w,x,y)
 cond aa (
 h (IntKind.wrap .u64 d) ([]:Bs)) (
 cond (a==5) (
 cond r (
 aE (t7 d) (fun(r1:Int)=>
 h (IntKind.wrap .u64 r1) ([]:Bs))) (
 cond (a==6) (
 cond r (
 aE (ou d) (fun(r2:Int)=>
 h r2 ([]:Bs))) (
 cond (a==8) (
 cond (b==4) (
 h 0 e) (
 cond (a==7) (
 c (b==4)) (
 cond (a==11) (
 c (b==4)) (
 c false)))) (
 cond (a==7) (
 c (b==4)) (
 cond (a==11) (
 c (b==4)) (
 c false))))) (
 cond (a==8) (
 cond (b==4) (
 h 0 e) (
 cond (a==7) (
 c (b==4)) (
 cond (a==11) (
 c (b==4)) (
 c false)))) (
 cond (a==7) (
 c (b==4)) (
 cond (a==11) (
 c (b==4)) (
 c false)))))) (
 cond (a==6) (
 cond r (
 aE (ou d) (fun(r8:Int)=>
 h r8 ([]:Bs))) (
 cond (a==8) (
 cond (b==4) (
 h 0 e) (
 cond (a==7) (
 c (b==4)) (
 cond (a==11) (
 c (b==4)) (
 c false)))) (
 cond (a==7) (
 c (b==4)) (
 cond (a==11) (
 c (b==4)) (
 c false))))) (
 cond (a==8) (
 cond (b==4) (
 h 0 e) (
 cond (a==7) (
 c (b==4)) (
 cond (a==11) (
 c (b==4)) (
 c false)))) (
 cond (a==7) (
 c (b==4)) (
 cond (a==11) (
 c (b==4)) (
 c false))))))
def hZ(N:Nat)(x:gZ):Ro:=jW N (fun z=>hY N z) x
def po(N:Nat):List (Nat×(St→Ro)):=(bP aT N jg (dq (run aT N))++(bP aT N dY (fin eP)++[]))
theorem aeo(N:Nat):∀(x:gZ),la N (eZ x)=hZ N x:=by
 intro x
 have hX:∀C:Nat→St→Ro,cE C aT N jg (dq (cE C aT N)) (eZ x)=jW N (fun z=>C 1000004 (fa z)) x:=by
  intro C
  kernel_rfl
 have h:la N (eZ x)=jW N (fun z=>kZ N (fa z)) x:=(dh (C:=eJ (po N)) (bU (aY (l:=(po N)) (by kernel_rfl))) (de (eR (bU (dF (aY (l:=(po N)) (by kernel_rfl)))) rfl)) _).trans ((hX _).trans (by kernel_rfl))
 have e2:(fun z=>kZ N (fa z))=(fun z=>hY N z):=funext fun z=>aen N z
 rw[h,e2]
 rfl
def pp(N:Nat):St→Ro:=fun s=>run aT N jS (pi (run aT N)) s
def jX(N:Nat)(z:gZ→Ro):gY→Ro:=fun(v3,k,l,m,n,o,a,b,c,d,e,f,g,h,i,j,p,x,q,r,s,t,u,v,w)=>
 let y:=fun g0=>z (v3,k,l,m,n,o,a,b,c,d,e,f,g,h,i,j,p,g0,q,r,s,t,u,v,w)
 cond x (
 y true) (
 cond (a==4) (
 y p) (
 y false))
def lb(N:Nat)(x:gY):Ro:=jX N (fun z=>hZ N z) x
def lc(N:Nat):List (Nat×(St→Ro)):=(bP aT N jS (pi (run aT N))++(bP aT N nS (aQ 0 (bv (run aT N dY) (fin eP)))++(bP aT N dY (fin eP)++[])))
theorem aep(N:Nat):∀(x:gY),pp N (gu x)=lb N x:=by
 intro x
 have hX:∀C:Nat→St→Ro,cE C aT N jS (pi (cE C aT N)) (gu x)=jX N (fun z=>C 1000005 (eZ z)) x:=by
  intro C
  kernel_rfl
 have h:pp N (gu x)=jX N (fun z=>la N (eZ z)) x:=(dh (C:=eJ (lc N)) (bU (aY (l:=(lc N)) (by kernel_rfl))) (eR (bU (dF (aY (l:=(lc N)) (by kernel_rfl)))) (de (eR (bU (dF (dF (aY (l:=(lc N)) (by kernel_rfl))))) rfl))) _).trans ((hX _).trans (by kernel_rfl))
 have e1:(fun z=>la N (eZ z))=(fun z=>hZ N z):=funext fun z=>aeo N z
 rw[h,e1]
 rfl
def iA(N:Nat)(d:List aA)(k s b c:Int)(e:Bs)(f:List aH)(g:Bss)(i:Int)(j:gY→Ro):Ro:=
 let h:=(IntKind.wrap .i64 (k+1))
 let l:=fun t u=>(some (.tup [.agg [.int .u64 t,.str ([]:Bs),.sl .aval (.may false) ([]:List aB),.sl .str (.may false) ([]:Bss),.int .i64 0],.int .i64 u],[some [.sl .atype (.may false) d,.int .i64 h],some [.int .u64 t,.str ([]:Bs),.sl .aval .own ([]:List aB),.sl .str .own ([]:Bss),.int .i64 0]]):Ro)
 cond (decide (20<i)) (
 l 0 3) (
 cond (decide (2000<h)) (
 l 0 3) (
 chk (ixl s d) (
 let a:=(List.getD d (Int.toNat s) (aC .atype))
 cond (a.kind==1) (
 cond (b==1) (
 l 0 0) (
 cond (a.kind==2) (
 cond (b==2) (
 l (IntKind.wrap .u64 c) 0) (
 cond (a.kind==3) (
 cond (b==3) (
 let v:=decide ((-2147483648)≤c)
 cond v (
 let w:=decide (c<2147483648)
 j (i,b,c,e,f,g,a.kind,a.name,a.aliases,a.items,a.syms,a.hasdef,a.df,a.size,a.fields,a.branches,(b==3),w,d,h,0,([]:Bs),([]:List aB),([]:Bss),0)) (
 j (i,b,c,e,f,g,a.kind,a.name,a.aliases,a.items,a.syms,a.hasdef,a.df,a.size,a.fields,a.branches,(b==3),false,d,h,0,([]:Bs),([]:List aB),([]:Bss),0))) (
 j (i,b,c,e,f,g,a.kind,a.name,a.aliases,a.items,a.syms,a.hasdef,a.df,a.size,a.fields,a.branches,(b==3),false,d,h,0,([]:Bs),([]:List aB),([]:Bss),0))) (
 j (i,b,c,e,f,g,a.kind,a.name,a.aliases,a.items,a.syms,a.hasdef,a.df,a.size,a.fields,a.branches,(b==3),false,d,h,0,([]:Bs),([]:List aB),([]:Bss),0)))) (
 cond (a.kind==3) (
 cond (b==3) (
 let m:=decide ((-2147483648)≤c)
 cond m (
 let n:=decide (c<2147483648)
 j (i,b,c,e,f,g,a.kind,a.name,a.aliases,a.items,a.syms,a.hasdef,a.df,a.size,a.fields,a.branches,(b==3),n,d,h,0,([]:Bs),([]:List aB),([]:Bss),0)) (
 j (i,b,c,e,f,g,a.kind,a.name,a.aliases,a.items,a.syms,a.hasdef,a.df,a.size,a.fields,a.branches,(b==3),false,d,h,0,([]:Bs),([]:List aB),([]:Bss),0))) (
 j (i,b,c,e,f,g,a.kind,a.name,a.aliases,a.items,a.syms,a.hasdef,a.df,a.size,a.fields,a.branches,(b==3),false,d,h,0,([]:Bs),([]:List aB),([]:Bss),0))) (
 j (i,b,c,e,f,g,a.kind,a.name,a.aliases,a.items,a.syms,a.hasdef,a.df,a.size,a.fields,a.branches,(b==3),false,d,h,0,([]:Bs),([]:List aB),([]:Bss),0))))) (
 cond (a.kind==2) (
 cond (b==2) (
 l (IntKind.wrap .u64 c) 0) (
 cond (a.kind==3) (
 cond (b==3) (
 let o:=decide ((-2147483648)≤c)
 cond o (
 let p:=decide (c<2147483648)
 j (i,b,c,e,f,g,a.kind,a.name,a.aliases,a.items,a.syms,a.hasdef,a.df,a.size,a.fields,a.branches,(b==3),p,d,h,0,([]:Bs),([]:List aB),([]:Bss),0)) (
 j (i,b,c,e,f,g,a.kind,a.name,a.aliases,a.items,a.syms,a.hasdef,a.df,a.size,a.fields,a.branches,(b==3),false,d,h,0,([]:Bs),([]:List aB),([]:Bss),0))) (
 j (i,b,c,e,f,g,a.kind,a.name,a.aliases,a.items,a.syms,a.hasdef,a.df,a.size,a.fields,a.branches,(b==3),false,d,h,0,([]:Bs),([]:List aB),([]:Bss),0))) (
 j (i,b,c,e,f,g,a.kind,a.name,a.aliases,a.items,a.syms,a.hasdef,a.df,a.size,a.fields,a.branches,(b==3),false,d,h,0,([]:Bs),([]:List aB),([]:Bss),0)))) (
 cond (a.kind==3) (
 cond (b==3) (
 let q:=decide ((-2147483648)≤c)
 cond q (
 let r:=decide (c<2147483648)
 j (i,b,c,e,f,g,a.kind,a.name,a.aliases,a.items,a.syms,a.hasdef,a.df,a.size,a.fields,a.branches,(b==3),r,d,h,0,([]:Bs),([]:List aB),([]:Bss),0)) (
 j (i,b,c,e,f,g,a.kind,a.name,a.aliases,a.items,a.syms,a.hasdef,a.df,a.size,a.fields,a.branches,(b==3),false,d,h,0,([]:Bs),([]:List aB),([]:Bss),0))) (
 j (i,b,c,e,f,g,a.kind,a.name,a.aliases,a.items,a.syms,a.hasdef,a.df,a.size,a.fields,a.branches,(b==3),false,d,h,0,([]:Bs),([]:List aB),([]:Bss),0))) (
 j (i,b,c,e,f,g,a.kind,a.name,a.aliases,a.items,a.syms,a.hasdef,a.df,a.size,a.fields,a.branches,(b==3),false,d,h,0,([]:Bs),([]:List aB),([]:Bss),0)))))))
def yj(N:Nat)(a:List aA)(b h c d:Int)(e:Bs)(f:List aH)(g:Bss)(i:Int):Ro:=iA N a b h c d e f g i (fun z=>lb N z)
theorem afN(N:Nat)(a:List aA)(c l d g:Int)(i:Bs)(j:List aH)(k:Bss)(m:Int)(h:Tot (yj N a c l d g i j k m) (fun z=>∃(n:Int)(o:Bs)(p:List aB)(s:Bss)(t:Int)(u:Int)(v:List aA)(w:Int)(rest:List aJ),z.1.dimR=.tup [.agg [.int .u64 n,.str o,.sl .aval (.may false) p,.sl .str (.may false) s,.int .i64 t],.int .i64 u]∧z.2=some [.sl .atype (.may false) v,.int .i64 w]::rest∧dD a c l d g i j k m (n,o,p,s,t,u,v,w))):∃r,dd a c l d g i j k m r:=FnC.finO (css:=[[.sl .atype (.may false) a,.int .i64 c]]) ahf (N:=N) ((bM _ (by kernel_rfl) rfl (fun C=>iA N a c l d g i j k m (fun z=>C 1000000 (gu z))) (fun C=>by kernel_rfl)).trans (Eq.trans (b:=iA N a c l d g i j k m (fun z=>pp N (gu z))) (by kernel_rfl) (congrArg (iA N a c l d g i j k m) (funext fun z=>aep N z)))) h fun _ ⟨n,o,p,s,t,u,v,w,_,e,f,q⟩=>⟨(n,o,p,s,t,u,v,w),e,⟨_,f⟩,q⟩
noncomputable def av9:aN:=tab (P:=Tryz.prog) [] [mV] [] [yQ]
def atC:IR:=Rs [Bx 3 0,Bx 5 2,Pp (.new 6 [vU 0,vS,nl .aval,nl .str,vI 0]),Mi 7 0] (Sq (Rs [Ld 11 1 true 3,Mv 12 1,Ca 13 21 [11,12],Un 14 13] (Cn 14 (Rs [Pp (.bld 15 [vU 0,vS,nl .aval,nl .str,vI 0] []),Sv 5 6 15,Mi 7 1] .ret) .skip)) (Rs [Ld 16 1 true 3,Pp (.bld 17 [fu .atype true,vI 0] [(0,1,16)]),Pp (.box 18 17),Mv 8 18] (Rs [Mv 20 8,Mv 21 1,Ld 22 5 true 5,Ca 23 65 [20,21,22,kI 1],Mv 19 23,Ex_ 24 0 19,Ex_ 25 1 19,Pp (.alr 9 5),Fz 9 5 24,Mv 10 25] (Sq (Rs [Mv 26 10,Bc 27 .neq 26 0] (Cn 27 (Rs [Pp (.bld 28 [vU 0,vS,nl .aval,nl .str,vI 0] []),Mv 29 10,Sv 5 6 28,Mv 7 29] .ret) .skip)) (Rs [Ld 30 5 true 9,Sv 5 6 30,Mi 7 0] .ret)))))
def atD:List RV:=[.cell 6 5 true,.t 7]
theorem atE:FnC Tryz.prog av9 [65,2000065] 0 ajf Tryz.f27 atC atD:=fnC Tryz.func27
def ahg(N:Nat)(b:List aA)(i c d:Int)(e:Bs)(f:List aH)(g:Bss):Ro:=
 let h:=fun j k l m n o p=>(some (.tup [.agg [.int .u64 j,.str k,.sl .aval (.may false) l,.sl .str (.may false) m,.int .i64 n],.int .i64 o],p):Ro)
 aE (kL b i) (fun(q:Bool)=>
 cond (!q) (
 h 0 ([]:Bs) ([]:List aB) ([]:Bss) 0 1 [some [.int .u64 0,.str ([]:Bs),.sl .aval .own ([]:List aB),.sl .str .own ([]:Bss),.int .i64 0]]) (
 aE (dd b 0 i c d e f g 1) (fun a=>
 cond (!(a.2.2.2.2.2.1==0)) (
 h 0 ([]:Bs) ([]:List aB) ([]:Bss) 0 a.2.2.2.2.2.1 [some [.int .u64 0,.str ([]:Bs),.sl .aval .own ([]:List aB),.sl .str .own ([]:Bss),.int .i64 0],some [.sl .atype (.may false) a.2.2.2.2.2.2.1,.int .i64 a.2.2.2.2.2.2.2]]) (
 h a.1 a.2.1 a.2.2.1 a.2.2.2.1 a.2.2.2.2.1 0 [some [.int .u64 a.1,.str a.2.1,.sl .aval (.may false) a.2.2.1,.sl .str (.may false) a.2.2.2.1,.int .i64 a.2.2.2.2.1],some [.sl .atype (.may false) a.2.2.2.2.2.2.1,.int .i64 a.2.2.2.2.2.2.2]]))))
def ahh(N:Nat)(a:List aA)(g b c:Int)(d:Bs)(e:List aH)(f:Bss):Ro:=ahg N a g b c d e f
theorem arz(N:Nat)(a:List aA)(o b c:Int)(d:Bs)(f:List aH)(g:Bss)(h:Tot (ahh N a o b c d f g) (fun z=>∃(i:Int)(j:Bs)(k:List aB)(l:Bss)(m:Int)(n:Int)(rest:List aJ),z.1.dimR=.tup [.agg [.int .u64 i,.str j,.sl .aval (.may false) k,.sl .str (.may false) l,.int .i64 m],.int .i64 n]∧z.2=rest)):∃r,rU a o b c d f g r:=atE.finP0 (N:=N) (by kernel_rfl) h fun _ ⟨i,j,k,l,m,n,_,e,_⟩=>⟨(i,j,k,l,m,n),e⟩
noncomputable def ge:aN:=tab (P:=Tryz.prog) [] [] [] [auE]
def acN:IR:=Sq (Rs [Mv 17 6,Fa 18 0 1,Lq 19 18,Mv 20 5,Ix 21 .atype 19 20,Fa 22 8 21,Lo 23 22,Ll 24 23,Bi 25 .lss 17 24] (Cn 25 .skip (.exit 2))) (Sq (.block 3 (Rs [Fa 28 0 1,Lq 29 28,Mv 30 5,Ix 31 .atype 29 30,Fa 32 8 31,Lo 33 32,Mv 34 6,Ix 35 .afield 33 34,Ld 36 9 true 35,Pp (.alr 7 9),Fz 7 9 36] (Sq (Rs [Fa 37 3 7,Lq 38 37,Un 39 38] (Cn 39 (.exit 3) .skip)) (Rs [Ld 41 1 true 1,Fa 42 2 7,Lq 43 42,Fa 44 4 7,Ld 45 5 true 44,Ca 46 27 [41,43,45],Mv 40 46,Ex_ 47 0 40,Ex_ 48 1 40,Pp (.alr 8 5),Fz 8 5 47,Mv 9 48] (Rs [Mv 49 9,Bc 50 .neq 49 0] (Cn 50 (Rs [Mv 51 9,Mv 52 5,Mv 53 6,Mv 2 51,Mv 3 52,Mv 4 53] .ret) .skip)))))) (Rg [Mv 26 6,Bc 27 .add 26 1,Mv 6 27]))
def acO:IR:=Rg [Mv 15 5,Bc 16 .add 15 1,Mv 5 16]
def pR:IR:=Sq (Rs [Mv 10 5,Fa 11 0 1,Lq 12 11,Ll 13 12,Bi 14 .lss 10 13] (Cn 14 .skip (.exit 0))) (Sq (.block 1 (Rs [Mi 6 0] (.block 2 (.loop [1,5,6,1000000] 0 acN)))) acO)
def wh:IR:=Rs [Mi 2 0,Mi 3 0,Mi 4 0] .ret
def atF:IR:=Rs [Bx 1 0,Mi 2 0,Mi 3 0,Mi 4 0] (Sq (Rs [Mi 5 0] (.block 0 (.loop [1,5,1000001] 0 pR))) wh)
def aaQ:List RV:=[.t 2,.t 3,.t 4]
theorem atG:FnC Tryz.prog ge [] 0 aje Tryz.f14 atF aaQ:=fnC Tryz.func14
def tE(R:IR→(Ex→St→Ro)→St→Ro)(a:St→Ro):Ex→St→Ro:=(bF a [1,5,1000001] 0 (aQ 0 (bv (R wh) (fin aaQ))))
abbrev gJ:Type:=(List aA×Int)
def dC:gJ→St:=fun(a,b)=>{env:=(.undef::.ea [.sl .atype (.may false) a]::(U 3 (.int .i64 b::(U 48 [])))),hp:=[]}
def arA(R:IR→(Ex→St→Ro)→St→Ro)(a b:St→Ro):Ex→St→Ro:=(bF b [1,5,6,1000000] 0 (aQ 2 (aQ 1 (bv (R acO) (tE R a)))))
abbrev tF:Type:=(List aA×Int×Int)
def nT:tF→St:=fun(a,b,c)=>{env:=(.undef::.ea [.sl .atype (.may false) a]::(U 3 (.int .i64 b::.int .i64 c::(U 47 [])))),hp:=[]}
def tG(N:Nat)(a:St→Ro):(St→Ro)→St→Ro:=fun b s=>run ge N acN (arA (run ge N) a b) s
def oW(N:Nat)(c:gJ→Ro)(b:tF→Ro):tF→Ro:=fun(a,d,f)=>
 chk (ixl d a) (
 let i:=(List.getD a (Int.toNat d) (aC .atype))
 let j:=(↑(List.length i.fields):Int)
 cond (decide (f<j)) (
 chk (ixl d a) (
 let g:=(List.getD a (Int.toNat d) (aC .atype))
 chk (ixl f g.fields) (
 let e:=(List.getD g.fields (Int.toNat f) (aC .afield))
 cond (!e.hasdef) (
 let k:=(IntKind.wrap .i64 (f+1))
 b (a,d,k)) (
 aE (rU a e.typ e.df.kind e.df.n e.df.s e.df.l e.df.names) (fun h=>
 cond (!(h.2.2.2.2.2==0)) (
 some (.tup [.int .i64 h.2.2.2.2.2,.int .i64 d,.int .i64 f],[])) (
 let m:=(IntKind.wrap .i64 (f+1))
 b (a,d,m))))))) (
 let o:=(IntKind.wrap .i64 (d+1))
 c (a,o)))
theorem apJ(N:Nat)(a:St→Ro):LB (tG N a) nT (oW N (fun y=>a (dC y))):=fun _ _=>by kernel_rfl
def tH(N:Nat):(St→Ro)→St→Ro:=fun a s=>run ge N pR (tE (run ge N) a) s
def rH(N:Nat)(b:gJ→Ro)(d:tF→Ro):gJ→Ro:=fun(a,c)=>
 let e:=(↑(List.length a):Int)
 cond (decide (c<e)) (
 d (a,c,0)) (
 some (.tup [.int .i64 0,.int .i64 0,.int .i64 0],[]))
def tI(N:Nat)(a:gJ→Ro)(x:gJ):Ro:=rH N a (fun z=>aS N (oW N a) z) x
def zH(N:Nat)(a:St→Ro):List (Nat×(St→Ro)):=(bP ge N pR (tE (run ge N) a)++(bP ge N wh (fin aaQ)++[]))
theorem apK(N:Nat):∀(a:St→Ro)(x:gJ),tH N a (dC x)=tI N (fun y=>a (dC y)) x:=by
 intro a x
 have hX:∀C:Nat→St→Ro,cE C ge N pR (tE (cE C ge N) a) (dC x)=rH N (fun y=>a (dC y)) (fun z=>C 1000000 (nT z)) x:=by
  intro C
  kernel_rfl
 have h:tH N a (dC x)=rH N (fun y=>a (dC y)) (fun z=>bo N (tG N a) (nT z)) x:=(dh (C:=eJ (zH N a)) (bU (aY (l:=(zH N a)) (by kernel_rfl))) (mH (de (eR (bU (dF (aY (l:=(zH N a)) (by kernel_rfl)))) rfl))) _).trans ((hX _).trans (by kernel_rfl))
 have e1:(fun z=>bo N (tG N a) (nT z))=(fun z=>aS N (oW N (fun y=>a (dC y))) z):=funext fun z=>bk (nT) (tG N a) (oW N (fun y=>a (dC y))) (apJ N a) N z
 rw[h,e1]
 rfl
def qD(N:Nat)(a:List aA)(b:gJ→Ro):Ro:=
 b (a,0)
def ahi(N:Nat)(a:List aA):Ro:=qD N a (fun z=>aS N (tI N) z)
theorem arB(N:Nat)(a:List aA)(h:Tot (ahi N a) (fun z=>∃(c:Int)(d:Int)(f:Int)(rest:List aJ),z.1.dimR=.tup [.int .i64 c,.int .i64 d,.int .i64 f]∧z.2=rest)):∃r,rT a r:=atG.finP0 (N:=N) ((bM _ (by kernel_rfl) rfl (fun C=>qD N a (fun z=>C 1000001 (dC z))) (fun C=>by kernel_rfl)).trans (Eq.trans (b:=qD N a (fun z=>bo N (tH N) (dC z))) (by kernel_rfl) (congrArg (qD N a) (funext fun z=>bk (dC) (tH N) (tI N) (apK N) N z)))) h fun _ ⟨c,d,f,_,e,_⟩=>⟨(c,d,f),e⟩
noncomputable def afO:aN:=tab (P:=Tryz.prog) [] [] [] [awZ]
def ahj:IR:=Sq (Rs [Mv 7 0,Pp (.lens 8 7),Bc 9 .gtr 8 0] (Cn 9 .skip (.exit 0))) (.block 1 (Rs [Mv 11 0,Ca 12 104 [11],Mv 10 12,Ex_ 13 0 10,Ex_ 14 1 10,Mv 5 13,Mv 6 14] (Sq (Rs [Mv 15 6,Bc 16 .eql 15 0,Mv 17 16,Gf 17 (.mov 18 5),Gf 17 (.bin 19 .gtr 18 (.c (.int .u32 255))),Po 20 17 19] (Cn 20 (Rs [Ms 2 [],Mb 3 false] .ret) .skip)) (.reg [Mv 21 4,Mv 22 5,Pp (.cvi 23 .u8 22),Pp (.bsl 24 .u8 [23] true),Pp (.b2s 25 24),Bi 26 .add 21 25,Mv 27 0,Mv 28 6,Pp (.subs 29 27 (some 28) none),Mv 4 26,Mv 0 29] [[],[],[1],[1,2],[1,2,3],rg 0 4,[],[],[6,7],rg 0 5,rg 0 9]))))
def ahk:IR:=Rs [Mv 30 4,Mv 2 30,Mb 3 true] .ret
def ax3:IR:=Rs [Ms 2 [],Mb 3 false] (Rs [Ms 4 []] (Sq (.block 0 (.loop [0,4,1000000] 0 ahj)) ahk))
def amE:List RV:=[.t 2,.t 3]
theorem ax4:FnC Tryz.prog afO [] 0 an1 Tryz.f92 ax3 amE:=fnC Tryz.func92
def awa(R:IR→(Ex→St→Ro)→St→Ro)(a:St→Ro):Ex→St→Ro:=(bF a [0,4,1000000] 0 (aQ 0 (bv (R ahk) (fin amE))))
abbrev xy:Type:=(Bs×Bs)
def vz:xy→St:=fun(a,b)=>{env:=(.str a::(U 3 (.str b::(U 26 [])))),hp:=[]}
def ack(N:Nat):(St→Ro)→St→Ro:=fun a s=>run afO N ahj (awa (run afO N) a) s
def xz(N:Nat)(a:xy→Ro):xy→Ro:=fun(c,d)=>
 let f:=(↑(List.length c):Int)
 let e:=(some (.tup [.str ([]:Bs),.bool false],[]):Ro)
 cond (decide (0<f)) (
 aE (ub c) (fun b=>
 cond (b.2==0) (
 e) (
 cond (decide (255<b.1)) (
 e) (
 chk (decide (List.length d+List.length ([(UInt8.ofNat (Int.toNat (IntKind.wrap .u8 b.1)))]:Bs)≤9223372036854775807)) (
 let g:=(d++([(UInt8.ofNat (Int.toNat (IntKind.wrap .u8 b.1)))]:Bs))
 chk (decide (0≤b.2)&&decide (b.2≤(↑(List.length c):Int))) (
 let h:=(List.drop (Int.toNat b.2) (List.take (List.length c) c))
 a (h,g))))))) (
 some (.tup [.str d,.bool true],[]))
theorem atH(N:Nat):LB (ack N) vz (xz N):=fun _ _=>by kernel_rfl
def uA(N:Nat)(a:Bs)(b:xy→Ro):Ro:=
 b (a,([]:Bs))
def amF(N:Nat)(a:Bs):Ro:=uA N a (fun z=>aS N (xz N) z)
theorem awb(N:Nat)(a:Bs)(h:Tot (amF N a) (fun z=>∃(c:Bs)(d:Bool)(rest:List aJ),z.1.dimR=.tup [.str c,.bool d]∧z.2=rest)):∃r,ws a r:=ax4.finP0 (N:=N) ((bM _ (by kernel_rfl) rfl (fun C=>uA N a (fun z=>C 1000000 (vz z))) (fun C=>by kernel_rfl)).trans (Eq.trans (b:=uA N a (fun z=>bo N (ack N) (vz z))) (by kernel_rfl) (congrArg (uA N a) (funext fun z=>bk (vz) (ack N) (xz N) (atH N) N z)))) h fun _ ⟨c,d,_,e,_⟩=>⟨(c,d),e⟩
end Go.Proofs.YtdpajabhmmmjoaaGreat
end
noncomputable section
namespace Go.Proofs.YtdpajabhmmmjoaaGreat
open Go.AM
set_option autoImplicit false
set_option linter.unusedVariables false
set_option maxRecDepth 100000
noncomputable def dn:aN:=tab (P:=Tryz.prog) [] [acr,kE,z4,vT,alt] [] [aln,aaZ]
def ne:IR:=Cn 62 (Sq (.reg [Mv 72 2,Nk 73 72,Fo [1] [] (.ld 74 1 false false 73),Mv 75 0,Mv 76 2,Nk 77 76,Fo [1] [] (.ld 78 1 false false 77),Ll 79 78,Fo [] [0] (.call 80 17 [75,79]),Ix 81 .str 74 80,Lq 82 81,Ca 83 63 [82],Fo [] [2] (.st none 5 6 83)] [[],[0],[0,1],[],[],[4],[4,5],[4,5,6],rg 3 7,rg 0 8,rg 0 9,rg 0 10,rg 0 11]) .ret) .skip
def yk:IR:=Rs [Mv 84 2,Nk 85 84,Lo 86 85,Ll 87 86,Bc 88 .rem 87 26,Pp (.bin 89 .add (kI 97) 88),Pp (.cvi 90 .u8 89),Pp (.bsl 91 .u8 [90] true),Pp (.b2s 92 91),Pp (.bin 93 .add (kS [78]) 92),Mv 9 93] (Rs [Mv 94 2,Mv 95 2,Nk 96 95,Pp (.ld 97 1 false true 96),Mv 98 9,Pp (.bsl 99 .str [98] true),Pp (.app 100 .str (.tk 97) 99),Nk 101 94,Sk 1 101 100] (Sq (.block 1 (Rs [Mv 103 7,Bc 104 .eql 103 15,Mv 102 104] (Cn 102 (Rs [Pp (.bsl 105 .str [kS [116,121,112,101],kS [110,97,109,101],kS [115,105,122,101]] true),Ca 106 63 [kS [102,105,120,101,100]],Mv 107 9,Ca 108 63 [107],Mv 109 0,Ca 110 17 [109,kI 4],Pp (.bld 111 [vI 0,vI 0,vS,fu .jnode true,fu .str true] [(0,1,kI 3),(1,1,110)]),Pp (.bsl 112 .jnode [106,108,111] true),Ca 113 62 [105,112],Sv 5 6 113] .ret) (Rs [Mv 115 7,Bc 116 .eql 115 16,Mv 114 116] (Cn 114 (Rs [Ca 117 63 [kS [88]],Ca 118 63 [kS [89]],Ca 119 63 [kS [90]],Pp (.bsl 120 .jnode [117,118,119] true),Mv 121 0,Ca 122 17 [121,kI 3],Pp (.bin 123 .add (kI 1) 122),Pp (.subl 124 .jnode 120 none (some 123)),Mv 10 124] (Rs [Pp (.bsl 125 .str [kS [116,121,112,101],kS [110,97,109,101],kS [115,121,109,98,111,108,115]] true),Ca 126 63 [kS [101,110,117,109]],Mv 127 9,Ca 128 63 [127],Mv 129 10,Pp (.bld 130 [vI 0,vI 0,vS,fu .jnode true,fu .str true] [(0,1,kI 5),(3,1,129)]),Pp (.bsl 131 .jnode [126,128,130] true),Ca 132 62 [125,131],Pp (.new 11 [vI 0,vI 0,vS,nl .jnode,nl .str]),Sv 5 11 132] (Sq (Rs [Mv 133 0,Ca 134 17 [133,kI 2],Bc 135 .eql 134 0] (Cn 135 (.reg [Fa 136 4 11,Fo [3] [] (.ld 137 1 false false 136),Pp (.bsl 138 .str [kS [100,101,102,97,117,108,116]] true),Pp (.app 139 .str (.tk 137) 138),Fa 140 3 11,Fo [3] [] (.ld 141 1 false false 140),Ca 142 63 [kS [88]],Pp (.bsl 143 .jnode [142] true),Pp (.app 144 .jnode (.tk 141) 143),Fa 145 4 11,Fo [] [3] (.st none 1 145 (.tk 139)),Fa 146 3 11,Fo [] [3] (.st none 1 146 (.tk 144))] [[],[0],[],[0,1,2],[],[4],rg 0 3,[0,1,2,3,6],rg 0 7,rg 0 5,rg 0 9,rg 0 10,rg 0 11]) .skip)) (Rs [Pp (.ld 147 5 true false 11),Sv 5 6 147] .ret)))) .skip))))) (Rs [Mv 148 0,Mv 149 9,Mv 150 1,Mv 151 2,Ca 152 26 [148,149,150,151],Sv 5 6 152] .ret)))
def qE:IR:=.cut [0,1,2,6,7,1000001] 3 yk
def l8:IR:=Rs [Pp (.bsl 22 .str [kS [105,110,116],kS [108,111,110,103],kS [115,116,114,105,110,103],kS [98,121,116,101,115],kS [98,111,111,108,101,97,110],kS [110,117,108,108],kS [102,108,111,97,116],kS [100,111,117,98,108,101]] true),Mv 8 22] (Sq (.block 0 (Rs [Mv 24 7,Bc 25 .lss 24 8,Mv 23 25] (Cn 23 (Rs [Mv 26 8,Mv 27 7,Ix 28 .str 26 27,Lq 29 28,Ca 30 63 [29],Sv 5 6 30] .ret) (Rs [Mv 32 7,Bc 33 .lss 32 10,Mv 31 33] (Cn 31 (Rs [Pp (.bsl 34 .str [kS [116,121,112,101],kS [105,116,101,109,115]] true),Ca 35 63 [kS [97,114,114,97,121]],Mv 36 0,Mv 37 1,Bc 38 .add 37 1,Mv 39 2,Ca 40 61 [36,38,39],Pp (.bsl 41 .jnode [35,40] true),Ca 42 62 [34,41],Sv 5 6 42] .ret) (Rs [Mv 44 7,Bc 45 .eql 44 10,Mv 43 45] (Cn 43 (Rs [Pp (.bsl 46 .str [kS [116,121,112,101],kS [118,97,108,117,101,115]] true),Ca 47 63 [kS [109,97,112]],Mv 48 0,Mv 49 1,Bc 50 .add 49 1,Mv 51 2,Ca 52 61 [48,50,51],Pp (.bsl 53 .jnode [47,52] true),Ca 54 62 [46,53],Sv 5 6 54] .ret) (Rs [Mv 56 7,Bc 57 .lss 56 14,Mv 55 57] (Cn 55 (Rs [Mv 58 0,Mv 59 1,Mv 60 2,Ca 61 88 [58,59,60],Sv 5 6 61] .ret) (Rs [Mv 63 7,Bc 64 .eql 63 14,Mv 65 64,Gt 65 (.mov 66 2),Gt 65 (.nck 67 66),Gt 65 (.ld 68 1 false false 67),Gt 65 (.lenl 69 68),Gt 65 (.bin 70 .gtr 69 (kI 0)),Pa 71 65 70,Mv 62 71] (.cut [0,1,2,6,7,62,1000000] 3 ne))))))))))) qE)
def amG:IR:=Rs [Pp (.new 6 [vI 0,vI 0,vS,nl .jnode,nl .str])] (Rs [Mv 12 0,Ca 13 17 [12,kI 20],Mv 7 13] (Sq (Rs [Mv 14 1,Bc 15 .gtr 14 3,Mv 16 15,Gf 16 (.mov 17 0),Gf 16 (.call 18 16 [17]),Po 19 16 18] (Cn 19 (Rg [Mv 20 7,Bc 21 .rem 20 8,Mv 7 21]) .skip)) (.cut [0,1,2,6,7,1000002] 3 l8)))
def fZ:List RV:=[.cell 6 5 true]
theorem amH:FnC Tryz.prog dn [16,17,26,61,88,2000016,2000017,2000026,2000061,2000088] 2 acp Tryz.f61 amG fZ:=fnC Tryz.func61
abbrev kr:Type:=(Int×Int×Bs×Int×Bss×Int×Int×Bs×List aH×Bss)
def jh:kr→St:=fun(a,b,c,d,e,f,g,h,i,j)=>{env:=(.ptr 0 0::.int .i64 a::.ptr 1 0::(U 3 (.ptr 2 0::.int .i64 b::(U 145 [])))),hp:=[some [.sl .u8 (.may false) c,.int .i64 d],some [.sl .str .own e],some [.int .i64 f,.int .i64 g,.str h,.sl .jnode .own i,.sl .str .own j]]}
abbrev kt:Type:=(Int×Int×Bool×Bs×Int×Bss×Int×Int×Bs×List aH×Bss)
def gm:kt→St:=fun(b,c,d,e,f,g,h,i,j,k,a)=>{env:=(.ptr 0 0::.int .i64 b::.ptr 1 0::(U 3 (.ptr 2 0::.int .i64 c::(U 54 (.bool d::(U 90 [])))))),hp:=[some [.sl .u8 (.may false) e,.int .i64 f],some [.sl .str .own g],some [.int .i64 h,.int .i64 i,.str j,.sl .jnode .own k,.sl .str .own a]]}
def sL(R:IR→(Ex→St→Ro)→St→Ro):Ex→St→Ro:=(aQ 0 (bv (R qE) (fin fZ)))
abbrev sM:Type:=(Int×Int×Bs×Int×Bss×Int×Int×Bs×List aH×Bss)
def ng:sM→St:=fun(a,b,c,d,e,f,g,h,i,j)=>{env:=(.ptr 0 0::.int .i64 a::.ptr 1 0::(U 3 (.ptr 2 0::.int .i64 b::(U 145 [])))),hp:=[some [.sl .u8 (.may false) c,.int .i64 d],some [.sl .str .own e],some [.int .i64 f,.int .i64 g,.str h,.sl .jnode .own i,.sl .str .own j]]}
def sN(N:Nat):St→Ro:=fun s=>run dn N yk (fin fZ) s
def ku(N:Nat):sM→Ro:=fun(v1,x,h,i,j,_,_,_,_,_)=>
 let x7:=(↑(List.length j):Int)
 let y:=(IntKind.wrap .i64 (97+(Int.tmod x7 26)))
 let z:=fun g0 g1 g2 g3 g4 g5 g6 g7 g8 g9=>(some (.agg [.int .i64 g0,.int .i64 g1,.str g2,.sl .jnode (.may g3) g4,.sl .str (.may g5) g6],[some [.sl .u8 (.may false) g7,.int .i64 g8],some [.sl .str .own g9],some [.int .i64 g0,.int .i64 g1,.str g2,.sl .jnode (.may g3) g4,.sl .str (.may g5) g6]]):Ro)
 chk (decide (List.length ([78]:Bs)+List.length ([(UInt8.ofNat (Int.toNat (IntKind.wrap .u8 y)))]:Bs)≤9223372036854775807)) (
 let v:=(([78]:Bs)++([(UInt8.ofNat (Int.toNat (IntKind.wrap .u8 y)))]:Bs))
 chk (decide ((List.length j+List.length ([v]:Bss))*16≤140737488355328)) (
 let p:=(j++([v]:Bss))
 cond (x==15) (
 aE (bR ([102,105,120,101,100]:Bs)) (fun k=>
 aE (bR v) (fun l=>
 aE (aU h i 4) (fun q=>
 aE (fY true ([([116,121,112,101]:Bs),([110,97,109,101]:Bs),([115,105,122,101]:Bs)]:Bss) true ([⟨k.1,k.2.1,k.2.2.1,k.2.2.2.1,k.2.2.2.2⟩,⟨l.1,l.2.1,l.2.2.1,l.2.2.2.1,l.2.2.2.2⟩,⟨3,q.1,([]:Bs),([]:List aH),([]:Bss)⟩]:List aH)) (fun g=>
 z g.1 g.2.1 g.2.2.1 g.2.2.2.1 g.2.2.2.2.1 g.2.2.2.2.2.1 g.2.2.2.2.2.2 q.2.1 q.2.2 p))))) (
 cond (x==16) (
 aE (bR ([88]:Bs)) (fun c=>
 aE (bR ([89]:Bs)) (fun d=>
 aE (bR ([90]:Bs)) (fun e=>
 aE (aU h i 3) (fun r=>
 let s:=(IntKind.wrap .i64 (1+r.1))
 chk (decide (0≤s)&&decide (s≤(↑(List.length ([⟨c.1,c.2.1,c.2.2.1,c.2.2.2.1,c.2.2.2.2⟩,⟨d.1,d.2.1,d.2.2.1,d.2.2.2.1,d.2.2.2.2⟩,⟨e.1,e.2.1,e.2.2.1,e.2.2.2.1,e.2.2.2.2⟩]:List aH)):Int))) (
 let w:=(List.drop 0 (List.take (Int.toNat s) ([⟨c.1,c.2.1,c.2.2.1,c.2.2.2.1,c.2.2.2.2⟩,⟨d.1,d.2.1,d.2.2.1,d.2.2.2.1,d.2.2.2.2⟩,⟨e.1,e.2.1,e.2.2.1,e.2.2.2.1,e.2.2.2.2⟩]:List aH)))
 aE (bR ([101,110,117,109]:Bs)) (fun m=>
 aE (bR v) (fun n=>
 aE (fY true ([([116,121,112,101]:Bs),([110,97,109,101]:Bs),([115,121,109,98,111,108,115]:Bs)]:Bss) true ([⟨m.1,m.2.1,m.2.2.1,m.2.2.2.1,m.2.2.2.2⟩,⟨n.1,n.2.1,n.2.2.1,n.2.2.2.1,n.2.2.2.2⟩,⟨5,0,([]:Bs),w,([]:Bss)⟩]:List aH)) (fun a=>
 aE (aU r.2.1 r.2.2 2) (fun o=>
 cond (o.1==0) (
 chk ((a.2.2.2.2.2.1&&decide (0<List.length ([([100,101,102,97,117,108,116]:Bs)]:Bss)))&&decide ((List.length a.2.2.2.2.2.2+List.length ([([100,101,102,97,117,108,116]:Bs)]:Bss))*16≤140737488355328)) (
 let t:=(a.2.2.2.2.2.2++([([100,101,102,97,117,108,116]:Bs)]:Bss))
 aE (bR ([88]:Bs)) (fun b=>
 chk ((a.2.2.2.1&&decide (0<List.length ([⟨b.1,b.2.1,b.2.2.1,b.2.2.2.1,b.2.2.2.2⟩]:List aH)))&&decide ((List.length a.2.2.2.2.1+List.length ([⟨b.1,b.2.1,b.2.2.1,b.2.2.2.1,b.2.2.2.2⟩]:List aH))*80≤140737488355328)) (
 let u:=(a.2.2.2.2.1++([⟨b.1,b.2.1,b.2.2.1,b.2.2.2.1,b.2.2.2.2⟩]:List aH))
 some (.agg [.int .i64 a.1,.int .i64 a.2.1,.str a.2.2.1,.sl .jnode (.may false) u,.sl .str (.may false) t],[some [.sl .u8 (.may false) o.2.1,.int .i64 o.2.2],some [.sl .str .own p],some [.int .i64 a.1,.int .i64 a.2.1,.str a.2.2.1,.sl .jnode (.may false) u,.sl .str (.may false) t],some [.int .i64 a.1,.int .i64 a.2.1,.str a.2.2.1,.sl .jnode .own u,.sl .str .own t]]))))) (
 some (.agg [.int .i64 a.1,.int .i64 a.2.1,.str a.2.2.1,.sl .jnode (.may a.2.2.2.1) a.2.2.2.2.1,.sl .str (.may a.2.2.2.2.2.1) a.2.2.2.2.2.2],[some [.sl .u8 (.may false) o.2.1,.int .i64 o.2.2],some [.sl .str .own p],some [.int .i64 a.1,.int .i64 a.2.1,.str a.2.2.1,.sl .jnode (.may a.2.2.2.1) a.2.2.2.2.1,.sl .str (.may a.2.2.2.2.2.1) a.2.2.2.2.2.2],some [.int .i64 a.1,.int .i64 a.2.1,.str a.2.2.1,.sl .jnode (.may a.2.2.2.1) a.2.2.2.2.1,.sl .str (.may a.2.2.2.2.2.1) a.2.2.2.2.2.2]])))))))))))) (
 aE (gK h i p v v1) (fun f=>
 z f.1 f.2.1 f.2.2.1 false f.2.2.2.1 false f.2.2.2.2.1 f.2.2.2.2.2.1 f.2.2.2.2.2.2.1 f.2.2.2.2.2.2.2)))))
theorem aiE(N:Nat):LJ (sN N) ng (ku N):=fun _=>by kernel_rfl
def oa(N:Nat):St→Ro:=fun s=>run dn N ne (sL (run dn N)) s
def nh(N:Nat)(l:sM→Ro):kt→Ro:=fun(m,n,k,d,e,b,f,g,h,i,j)=>
 cond k (
 let o:=(↑(List.length b):Int)
 aE (aU d e o) (fun c=>
 chk (ixl c.1 b) (
 let p:=List.getD b (Int.toNat c.1) (aC .str)
 aE (bR p) (fun a=>
 some (.agg [.int .i64 a.1,.int .i64 a.2.1,.str a.2.2.1,.sl .jnode (.may false) a.2.2.2.1,.sl .str (.may false) a.2.2.2.2],[some [.sl .u8 (.may false) c.2.1,.int .i64 c.2.2],some [.sl .str .own b],some [.int .i64 a.1,.int .i64 a.2.1,.str a.2.2.1,.sl .jnode (.may false) a.2.2.2.1,.sl .str (.may false) a.2.2.2.2]]))))) (
 l (m,n,d,e,b,f,g,h,i,j))
def kv(N:Nat)(x:kt):Ro:=nh N (fun z=>ku N z) x
def sO(N:Nat):List (Nat×(St→Ro)):=(bP dn N ne (sL (run dn N))++(bP dn N qE (fin fZ)++[]))
theorem aiF(N:Nat):∀(x:kt),oa N (gm x)=kv N x:=by
 intro x
 have hX:∀C:Nat→St→Ro,cE C dn N ne (sL (cE C dn N)) (gm x)=nh N (fun z=>C 1000001 (ng z)) x:=by
  intro C
  kernel_rfl
 have h:oa N (gm x)=nh N (fun z=>sN N (ng z)) x:=(dh (C:=eJ (sO N)) (bU (aY (l:=(sO N)) (by kernel_rfl))) (de (eR (bU (dF (aY (l:=(sO N)) (by kernel_rfl)))) rfl)) _).trans ((hX _).trans (by kernel_rfl))
 have e2:(fun z=>sN N (ng z))=(fun z=>ku N z):=funext fun z=>aiE N z
 rw[h,e2]
 rfl
def sP(N:Nat):St→Ro:=fun s=>run dn N l8 (fin fZ) s
def ni(N:Nat)(q1:kt→Ro):kr→Ro:=fun(r,d,b,c,a,j,k,l,m,n)=>
 let s:=fun t u v w x y z g7 g8 g9=>(some (.agg [.int .i64 t,.int .i64 u,.str v,.sl .jnode (.may w) x,.sl .str (.may y) z],[some [.sl .u8 (.may false) g7,.int .i64 g8],some [.sl .str .own g9],some [.int .i64 t,.int .i64 u,.str v,.sl .jnode (.may w) x,.sl .str (.may y) z]]):Ro)
 let z1:=fun t=>q1 (r,d,t,b,c,a,j,k,l,m,n)
 cond (decide (d<8)) (
 chk (ixl d ([([105,110,116]:Bs),([108,111,110,103]:Bs),([115,116,114,105,110,103]:Bs),([98,121,116,101,115]:Bs),([98,111,111,108,101,97,110]:Bs),([110,117,108,108]:Bs),([102,108,111,97,116]:Bs),([100,111,117,98,108,101]:Bs)]:Bss)) (
 let x1:=List.getD ([([105,110,116]:Bs),([108,111,110,103]:Bs),([115,116,114,105,110,103]:Bs),([98,121,116,101,115]:Bs),([98,111,111,108,101,97,110]:Bs),([110,117,108,108]:Bs),([102,108,111,97,116]:Bs),([100,111,117,98,108,101]:Bs)]:Bss) (Int.toNat d) (aC .str)
 aE (bR x1) (fun o=>
 s o.1 o.2.1 o.2.2.1 false o.2.2.2.1 false o.2.2.2.2 b c a))) (
 cond (decide (d<10)) (
 aE (bR ([97,114,114,97,121]:Bs)) (fun p=>
 let x2:=(IntKind.wrap .i64 (r+1))
 aE (ep b c a x2) (fun e=>
 aE (fY true ([([116,121,112,101]:Bs),([105,116,101,109,115]:Bs)]:Bss) true ([⟨p.1,p.2.1,p.2.2.1,p.2.2.2.1,p.2.2.2.2⟩,⟨e.1,e.2.1,e.2.2.1,e.2.2.2.1,e.2.2.2.2.1⟩]:List aH)) (fun h=>
 s h.1 h.2.1 h.2.2.1 h.2.2.2.1 h.2.2.2.2.1 h.2.2.2.2.2.1 h.2.2.2.2.2.2 e.2.2.2.2.2.1 e.2.2.2.2.2.2.1 e.2.2.2.2.2.2.2)))) (
 cond (d==10) (
 aE (bR ([109,97,112]:Bs)) (fun q=>
 let x3:=(IntKind.wrap .i64 (r+1))
 aE (ep b c a x3) (fun f=>
 aE (fY true ([([116,121,112,101]:Bs),([118,97,108,117,101,115]:Bs)]:Bss) true ([⟨q.1,q.2.1,q.2.2.1,q.2.2.2.1,q.2.2.2.2⟩,⟨f.1,f.2.1,f.2.2.1,f.2.2.2.1,f.2.2.2.2.1⟩]:List aH)) (fun i=>
 s i.1 i.2.1 i.2.2.1 i.2.2.2.1 i.2.2.2.2.1 i.2.2.2.2.2.1 i.2.2.2.2.2.2 f.2.2.2.2.2.1 f.2.2.2.2.2.2.1 f.2.2.2.2.2.2.2)))) (
 cond (decide (d<14)) (
 aE (lD b c a r) (fun g=>
 s g.1 g.2.1 g.2.2.1 false g.2.2.2.1 false g.2.2.2.2.1 g.2.2.2.2.2.1 g.2.2.2.2.2.2.1 g.2.2.2.2.2.2.2)) (
 cond (d==14) (
 let x4:=(↑(List.length a):Int)
 z1 (decide (0<x4))) (
 z1 false)))))
def od(N:Nat)(x:kr):Ro:=ni N (fun z=>kv N z) x
def aaf(N:Nat):List (Nat×(St→Ro)):=(bP dn N l8 (fin fZ)++[])
theorem aiG(N:Nat):∀(x:kr),sP N (jh x)=od N x:=by
 intro x
 have hX:∀C:Nat→St→Ro,cE C dn N l8 (fin fZ) (jh x)=ni N (fun z=>C 1000000 (gm z)) x:=by
  intro C
  kernel_rfl
 have h:sP N (jh x)=ni N (fun z=>oa N (gm z)) x:=(dh (C:=eJ (aaf N)) (bU (aY (l:=(aaf N)) (by kernel_rfl))) rfl _).trans ((hX _).trans (by kernel_rfl))
 have e1:(fun z=>oa N (gm z))=(fun z=>kv N z):=funext fun z=>aiF N z
 rw[h,e1]
 rfl
def lI(N:Nat)(c:Bs)(d:Int)(e:Bss)(g:Int)(h:kr→Ro):Ro:=
 let f:=fun i j k=>h (g,i,j,k,e,0,0,([]:Bs),([]:List aH),([]:Bss))
 aE (aU c d 20) (fun b=>
 cond (decide (3<g)) (
 f (Int.tmod b.1 8) b.2.1 b.2.2) (
 aE (jH b.2.1 b.2.2) (fun a=>
 cond a.1 (
 f (Int.tmod b.1 8) a.2.1 a.2.2) (
 f b.1 a.2.1 a.2.2))))
def abE(N:Nat)(a:Bs)(b:Int)(c:Bss)(d:Int):Ro:=lI N a b c d (fun z=>od N z)
theorem akB(N:Nat)(a:Bs)(c:Int)(d:Bss)(g:Int)(h:Tot (abE N a c d g) (fun z=>∃(i:Int)(j:Int)(k:Bs)(l:List aH)(m:Bss)(n:Bs)(o:Int)(p:Bss)(rest:List aJ),z.1.dimR=.agg [.int .i64 i,.int .i64 j,.str k,.sl .jnode (.may false) l,.sl .str (.may false) m]∧z.2=some [.sl .u8 (.may false) n,.int .i64 o]::some [.sl .str .own p]::rest∧gj a c d g (i,j,k,l,m,n,o,p))):∃r,ep a c d g r:=FnC.finO (css:=[[.sl .u8 (.may false) a,.int .i64 c],[.sl .str .own d]]) amH (N:=N) ((bM _ (by kernel_rfl) rfl (fun C=>lI N a c d g (fun z=>C 1000002 (jh z))) (fun C=>by kernel_rfl)).trans (Eq.trans (b:=lI N a c d g (fun z=>sP N (jh z))) (by kernel_rfl) (congrArg (lI N a c d g) (funext fun z=>aiG N z)))) h fun _ ⟨i,j,k,l,m,n,o,p,_,e,f,q⟩=>⟨(i,j,k,l,m,n,o,p),e,⟨_,f⟩,q⟩
noncomputable def amI:aN:=tab (P:=Tryz.prog) [] [kE,vT] [] [aaZ]
def akC:IR:=Rs [Pp (.new 6 [vI 0,vI 0,vS,nl .jnode,nl .str])] (Rs [Ca 9 63 [kS [110,117,108,108]],Pp (.bsl 10 .jnode [9] true),Pp (.bld 11 [vI 0,vI 0,vS,nl .jnode,nl .str] [(0,1,kI 5),(3,1,10)]),Pp (.new 7 [vI 0,vI 0,vS,nl .jnode,nl .str]),Sv 5 7 11] (Sq (Rs [Mv 12 0,Ca 13 17 [12,kI 2],Bc 14 .eql 13 0] (Cn 14 (.reg [Fa 15 3 7,Fo [3] [] (.ld 16 1 false false 15),Pp (.bsl 17 .str [kS [105,110,116],kS [115,116,114,105,110,103]] true),Mv 18 0,Fo [] [0] (.call 19 17 [18,kI 2]),Ix 20 .str 17 19,Lq 21 20,Ca 22 63 [21],Pp (.bsl 23 .jnode [22] true),Pp (.app 24 .jnode (.tk 16) 23),Fa 25 3 7,Fo [] [3] (.st none 1 25 (.tk 24))] [[],[0],[],[],[3],[2,3,4],rg 2 5,rg 2 6,rg 2 7,rg 0 8,rg 0 9,rg 0 10]) .skip)) (Rs [Mv 26 0,Mv 27 1,Bc 28 .add 27 1,Mv 29 2,Ca 30 61 [26,28,29],Pp (.alr 8 5),Fz 8 5 30] (Sq (Rs [Fa 31 0 8,Lq 32 31,Bc 33 .eql 32 6] (Cn 33 (Rg [Fa 34 3 7,Pp (.ld 35 1 false true 34),Ld 36 5 true 8,Pp (.bsl 37 .jnode [36] true),Pp (.app 38 .jnode (.tk 35) 37),Fa 39 3 7,Sk 1 39 38]) .skip)) (Rs [Pp (.ld 40 5 true false 7),Sv 5 6 40] .ret)))))
def akD:List RV:=[.cell 6 5 true]
theorem akE:FnC Tryz.prog amI [17,61,2000017,2000061] 2 abb Tryz.f88 akC akD:=fnC Tryz.func88
def aag(N:Nat)(f:Bs)(g:Int)(e:Bss)(l:Int):Ro:=
 let i:=fun m n q r s t=>(some (.agg [.int .i64 5,.int .i64 0,.str ([]:Bs),.sl .jnode (.may m) n,.sl .str (.may false) ([]:Bss)],[some [.sl .u8 (.may false) q,.int .i64 r],some [.sl .str .own s],some [.int .i64 5,.int .i64 0,.str ([]:Bs),.sl .jnode (.may m) n,.sl .str (.may false) ([]:Bss)],some [.int .i64 5,.int .i64 0,.str ([]:Bs),t,.sl .str .own ([]:Bss)]]):Ro)
 aE (bR ([110,117,108,108]:Bs)) (fun a=>
 aE (aU f g 2) (fun h=>
 cond (h.1==0) (
 aE (aU h.2.1 h.2.2 2) (fun j=>
 chk (ixl j.1 ([([105,110,116]:Bs),([115,116,114,105,110,103]:Bs)]:Bss)) (
 let u:=List.getD ([([105,110,116]:Bs),([115,116,114,105,110,103]:Bs)]:Bss) (Int.toNat j.1) (aC .str)
 aE (bR u) (fun d=>
 chk ((true&&decide (0<List.length ([⟨d.1,d.2.1,d.2.2.1,d.2.2.2.1,d.2.2.2.2⟩]:List aH)))&&decide ((List.length ([⟨a.1,a.2.1,a.2.2.1,a.2.2.2.1,a.2.2.2.2⟩]:List aH)+List.length ([⟨d.1,d.2.1,d.2.2.1,d.2.2.2.1,d.2.2.2.2⟩]:List aH))*80≤140737488355328)) (
 let k:=(([⟨a.1,a.2.1,a.2.2.1,a.2.2.2.1,a.2.2.2.2⟩]:List aH)++([⟨d.1,d.2.1,d.2.2.1,d.2.2.2.1,d.2.2.2.2⟩]:List aH))
 let v:=(IntKind.wrap .i64 (l+1))
 aE (ep j.2.1 j.2.2 e v) (fun c=>
 cond (c.1==6) (
 chk (decide ((List.length k+List.length ([⟨c.1,c.2.1,c.2.2.1,c.2.2.2.1,c.2.2.2.2.1⟩]:List aH))*80≤140737488355328)) (
 let o:=(k++([⟨c.1,c.2.1,c.2.2.1,c.2.2.2.1,c.2.2.2.2.1⟩]:List aH))
 i false o c.2.2.2.2.2.1 c.2.2.2.2.2.2.1 c.2.2.2.2.2.2.2 (.sl .jnode .own o))) (
 i false k c.2.2.2.2.2.1 c.2.2.2.2.2.2.1 c.2.2.2.2.2.2.2 (.sl .jnode .own k)))))))) (
 let w:=(IntKind.wrap .i64 (l+1))
 aE (ep h.2.1 h.2.2 e w) (fun b=>
 cond (b.1==6) (
 chk ((true&&decide (0<List.length ([⟨b.1,b.2.1,b.2.2.1,b.2.2.2.1,b.2.2.2.2.1⟩]:List aH)))&&decide ((List.length ([⟨a.1,a.2.1,a.2.2.1,a.2.2.2.1,a.2.2.2.2⟩]:List aH)+List.length ([⟨b.1,b.2.1,b.2.2.1,b.2.2.2.1,b.2.2.2.2.1⟩]:List aH))*80≤140737488355328)) (
 let p:=(([⟨a.1,a.2.1,a.2.2.1,a.2.2.2.1,a.2.2.2.2⟩]:List aH)++([⟨b.1,b.2.1,b.2.2.1,b.2.2.2.1,b.2.2.2.2.1⟩]:List aH))
 i false p b.2.2.2.2.2.1 b.2.2.2.2.2.2.1 b.2.2.2.2.2.2.2 (.sl .jnode .own p))) (
 i true ([⟨a.1,a.2.1,a.2.2.1,a.2.2.2.1,a.2.2.2.2⟩]:List aH) b.2.2.2.2.2.1 b.2.2.2.2.2.2.1 b.2.2.2.2.2.2.2 (.sl .jnode (.may true) ([⟨a.1,a.2.1,a.2.2.1,a.2.2.2.1,a.2.2.2.2⟩]:List aH)))))))
def aah(N:Nat)(a:Bs)(b:Int)(c:Bss)(d:Int):Ro:=aag N a b c d
theorem aiH(N:Nat)(a:Bs)(b:Int)(c:Bss)(o:Int)(h:Tot (aah N a b c o) (fun z=>∃(d:Int)(g:Int)(i:Bs)(j:List aH)(k:Bss)(l:Bs)(m:Int)(n:Bss)(rest:List aJ),z.1.dimR=.agg [.int .i64 d,.int .i64 g,.str i,.sl .jnode (.may false) j,.sl .str (.may false) k]∧z.2=some [.sl .u8 (.may false) l,.int .i64 m]::some [.sl .str .own n]::rest∧xU a b c o (d,g,i,j,k,l,m,n))):∃r,lD a b c o r:=FnC.finO (css:=[[.sl .u8 (.may false) a,.int .i64 b],[.sl .str .own c]]) akE (N:=N) (by kernel_rfl) h fun _ ⟨d,g,i,j,k,l,m,n,_,e,f,q⟩=>⟨(d,g,i,j,k,l,m,n),e,⟨_,f⟩,q⟩
noncomputable def sQ:aN:=tab (P:=Tryz.prog) [] [kE,vT,aib] [] [aln,aaZ]
def wI:IR:=Sq (Rs [Mv 17 10,Mv 18 11,Bi 19 .lss 17 18] (Cn 19 .skip (.exit 0))) (Sq (.block 1 (Rs [Mv 22 0,Mv 23 2,Bc 24 .add 23 1,Mv 25 3,Ca 26 61 [22,24,25],Pp (.alr 12 5),Fz 12 5 26] (Sq (.reg [Pp (.bsl 27 .str [kS [110,97,109,101],kS [116,121,112,101]] true),Mv 28 10,Pp (.bin 29 .add (kI 97) 28),Pp (.cvi 30 .u8 29),Pp (.bsl 31 .u8 [30] true),Pp (.b2s 32 31),Pp (.bin 33 .add (kS [102]) 32),Ca 34 63 [33],Ld 35 5 true 12,Pp (.bsl 36 .jnode [34,35] true),Ca 37 62 [27,36],Pp (.new 13 [vI 0,vI 0,vS,nl .jnode,nl .str]),Fo [] [4] (.st none 5 13 37)] [[],[],[1],[1,2],[1,2,3],rg 1 4,rg 1 5,rg 1 6,[],rg 1 8,rg 0 9,[],rg 0 11]) (Sq (Rs [Mv 38 0,Ca 39 17 [38,kI 3],Bc 40 .eql 39 0] (Cn 40 (.reg [Fa 41 4 13,Fo [4] [] (.ld 42 1 false false 41),Pp (.bsl 43 .str [kS [100,101,102,97,117,108,116]] true),Pp (.app 44 .str (.tk 42) 43),Fa 45 3 13,Fo [4] [] (.ld 46 1 false false 45),Mv 47 0,Ld 48 5 true 12,Fo [] [0] (.call 49 64 [47,48]),Pp (.bsl 50 .jnode [49] true),Pp (.app 51 .jnode (.tk 46) 50),Fa 52 4 13,Fo [] [4] (.st none 1 52 (.tk 44)),Fa 53 3 13,Fo [] [4] (.st none 1 53 (.tk 51))] [[],[0],[],[0,1,2],[],[4],[],[],[0,1,2,3,6,7],[0,1,2,3,6,7,8],rg 0 9,rg 0 5,rg 0 11,rg 0 12,rg 0 13]) .skip)) (Rg [Fa 54 3 9,Pp (.ld 55 1 false true 54),Pp (.ld 56 5 true false 13),Pp (.bsl 57 .jnode [56] true),Pp (.app 58 .jnode (.tk 55) 57),Fa 59 3 9,Sk 1 59 58]))))) (Rg [Mv 20 10,Bc 21 .add 20 1,Mv 10 21]))
def vK:IR:=Sq (.reg [Pp (.bsl 60 .str [kS [116,121,112,101],kS [110,97,109,101],kS [110,97,109,101,115,112,97,99,101],kS [102,105,101,108,100,115]] true),Ca 61 63 [kS [114,101,99,111,114,100]],Mv 62 1,Ca 63 63 [62],Ca 64 63 [kS [115]],Fo [3] [] (.ld 65 5 true false 9),Pp (.bsl 66 .jnode [61,63,64,65] true),Ca 67 62 [60,66],Fo [] [2] (.st none 5 8 67)] [[],[],[],[1,2],[1,2,3],[],rg 1 5,rg 0 6,rg 0 7]) .ret
def aiI:IR:=Rs [Pp (.new 8 [vI 0,vI 0,vS,nl .jnode,nl .str])] (Rs [Pp (.bld 14 [vI 0,vI 0,vS,nl .jnode,nl .str] [(0,1,kI 5)]),Pp (.new 9 [vI 0,vI 0,vS,nl .jnode,nl .str]),Sv 5 9 14] (Sq (Rs [Mv 15 0,Ca 16 17 [15,kI 5],Mi 10 0,Mv 11 16] (.block 0 (.loop [0,1,2,3,8,9,10,11,1000000] 4 wI))) vK))
def zI:List RV:=[.cell 8 5 true]
theorem aiJ:FnC Tryz.prog sQ [17,61,64,2000017,2000061,2000064] 2 zV Tryz.f26 aiI zI:=fnC Tryz.func26
def ahl(R:IR→(Ex→St→Ro)→St→Ro)(a:St→Ro):Ex→St→Ro:=(bF a [0,1,2,3,8,9,10,11,1000000] 4 (aQ 0 (bv (R vK) (fin zI))))
abbrev l9:Type:=(Bs×Int×Int×Int×Bs×Int×Bss×Int×Int×Bs×List aH×Bss×Int×Int×Bs×List aH×Bss)
def le:l9→St:=fun(h,i,j,k,l,m,n,o,p,q,a,b,c,d,e,f,g)=>{env:=(.ptr 0 0::.str h::.int .i64 i::.ptr 1 0::(U 4 (.ptr 2 0::.ptr 3 0::.int .i64 j::.int .i64 k::(U 56 [])))),hp:=[some [.sl .u8 (.may false) l,.int .i64 m],some [.sl .str .own n],some [.int .i64 o,.int .i64 p,.str q,.sl .jnode .own a,.sl .str .own b],some [.int .i64 c,.int .i64 d,.str e,.sl .jnode .own f,.sl .str .own g]]}
def qF(N:Nat):(St→Ro)→St→Ro:=fun a s=>run sQ N wI (ahl (run sQ N) a) s
def ma(N:Nat)(j:l9→Ro):l9→Ro:=fun(z,v2,k,o,l,m,n,p,q,r,s,t,f,g,h,c,i)=>
 let z0:=fun g0 g1 g2 g3 g4=>j (z,v2,g0,o,g1,g2,g3,p,q,r,s,t,f,g,h,g4,i)
 cond (decide (k<o)) (
 let x1:=(IntKind.wrap .i64 (v2+1))
 aE (ep l m n x1) (fun e=>
 let x2:=(IntKind.wrap .i64 (97+k))
 chk (decide (List.length ([102]:Bs)+List.length ([(UInt8.ofNat (Int.toNat (IntKind.wrap .u8 x2)))]:Bs)≤9223372036854775807)) (
 let x3:=(([102]:Bs)++([(UInt8.ofNat (Int.toNat (IntKind.wrap .u8 x2)))]:Bs))
 aE (bR x3) (fun u=>
 aE (fY true ([([110,97,109,101]:Bs),([116,121,112,101]:Bs)]:Bss) true ([⟨u.1,u.2.1,u.2.2.1,u.2.2.2.1,u.2.2.2.2⟩,⟨e.1,e.2.1,e.2.2.1,e.2.2.2.1,e.2.2.2.2.1⟩]:List aH)) (fun b=>
 aE (aU e.2.2.2.2.2.1 e.2.2.2.2.2.2.1 3) (fun v=>
 cond (v.1==0) (
 chk ((b.2.2.2.2.2.1&&decide (0<List.length ([([100,101,102,97,117,108,116]:Bs)]:Bss)))&&decide ((List.length b.2.2.2.2.2.2+List.length ([([100,101,102,97,117,108,116]:Bs)]:Bss))*16≤140737488355328)) (
 let x4:=(b.2.2.2.2.2.2++([([100,101,102,97,117,108,116]:Bs)]:Bss))
 aE (iS v.2.1 v.2.2 e.1 e.2.1 e.2.2.1 e.2.2.2.1 e.2.2.2.2.1) (fun d=>
 chk ((b.2.2.2.1&&decide (0<List.length ([⟨d.1,d.2.1,d.2.2.1,d.2.2.2.1,d.2.2.2.2.1⟩]:List aH)))&&decide ((List.length b.2.2.2.2.1+List.length ([⟨d.1,d.2.1,d.2.2.1,d.2.2.2.1,d.2.2.2.2.1⟩]:List aH))*80≤140737488355328)) (
 let x5:=(b.2.2.2.2.1++([⟨d.1,d.2.1,d.2.2.1,d.2.2.2.1,d.2.2.2.2.1⟩]:List aH))
 chk (decide ((List.length c+List.length ([⟨b.1,b.2.1,b.2.2.1,x5,x4⟩]:List aH))*80≤140737488355328)) (
 let x6:=(c++([⟨b.1,b.2.1,b.2.2.1,x5,x4⟩]:List aH))
 let x7:=(IntKind.wrap .i64 (k+1))
 z0 x7 d.2.2.2.2.2.1 d.2.2.2.2.2.2 e.2.2.2.2.2.2.2 x6))))) (
 chk (decide ((List.length c+List.length ([⟨b.1,b.2.1,b.2.2.1,b.2.2.2.2.1,b.2.2.2.2.2.2⟩]:List aH))*80≤140737488355328)) (
 let x8:=(c++([⟨b.1,b.2.1,b.2.2.1,b.2.2.2.2.1,b.2.2.2.2.2.2⟩]:List aH))
 let x9:=(IntKind.wrap .i64 (k+1))
 z0 x9 v.2.1 v.2.2 e.2.2.2.2.2.2.2 x8)))))))) (
 aE (bR ([114,101,99,111,114,100]:Bs)) (fun w=>
 aE (bR z) (fun x=>
 aE (bR ([115]:Bs)) (fun y=>
 aE (fY true ([([116,121,112,101]:Bs),([110,97,109,101]:Bs),([110,97,109,101,115,112,97,99,101]:Bs),([102,105,101,108,100,115]:Bs)]:Bss) true ([⟨w.1,w.2.1,w.2.2.1,w.2.2.2.1,w.2.2.2.2⟩,⟨x.1,x.2.1,x.2.2.1,x.2.2.2.1,x.2.2.2.2⟩,⟨y.1,y.2.1,y.2.2.1,y.2.2.2.1,y.2.2.2.2⟩,⟨f,g,h,c,i⟩]:List aH)) (fun a=>
 some (.agg [.int .i64 a.1,.int .i64 a.2.1,.str a.2.2.1,.sl .jnode (.may a.2.2.2.1) a.2.2.2.2.1,.sl .str (.may a.2.2.2.2.2.1) a.2.2.2.2.2.2],[some [.sl .u8 (.may false) l,.int .i64 m],some [.sl .str .own n],some [.int .i64 a.1,.int .i64 a.2.1,.str a.2.2.1,.sl .jnode (.may a.2.2.2.1) a.2.2.2.2.1,.sl .str (.may a.2.2.2.2.2.1) a.2.2.2.2.2.2],some [.int .i64 f,.int .i64 g,.str h,.sl .jnode .own c,.sl .str .own i]]))))))
theorem afP(N:Nat):LB (qF N) le (ma N):=fun _ _=>by kernel_rfl
def ji(N:Nat)(a:Bs)(b:Int)(c:Bss)(e:Bs)(f:Int)(g:l9→Ro):Ro:=
 aE (aU a b 5) (fun d=>
 g (e,f,0,d.1,d.2.1,d.2.2,c,0,0,([]:Bs),([]:List aH),([]:Bss),5,0,([]:Bs),([]:List aH),([]:Bss)))
def zJ(N:Nat)(a:Bs)(b:Int)(c:Bss)(d:Bs)(e:Int):Ro:=ji N a b c d e (fun z=>aS N (ma N) z)
theorem ahm(N:Nat)(a:Bs)(c:Int)(d:Bss)(g:Bs)(i:Int)(h:Tot (zJ N a c d g i) (fun z=>∃(j:Int)(k:Int)(l:Bs)(m:List aH)(n:Bss)(o:Bs)(p:Int)(s:Bss)(rest:List aJ),z.1.dimR=.agg [.int .i64 j,.int .i64 k,.str l,.sl .jnode (.may false) m,.sl .str (.may false) n]∧z.2=some [.sl .u8 (.may false) o,.int .i64 p]::some [.sl .str .own s]::rest∧wl a c d g i (j,k,l,m,n,o,p,s))):∃r,gK a c d g i r:=FnC.finO (css:=[[.sl .u8 (.may false) a,.int .i64 c],[.sl .str .own d]]) aiJ (N:=N) ((bM _ (by kernel_rfl) rfl (fun C=>ji N a c d g i (fun z=>C 1000000 (le z))) (fun C=>by kernel_rfl)).trans (Eq.trans (b:=ji N a c d g i (fun z=>bo N (qF N) (le z))) (by kernel_rfl) (congrArg (ji N a c d g i) (funext fun z=>bk (le) (qF N) (ma N) (afP N) N z)))) h fun _ ⟨j,k,l,m,n,o,p,s,_,e,f,q⟩=>⟨(j,k,l,m,n,o,p,s),e,⟨_,f⟩,q⟩
noncomputable def dr:aN:=tab (P:=Tryz.prog) [] [kE] [] [aaZ,aAh]
def jj:IR:=Cn 12 (Rs [Mv 17 0,Ca 18 17 [17,kI 200],Bc 19 .sub 18 50,Pp (.bld 20 [vI 0,vI 0,vS,nl .jnode,nl .str] [(0,1,kI 3),(1,1,19)]),Sv 5 4 20] .ret) (Sq (Rs [Pp (.bin 22 .eql 11 (kS [115,116,114,105,110,103])),Mv 21 22] (Cn 21 .skip (Rg [Pp (.bin 23 .eql 11 (kS [98,121,116,101,115])),Mv 21 23]))) (Cn 21 (Rs [Pp (.bsl 24 .str [kS [],kS [100],kS [195,164]] true),Mv 25 0,Ca 26 17 [25,kI 3],Ix 27 .str 24 26,Lq 28 27,Ca 29 63 [28],Sv 5 4 29] .ret) (Rs [Pp (.bin 31 .eql 11 (kS [98,111,111,108,101,97,110])),Mv 30 31] (Cn 30 (Rs [Mv 32 0,Ca 33 17 [32,kI 2],Pp (.bld 34 [vI 0,vI 0,vS,nl .jnode,nl .str] [(0,1,kI 2),(1,1,33)]),Sv 5 4 34] .ret) (Rs [Pp (.bin 36 .eql 11 (kS [110,117,108,108])),Mv 35 36] (Cn 35 (Rs [Pp (.bld 37 [vI 0,vI 0,vS,nl .jnode,nl .str] [(0,1,kI 1)]),Sv 5 4 37] .ret) .skip))))))
def nU:IR:=Sq (Rs [Fa 38 0 3,Lq 39 38,Bc 40 .eql 39 5] (Cn 40 (Rs [Pp (.bld 41 [vI 0,vI 0,vS,nl .jnode,nl .str] [(0,1,kI 1)]),Sv 5 4 41] .ret) .skip)) (Rs [Ld 43 5 true 3,Ca 44 89 [43,kS [116,121,112,101]],Mv 42 44,Ex_ 45 0 42,Ex_ 46 1 42,Pp (.alr 5 5),Fz 5 5 45,Mv 6 46] (Sq (Rs [Fa 47 2 5,Lq 48 47] (.block 1 (Rs [Pp (.bin 50 .eql 48 (kS [97,114,114,97,121])),Mv 49 50] (Cn 49 (Rs [Pp (.bld 51 [vI 0,vI 0,vS,nl .jnode,nl .str] [(0,1,kI 5)]),Sv 5 4 51] .ret) (Rs [Pp (.bin 53 .eql 48 (kS [101,110,117,109])),Mv 52 53] (Cn 52 (Rs [Ca 54 63 [kS [88]],Sv 5 4 54] .ret) .skip)))))) (Rs [Pp (.bld 55 [vI 0,vI 0,vS,nl .jnode,nl .str] [(0,1,kI 6)]),Sv 5 4 55] .ret)))
def nV:IR:=.cut [3,4,1000001] 2 nU
def ahn:IR:=Rs [Bx 3 1,Pp (.new 4 [vI 0,vI 0,vS,nl .jnode,nl .str])] (Sq (Rs [Fa 7 0 3,Lq 8 7,Bc 9 .eql 8 4] (Cn 9 (Rs [Fa 10 2 3,Lq 11 10] (.block 0 (Sq (Rs [Pp (.bin 13 .eql 11 (kS [105,110,116])),Mv 12 13] (Cn 12 .skip (Rs [Pp (.bin 14 .eql 11 (kS [108,111,110,103])),Mv 12 14] (Cn 12 .skip (Rs [Pp (.bin 15 .eql 11 (kS [102,108,111,97,116])),Mv 12 15] (Cn 12 .skip (Rg [Pp (.bin 16 .eql 11 (kS [100,111,117,98,108,101])),Mv 12 16]))))))) (.cut [0,3,4,11,12,1000000] 2 jj)))) .skip)) nV)
def iB:List RV:=[.cell 4 5 true]
theorem aho:FnC Tryz.prog dr [17,2000017] 1 yM Tryz.f64 ahn iB:=fnC Tryz.func64
abbrev ia:Type:=(Int×Int×Bs×List aH×Bss×Bs×Bool×Bs×Int×Int×Int×Bs×List aH×Bss)
def gw:ia→St:=fun(e,f,g,h,i,j,k,l,m,n,a,b,c,d)=>{env:=(.ptr 0 0::.undef::.undef::.ea [.int .i64 e,.int .i64 f,.str g,.sl .jnode (.may false) h,.sl .str (.may false) i]::.ptr 1 0::(U 6 (.str j::.bool k::(U 43 [])))),hp:=[some [.sl .u8 (.may false) l,.int .i64 m],some [.int .i64 n,.int .i64 a,.str b,.sl .jnode .own c,.sl .str .own d]]}
def pq(R:IR→(Ex→St→Ro)→St→Ro):Ex→St→Ro:=(aQ 0 (bv (R nV) (fin iB)))
abbrev pr:Type:=(Int×Int×Bs×List aH×Bss×Bs×Int×Int×Int×Bs×List aH×Bss)
def jY:pr→St:=fun(c,d,e,f,g,h,i,j,k,l,a,b)=>{env:=(U 3 (.ea [.int .i64 c,.int .i64 d,.str e,.sl .jnode (.may false) f,.sl .str (.may false) g]::.ptr 1 0::(U 51 []))),hp:=[some [.sl .u8 (.may false) h,.int .i64 i],some [.int .i64 j,.int .i64 k,.str l,.sl .jnode .own a,.sl .str .own b]]}
def pt(N:Nat):St→Ro:=fun s=>run dr N nU (fin iB) s
def ic(N:Nat):pr→Ro:=fun(a,c,d,e,f,g,h,_,_,_,_,_)=>
 let i:=fun k l m o p q r=>(some (.agg [.int .i64 k,.int .i64 l,.str m,.sl .jnode (.may false) o,.sl .str (.may false) p],[some [.sl .u8 (.may false) g,.int .i64 h],some [.int .i64 k,.int .i64 l,.str m,q,r]]):Ro)
 cond (a==5) (
 i 1 0 ([]:Bs) ([]:List aH) ([]:Bss) (.sl .jnode .own ([]:List aH)) (.sl .str .own ([]:Bss))) (
 aE (uP a c d e f ([116,121,112,101]:Bs)) (fun n=>
 let s:=decide (n.2.2.1=([97,114,114,97,121]:Bs))
 cond s (
 i 5 0 ([]:Bs) ([]:List aH) ([]:Bss) (.sl .jnode .own ([]:List aH)) (.sl .str .own ([]:Bss))) (
 let j:=decide (n.2.2.1=([101,110,117,109]:Bs))
 cond j (
 aE (bR ([88]:Bs)) (fun b=>
 i b.1 b.2.1 b.2.2.1 b.2.2.2.1 b.2.2.2.2 (.sl .jnode (.may false) b.2.2.2.1) (.sl .str (.may false) b.2.2.2.2))) (
 i 6 0 ([]:Bs) ([]:List aH) ([]:Bss) (.sl .jnode .own ([]:List aH)) (.sl .str .own ([]:Bss))))))
theorem aeq(N:Nat):LJ (pt N) jY (ic N):=fun _=>by kernel_rfl
def pu(N:Nat):St→Ro:=fun s=>run dr N jj (pq (run dr N)) s
def jZ(N:Nat)(y:pr→Ro):ia→Ro:=fun(f,g,h,i,j,c,s,a,b,k,l,m,n,o)=>
 let p:=fun v w x z g4 g5 g6 g7 g8=>(some (.agg [.int .i64 v,.int .i64 w,.str x,.sl .jnode (.may false) z,.sl .str (.may false) g4],[some [.sl .u8 (.may false) g5,.int .i64 g6],some [.int .i64 v,.int .i64 w,.str x,g7,g8]]):Ro)
 cond s (
 aE (aU a b 200) (fun t=>
 let x2:=(IntKind.wrap .i64 (t.1-50))
 p 3 x2 ([]:Bs) ([]:List aH) ([]:Bss) t.2.1 t.2.2 (.sl .jnode .own ([]:List aH)) (.sl .str .own ([]:Bss)))) (
 let x3:=decide (c=([115,116,114,105,110,103]:Bs))
 cond x3 (
 aE (aU a b 3) (fun q=>
 chk (ixl q.1 ([([]:Bs),([100]:Bs),([195,164]:Bs)]:Bss)) (
 let x4:=List.getD ([([]:Bs),([100]:Bs),([195,164]:Bs)]:Bss) (Int.toNat q.1) (aC .str)
 aE (bR x4) (fun d=>
 p d.1 d.2.1 d.2.2.1 d.2.2.2.1 d.2.2.2.2 q.2.1 q.2.2 (.sl .jnode (.may false) d.2.2.2.1) (.sl .str (.may false) d.2.2.2.2))))) (
 let x5:=decide (c=([98,121,116,101,115]:Bs))
 cond x5 (
 aE (aU a b 3) (fun r=>
 chk (ixl r.1 ([([]:Bs),([100]:Bs),([195,164]:Bs)]:Bss)) (
 let x6:=List.getD ([([]:Bs),([100]:Bs),([195,164]:Bs)]:Bss) (Int.toNat r.1) (aC .str)
 aE (bR x6) (fun e=>
 p e.1 e.2.1 e.2.2.1 e.2.2.2.1 e.2.2.2.2 r.2.1 r.2.2 (.sl .jnode (.may false) e.2.2.2.1) (.sl .str (.may false) e.2.2.2.2))))) (
 let x7:=decide (c=([98,111,111,108,101,97,110]:Bs))
 cond x7 (
 aE (aU a b 2) (fun u=>
 p 2 u.1 ([]:Bs) ([]:List aH) ([]:Bss) u.2.1 u.2.2 (.sl .jnode .own ([]:List aH)) (.sl .str .own ([]:Bss)))) (
 let x8:=decide (c=([110,117,108,108]:Bs))
 cond x8 (
 p 1 0 ([]:Bs) ([]:List aH) ([]:Bss) a b (.sl .jnode .own ([]:List aH)) (.sl .str .own ([]:Bss))) (
 y (f,g,h,i,j,a,b,k,l,m,n,o))))))
def lg(N:Nat)(x:ia):Ro:=jZ N (fun z=>ic N z) x
def pv(N:Nat):List (Nat×(St→Ro)):=(bP dr N jj (pq (run dr N))++(bP dr N nV (fin iB)++[]))
theorem aer(N:Nat):∀(x:ia),pu N (gw x)=lg N x:=by
 intro x
 have hX:∀C:Nat→St→Ro,cE C dr N jj (pq (cE C dr N)) (gw x)=jZ N (fun z=>C 1000001 (jY z)) x:=by
  intro C
  kernel_rfl
 have h:pu N (gw x)=jZ N (fun z=>pt N (jY z)) x:=(dh (C:=eJ (pv N)) (bU (aY (l:=(pv N)) (by kernel_rfl))) (de (eR (bU (dF (aY (l:=(pv N)) (by kernel_rfl)))) rfl)) _).trans ((hX _).trans (by kernel_rfl))
 have e1:(fun z=>pt N (jY z))=(fun z=>ic N z):=funext fun z=>aeq N z
 rw[h,e1]
 rfl
abbrev pw:Type:=(Int×Int×Bs×List aH×Bss×Bs×Int×Int×Int×Bs×List aH×Bss)
def oi:pw→St:=fun(c,d,e,f,g,h,i,j,k,l,a,b)=>{env:=(U 3 (.ea [.int .i64 c,.int .i64 d,.str e,.sl .jnode (.may false) f,.sl .str (.may false) g]::.ptr 1 0::(U 51 []))),hp:=[some [.sl .u8 (.may false) h,.int .i64 i],some [.int .i64 j,.int .i64 k,.str l,.sl .jnode .own a,.sl .str .own b]]}
def wJ(N:Nat):St→Ro:=fun s=>run dr N nU (fin iB) s
def lh(N:Nat):pw→Ro:=fun(b,c,d,e,f,g,h,_,_,_,_,_)=>
 let i:=fun l m n p q r s=>(some (.agg [.int .i64 l,.int .i64 m,.str n,.sl .jnode (.may false) p,.sl .str (.may false) q],[some [.sl .u8 (.may false) g,.int .i64 h],some [.int .i64 l,.int .i64 m,.str n,r,s]]):Ro)
 cond (b==5) (
 i 1 0 ([]:Bs) ([]:List aH) ([]:Bss) (.sl .jnode .own ([]:List aH)) (.sl .str .own ([]:Bss))) (
 aE (uP b c d e f ([116,121,112,101]:Bs)) (fun o=>
 let j:=decide (o.2.2.1=([97,114,114,97,121]:Bs))
 cond j (
 i 5 0 ([]:Bs) ([]:List aH) ([]:Bss) (.sl .jnode .own ([]:List aH)) (.sl .str .own ([]:Bss))) (
 let k:=decide (o.2.2.1=([101,110,117,109]:Bs))
 cond k (
 aE (bR ([88]:Bs)) (fun a=>
 i a.1 a.2.1 a.2.2.1 a.2.2.2.1 a.2.2.2.2 (.sl .jnode (.may false) a.2.2.2.1) (.sl .str (.may false) a.2.2.2.2))) (
 i 6 0 ([]:Bs) ([]:List aH) ([]:Bss) (.sl .jnode .own ([]:List aH)) (.sl .str .own ([]:Bss))))))
theorem aes(N:Nat):LJ (wJ N) oi (lh N):=fun _=>by kernel_rfl
def iC(N:Nat)(c:Bs)(d b e:Int)(a:Bs)(f:List aH)(g:Bss)(l:ia→Ro)(m:pw→Ro):Ro:=
 let h:=fun n=>l (b,e,a,f,g,a,n,c,d,0,0,([]:Bs),([]:List aH),([]:Bss))
 cond (b==4) (
 let o:=decide (a=([105,110,116]:Bs))
 cond o (
 h true) (
 let i:=decide (a=([108,111,110,103]:Bs))
 cond i (
 h true) (
 let j:=decide (a=([102,108,111,97,116]:Bs))
 cond j (
 h true) (
 let k:=decide (a=([100,111,117,98,108,101]:Bs))
 h k)))) (
 m (b,e,a,f,g,c,d,0,0,([]:Bs),([]:List aH),([]:Bss)))
def yl(N:Nat)(a:Bs)(b c d:Int)(e:Bs)(f:List aH)(g:Bss):Ro:=iC N a b c d e f g (fun z=>lg N z) (fun z=>lh N z)
theorem afQ(N:Nat)(a:Bs)(c d g:Int)(i:Bs)(j:List aH)(k:Bss)(h:Tot (yl N a c d g i j k) (fun z=>∃(l:Int)(m:Int)(n:Bs)(o:List aH)(p:Bss)(s:Bs)(t:Int)(rest:List aJ),z.1.dimR=.agg [.int .i64 l,.int .i64 m,.str n,.sl .jnode (.may false) o,.sl .str (.may false) p]∧z.2=some [.sl .u8 (.may false) s,.int .i64 t]::rest∧gq a c d g i j k (l,m,n,o,p,s,t))):∃r,iS a c d g i j k r:=FnC.finO (css:=[[.sl .u8 (.may false) a,.int .i64 c]]) aho (N:=N) ((bM _ (by kernel_rfl) rfl (fun C=>iC N a c d g i j k (fun z=>C 1000000 (gw z)) (fun z=>C 1000001 (oi z))) (fun C=>by kernel_rfl)).trans (Eq.trans (b:=iC N a c d g i j k (fun z=>pu N (gw z)) (fun z=>wJ N (oi z))) (by kernel_rfl) (congr (congrArg (iC N a c d g i j k) (funext fun z=>aer N z)) (funext fun z=>aes N z)))) h fun _ ⟨l,m,n,o,p,s,t,_,e,f,q⟩=>⟨(l,m,n,o,p,s,t),e,⟨_,f⟩,q⟩
noncomputable def anM:aN:=tab (P:=Tryz.prog) [] [akd] [] [awM,auC]
def amJ:IR:=Rs [Pp (.new 2 [nl .atype]),Mb 3 false] (Rs [Mv 10 0,Ca 11 13 [10],Ca 12 12 [11],Mv 9 12,Ex_ 13 0 9,Ex_ 14 1 9,Pp (.alr 4 1),Fz 4 1 13,Mv 5 14] (Sq (Rs [Mv 15 5,Bc 16 .neq 15 0] (Cn 16 (Rs [Ld 17 1 true 4,Sv 1 2 17,Mb 3 false] .ret) .skip)) (Rs [Ld 19 1 true 4,Ca 20 14 [19],Mv 18 20,Ex_ 21 0 18,Ex_ 22 1 18,Ex_ 23 2 18,Mv 6 21,Mv 7 22,Mv 8 23] (Rs [Ld 24 1 true 4,Mv 25 6,Bc 26 .eql 25 0,Sv 1 2 24,Mv 3 26] .ret))))
def amK:List RV:=[.cell 2 1 true,.t 3]
theorem amL:FnC Tryz.prog anM [13,2000013] 1 acn Tryz.f6 amJ amK:=fnC Tryz.func6
def abF(N:Nat)(b:Bs)(c:Int):Ro:=
 let e:=fun f g h i=>(some (.tup [.agg [.sl .atype (.may false) f],.bool g],[some [.sl .u8 (.may false) h,.int .i64 i],some [.sl .atype (.may false) f]]):Ro)
 aE (kj b c) (fun a=>
 aE (tY a.1 a.2.1 a.2.2.1 a.2.2.2.1 a.2.2.2.2.1) (fun d=>
 cond (!(d.2==0)) (
 e d.1 false a.2.2.2.2.2.1 a.2.2.2.2.2.2) (
 aE (rT d.1) (fun j=>
 e d.1 (j.1==0) a.2.2.2.2.2.1 a.2.2.2.2.2.2))))
def abG(N:Nat)(a:Bs)(b:Int):Ro:=abF N a b
theorem akF(N:Nat)(a:Bs)(b:Int)(h:Tot (abG N a b) (fun z=>∃(c:List aA)(d:Bool)(g:Bs)(i:Int)(rest:List aJ),z.1.dimR=.tup [.agg [.sl .atype (.may false) c],.bool d]∧z.2=some [.sl .u8 (.may false) g,.int .i64 i]::rest∧yK a b (c,d,g,i))):∃r,mJ a b r:=FnC.finO (css:=[[.sl .u8 (.may false) a,.int .i64 b]]) amL (N:=N) (by kernel_rfl) h fun _ ⟨c,d,g,i,_,e,f,q⟩=>⟨(c,d,g,i),e,⟨_,f⟩,q⟩
end Go.Proofs.YtdpajabhmmmjoaaGreat
end
noncomputable section
namespace Go.Proofs.YtdpajabhmmmjoaaGreat
open Go.AM
set_option autoImplicit false
set_option linter.unusedVariables false
set_option maxRecDepth 100000
noncomputable def aaR:aN:=tab (P:=Tryz.prog) [] [] [] []
def acP:IR:=Sq (Rs [Mv 7 3,Bc 8 .geq 7 0] (Cn 8 .skip (.exit 0))) (Sq (.block 1 (Rs [Mv 11 0,Mv 12 3,Pp (.idx 13 11 12),Pp (.bin 14 .eql 13 (.c (.int .u8 46)))] (Cn 14 (Rs [Mv 15 0,Mv 16 3,Pp (.subs 17 15 none (some 16)),Mv 2 17] .ret) .skip))) (Rg [Mv 9 3,Bc 10 .sub 9 1,Mv 3 10]))
def acQ:IR:=Rs [Ms 2 []] .ret
def arC:IR:=Rs [Ms 2 []] (Sq (Rs [Mv 4 0,Pp (.lens 5 4),Bc 6 .sub 5 1,Mv 3 6] (.block 0 (.loop [0,3,1000000] 0 acP))) acQ)
def aff:List RV:=[.t 2]
theorem arD:FnC Tryz.prog aaR [] 0 agm Tryz.f84 arC aff:=fnC Tryz.func84
def apL(R:IR→(Ex→St→Ro)→St→Ro)(a:St→Ro):Ex→St→Ro:=(bF a [0,3,1000000] 0 (aQ 0 (bv (R acQ) (fin aff))))
abbrev rI:Type:=(Bs×Int)
def pS:rI→St:=fun(a,b)=>{env:=(.str a::.undef::.undef::.int .i64 b::(U 14 [])),hp:=[]}
def xP(N:Nat):(St→Ro)→St→Ro:=fun a s=>run aaR N acP (apL (run aaR N) a) s
def rJ(N:Nat)(a:rI→Ro):rI→Ro:=fun(c,b)=>
 cond (decide (0≤b)) (
 chk (ixl b c) (
 let d:=(↑(UInt8.toNat (List.getD c (Int.toNat b) 0)):Int)
 cond (d==46) (
 chk (decide (0≤b)&&decide (b≤(↑(List.length c):Int))) (
 let e:=(List.drop 0 (List.take (Int.toNat b) c))
 some (.str e,[]))) (
 let f:=(IntKind.wrap .i64 (b-1))
 a (c,f)))) (
 some (.str ([]:Bs),[]))
theorem anN(N:Nat):LB (xP N) pS (rJ N):=fun _ _=>by kernel_rfl
def oX(N:Nat)(a:Bs)(b:rI→Ro):Ro:=
 let c:=(↑(List.length a):Int)
 let d:=(IntKind.wrap .i64 (c-1))
 b (a,d)
def afg(N:Nat)(a:Bs):Ro:=oX N a (fun z=>aS N (rJ N) z)
theorem apM(N:Nat)(a:Bs)(h:Tot (afg N a) (fun z=>∃(c:Bs)(rest:List aJ),z.1.dimR=.str c∧z.2=rest∧mI a (c))):∃r,pX a r:=arD.finP (N:=N) ((bM _ (by kernel_rfl) rfl (fun C=>oX N a (fun z=>C 1000000 (pS z))) (fun C=>by kernel_rfl)).trans (Eq.trans (b:=oX N a (fun z=>bo N (xP N) (pS z))) (by kernel_rfl) (congrArg (oX N a) (funext fun z=>bk (pS) (xP N) (rJ N) (anN N) N z)))) h fun _ ⟨c,_,e,_,q⟩=>⟨(c),e,q⟩
noncomputable def azg:aN:=tab (P:=Tryz.prog) [] [] [] [awV]
def ax5:IR:=Rs [Bx 2 0,Ms 4 []] (Sq (Rs [Mv 5 1,Bc 6 .lss 5 0,Mv 7 6,Gf 7 (.mov 8 1),Gf 7 (.fad 9 0 2),Gf 7 (.lde 10 1 false 9),Gf 7 (.lenl 11 10),Gf 7 (.bin 12 .geq 8 11),Po 13 7 12] (Cn 13 (Rs [Ms 4 []] .ret) .skip)) (Sq (Rs [Fa 14 0 2,Lq 15 14,Mv 16 1,Ix 17 .atype 15 16,Fa 18 1 17,Lo 19 18,Pp (.bin 20 .neq 19 (kS []))] (Cn 20 (Rs [Fa 21 0 2,Lq 22 21,Mv 23 1,Ix 24 .atype 22 23,Fa 25 1 24,Lo 26 25,Mv 4 26] .ret) .skip)) (Rs [Fa 27 0 2,Lq 28 27,Mv 29 1,Ix 30 .atype 28 29,Fa 31 0 30,Lo 32 31,Ca 33 99 [32],Mv 4 33] .ret)))
def ax6:List RV:=[.t 4]
theorem ax7:FnC Tryz.prog azg [] 0 an0 Tryz.f81 ax5 ax6:=fnC Tryz.func81
def amM(N:Nat)(a:List aA)(b:Int):Ro:=
 cond (decide (b<0)) (
 some (.str ([]:Bs),[])) (
 let c:=(↑(List.length a):Int)
 cond (decide (c≤b)) (
 some (.str ([]:Bs),[])) (
 chk (ixl b a) (
 let d:=(List.getD a (Int.toNat b) (aC .atype))
 let e:=(!decide (d.name=([]:Bs)))
 cond e (
 chk (ixl b a) (
 let f:=(List.getD a (Int.toNat b) (aC .atype))
 some (.str f.name,[]))) (
 chk (ixl b a) (
 let g:=(List.getD a (Int.toNat b) (aC .atype))
 aE (t9 g.kind) (fun(h:Bs)=>
 some (.str h,[])))))))
def amN(N:Nat)(a:List aA)(b:Int):Ro:=amM N a b
theorem awc(N:Nat)(a:List aA)(c:Int)(h:Tot (amN N a c) (fun z=>∃(b:Bs)(rest:List aJ),z.1.dimR=.str b∧z.2=rest)):∃r,sE a c r:=ax7.finP0 (N:=N) (by kernel_rfl) h fun _ ⟨b,_,e,_⟩=>⟨(b),e⟩
noncomputable def sR:aN:=tab (P:=Tryz.prog) [] [dO] [] [ayJ,awX]
def wK:IR:=Sq (Rs [Mv 12 8,Mv 13 1,Pp (.lens 14 13),Bi 15 .lss 12 14] (Cn 15 .skip (.exit 0))) (Sq (.block 1 (Rs [Mv 18 1,Mv 19 8,Pp (.idx 20 18 19),Pp (.bin 21 .eql 20 (.c (.int .u8 46)))] (Cn 21 (Rg [Mv 22 1,Mv 7 22]) .skip))) (Rg [Mv 16 8,Bc 17 .add 16 1,Mv 8 17]))
def wM:IR:=Sq (Rs [Mv 23 1,Pp (.bin 24 .eql 23 (kS [])),Mv 25 24,Gf 25 (.mov 26 7),Gf 25 (.call 27 101 [26]),Gf 25 (.un 28 .not 27),Po 29 25 28] (Cn 29 (Rg [Mv 30 0,Ca 31 54 [30,kI 6]]) .skip)) (Rs [Mv 32 7,Mv 6 32] .ret)
def aiK:IR:=Rs [Ms 6 []] (Rs [Mv 9 2,Mv 10 1,Ca 11 100 [9,10],Mv 7 11] (Sq (Rs [Mi 8 0] (.block 0 (.loop [0,1,7,8,1000000] 1 wK))) wM))
def zK:List RV:=[.t 6]
theorem aiL:FnC Tryz.prog sR [54,2000054] 1 zZ Tryz.f83 aiK zK:=fnC Tryz.func83
def ahp(R:IR→(Ex→St→Ro)→St→Ro)(a:St→Ro):Ex→St→Ro:=(bF a [0,1,7,8,1000000] 1 (aQ 0 (bv (R wM) (fin zK))))
abbrev mb:Type:=(Bs×Bs×Int×List aA×Int)
def li:mb→St:=fun(a,b,c,d,e)=>{env:=(.ptr 0 0::.str a::(U 5 (.str b::.int .i64 c::(U 24 [])))),hp:=[some [.ul .atype d,.int .i64 e]]}
def qG(N:Nat):(St→Ro)→St→Ro:=fun a s=>run sR N wK (ahp (run sR N) a) s
def mc(N:Nat)(c:mb→Ro):mb→Ro:=fun(d,f,e,a,b)=>
 let j:=(↑(List.length d):Int)
 let g:=fun k l=>(some (.str f,[some [.ul .atype k,.int .i64 l]]):Ro)
 cond (decide (e<j)) (
 chk (ixl e d) (
 let m:=(↑(UInt8.toNat (List.getD d (Int.toNat e) 0)):Int)
 cond (m==46) (
 let n:=(IntKind.wrap .i64 (e+1))
 c (d,d,n,a,b)) (
 let o:=(IntKind.wrap .i64 (e+1))
 c (d,f,o,a,b)))) (
 let p:=decide (d=([]:Bs))
 cond p (
 aE (aK a b 6) (fun h=>
 g h.2.1 h.2.2)) (
 aE (ua f) (fun(q:Bool)=>
 cond (!q) (
 aE (aK a b 6) (fun i=>
 g i.2.1 i.2.2)) (
 g a b))))
theorem afR(N:Nat):LB (qG N) li (mc N):=fun _ _=>by kernel_rfl
def jk(N:Nat)(a:List aA)(b:Int)(c d:Bs)(e:mb→Ro):Ro:=
 aE (wt d c) (fun(f:Bs)=>
 e (c,f,0,a,b))
def zL(N:Nat)(a:List aA)(b:Int)(c d:Bs):Ro:=jk N a b c d (fun z=>aS N (mc N) z)
theorem ahq(N:Nat)(a:List aA)(c:Int)(d g:Bs)(h:Tot (zL N a c d g) (fun z=>∃(i:Bs)(j:List aA)(k:Int)(rest:List aJ),z.1.dimR=.str i∧z.2=some [.ul .atype j,.int .i64 k]::rest∧wq a c d g (i,j,k))):∃r,gL a c d g r:=FnC.finO (css:=[[.ul .atype a,.int .i64 c]]) aiL (N:=N) ((bM _ (by kernel_rfl) rfl (fun C=>jk N a c d g (fun z=>C 1000000 (li z))) (fun C=>by kernel_rfl)).trans (Eq.trans (b:=jk N a c d g (fun z=>bo N (qG N) (li z))) (by kernel_rfl) (congrArg (jk N a c d g) (funext fun z=>bk (li) (qG N) (mc N) (afR N) N z)))) h fun _ ⟨i,j,k,_,e,f,q⟩=>⟨(i,j,k),e,⟨_,f⟩,q⟩
noncomputable def amO:aN:=tab (P:=Tryz.prog) [] [dO] [] [qY]
def akG:IR:=Rs [Bx 5 1,Ms 8 []] (Rs [Ld 12 5 true 5,Mv 13 2,Ca 14 57 [12,13],Mv 11 14,Ex_ 15 0 11,Ex_ 16 1 11,Pp (.alr 9 5),Fz 9 5 15,Mv 10 16] (Sq (Rs [Mv 17 10,Un 18 17,Mv 19 18,Gt 19 (.mov 20 3),Gt 19 (.un 21 .not 20),Pa 22 19 21] (Cn 22 (Rs [Ms 8 []] .ret) .skip)) (Sq (Rs [Mv 23 10,Un 24 23,Mv 25 24,Gf 25 (.fad 26 0 9),Gf 25 (.lde 27 1 false 26),Gf 25 (.bin 28 .neq 27 (kI 4)),Po 29 25 28] (Cn 29 (Rs [Mv 30 0,Ca 31 54 [30,kI 2]] (Rs [Ms 8 []] .ret)) .skip)) (Rs [Fa 32 2 9,Lq 33 32,Mv 8 33] .ret))))
def akH:List RV:=[.t 8]
theorem akI:FnC Tryz.prog amO [54,2000054] 1 abg Tryz.f82 akG akH:=fnC Tryz.func82
def aai(N:Nat)(a:List aA)(b d e:Int)(f:Bs)(g:List aH)(h:Bss)(p:Bs)(q:Bool):Ro:=
 let i:=fun j r=>(some (.str ([]:Bs),[some [.ul .atype j,.int .i64 r]]):Ro)
 let k:=fun j=>(some (.str j,[some [.ul .atype a,.int .i64 b]]):Ro)
 aE (eb d e f g h p) (fun c=>
 cond (!c.2.2.2.2.2) (
 cond (!q) (
 i a b) (
 cond (!c.2.2.2.2.2) (
 aE (aK a b 2) (fun l=>
 i l.2.1 l.2.2)) (
 cond (!(c.1==4)) (
 aE (aK a b 2) (fun m=>
 i m.2.1 m.2.2)) (
 k c.2.2.1)))) (
 cond (!c.2.2.2.2.2) (
 aE (aK a b 2) (fun n=>
 i n.2.1 n.2.2)) (
 cond (!(c.1==4)) (
 aE (aK a b 2) (fun o=>
 i o.2.1 o.2.2)) (
 k c.2.2.1))))
def aaj(N:Nat)(a:List aA)(b c d:Int)(e:Bs)(f:List aH)(g:Bss)(h:Bs)(i:Bool):Ro:=aai N a b c d e f g h i
theorem aiM(N:Nat)(a:List aA)(b c d:Int)(g:Bs)(i:List aH)(j:Bss)(n:Bs)(o:Bool)(h:Tot (aaj N a b c d g i j n o) (fun z=>∃(k:Bs)(l:List aA)(m:Int)(rest:List aJ),z.1.dimR=.str k∧z.2=some [.ul .atype l,.int .i64 m]::rest∧xW a b c d g i j n o (k,l,m))):∃r,eW a b c d g i j n o r:=FnC.finO (css:=[[.ul .atype a,.int .i64 b]]) akI (N:=N) (by kernel_rfl) h fun _ ⟨k,l,m,_,e,f,q⟩=>⟨(k,l,m),e,⟨_,f⟩,q⟩
noncomputable def sS:aN:=tab (P:=Tryz.prog) [] [dO] [] [qY]
def wN:IR:=Sq (Rs [Mv 25 11,Fa 26 3 8,Lq 27 26,Ll 28 27,Bi 29 .lss 25 28,Mv 30 29,Gt 30 (.mov 31 0),Gt 30 (.nck 32 31),Gt 30 (.fad 33 1 32),Gt 30 (.ld 34 1 false false 33),Gt 30 (.bin 35 .eql 34 (kI 0)),Pa 36 30 35] (Cn 36 .skip (.exit 0))) (Sq (.block 1 (Sq (Rs [Fa 39 3 8,Lq 40 39,Mv 41 11,Ix 42 .jnode 40 41,Fa 43 0 42,Lo 44 43,Bc 45 .neq 44 4] (Cn 45 (Rg [Mv 46 0,Ca 47 54 [46,kI 2]]) .skip)) (Rg [Pp (.mov 48 (.tk 10)),Fa 49 3 8,Lq 50 49,Mv 51 11,Ix 52 .jnode 50 51,Fa 53 2 52,Lo 54 53,Pp (.bsl 55 .str [54] true),Pp (.app 56 .str (.tk 48) 55),Pp (.mov 10 (.tk 56))]))) (Rg [Mv 37 11,Bc 38 .add 37 1,Mv 11 38]))
def vL:IR:=Rs [Mv 57 10,Mv 6 57,Mb 7 true] .ret
def aiN:IR:=Rs [Bx 4 1,Pp (.mov 6 (.c (nl .str))),Mb 7 false] (Rs [Ld 13 5 true 4,Mv 14 2,Ca 15 57 [13,14],Mv 12 15,Ex_ 16 0 12,Ex_ 17 1 12,Pp (.alr 8 5),Fz 8 5 16,Mv 9 17] (Sq (Rs [Mv 18 9,Un 19 18] (Cn 19 (Rs [Pp (.mov 6 (.c (nl .str))),Mb 7 false] .ret) .skip)) (Sq (Rs [Fa 20 0 8,Lq 21 20,Bc 22 .neq 21 5] (Cn 22 (Rg [Mv 23 0,Ca 24 54 [23,kI 2]]) .skip)) (Rs [Pp (.mov 10 (.c (nl .str)))] (Sq (Rs [Mi 11 0] (.block 0 (.loop [0,8,10,11,1000000] 1 wN))) vL)))))
def zM:List RV:=[.t 6,.t 7]
theorem aiO:FnC Tryz.prog sS [54,2000054] 1 zX Tryz.f85 aiN zM:=fnC Tryz.func85
def ahr(R:IR→(Ex→St→Ro)→St→Ro)(a:St→Ro):Ex→St→Ro:=(bF a [0,8,10,11,1000000] 1 (aQ 0 (bv (R vL) (fin zM))))
abbrev md:Type:=(Int×Int×Bs×List aH×Bss×Bss×Int×List aA×Int)
def lj:md→St:=fun(a,b,c,d,e,f,g,h,i)=>{env:=(.ptr 0 0::(U 7 (.ea [.int .i64 a,.int .i64 b,.str c,.sl .jnode (.may false) d,.sl .str (.may false) e]::.undef::.sl .str .own f::.int .i64 g::(U 46 [])))),hp:=[some [.ul .atype h,.int .i64 i]]}
def qH(N:Nat):(St→Ro)→St→Ro:=fun a s=>run sS N wN (ahr (run sS N) a) s
def iD(N:Nat)(c:md→Ro):md→Ro:=fun(g,h,i,a,j,e,b,f,d)=>
 let o:=(↑(List.length a):Int)
 let k:=(some (.tup [.sl .str (.may false) e,.bool true],[some [.ul .atype f,.int .i64 d]]):Ro)
 cond (decide (b<o)) (
 cond (d==0) (
 chk (ixl b a) (
 let p:=(List.getD a (Int.toNat b) (aC .jnode))
 cond (!(p.kind==4)) (
 aE (aK f d 2) (fun l=>
 chk (ixl b a) (
 let m:=(List.getD a (Int.toNat b) (aC .jnode))
 chk (decide ((List.length e+List.length ([m.s]:Bss))*16≤140737488355328)) (
 let q:=(e++([m.s]:Bss))
 let r:=(IntKind.wrap .i64 (b+1))
 c (g,h,i,a,j,q,r,l.2.1,l.2.2))))) (
 chk (ixl b a) (
 let n:=(List.getD a (Int.toNat b) (aC .jnode))
 chk (decide ((List.length e+List.length ([n.s]:Bss))*16≤140737488355328)) (
 let t:=(e++([n.s]:Bss))
 let u:=(IntKind.wrap .i64 (b+1))
 c (g,h,i,a,j,t,u,f,d)))))) (
 k)) (
 k)
theorem afS(N:Nat):LB (qH N) lj (iD N):=fun _ _=>by kernel_rfl
def jm(N:Nat)(b:List aA)(c d e:Int)(f:Bs)(g:List aH)(h:Bss)(k:Bs)(i:md→Ro):Ro:=
 aE (eb d e f g h k) (fun a=>
 cond (!a.2.2.2.2.2) (
 some (.tup [.sl .str (.may false) ([]:Bss),.bool false],[some [.ul .atype b,.int .i64 c]])) (
 cond (!(a.1==5)) (
 aE (aK b c 2) (fun j=>
 i (a.1,a.2.1,a.2.2.1,a.2.2.2.1,a.2.2.2.2.1,([]:Bss),0,j.2.1,j.2.2))) (
 i (a.1,a.2.1,a.2.2.1,a.2.2.2.1,a.2.2.2.2.1,([]:Bss),0,b,c))))
def zN(N:Nat)(a:List aA)(b c d:Int)(e:Bs)(f:List aH)(g:Bss)(h:Bs):Ro:=jm N a b c d e f g h (fun z=>aS N (iD N) z)
theorem ahs(N:Nat)(a:List aA)(c d g:Int)(i:Bs)(j:List aH)(k:Bss)(l:Bs)(h:Tot (zN N a c d g i j k l) (fun z=>∃(m:Bss)(n:Bool)(o:List aA)(p:Int)(rest:List aJ),z.1.dimR=.tup [.sl .str (.may false) m,.bool n]∧z.2=some [.ul .atype o,.int .i64 p]::rest∧pa a c d g i j k l (m,n,o,p))):∃r,ee a c d g i j k l r:=FnC.finO (css:=[[.ul .atype a,.int .i64 c]]) aiO (N:=N) ((bM _ (by kernel_rfl) rfl (fun C=>jm N a c d g i j k l (fun z=>C 1000000 (lj z))) (fun C=>by kernel_rfl)).trans (Eq.trans (b:=jm N a c d g i j k l (fun z=>bo N (qH N) (lj z))) (by kernel_rfl) (congrArg (jm N a c d g i j k l) (funext fun z=>bk (lj) (qH N) (iD N) (afS N) N z)))) h fun _ ⟨m,n,o,p,_,e,f,q⟩=>⟨(m,n,o,p),e,⟨_,f⟩,q⟩
noncomputable def cK:aN:=tab (P:=Tryz.prog) [] [dO,tZ,sG] [] [qY,afn]
def uB:IR:=Sq (Rs [Mv 56 9,Mv 57 8,Bi 58 .lss 56 57] (Cn 58 .skip (.exit 2))) (Sq (.block 3 (Sq (.reg [Mv 61 6,Mv 62 9,Ix 63 .str 61 62,Lq 64 63,Mv 65 6,Mv 66 8,Ix 67 .str 65 66,Lq 68 67,Bi 69 .eql 64 68] [[],[],[0,1],[0,1,2],[],[],[4,5],[4,5,6],rg 0 7]) (Cn 69 (Rg [Mv 70 0,Ca 71 54 [70,kI 5]]) .skip))) (Rg [Mv 59 9,Bc 60 .add 59 1,Mv 9 60]))
def tJ:IR:=Rg [Mv 46 8,Bc 47 .add 46 1,Mv 8 47]
def iL:IR:=Sq (Rs [Mv 35 8,Mv 36 6,Ll 37 36,Bi 38 .lss 35 37,Mv 39 38,Gt 39 (.mov 40 0),Gt 39 (.nck 41 40),Gt 39 (.fad 42 1 41),Gt 39 (.ld 43 1 false false 42),Gt 39 (.bin 44 .eql 43 (kI 0)),Pa 45 39 44] (Cn 45 .skip (.exit 0))) (Sq (.block 1 (Sq (Rs [Mv 48 6,Mv 49 8,Ix 50 .str 48 49,Lq 51 50,Ca 52 102 [51],Un 53 52] (Cn 53 (Rg [Mv 54 0,Ca 55 54 [54,kI 6]]) .skip)) (Rs [Mi 9 0] (.block 2 (.loop [0,2,4,6,8,9,1000000] 1 uB))))) tJ)
def tK:IR:=Sq (Rs [Mv 80 14,Mv 81 6,Ll 82 81,Bi 83 .lss 80 82] (Cn 83 .skip (.exit 4))) (Sq (.block 5 (Rg [Mv 86 13,Mv 87 86,Gf 87 (.mov 88 6),Gf 87 (.mov 89 14),Gf 87 (.ixa 90 .str 88 89),Gf 87 (.lde 91 1 false 90),Gf 87 (.mov 92 12),Gf 87 (.bin 93 .eql 91 92),Po 94 87 93,Mv 13 94])) (Rg [Mv 84 14,Bc 85 .add 84 1,Mv 14 85]))
def tL:IR:=Sq (Rs [Mv 95 11,Mv 96 95,Gt 96 (.mov 97 13),Gt 96 (.un 98 .not 97),Pa 99 96 98] (Cn 99 (Rg [Mv 100 0,Ca 101 54 [100,kI 6]]) .skip)) (Rs [Mv 102 0,Nk 103 102,Fa 104 1 103,Lo 105 104,Bc 106 .eql 105 0] (Cn 106 (.gh (.opn (.cell 0 0)) (.ghp (.cls (.cell 0 0)) (.reg [Mv 107 0,Nk 108 107,Fa 109 0 108,Fa 110 0 109,Fo [0] [] (.ld 111 1 false false 110),Mv 112 2,Mv 113 0,Nk 114 113,Fa 115 0 114,Fa 116 0 115,Fo [0] [] (.ld 117 1 false false 116),Mv 118 2,Mv 119 0,Nk 120 119,Fa 121 0 120,Fa 122 0 121,Fo [0] [] (.ld 123 1 false false 122),Mv 124 2,Mv 125 6,Mv 126 11,Mv 127 12,Pp (.ixw 128 .atype 111 112),Pp (.fdw 129 4 128),Fo [] [1] (.stw none 1 129 125),Pp (.ixw 130 .atype 117 118),Pp (.fdw 131 5 130),Fo [] [1] (.stw none 1 131 126),Pp (.ixw 132 .atype 123 124),Pp (.fdw 133 6 132),Fo [] [1] (.stw none 1 133 127)] [[],[0],[0,1],[0,1,2],rg 0 3,[],[],[6],[6,7],[6,7,8],rg 6 9,[],[],[12],[12,13],[12,13,14],rg 12 15,[],[],[],[],rg 0 10++rg 12 16++[18],rg 0 10++rg 12 16++[18]++[21],rg 0 10++rg 12 16++[18]++[21,22],rg 0 16++[18,19]++[21,22,23],rg 0 16++[18,19]++rg 21 24,rg 0 16++[18,19]++rg 21 25,rg 0 26,rg 0 27,rg 0 28]))) .skip))
def nj:IR:=Rs [Ld 73 5 true 4,Ca 74 57 [73,kS [100,101,102,97,117,108,116]],Mv 72 74,Ex_ 75 0 72,Ex_ 76 1 72,Pp (.alr 10 5),Fz 10 5 75,Mv 11 76] (Rs [Mv 77 0,Ld 78 5 true 4,Ca 79 82 [77,78,kS [100,101,102,97,117,108,116],kB false],Mv 12 79] (Rs [Mb 13 false] (Sq (Rs [Mi 14 0] (.block 4 (.loop [0,2,6,11,12,13,14,1000002] 1 tK))) tL)))
def afT:IR:=Rs [Bx 4 1] (Rs [Mv 16 0,Ld 17 5 true 4,Ca 18 85 [16,17,kS [115,121,109,98,111,108,115]],Mv 15 18,Ex_ 19 0 15,Ex_ 20 1 15,Mv 6 19,Mv 7 20] (Sq (Rs [Mv 21 7,Un 22 21] (Cn 22 (Rg [Mv 23 0,Ca 24 54 [23,kI 2]]) .skip)) (Sq (Rs [Mv 25 6,Ll 26 25,Bc 27 .eql 26 0] (Cn 27 (Rg [Mv 28 0,Ca 29 54 [28,kI 6]]) .skip)) (Sq (Rs [Mv 30 6,Ll 31 30,Bc 32 .gtr 31 30] (Cn 32 (Rg [Mv 33 0,Ca 34 54 [33,kI 3]]) .skip)) (Sq (Rs [Mi 8 0] (.block 0 (.loop [0,2,4,6,8,1000001] 1 iL))) nj)))))
def lk:List RV:=[]
theorem afU:FnC Tryz.prog cK [54,82,85,2000054,2000082,2000085] 1 xX Tryz.f87 afT lk:=fnC Tryz.func87
def j0(R:IR→(Ex→St→Ro)→St→Ro)(a:St→Ro):Ex→St→Ro:=(bF a [0,2,4,6,8,1000001] 1 (aQ 0 (bv (R nj) (fin lk))))
abbrev dE:Type:=(Int×Int×Int×Bs×List aH×Bss×Bss×Int×List aA×Int)
def bQ:dE→St:=fun(a,b,c,d,e,f,g,h,i,j)=>{env:=(.ptr 0 0::.undef::.int .i64 a::.undef::.ea [.int .i64 b,.int .i64 c,.str d,.sl .jnode (.may false) e,.sl .str (.may false) f]::.undef::.sl .str (.may false) g::.undef::.int .i64 h::(U 125 [])),hp:=[some [.ul .atype i,.int .i64 j]]}
def aet(R:IR→(Ex→St→Ro)→St→Ro)(a b:St→Ro):Ex→St→Ro:=(bF b [0,2,4,6,8,9,1000000] 1 (aQ 2 (aQ 1 (bv (R tJ) (j0 R a)))))
abbrev j6:Type:=(Int×Int×Int×Bs×List aH×Bss×Bss×Int×Int×List aA×Int)
def ga:j6→St:=fun(b,c,d,e,f,g,h,i,j,k,a)=>{env:=(.ptr 0 0::.undef::.int .i64 b::.undef::.ea [.int .i64 c,.int .i64 d,.str e,.sl .jnode (.may false) f,.sl .str (.may false) g]::.undef::.sl .str (.may false) h::.undef::.int .i64 i::.int .i64 j::(U 124 [])),hp:=[some [.ul .atype k,.int .i64 a]]}
def j7(N:Nat)(a:St→Ro):(St→Ro)→St→Ro:=fun b s=>run cK N uB (aet (run cK N) a b) s
def fb(N:Nat)(i:dE→Ro)(a:j6→Ro):j6→Ro:=fun(m,b,c,d,e,f,j,k,l,g,h)=>
 cond (decide (l<k)) (
 chk (ixl l j) (
 let o:=List.getD j (Int.toNat l) (aC .str)
 chk (ixl k j) (
 let p:=List.getD j (Int.toNat k) (aC .str)
 cond (decide (o=p)) (
 aE (aK g h 5) (fun n=>
 let q:=(IntKind.wrap .i64 (l+1))
 a (m,b,c,d,e,f,j,k,q,n.2.1,n.2.2))) (
 let r:=(IntKind.wrap .i64 (l+1))
 a (m,b,c,d,e,f,j,k,r,g,h))))) (
 let s:=(IntKind.wrap .i64 (k+1))
 i (m,b,c,d,e,f,j,s,g,h))
theorem ad8(N:Nat)(a:St→Ro):LB (j7 N a) ga (fb N (fun y=>a (bQ y))):=fun _ _=>by kernel_rfl
def aeu(R:IR→(Ex→St→Ro)→St→Ro)(a:St→Ro):Ex→St→Ro:=(bF a [0,2,6,11,12,13,14,1000002] 1 (aQ 4 (bv (R tL) (fin lk))))
abbrev j8:Type:=(Int×Bss×Bool×Bs×Bool×Int×List aA×Int)
def gb:j8→St:=fun(a,b,c,d,e,f,g,h)=>{env:=(.ptr 0 0::.undef::.int .i64 a::(U 3 (.sl .str (.may false) b::(U 4 (.bool c::.str d::.bool e::.int .i64 f::(U 119 [])))))),hp:=[some [.ul .atype g,.int .i64 h]]}
def j9(N:Nat):(St→Ro)→St→Ro:=fun a s=>run cK N tK (aeu (run cK N) a) s
def fc(N:Nat)(f:j8→Ro):j8→Ro:=fun(c,j,g,h,q,i,b,d)=>
 let u:=(↑(List.length j):Int)
 let v:=fun w x=>(some (.tup [],[some [.ul .atype w,.int .i64 x],none,none]):Ro)
 let y:=fun w x=>(some (.tup [],[some [.ul .atype w,.int .i64 x]]):Ro)
 cond (decide (i<u)) (
 cond q (
 let z:=(IntKind.wrap .i64 (i+1))
 f (c,j,g,h,true,z,b,d)) (
 chk (ixl i j) (
 let aa:=List.getD j (Int.toNat i) (aC .str)
 let ab:=(IntKind.wrap .i64 (i+1))
 f (c,j,g,h,decide (aa=h),ab,b,d)))) (
 cond g (
 cond (!q) (
 aE (aK b d 6) (fun e=>
 cond (e.2.2==0) (
 chk (decide (0<List.length e.2.1)) (
 chk (decide (0≤c)&&decide (c<↑(List.length e.2.1))) (
 chk (decide ((Int.toNat c)<List.length e.2.1)) (
 let k:=(List.set e.2.1 (Int.toNat c) (let a:=List.getD e.2.1 (Int.toNat c) (aC .atype);⟨a.kind,a.name,a.aliases,a.items,j,a.hasdef,a.df,a.size,a.fields,a.branches⟩))
 chk (decide (0≤c)&&decide (c<↑(List.length e.2.1))) (
 chk (decide ((Int.toNat c)<List.length k)) (
 let l:=(List.set k (Int.toNat c) (let a:=List.getD k (Int.toNat c) (aC .atype);⟨a.kind,a.name,a.aliases,a.items,a.syms,g,a.df,a.size,a.fields,a.branches⟩))
 chk (decide (0≤c)&&decide (c<↑(List.length e.2.1))) (
 chk (decide ((Int.toNat c)<List.length l)) (
 let r:=(List.set l (Int.toNat c) (let a:=List.getD l (Int.toNat c) (aC .atype);⟨a.kind,a.name,a.aliases,a.items,a.syms,a.hasdef,h,a.size,a.fields,a.branches⟩))
 chk (Nat.beq (List.length e.2.1) (List.length r)) (
 v r e.2.2))))))))) (
 y e.2.1 e.2.2))) (
 cond (d==0) (
 chk (decide (0<List.length b)) (
 chk (decide (0≤c)&&decide (c<↑(List.length b))) (
 chk (decide ((Int.toNat c)<List.length b)) (
 let m:=(List.set b (Int.toNat c) (let a:=List.getD b (Int.toNat c) (aC .atype);⟨a.kind,a.name,a.aliases,a.items,j,a.hasdef,a.df,a.size,a.fields,a.branches⟩))
 chk (decide (0≤c)&&decide (c<↑(List.length b))) (
 chk (decide ((Int.toNat c)<List.length m)) (
 let n:=(List.set m (Int.toNat c) (let a:=List.getD m (Int.toNat c) (aC .atype);⟨a.kind,a.name,a.aliases,a.items,a.syms,g,a.df,a.size,a.fields,a.branches⟩))
 chk (decide (0≤c)&&decide (c<↑(List.length b))) (
 chk (decide ((Int.toNat c)<List.length n)) (
 let s:=(List.set n (Int.toNat c) (let a:=List.getD n (Int.toNat c) (aC .atype);⟨a.kind,a.name,a.aliases,a.items,a.syms,a.hasdef,h,a.size,a.fields,a.branches⟩))
 chk (Nat.beq (List.length b) (List.length s)) (
 v s d))))))))) (
 y b d))) (
 cond (d==0) (
 chk (decide (0<List.length b)) (
 chk (decide (0≤c)&&decide (c<↑(List.length b))) (
 chk (decide ((Int.toNat c)<List.length b)) (
 let o:=(List.set b (Int.toNat c) (let a:=List.getD b (Int.toNat c) (aC .atype);⟨a.kind,a.name,a.aliases,a.items,j,a.hasdef,a.df,a.size,a.fields,a.branches⟩))
 chk (decide (0≤c)&&decide (c<↑(List.length b))) (
 chk (decide ((Int.toNat c)<List.length o)) (
 let p:=(List.set o (Int.toNat c) (let a:=List.getD o (Int.toNat c) (aC .atype);⟨a.kind,a.name,a.aliases,a.items,a.syms,g,a.df,a.size,a.fields,a.branches⟩))
 chk (decide (0≤c)&&decide (c<↑(List.length b))) (
 chk (decide ((Int.toNat c)<List.length p)) (
 let t:=(List.set p (Int.toNat c) (let a:=List.getD p (Int.toNat c) (aC .atype);⟨a.kind,a.name,a.aliases,a.items,a.syms,a.hasdef,h,a.size,a.fields,a.branches⟩))
 chk (Nat.beq (List.length b) (List.length t)) (
 v t d))))))))) (
 y b d)))
theorem ad9(N:Nat):LB (j9 N) gb (fc N):=fun _ _=>by kernel_rfl
def ka(N:Nat):(St→Ro)→St→Ro:=fun a s=>run cK N iL (j0 (run cK N) a) s
def jn(N:Nat)(k:dE→Ro)(o:j6→Ro)(p:j8→Ro):dE→Ro:=fun(l,a,b,c,d,e,h,j,g,f)=>
 let r:=(↑(List.length h):Int)
 cond (decide (j<r)) (
 cond (f==0) (
 chk (ixl j h) (
 let s:=List.getD h (Int.toNat j) (aC .str)
 aE (kM s) (fun(t:Bool)=>
 cond (!t) (
 aE (aK g f 6) (fun q=>
 o (l,a,b,c,d,e,h,j,0,q.2.1,q.2.2))) (
 o (l,a,b,c,d,e,h,j,0,g,f))))) (
 aE (eb a b c d e ([100,101,102,97,117,108,116]:Bs)) (fun u=>
 aE (eW g f a b c d e ([100,101,102,97,117,108,116]:Bs) false) (fun m=>
 p (l,h,u.2.2.2.2.2,m.1,false,0,m.2.1,m.2.2))))) (
 aE (eb a b c d e ([100,101,102,97,117,108,116]:Bs)) (fun n=>
 aE (eW g f a b c d e ([100,101,102,97,117,108,116]:Bs) false) (fun i=>
 p (l,h,n.2.2.2.2.2,i.1,false,0,i.2.1,i.2.2))))
def gz(N:Nat)(a:dE→Ro)(x:dE):Ro:=jn N a (fun z=>aS N (fb N a) z) (fun z=>aS N (fc N) z) x
def oj(N:Nat)(a:St→Ro):List (Nat×(St→Ro)):=(bP cK N iL (j0 (run cK N) a)++(bP cK N nj (fin lk)++[]))
theorem aea(N:Nat):∀(a:St→Ro)(x:dE),ka N a (bQ x)=gz N (fun y=>a (bQ y)) x:=by
 intro a x
 have hX:∀C:Nat→St→Ro,cE C cK N iL (j0 (cE C cK N) a) (bQ x)=jn N (fun y=>a (bQ y)) (fun z=>C 1000000 (ga z)) (fun z=>C 1000002 (gb z)) x:=by
  intro C
  kernel_rfl
 have h:ka N a (bQ x)=jn N (fun y=>a (bQ y)) (fun z=>bo N (j7 N a) (ga z)) (fun z=>bo N (j9 N) (gb z)) x:=(dh (C:=eJ (oj N a)) (bU (aY (l:=(oj N a)) (by kernel_rfl))) (mH (de (eR (bU (dF (aY (l:=(oj N a)) (by kernel_rfl)))) rfl))) _).trans ((hX _).trans (by kernel_rfl))
 have e1:(fun z=>bo N (j7 N a) (ga z))=(fun z=>aS N (fb N (fun y=>a (bQ y))) z):=funext fun z=>bk (ga) (j7 N a) (fb N (fun y=>a (bQ y))) (ad8 N a) N z
 have e2:(fun z=>bo N (j9 N) (gb z))=(fun z=>aS N (fc N) z):=funext fun z=>bk (gb) (j9 N) (fc N) (ad9 N) N z
 rw[h,e1,e2]
 rfl
def ig(N:Nat)(k:List aA)(l a b:Int)(c:Bs)(d:List aH)(e:Bss)(h:Int)(i:dE→Ro):Ro:=
 aE (ee k l a b c d e ([115,121,109,98,111,108,115]:Bs)) (fun f=>
 cond (!f.2.1) (
 aE (aK f.2.2.1 f.2.2.2 2) (fun j=>
 let v:=(↑(List.length f.1):Int)
 cond (v==0) (
 aE (aK j.2.1 j.2.2 6) (fun p=>
 let w:=(↑(List.length f.1):Int)
 cond (decide (30<w)) (
 aE (aK p.2.1 p.2.2 3) (fun u=>
 i (h,a,b,c,d,e,f.1,0,u.2.1,u.2.2))) (
 i (h,a,b,c,d,e,f.1,0,p.2.1,p.2.2)))) (
 let q:=(↑(List.length f.1):Int)
 cond (decide (30<q)) (
 aE (aK j.2.1 j.2.2 3) (fun m=>
 i (h,a,b,c,d,e,f.1,0,m.2.1,m.2.2))) (
 i (h,a,b,c,d,e,f.1,0,j.2.1,j.2.2))))) (
 let r:=(↑(List.length f.1):Int)
 cond (r==0) (
 aE (aK f.2.2.1 f.2.2.2 6) (fun g=>
 let s:=(↑(List.length f.1):Int)
 cond (decide (30<s)) (
 aE (aK g.2.1 g.2.2 3) (fun n=>
 i (h,a,b,c,d,e,f.1,0,n.2.1,n.2.2))) (
 i (h,a,b,c,d,e,f.1,0,g.2.1,g.2.2)))) (
 let t:=(↑(List.length f.1):Int)
 cond (decide (30<t)) (
 aE (aK f.2.2.1 f.2.2.2 3) (fun o=>
 i (h,a,b,c,d,e,f.1,0,o.2.1,o.2.2))) (
 i (h,a,b,c,d,e,f.1,0,f.2.2.1,f.2.2.2)))))
def wO(N:Nat)(a:List aA)(b c d:Int)(e:Bs)(f:List aH)(g:Bss)(h:Int):Ro:=ig N a b c d e f g h (fun z=>aS N (gz N) z)
theorem aev(N:Nat)(a:List aA)(c d g:Int)(i:Bs)(j:List aH)(k:Bss)(l:Int)(h:Tot (wO N a c d g i j k l) (fun z=>∃(m:List aA)(n:Int)(rest:List aJ),z.1.dimR=.tup []∧z.2=some [.ul .atype m,.int .i64 n]::rest∧eN a c d g i j k l (m,n))):∃r,iv a c d g i j k l r:=FnC.finO (css:=[[.ul .atype a,.int .i64 c]]) afU (N:=N) ((bM _ (by kernel_rfl) rfl (fun C=>ig N a c d g i j k l (fun z=>C 1000001 (bQ z))) (fun C=>by kernel_rfl)).trans (Eq.trans (b:=ig N a c d g i j k l (fun z=>bo N (ka N) (bQ z))) (by kernel_rfl) (congrArg (ig N a c d g i j k l) (funext fun z=>bk (bQ) (ka N) (gz N) (aea N) N z)))) h fun _ ⟨m,n,_,e,f,q⟩=>⟨(m,n),e,⟨_,f⟩,q⟩
noncomputable def uC:aN:=tab (P:=Tryz.prog) [] [dO,pB,abh] [] [alm]
def ym:IR:=Sq (Rs [Mv 26 9,Mv 27 1,Pp (.lens 28 27),Bi 29 .lss 26 28] (Cn 29 .skip (.exit 0))) (Sq (.block 1 (Rg [Mv 32 8,Mv 33 32,Gf 33 (.mov 34 1),Gf 33 (.mov 35 9),Gf 33 (.idx 36 34 35),Gf 33 (.bin 37 .eql 36 (.c (.int .u8 46))),Po 38 33 37,Mv 8 38])) (Rg [Mv 30 9,Bc 31 .add 30 1,Mv 9 31]))
def wP:IR:=Sq (Rs [Mv 39 8,Un 40 39,Mv 41 40,Gt 41 (.mov 42 2),Gt 41 (.bin 43 .neq 42 (kS [])),Pa 44 41 43] (Cn 44 (Rs [Mv 46 0,Mv 47 2,Pp (.bin 48 .add 47 (kS [46])),Mv 49 1,Bi 50 .add 48 49,Ca 51 80 [46,50],Mv 45 51,Ex_ 52 0 45,Ex_ 53 1 45,Mv 10 52,Mv 11 53] (Rs [Mv 54 11] (Cn 54 (Rs [Mv 55 10,Mv 6 55] .ret) .skip))) .skip)) (Rs [Mv 57 0,Mv 58 1,Ca 59 80 [57,58],Mv 56 59,Ex_ 60 0 56,Ex_ 61 1 56,Mv 12 60,Mv 13 61] (Sq (Rs [Mv 62 13,Un 63 62] (Cn 63 (Rs [Mv 64 0,Ca 65 54 [64,kI 4],Mv 6 65] .ret) .skip)) (Rs [Mv 66 12,Mv 6 66] .ret)))
def akJ:IR:=Rs [Mi 6 0] (Rs [Mv 14 1,Ca 15 59 [14],Mv 7 15] (Sq (Rs [Mv 16 7,Bc 17 .geq 16 1,Mv 18 17,Gt 18 (.mov 19 7),Gt 18 (.bin 20 .leq 19 (kI 8)),Pa 21 18 20] (Cn 21 (Rs [Mv 22 0,Mv 23 7,Pp (.bld 24 [vI 0,vS,fu .str true,vI 0,fu .str true,.bool false,vS,vI 0,fu .afield true,fu (.num .i64) true] [(0,1,23)]),Ca 25 60 [22,24],Mv 6 25] .ret) .skip)) (Rs [Mb 8 false] (Sq (Rs [Mi 9 0] (.block 0 (.loop [0,1,2,8,9,1000000] 1 ym))) wP))))
def aak:List RV:=[.t 6]
theorem akK:FnC Tryz.prog uC [54,60,80,2000054,2000060,2000080] 1 abe Tryz.f55 akJ aak:=fnC Tryz.func55
def aiP(R:IR→(Ex→St→Ro)→St→Ro)(a:St→Ro):Ex→St→Ro:=(bF a [0,1,2,8,9,1000000] 1 (aQ 0 (bv (R wP) (fin aak))))
abbrev nk:Type:=(Bs×Bs×Bool×Int×List aA×Int)
def me:nk→St:=fun(a,b,c,d,e,f)=>{env:=(.ptr 0 0::.str a::.str b::(U 5 (.bool c::.int .i64 d::(U 57 [])))),hp:=[some [.ul .atype e,.int .i64 f]]}
def rK(N:Nat):(St→Ro)→St→Ro:=fun a s=>run uC N ym (aiP (run uC N) a) s
def jo(N:Nat)(c:nk→Ro):nk→Ro:=fun(d,i,n,j,a,b)=>
 let p:=(↑(List.length d):Int)
 cond (decide (j<p)) (
 cond n (
 let q:=(IntKind.wrap .i64 (j+1))
 c (d,i,true,q,a,b)) (
 chk (ixl j d) (
 let r:=(↑(UInt8.toNat (List.getD d (Int.toNat j) 0)):Int)
 let s:=(IntKind.wrap .i64 (j+1))
 c (d,i,(r==46),s,a,b)))) (
 cond (!n) (
 let t:=(!decide (i=([]:Bs)))
 cond t (
 chk (decide (List.length i+List.length ([46]:Bs)≤9223372036854775807)) (
 let o:=(i++([46]:Bs))
 chk (decide (List.length o+List.length d≤9223372036854775807)) (
 aE (dP a b (o++d)) (fun e=>
 cond e.2.1 (
 some (.int .i64 e.1,[some [.ul .atype e.2.2.1,.int .i64 e.2.2.2]])) (
 aE (dP e.2.2.1 e.2.2.2 d) (fun f=>
 cond (!f.2.1) (
 aE (aK f.2.2.1 f.2.2.2 4) (fun k=>
 some (.int .i64 k.1,[some [.ul .atype k.2.1,.int .i64 k.2.2]]))) (
 some (.int .i64 f.1,[some [.ul .atype f.2.2.1,.int .i64 f.2.2.2]])))))))) (
 aE (dP a b d) (fun g=>
 cond (!g.2.1) (
 aE (aK g.2.2.1 g.2.2.2 4) (fun l=>
 some (.int .i64 l.1,[some [.ul .atype l.2.1,.int .i64 l.2.2]]))) (
 some (.int .i64 g.1,[some [.ul .atype g.2.2.1,.int .i64 g.2.2.2]]))))) (
 aE (dP a b d) (fun h=>
 cond (!h.2.1) (
 aE (aK h.2.2.1 h.2.2.2 4) (fun m=>
 some (.int .i64 m.1,[some [.ul .atype m.2.1,.int .i64 m.2.2]]))) (
 some (.int .i64 h.1,[some [.ul .atype h.2.2.1,.int .i64 h.2.2.2]])))))
theorem aht(N:Nat):LB (rK N) me (jo N):=fun _ _=>by kernel_rfl
def kw(N:Nat)(a:List aA)(b:Int)(c f:Bs)(g:nk→Ro):Ro:=
 aE (nI c) (fun(d:Int)=>
 cond (decide (1≤d)) (
 cond (decide (d≤8)) (
 aE (fF a b d ([]:Bs) ([]:Bss) 0 ([]:Bss) false ([]:Bs) 0 ([]:List aO) ([]:List Int)) (fun e=>
 some (.int .i64 e.1,[some [.ul .atype e.2.1,.int .i64 e.2.2]]))) (
 g (c,f,false,0,a,b))) (
 g (c,f,false,0,a,b)))
def aal(N:Nat)(a:List aA)(b:Int)(c d:Bs):Ro:=kw N a b c d (fun z=>aS N (jo N) z)
theorem aiQ(N:Nat)(a:List aA)(c:Int)(d g:Bs)(h:Tot (aal N a c d g) (fun z=>∃(i:Int)(j:List aA)(k:Int)(rest:List aJ),z.1.dimR=.int .i64 i∧z.2=some [.ul .atype j,.int .i64 k]::rest∧pW a c d g (i,j,k))):∃r,iu a c d g r:=FnC.finO (css:=[[.ul .atype a,.int .i64 c]]) akK (N:=N) ((bM _ (by kernel_rfl) rfl (fun C=>kw N a c d g (fun z=>C 1000000 (me z))) (fun C=>by kernel_rfl)).trans (Eq.trans (b:=kw N a c d g (fun z=>bo N (rK N) (me z))) (by kernel_rfl) (congrArg (kw N a c d g) (funext fun z=>bk (me) (rK N) (jo N) (aht N) N z)))) h fun _ ⟨i,j,k,_,e,f,q⟩=>⟨(i,j,k),e,⟨_,f⟩,q⟩
noncomputable def dz:aN:=tab (P:=Tryz.prog) [] [oH,dO,pB] [81] [ayF]
def vM:IR:=Sq (Rs [Mv 70 13,Mv 71 10,Ll 72 71,Bi 73 .lss 70 72] (Cn 73 .skip (.exit 2))) (Sq (.block 3 (Sq (.gh (.opn (.cell 0 0)) (.ghp (.cls (.cell 0 0)) (.reg [Mv 76 0,Nk 77 76,Fa 78 0 77,Fo [0] [] (.ld 79 1 true false 78),Mv 80 10,Mv 81 13,Ix 82 (.num .i64) 80 81,Lq 83 82,Fo [1] [] (.call 84 81 [79,83]),Mv 85 0,Nk 86 85,Fa 87 0 86,Fo [0] [] (.ld 88 1 true false 87),Mv 89 12,Fo [1] [] (.call 90 81 [88,89]),Bi 91 .eql 84 90] [[],[0],[0,1],[0,1,2],[],[],[4,5],[4,5,6],rg 0 7,[],[9],[9,10],[9,10,11],[],rg 0 13,rg 0 14]))) (Cn 91 (Rs [Mv 92 0,Ca 93 54 [92,kI 6],Mv 8 93] .ret) .skip))) (Rg [Mv 74 13,Bc 75 .add 74 1,Mv 13 75]))
def vN:IR:=Rg [Pp (.mov 94 (.tk 10)),Mv 95 12,Pp (.bsl 96 (.num .i64) [95] true),Pp (.app 97 (.num .i64) (.tk 94) 96),Pp (.mov 10 (.tk 97))]
def vO:IR:=Rg [Mv 41 11,Bc 42 .add 41 1,Mv 11 42]
def kb:IR:=Sq (Rs [Mv 29 11,Fa 30 3 5,Lq 31 30,Ll 32 31,Bi 33 .lss 29 32,Mv 34 33,Gt 34 (.mov 35 0),Gt 34 (.nck 36 35),Gt 34 (.fad 37 1 36),Gt 34 (.ld 38 1 false false 37),Gt 34 (.bin 39 .eql 38 (kI 0)),Pa 40 34 39] (Cn 40 .skip (.exit 0))) (Sq (.block 1 (Rs [Mv 43 0,Fa 44 3 5,Lq 45 44,Mv 46 11,Ix 47 .jnode 45 46,Ld 48 5 true 47,Mv 49 2,Mv 50 3,Bc 51 .add 50 1,Ca 52 25 [43,48,49,51],Mv 12 52] (Sq (Rs [Mv 53 0,Nk 54 53,Fa 55 1 54,Lo 56 55,Bc 57 .neq 56 0] (Cn 57 (Rs [Mi 8 0] .ret) .skip)) (Sq (Sq (.gh (.opn (.cell 0 0)) (.ghp (.cls (.cell 0 0)) (Rg [Mv 58 0,Nk 59 58,Fa 60 0 59,Fa 61 0 60,Lo 62 61,Mv 63 12,Pp (.ixw 64 .atype 62 63),Pp (.fdw 65 0 64),Pp (.ldw 66 1 false 65),Bc 67 .eql 66 14]))) (Cn 67 (Rs [Mv 68 0,Ca 69 54 [68,kI 6],Mv 8 69] .ret) .skip)) (Sq (Rs [Mi 13 0] (.block 2 (.loop [0,2,3,5,9,10,11,12,13,1000000] 1 vM))) vN))))) vO)
def ol:IR:=Sq (Rs [Mv 98 0,Nk 99 98,Fa 100 1 99,Lo 101 100,Bc 102 .eql 101 0] (Cn 102 (.gh (.opn (.cell 0 0)) (.ghp (.cls (.cell 0 0)) (Rg [Mv 103 0,Nk 104 103,Fa 105 0 104,Fa 106 0 105,Lo 107 106,Mv 108 9,Mv 109 10,Pp (.ixw 110 .atype 107 108),Pp (.fdw 111 9 110),Pp (.stw none 1 111 109)]))) .skip)) (Rs [Mv 112 9,Mv 8 112] .ret)
def aiR:IR:=Rs [Bx 5 1,Mi 8 0] (Rs [Mv 14 0,Pp (.bld 15 [vI 0,vS,fu .str true,vI 0,fu .str true,.bool false,vS,vI 0,fu .afield true,fu (.num .i64) true] [(0,1,kI 14)]),Ca 16 60 [14,15],Mv 9 16] (Sq (Rs [Fa 17 3 5,Lq 18 17,Ll 19 18,Bc 20 .eql 19 0] (Cn 20 (Rs [Mv 21 0,Ca 22 54 [21,kI 6],Mv 8 22] .ret) .skip)) (Sq (Rs [Fa 23 3 5,Lq 24 23,Ll 25 24,Bc 26 .gtr 25 30] (Cn 26 (Rs [Mv 27 0,Ca 28 54 [27,kI 3],Mv 8 28] .ret) .skip)) (Rs [Pp (.mov 10 (.c (nl (.num .i64))))] (Sq (Rs [Mi 11 0] (.block 0 (.loop [0,2,3,5,9,10,11,1000001] 1 kb))) ol)))))
def rL:List RV:=[.t 8]
theorem aiS:FnC Tryz.prog dz [25,54,60,81,2000025,2000054,2000060,2000081] 1 zY Tryz.f56 aiR rL:=fnC Tryz.func56
def mf(R:IR→(Ex→St→Ro)→St→Ro)(a:St→Ro):Ex→St→Ro:=(bF a [0,2,3,5,9,10,11,1000001] 1 (aQ 0 (bv (R ol) (fin rL))))
abbrev el:Type:=(Bs×Int×Int×Int×Bs×List aH×Bss×Int×List Int×Int×List aA×Int)
def cH:el→St:=fun(c,d,e,f,g,h,i,j,k,l,a,b)=>{env:=(.ptr 0 0::.undef::.str c::.int .i64 d::.undef::.ea [.int .i64 e,.int .i64 f,.str g,.sl .jnode (.may false) h,.sl .str (.may false) i]::(U 3 (.int .i64 j::.sl (.num .i64) .own k::.int .i64 l::(U 101 [])))),hp:=[some [.ul .atype a,.int .i64 b]]}
def ahu(R:IR→(Ex→St→Ro)→St→Ro)(a b:St→Ro):Ex→St→Ro:=(bF b [0,2,3,5,9,10,11,12,13,1000000] 1 (aQ 2 (bv (R vN) (aQ 1 (bv (R vO) (mf R a))))))
abbrev mg:Type:=(Bs×Int×Int×Int×Bs×List aH×Bss×Int×List Int×Int×Int×Int×List aA×Int)
def ii:mg→St:=fun(e,f,g,h,i,j,k,l,m,n,a,b,c,d)=>{env:=(.ptr 0 0::.undef::.str e::.int .i64 f::.undef::.ea [.int .i64 g,.int .i64 h,.str i,.sl .jnode (.may false) j,.sl .str (.may false) k]::(U 3 (.int .i64 l::.sl (.num .i64) .own m::.int .i64 n::.int .i64 a::.int .i64 b::(U 99 [])))),hp:=[some [.ul .atype c,.int .i64 d]]}
def mh(N:Nat)(a:St→Ro):(St→Ro)→St→Ro:=fun b s=>run dz N vM (ahu (run dz N) a b) s
def iE(N:Nat)(d:el→Ro)(e:mg→Ro):mg→Ro:=fun(q,r,h,i,j,k,l,s,b,m,f,g,a,c)=>
 let t:=(↑(List.length b):Int)
 cond (decide (g<t)) (
 chk (decide (0<List.length a)) (
 chk (ixl g b) (
 let u:=List.getD b (Int.toNat g) (aC (.num .i64))
 awm (sE a u) (Nat.beq (List.length a) (List.length a)&&true) (fun(v:Bs)=>
 awm (sE a f) (Nat.beq (List.length a) (List.length a)&&true) (fun(w:Bs)=>
 chk (Nat.beq (List.length a) (List.length a)) (
 cond (decide (v=w)) (
 aE (aK a c 6) (fun n=>
 some (.int .i64 n.1,[some [.ul .atype n.2.1,.int .i64 n.2.2],none,none]))) (
 let x:=(IntKind.wrap .i64 (g+1))
 e (q,r,h,i,j,k,l,s,b,m,f,x,a,c)))))))) (
 chk (decide ((List.length b+List.length ([f]:List Int))*8≤140737488355328)) (
 let o:=(b++([f]:List Int))
 let p:=(IntKind.wrap .i64 (m+1))
 d (q,r,h,i,j,k,l,s,o,p,a,c)))
theorem afV(N:Nat)(a:St→Ro):LB (mh N a) ii (iE N (fun y=>a (cH y))):=fun _ _=>by kernel_rfl
def mi(N:Nat):(St→Ro)→St→Ro:=fun a s=>run dz N kb (mf (run dz N) a) s
def ll(N:Nat)(r:el→Ro)(y:mg→Ro):el→Ro:=fun(v,w,i,j,k,e,m,f,h,g,a,b)=>
 let z:=(↑(List.length e):Int)
 let t:=fun g0 g1 g2=>(some (.int .i64 g0,[some [.ul .atype g1,.int .i64 g2],none,none]):Ro)
 let x:=(some (.int .i64 f,[some [.ul .atype a,.int .i64 b]]):Ro)
 cond (decide (g<z)) (
 cond (b==0) (
 chk (ixl g e) (
 let o:=(List.getD e (Int.toNat g) (aC .jnode))
 let x5:=(IntKind.wrap .i64 (w+1))
 aE (dw a b o.kind o.n o.s o.l o.names v x5) (fun d=>
 cond (!(d.2.2==0)) (
 some (.int .i64 0,[some [.ul .atype d.2.1,.int .i64 d.2.2]])) (
 chk (decide (0<List.length d.2.1)) (
 chk (decide (0≤d.1)&&decide (d.1<↑(List.length d.2.1))) (
 chk (decide ((Int.toNat d.1)<List.length d.2.1)) (
 let x6:=(List.getD d.2.1 (Int.toNat d.1) (aC .atype)).kind
 chk (Nat.beq (List.length d.2.1) (List.length d.2.1)) (
 cond (x6==14) (
 aE (aK d.2.1 d.2.2 6) (fun u=>
 t u.1 u.2.1 u.2.2)) (
 y (v,w,i,j,k,e,m,f,h,g,d.1,0,d.2.1,d.2.2)))))))))) (
 cond (b==0) (
 chk (decide (0<List.length a)) (
 chk (decide (0≤f)&&decide (f<↑(List.length a))) (
 chk (decide ((Int.toNat f)<List.length a)) (
 let p:=(List.set a (Int.toNat f) (let c:=List.getD a (Int.toNat f) (aC .atype);⟨c.kind,c.name,c.aliases,c.items,c.syms,c.hasdef,c.df,c.size,c.fields,h⟩))
 chk (Nat.beq (List.length a) (List.length p)) (
 t f p b))))) (
 x))) (
 cond (b==0) (
 chk (decide (0<List.length a)) (
 chk (decide (0≤f)&&decide (f<↑(List.length a))) (
 chk (decide ((Int.toNat f)<List.length a)) (
 let q:=(List.set a (Int.toNat f) (let c:=List.getD a (Int.toNat f) (aC .atype);⟨c.kind,c.name,c.aliases,c.items,c.syms,c.hasdef,c.df,c.size,c.fields,h⟩))
 chk (Nat.beq (List.length a) (List.length q)) (
 t f q b))))) (
 x))
def mj(N:Nat)(a:el→Ro)(x:el):Ro:=ll N a (fun z=>aS N (iE N a) z) x
def qI(N:Nat)(a:St→Ro):List (Nat×(St→Ro)):=(bP dz N kb (mf (run dz N) a)++(bP dz N ol (fin rL)++[]))
theorem afW(N:Nat):∀(a:St→Ro)(x:el),mi N a (cH x)=mj N (fun y=>a (cH y)) x:=by
 intro a x
 have hX:∀C:Nat→St→Ro,cE C dz N kb (mf (cE C dz N) a) (cH x)=ll N (fun y=>a (cH y)) (fun z=>C 1000000 (ii z)) x:=by
  intro C
  kernel_rfl
 have h:mi N a (cH x)=ll N (fun y=>a (cH y)) (fun z=>bo N (mh N a) (ii z)) x:=(dh (C:=eJ (qI N a)) (bU (aY (l:=(qI N a)) (by kernel_rfl))) (mH (de (eR (bU (dF (aY (l:=(qI N a)) (by kernel_rfl)))) rfl))) _).trans ((hX _).trans (by kernel_rfl))
 have e1:(fun z=>bo N (mh N a) (ii z))=(fun z=>aS N (iE N (fun y=>a (cH y))) z):=funext fun z=>bk (ii) (mh N a) (iE N (fun y=>a (cH y))) (afV N a) N z
 rw[h,e1]
 rfl
def jp(N:Nat)(c:List aA)(d e f:Int)(g:Bs)(a:List aH)(h:Bss)(k:Bs)(l:Int)(m:el→Ro):Ro:=
 aE (fF c d 14 ([]:Bs) ([]:Bss) 0 ([]:Bss) false ([]:Bs) 0 ([]:List aO) ([]:List Int)) (fun b=>
 let n:=(↑(List.length a):Int)
 cond (n==0) (
 aE (aK b.2.1 b.2.2 6) (fun i=>
 some (.int .i64 i.1,[some [.ul .atype i.2.1,.int .i64 i.2.2]]))) (
 let o:=(↑(List.length a):Int)
 cond (decide (30<o)) (
 aE (aK b.2.1 b.2.2 3) (fun j=>
 some (.int .i64 j.1,[some [.ul .atype j.2.1,.int .i64 j.2.2]]))) (
 m (k,l,e,f,g,a,h,b.1,([]:List Int),0,b.2.1,b.2.2))))
def zO(N:Nat)(a:List aA)(b c d:Int)(e:Bs)(f:List aH)(g:Bss)(h:Bs)(i:Int):Ro:=jp N a b c d e f g h i (fun z=>aS N (mj N) z)
theorem ahv(N:Nat)(a:List aA)(c d g:Int)(i:Bs)(j:List aH)(k:Bss)(l:Bs)(m:Int)(h:Tot (zO N a c d g i j k l m) (fun z=>∃(n:Int)(o:List aA)(p:Int)(rest:List aJ),z.1.dimR=.int .i64 n∧z.2=some [.ul .atype o,.int .i64 p]::rest∧wo a c d g i j k l m (n,o,p))):∃r,km a c d g i j k l m r:=FnC.finO (css:=[[.ul .atype a,.int .i64 c]]) aiS (N:=N) ((bM _ (by kernel_rfl) rfl (fun C=>jp N a c d g i j k l m (fun z=>C 1000001 (cH z))) (fun C=>by kernel_rfl)).trans (Eq.trans (b:=jp N a c d g i j k l m (fun z=>bo N (mi N) (cH z))) (by kernel_rfl) (congrArg (jp N a c d g i j k l m) (funext fun z=>bk (cH) (mi N) (mj N) (afW N) N z)))) h fun _ ⟨n,o,p,_,e,f,q⟩=>⟨(n,o,p),e,⟨_,f⟩,q⟩
noncomputable def bp:aN:=tab (P:=Tryz.prog) [] [oH,dO,tZ,sG] [] [qY,afn]
def jq:IR:=Sq (Rs [Mv 81 16,Mv 82 12,Ll 83 82,Bi 84 .lss 81 83] (Cn 84 .skip (.exit 2))) (Sq (.block 3 (Sq (.reg [Mv 87 12,Mv 88 16,Ix 89 .afield 87 88,Fa 90 0 89,Fo [] [] (.ld 91 1 false false 90),Fa 92 0 15,Fo [1] [] (.ld 93 1 false false 92),Bi 94 .eql 91 93] [[],[],[0,1],[0,1,2],rg 0 3,[],[5],rg 0 6]) (Cn 94 (Rg [Mv 95 0,Ca 96 54 [95,kI 5]]) .skip))) (Rg [Mv 85 16,Bc 86 .add 85 1,Mv 16 86]))
def uD:IR:=Sq (Rs [Mv 127 19,Fa 128 1 15,Lo 129 128,Ll 130 129,Bi 131 .lss 127 130,Mv 132 131,Gt 132 (.mov 133 0),Gt 132 (.nck 134 133),Gt 132 (.fad 135 1 134),Gt 132 (.ld 136 1 false false 135),Gt 132 (.bin 137 .eql 136 (kI 0)),Pa 138 132 137] (Cn 138 .skip (.exit 4))) (Sq (.block 5 (Rs [Fa 141 1 15,Lo 142 141,Mv 143 19,Ix 144 .str 142 143,Lq 145 144,Ca 146 102 [145],Un 147 146] (Cn 147 (Rg [Mv 148 0,Ca 149 54 [148,kI 6]]) .skip))) (Rg [Mv 139 19,Bc 140 .add 139 1,Mv 19 140]))
def uE:IR:=Rg [Pp (.mov 150 (.tk 12)),Pp (.ld 151 9 true false 15),Pp (.bsl 152 .afield [151] true),Pp (.app 153 .afield (.tk 150) 152),Pp (.mov 12 (.tk 153))]
def nW:IR:=Rs [Ld 98 5 true 14,Ca 99 57 [98,kS [116,121,112,101]],Mv 97 99,Ex_ 100 0 97,Ex_ 101 1 97,Pp (.alr 17 5),Fz 17 5 100,Mv 18 101] (Sq (Rs [Mv 102 18,Un 103 102] (Cn 103 (Rg [Mv 104 0,Ca 105 54 [104,kI 2]]) .skip)) (Rs [Mv 106 0,Ld 107 5 true 17,Mv 108 3,Mv 109 4,Bc 110 .add 109 1,Ca 111 25 [106,107,108,110],Fa 112 2 15,Sv 1 112 111] (Rs [Ld 114 5 true 14,Ca 115 57 [114,kS [100,101,102,97,117,108,116]],Mv 113 115,Ex_ 116 0 113,Ex_ 117 1 113,Fa 118 4 15,Sv 5 118 116,Fa 119 3 15,Sv 1 119 117] (Rs [Mv 121 0,Ld 122 5 true 14,Ca 123 85 [121,122,kS [97,108,105,97,115,101,115]],Mv 120 123,Ex_ 124 0 120,Ex_ 125 1 120,Fa 126 1 15,Sk 1 126 124] (Sq (Rs [Mi 19 0] (.block 4 (.loop [0,2,3,4,10,12,13,15,19,1000001] 2 uD))) uE)))))
def gc:IR:=Rg [Mv 52 13,Bc 53 .add 52 1,Mv 13 53]
def jr:IR:=Sq (Rs [Mv 40 13,Fa 41 3 10,Lq 42 41,Ll 43 42,Bi 44 .lss 40 43,Mv 45 44,Gt 45 (.mov 46 0),Gt 45 (.nck 47 46),Gt 45 (.fad 48 1 47),Gt 45 (.ld 49 1 false false 48),Gt 45 (.bin 50 .eql 49 (kI 0)),Pa 51 45 50] (Cn 51 .skip (.exit 0))) (Sq (.block 1 (Rs [Fa 54 3 10,Lq 55 54,Mv 56 13,Ix 57 .jnode 55 56,Ld 58 5 true 57,Pp (.alr 14 5),Fz 14 5 58] (Sq (Rs [Fa 59 0 14,Lq 60 59,Bc 61 .neq 60 6] (Cn 61 (Rs [Mv 62 0,Ca 63 54 [62,kI 2]] .ret) .skip)) (Rs [Mv 64 0,Ld 65 5 true 14,Ca 66 82 [64,65,kS [110,97,109,101],kB true],Pp (.bld 67 [vS,nl .str,vI 0,.bool false,vI 0,vI 0,vS,nl .jnode,nl .str] [(0,1,66)]),Pp (.new 15 [vS,nl .str,vI 0,.bool false,vI 0,vI 0,vS,nl .jnode,nl .str]),Sv 9 15 67] (Sq (Rs [Mv 68 0,Nk 69 68,Fa 70 1 69,Lo 71 70,Bc 72 .eql 71 0,Mv 73 72,Gt 73 (.fad 74 0 15),Gt 73 (.ld 75 1 false false 74),Gt 73 (.call 76 102 [75]),Gt 73 (.un 77 .not 76),Pa 78 73 77] (Cn 78 (Rg [Mv 79 0,Ca 80 54 [79,kI 6]]) .skip)) (Sq (Rs [Mi 16 0] (.block 2 (.loop [0,2,3,4,10,12,13,14,15,16,1000000] 2 jq))) nW)))))) gc)
def js:IR:=Rs [Mv 154 0,Nk 155 154,Fa 156 1 155,Lo 157 156,Bc 158 .eql 157 0] (Cn 158 (.gh (.opn (.cell 0 0)) (.ghp (.cls (.cell 0 0)) (Rg [Mv 159 0,Nk 160 159,Fa 161 0 160,Fa 162 0 161,Lo 163 162,Mv 164 2,Mv 165 12,Pp (.ixw 166 .atype 163 164),Pp (.fdw 167 8 166),Pp (.stw none 1 167 165)]))) .skip)
def ahw:IR:=Rs [Bx 6 1] (Rs [Ld 21 5 true 6,Ca 22 57 [21,kS [102,105,101,108,100,115]],Mv 20 22,Ex_ 23 0 20,Ex_ 24 1 20,Pp (.alr 10 5),Fz 10 5 23,Mv 11 24] (Sq (Rs [Mv 25 11,Un 26 25,Mv 27 26,Gf 27 (.fad 28 0 10),Gf 27 (.lde 29 1 false 28),Gf 27 (.bin 30 .neq 29 (kI 5)),Po 31 27 30] (Cn 31 (Rs [Mv 32 0,Ca 33 54 [32,kI 2]] .ret) .skip)) (Sq (Rs [Fa 34 3 10,Lq 35 34,Ll 36 35,Bc 37 .gtr 36 30] (Cn 37 (Rs [Mv 38 0,Ca 39 54 [38,kI 3]] .ret) .skip)) (Rs [Pp (.mov 12 (.c (nl .afield)))] (Sq (Rs [Mi 13 0] (.block 0 (.loop [0,2,3,4,10,12,13,1000002] 1 jr))) js)))))
def ml:List RV:=[]
theorem ahx:FnC Tryz.prog bp [25,54,82,85,2000025,2000054,2000082,2000085] 1 yN Tryz.f86 ahw ml:=fnC Tryz.func86
def eC(R:IR→(Ex→St→Ro)→St→Ro)(a:St→Ro):Ex→St→Ro:=(bF a [0,2,3,4,10,12,13,1000002] 1 (aQ 0 (bv (R js) (fin ml))))
abbrev da:Type:=(Int×Bs×Int×Int×Int×Bs×List aH×Bss×List aO×Int×List aA×Int)
def bu:da→St:=fun(c,d,e,f,g,h,i,j,k,l,a,b)=>{env:=(.ptr 0 0::.undef::.int .i64 c::.str d::.int .i64 e::(U 5 (.ea [.int .i64 f,.int .i64 g,.str h,.sl .jnode (.may false) i,.sl .str (.may false) j]::.undef::.sl .afield .own k::.int .i64 l::(U 154 [])))),hp:=[some [.ul .atype a,.int .i64 b]]}
def px(R:IR→(Ex→St→Ro)→St→Ro)(a b:St→Ro):Ex→St→Ro:=(bF b [0,2,3,4,10,12,13,14,15,16,1000000] 2 (aQ 2 (bv (R nW) (aQ 1 (bv (R gc) (eC R a))))))
abbrev eD:Type:=(Int×Bs×Int×Int×Int×Bs×List aH×Bss×List aO×Int×Int×Int×Bs×List aH×Bss×Int×List aA×Int×Bs×Bss×Int×Bool×Int×Int×Bs×List aH×Bss)
def cU:eD→St:=fun(r,s,t,u,v,w,x,y,z,x9,a,b,c,d,e,f,g,h,i,j,k,l,m,n,o,p,q)=>{env:=(.ptr 0 0::.undef::.int .i64 r::.str s::.int .i64 t::(U 5 (.ea [.int .i64 u,.int .i64 v,.str w,.sl .jnode (.may false) x,.sl .str (.may false) y]::.undef::.sl .afield .own z::.int .i64 x9::.ea [.int .i64 a,.int .i64 b,.str c,.sl .jnode (.may false) d,.sl .str (.may false) e]::.ptr 1 0::.int .i64 f::(U 151 [])))),hp:=[some [.ul .atype g,.int .i64 h],some [.str i,.sl .str .own j,.int .i64 k,.bool l,.int .i64 m,.int .i64 n,.str o,.sl .jnode .own p,.sl .str .own q]]}
def afX(R:IR→(Ex→St→Ro)→St→Ro)(a b:St→Ro):Ex→St→Ro:=(bF b [0,2,3,4,10,12,13,15,19,1000001] 2 (aQ 4 (bv (R uE) (aQ 1 (bv (R gc) (eC R a))))))
abbrev lm:Type:=(Int×Bs×Int×Int×Int×Bs×List aH×Bss×List aO×Int×Int×List aA×Int×Bs×Bss×Int×Bool×Int×Int×Bs×List aH×Bss)
def gA:lm→St:=fun(m,n,o,p,q,r,s,t,u,v,a,b,c,d,e,f,g,h,i,j,k,l)=>{env:=(.ptr 0 0::.undef::.int .i64 m::.str n::.int .i64 o::(U 5 (.ea [.int .i64 p,.int .i64 q,.str r,.sl .jnode (.may false) s,.sl .str (.may false) t]::.undef::.sl .afield .own u::.int .i64 v::.undef::.ptr 1 0::(U 3 (.int .i64 a::(U 148 [])))))),hp:=[some [.ul .atype b,.int .i64 c],some [.str d,.sl .str (.may false) e,.int .i64 f,.bool g,.int .i64 h,.int .i64 i,.str j,.sl .jnode (.may false) k,.sl .str (.may false) l]]}
def ln(N:Nat)(a:St→Ro):(St→Ro)→St→Ro:=fun b s=>run bp N uD (afX (run bp N) a b) s
def eE(N:Nat)(s:da→Ro)(t:lm→Ro):lm→Ro:=fun(v2,v3,v4,k,l,m,n,o,p,u,q,r,j,b,a,c,d,e,f,g,h,i)=>
 let x9:=(↑(List.length a):Int)
 let z0:=fun w x g2=>t (v2,v3,v4,k,l,m,n,o,p,u,w,x,g2,b,a,c,d,e,f,g,h,i)
 let z1:=fun w x=>s (v2,v3,v4,k,l,m,n,o,w,x,r,j)
 cond (decide (q<x9)) (
 cond (j==0) (
 chk (ixl q a) (
 let y:=List.getD a (Int.toNat q) (aC .str)
 aE (kM y) (fun(z:Bool)=>
 cond (!z) (
 aE (aK r j 6) (fun v=>
 let aa:=(IntKind.wrap .i64 (q+1))
 z0 aa v.2.1 v.2.2)) (
 let ab:=(IntKind.wrap .i64 (q+1))
 z0 ab r j)))) (
 chk (decide ((List.length p+List.length ([⟨b,a,c,d,⟨e,f,g,h,i⟩⟩]:List aO))*136≤140737488355328)) (
 let ac:=(p++([⟨b,a,c,d,⟨e,f,g,h,i⟩⟩]:List aO))
 let ad:=(IntKind.wrap .i64 (u+1))
 z1 ac ad))) (
 chk (decide ((List.length p+List.length ([⟨b,a,c,d,⟨e,f,g,h,i⟩⟩]:List aO))*136≤140737488355328)) (
 let ae:=(p++([⟨b,a,c,d,⟨e,f,g,h,i⟩⟩]:List aO))
 let af:=(IntKind.wrap .i64 (u+1))
 z1 ae af))
theorem aew(N:Nat)(a:St→Ro):LB (ln N a) gA (eE N (fun y=>a (bu y))):=fun _ _=>by kernel_rfl
def ij(N:Nat)(a:St→Ro):(St→Ro)→St→Ro:=fun b s=>run bp N jq (px (run bp N) a b) s
def kc(N:Nat)(aj:da→Ro)(s:eD→Ro)(q2:lm→Ro):eD→Ro:=fun(v2,y,z,g,h,i,j,k,o,t,a,b,c,d,e,r,l,m,n,aa,ab,ac,ad,ae,af,ag,ah)=>
 let x4:=(↑(List.length o):Int)
 let z0:=fun g0 g1 g2=>s (v2,y,z,g,h,i,j,k,o,t,a,b,c,d,e,g0,g1,g2,n,aa,ab,ac,ad,ae,af,ag,ah)
 cond (decide (r<x4)) (
 chk (ixl r o) (
 let x5:=(List.getD o (Int.toNat r) (aC .afield))
 cond (decide (x5.name=n)) (
 aE (aK l m 5) (fun r9=>
 let x6:=(IntKind.wrap .i64 (r+1))
 z0 x6 r9.2.1 r9.2.2)) (
 let x7:=(IntKind.wrap .i64 (r+1))
 z0 x7 l m))) (
 aE (eb a b c d e ([116,121,112,101]:Bs)) (fun f=>
 cond (!f.2.2.2.2.2) (
 aE (aK l m 2) (fun ai=>
 let x8:=(IntKind.wrap .i64 (z+1))
 aE (dw ai.2.1 ai.2.2 f.1 f.2.1 f.2.2.1 f.2.2.2.1 f.2.2.2.2.1 y x8) (fun u=>
 aE (eb a b c d e ([100,101,102,97,117,108,116]:Bs)) (fun p=>
 aE (ee u.2.1 u.2.2 a b c d e ([97,108,105,97,115,101,115]:Bs)) (fun v=>
 q2 (v2,y,z,g,h,i,j,k,o,t,0,v.2.2.1,v.2.2.2,n,v.1,u.1,p.2.2.2.2.2,p.1,p.2.1,p.2.2.1,p.2.2.2.1,p.2.2.2.2.1)))))) (
 let al:=(IntKind.wrap .i64 (z+1))
 aE (dw l m f.1 f.2.1 f.2.2.1 f.2.2.2.1 f.2.2.2.2.1 y al) (fun w=>
 aE (eb a b c d e ([100,101,102,97,117,108,116]:Bs)) (fun q=>
 aE (ee w.2.1 w.2.2 a b c d e ([97,108,105,97,115,101,115]:Bs)) (fun x=>
 q2 (v2,y,z,g,h,i,j,k,o,t,0,x.2.2.1,x.2.2.2,n,x.1,w.1,q.2.2.2.2.2,q.1,q.2.1,q.2.2.1,q.2.2.2.1,q.2.2.2.2.1)))))))
def fC(N:Nat)(a:da→Ro)(b:eD→Ro)(x:eD):Ro:=kc N a b (fun z=>aS N (eE N a) z) x
def ik(N:Nat)(a b:St→Ro):List (Nat×(St→Ro)):=(bP bp N jq (px (run bp N) a b)++(bP bp N nW (aQ 1 (bv (run bp N gc) (eC (run bp N) a)))++(bP bp N gc (eC (run bp N) a)++(bP bp N js (fin ml)++[]))))
theorem aex(N:Nat)(a:St→Ro):∀(b:St→Ro)(x:eD),ij N a b (cU x)=fC N (fun y=>a (bu y)) (fun y=>b (cU y)) x:=by
 intro b x
 have hX:∀C:Nat→St→Ro,cE C bp N jq (px (cE C bp N) a b) (cU x)=kc N (fun y=>a (bu y)) (fun y=>b (cU y)) (fun z=>C 1000001 (gA z)) x:=by
  intro C
  kernel_rfl
 have h:ij N a b (cU x)=kc N (fun y=>a (bu y)) (fun y=>b (cU y)) (fun z=>bo N (ln N a) (gA z)) x:=(dh (C:=eJ (ik N a b)) (bU (aY (l:=(ik N a b)) (by kernel_rfl))) (mH (de (eR (bU (dF (aY (l:=(ik N a b)) (by kernel_rfl)))) (de (eR (bU (dF (dF (aY (l:=(ik N a b)) (by kernel_rfl))))) (mH (de (eR (bU (dF (dF (dF (aY (l:=(ik N a b)) (by kernel_rfl)))))) rfl)))))))) _).trans ((hX _).trans (by kernel_rfl))
 have e2:(fun z=>bo N (ln N a) (gA z))=(fun z=>aS N (eE N (fun y=>a (bu y))) z):=funext fun z=>bk (gA) (ln N a) (eE N (fun y=>a (bu y))) (aew N a) N z
 rw[h,e2]
 rfl
def lp(N:Nat):(St→Ro)→St→Ro:=fun a s=>run bp N jr (eC (run bp N) a) s
def ke(N:Nat)(t:da→Ro)(q1:eD→Ro):da→Ro:=fun(f,v3,v4,i,j,k,d,m,o,h,a,b)=>
 let x2:=(↑(List.length d):Int)
 let u:=fun p v=>(some (.tup [],[some [.ul .atype p,.int .i64 v]]):Ro)
 let x:=fun p=>(some (.tup [],[some [.ul .atype p,.int .i64 b],none,none]):Ro)
 let w:=fun p v g2 g3 g4 g5 g6 g7=>q1 (f,v3,v4,i,j,k,d,m,o,h,p,v,g2,g3,g4,0,g5,g6,g7,([]:Bss),0,false,0,0,([]:Bs),([]:List aH),([]:Bss))
 cond (decide (h<x2)) (
 cond (b==0) (
 chk (ixl h d) (
 let c:=(List.getD d (Int.toNat h) (aC .jnode))
 cond (!(c.kind==6)) (
 aE (aK a b 2) (fun y=>
 u y.2.1 y.2.2)) (
 aE (eW a b c.kind c.n c.s c.l c.names ([110,97,109,101]:Bs) true) (fun g=>
 cond (g.2.2==0) (
 aE (kM g.1) (fun(r7:Bool)=>
 cond (!r7) (
 aE (aK g.2.1 g.2.2 6) (fun z=>
 w c.kind c.n c.s c.l c.names z.2.1 z.2.2 g.1)) (
 w c.kind c.n c.s c.l c.names g.2.1 g.2.2 g.1))) (
 w c.kind c.n c.s c.l c.names g.2.1 g.2.2 g.1))))) (
 cond (b==0) (
 chk (decide (0<List.length a)) (
 chk (decide (0≤f)&&decide (f<↑(List.length a))) (
 chk (decide ((Int.toNat f)<List.length a)) (
 let q:=(List.set a (Int.toNat f) (let e:=List.getD a (Int.toNat f) (aC .atype);⟨e.kind,e.name,e.aliases,e.items,e.syms,e.hasdef,e.df,e.size,o,e.branches⟩))
 chk (Nat.beq (List.length a) (List.length q)) (
 x q))))) (
 u a b))) (
 cond (b==0) (
 chk (decide (0<List.length a)) (
 chk (decide (0≤f)&&decide (f<↑(List.length a))) (
 chk (decide ((Int.toNat f)<List.length a)) (
 let r:=(List.set a (Int.toNat f) (let e:=List.getD a (Int.toNat f) (aC .atype);⟨e.kind,e.name,e.aliases,e.items,e.syms,e.hasdef,e.df,e.size,o,e.branches⟩))
 chk (Nat.beq (List.length a) (List.length r)) (
 x r))))) (
 u a b))
def lq(N:Nat)(a:da→Ro)(x:da):Ro:=ke N a (fun z=>aS N (fC N a) z) x
def py(N:Nat)(a:St→Ro):List (Nat×(St→Ro)):=(bP bp N jr (eC (run bp N) a)++(bP bp N js (fin ml)++[]))
theorem aey(N:Nat):∀(a:St→Ro)(x:da),lp N a (bu x)=lq N (fun y=>a (bu y)) x:=by
 intro a x
 have hX:∀C:Nat→St→Ro,cE C bp N jr (eC (cE C bp N) a) (bu x)=ke N (fun y=>a (bu y)) (fun z=>C 1000000 (cU z)) x:=by
  intro C
  kernel_rfl
 have h:lp N a (bu x)=ke N (fun y=>a (bu y)) (fun z=>bo N (ij N a) (cU z)) x:=(dh (C:=eJ (py N a)) (bU (aY (l:=(py N a)) (by kernel_rfl))) (mH (de (eR (bU (dF (aY (l:=(py N a)) (by kernel_rfl)))) rfl))) _).trans ((hX _).trans (by kernel_rfl))
 have e1:(fun z=>bo N (ij N a) (cU z))=(fun z=>aS N (fC N (fun y=>a (bu y))) z):=funext fun z=>bk (cU) (ij N a) (fC N (fun y=>a (bu y))) (aex N a) N z
 rw[h,e1]
 rfl
def iG(N:Nat)(a:List aA)(b d e:Int)(f:Bs)(g:List aH)(h:Bss)(m:Int)(n:Bs)(o:Int)(p:da→Ro):Ro:=
 let i:=fun q r=>(some (.tup [],[some [.ul .atype q,.int .i64 r]]):Ro)
 aE (eb d e f g h ([102,105,101,108,100,115]:Bs)) (fun c=>
 cond (!c.2.2.2.2.2) (
 aE (aK a b 2) (fun j=>
 i j.2.1 j.2.2)) (
 cond (!(c.1==5)) (
 aE (aK a b 2) (fun k=>
 i k.2.1 k.2.2)) (
 let s:=(↑(List.length c.2.2.2.1):Int)
 cond (decide (30<s)) (
 aE (aK a b 3) (fun l=>
 i l.2.1 l.2.2)) (
 p (m,n,o,c.1,c.2.1,c.2.2.1,c.2.2.2.1,c.2.2.2.2.1,([]:List aO),0,a,b)))))
def yn(N:Nat)(a:List aA)(b c d:Int)(e:Bs)(f:List aH)(g:Bss)(h:Int)(i:Bs)(j:Int):Ro:=iG N a b c d e f g h i j (fun z=>aS N (lq N) z)
theorem afY(N:Nat)(a:List aA)(c d g:Int)(i:Bs)(j:List aH)(k:Bss)(l:Int)(m:Bs)(n:Int)(h:Tot (yn N a c d g i j k l m n) (fun z=>∃(o:List aA)(p:Int)(rest:List aJ),z.1.dimR=.tup []∧z.2=some [.ul .atype o,.int .i64 p]::rest∧eX a c d g i j k l m n (o,p))):∃r,iT a c d g i j k l m n r:=FnC.finO (css:=[[.ul .atype a,.int .i64 c]]) ahx (N:=N) ((bM _ (by kernel_rfl) rfl (fun C=>iG N a c d g i j k l m n (fun z=>C 1000002 (bu z))) (fun C=>by kernel_rfl)).trans (Eq.trans (b:=iG N a c d g i j k l m n (fun z=>bo N (lp N) (bu z))) (by kernel_rfl) (congrArg (iG N a c d g i j k l m n) (funext fun z=>bk (bu) (lp N) (lq N) (aey N) N z)))) h fun _ ⟨o,p,_,e,f,q⟩=>⟨(o,p),e,⟨_,f⟩,q⟩
noncomputable def cZ:aN:=tab (P:=Tryz.prog) [] [dO,pB,abh,tZ,akk,sG,aie,ago] [] [qY,asb]
def lr:IR:=Sq (Rs [Mv 59 17,Mv 60 15,Ll 61 60,Bi 62 .lss 59 61,Mv 63 62,Gt 63 (.mov 64 0),Gt 63 (.nck 65 64),Gt 63 (.fad 66 1 65),Gt 63 (.ld 67 1 false false 66),Gt 63 (.bin 68 .eql 67 (kI 0)),Pa 69 63 68] (Cn 69 .skip (.exit 0))) (Sq (.block 1 (.reg [Fa 72 2 14,Fo [] [1] (.ld 73 1 false true 72),Mv 74 0,Mv 75 15,Mv 76 17,Ix 77 .str 75 76,Lq 78 77,Mv 79 3,Fo [] [0] (.call 80 83 [74,78,79]),Pp (.bsl 81 .str [80] true),Pp (.app 82 .str (.tk 73) 81),Fa 83 2 14,Fo [] [1] (.st none 1 83 (.tk 82))] [[],[0],[],[],[],[3,4],[3,4,5],[],rg 2 7,rg 2 8,rg 0 9,rg 0 10,rg 0 11])) (Rg [Mv 70 17,Bc 71 .add 70 1,Mv 17 71]))
def vP:IR:=Sq (Rs [Mv 101 0,Nk 102 101,Fa 103 1 102,Lo 104 103,Bc 105 .neq 104 0] (Cn 105 (Rs [Mi 10 0] .ret) .skip)) (Rs [Mv 106 0,Pp (.ld 107 10 true false 14),Ca 108 60 [106,107],Mv 20 108] (Sq (Rs [Mv 109 2] (.block 2 (Rs [Bc 150 .eql 109 9,Mv 149 150] (Cn 149 (Rg [Mv 151 0,Ld 152 5 true 6,Mv 153 20,Mv 154 3,Mv 155 4,Ca 156 86 [151,152,153,154,155]]) (Rs [Bc 158 .eql 109 10,Mv 157 158] (Cn 157 (Rg [Mv 159 0,Ld 160 5 true 6,Mv 161 20,Ca 162 87 [159,160,161]]) (Rs [Ld 111 5 true 6,Ca 112 57 [111,kS [115,105,122,101]],Mv 110 112,Ex_ 113 0 110,Ex_ 114 1 110,Pp (.alr 21 5),Fz 21 5 113,Mv 22 114] (Sq (Rs [Mv 115 22,Un 116 115,Mv 117 116,Gf 117 (.fad 118 0 21),Gf 117 (.lde 119 1 false 118),Gf 117 (.bin 120 .neq 119 (kI 3)),Po 121 117 120] (Cn 121 (Rs [Mv 122 0,Ca 123 54 [122,kI 2],Mv 10 123] .ret) .skip)) (Sq (Rs [Fa 124 1 21,Lq 125 124,Bc 126 .lss 125 0,Mv 127 126,Gf 127 (.fad 128 1 21),Gf 127 (.lde 129 1 false 128),Gf 127 (.bin 130 .gtr 129 (kI 5000)),Po 131 127 130] (Cn 131 (Rs [Mv 132 0,Ca 133 54 [132,kI 6],Mv 10 133] .ret) .skip)) (Rs [Mv 134 0,Nk 135 134,Fa 136 1 135,Lo 137 136,Bc 138 .eql 137 0] (Cn 138 (.gh (.opn (.cell 0 0)) (.ghp (.cls (.cell 0 0)) (.reg [Mv 139 0,Nk 140 139,Fa 141 0 140,Fa 142 0 141,Fo [0] [] (.ld 143 1 false false 142),Mv 144 20,Fa 145 1 21,Lq 146 145,Pp (.ixw 147 .atype 143 144),Pp (.fdw 148 7 147),Fo [] [2] (.stw none 1 148 146)] [[],[0],[0,1],[0,1,2],rg 0 3,[],[],[6],rg 0 7,rg 0 8,rg 0 9]))) .skip))))))))))) (Rs [Mv 163 20,Mv 10 163] .ret)))
def om:IR:=Rs [Mv 85 0,Fa 86 1 14,Lo 87 86,Ca 88 80 [85,87],Mv 84 88,Ex_ 89 0 84,Ex_ 90 1 84,Mv 18 89,Mv 19 90] (Sq (Rs [Mv 91 0,Nk 92 91,Fa 93 1 92,Lo 94 93,Bc 95 .eql 94 0,Mv 96 95,Gt 96 (.mov 97 19),Pa 98 96 97] (Cn 98 (Rg [Mv 99 0,Ca 100 54 [99,kI 5]]) .skip)) (.cut [0,2,3,4,6,14,1000001] 2 vP))
def kg:IR:=Sq (Rs [Mv 39 0,Nk 40 39,Fa 41 1 40,Lo 42 41,Bc 43 .neq 42 0] (Cn 43 (Rs [Mi 10 0] .ret) .skip)) (Rs [Mv 44 2,Mv 45 0,Mv 46 11,Mv 47 3,Ca 48 83 [45,46,47],Pp (.bld 49 [vI 0,vS,nl .str,vI 0,nl .str,.bool false,vS,vI 0,nl .afield,nl (.num .i64)] [(0,1,44),(1,1,48)]),Pp (.new 14 [vI 0,vS,nl .str,vI 0,nl .str,.bool false,vS,vI 0,nl .afield,nl (.num .i64)]),Sv 10 14 49] (Rs [Fa 50 1 14,Lo 51 50,Ca 52 84 [51],Mv 3 52] (Rs [Mv 54 0,Ld 55 5 true 6,Ca 56 85 [54,55,kS [97,108,105,97,115,101,115]],Mv 53 56,Ex_ 57 0 53,Ex_ 58 1 53,Mv 15 57,Mv 16 58] (Sq (Rs [Mi 17 0] (.block 0 (.loop [0,2,3,4,6,14,15,17,1000000] 2 lr))) om))))
def aiT:IR:=Rs [Bx 6 1,Mi 10 0] (Rs [Mv 23 0,Ld 24 5 true 6,Ca 25 82 [23,24,kS [110,97,109,101],kB true],Mv 11 25] (Rs [Ld 27 5 true 6,Ca 28 57 [27,kS [110,97,109,101,115,112,97,99,101]],Mv 26 28,Ex_ 29 0 26,Ex_ 30 1 26,Pp (.alr 12 5),Fz 12 5 29,Mv 13 30] (Sq (Rs [Mv 31 13] (Cn 31 (Sq (Rs [Fa 32 0 12,Lq 33 32,Bc 34 .neq 33 4] (Cn 34 (Rg [Mv 35 0,Ca 36 54 [35,kI 2]]) .skip)) (Rg [Fa 37 2 12,Lq 38 37,Mv 3 38])) .skip)) (.cut [0,2,3,4,6,11,1000002] 1 kg))))
def fg:List RV:=[.t 10]
theorem aiU:FnC Tryz.prog cZ [54,60,80,82,83,85,86,87,2000054,2000060,2000080,2000082,2000083,2000085,2000086,2000087] 1 zW Tryz.f58 aiT fg:=fnC Tryz.func58
abbrev iH:Type:=(Int×Bs×Int×Int×Int×Bs×List aH×Bss×Bs×List aA×Int)
def il:iH→St:=fun(b,c,d,e,f,g,h,i,j,k,a)=>{env:=(.ptr 0 0::.undef::.int .i64 b::.str c::.int .i64 d::.undef::.ea [.int .i64 e,.int .i64 f,.str g,.sl .jnode (.may false) h,.sl .str (.may false) i]::(U 4 (.str j::(U 152 [])))),hp:=[some [.ul .atype k,.int .i64 a]]}
def qJ(R:IR→(Ex→St→Ro)→St→Ro)(a:St→Ro):Ex→St→Ro:=(bF a [0,2,3,4,6,14,15,17,1000000] 2 (aQ 0 (bv (R om) (fin fg))))
abbrev eQ:Type:=(Int×Bs×Int×Int×Int×Bs×List aH×Bss×Bss×Int×List aA×Int×Int×Bs×Bss×Int×Bss×Bool×Bs×Int×List aO×List Int)
def db:eQ→St:=fun(m,n,o,p,q,r,s,t,u,v,a,b,c,d,e,f,g,h,i,j,k,l)=>{env:=(.ptr 0 0::.undef::.int .i64 m::.str n::.int .i64 o::.undef::.ea [.int .i64 p,.int .i64 q,.str r,.sl .jnode (.may false) s,.sl .str (.may false) t]::(U 7 (.ptr 1 0::.sl .str (.may false) u::.undef::.int .i64 v::(U 146 [])))),hp:=[some [.ul .atype a,.int .i64 b],some [.int .i64 c,.str d,.sl .str .own e,.int .i64 f,.sl .str .own g,.bool h,.str i,.int .i64 j,.sl .afield .own k,.sl (.num .i64) .own l]]}
abbrev qK:Type:=(Int×Bs×Int×Int×Int×Bs×List aH×Bss×List aA×Int×Int×Bs×Bss×Int×Bss×Bool×Bs×Int×List aO×List Int)
def lu:qK→St:=fun(k,l,m,n,o,p,q,r,s,t,a,b,c,d,e,f,g,h,i,j)=>{env:=(.ptr 0 0::.undef::.int .i64 k::.str l::.int .i64 m::.undef::.ea [.int .i64 n,.int .i64 o,.str p,.sl .jnode (.may false) q,.sl .str (.may false) r]::(U 7 (.ptr 1 0::(U 149 [])))),hp:=[some [.ul .atype s,.int .i64 t],some [.int .i64 a,.str b,.sl .str .own c,.int .i64 d,.sl .str .own e,.bool f,.str g,.int .i64 h,.sl .afield .own i,.sl (.num .i64) .own j]]}
def qL(N:Nat):St→Ro:=fun s=>run cZ N vP (fin fg) s
def fQ(N:Nat):qK→Ro:=fun(v2,v3,v4,b,c,d,e,f,t,g,h,i,j,k,l,m,n,o,p,q)=>
 let u:=fun g0 g1 g2=>(some (.int .i64 g0,[some [.ul .atype g1,.int .i64 g2],some [.int .i64 h,.str i,.sl .str .own j,.int .i64 k,.sl .str .own l,.bool m,.str n,.int .i64 o,.sl .afield .own p,.sl (.num .i64) .own q]]):Ro)
 cond (!(g==0)) (
 u 0 t g) (
 aE (fF t g h i j k l m n o p q) (fun a=>
 cond (v2==9) (
 aE (iT a.2.1 a.2.2 b c d e f a.1 v3 v4) (fun z=>
 u a.1 z.1 z.2)) (
 cond (v2==10) (
 aE (iv a.2.1 a.2.2 b c d e f a.1) (fun aa=>
 u a.1 aa.1 aa.2)) (
 aE (eb b c d e f ([115,105,122,101]:Bs)) (fun r=>
 cond (!r.2.2.2.2.2) (
 aE (aK a.2.1 a.2.2 2) (fun v=>
 u v.1 v.2.1 v.2.2)) (
 cond (!(r.1==3)) (
 aE (aK a.2.1 a.2.2 2) (fun w=>
 u w.1 w.2.1 w.2.2)) (
 cond (decide (r.2.1<0)) (
 aE (aK a.2.1 a.2.2 6) (fun x=>
 u x.1 x.2.1 x.2.2)) (
 cond (decide (5000<r.2.1)) (
 aE (aK a.2.1 a.2.2 6) (fun y=>
 u y.1 y.2.1 y.2.2)) (
 cond (a.2.2==0) (
 chk (decide (0<List.length a.2.1)) (
 chk (decide (0≤a.1)&&decide (a.1<↑(List.length a.2.1))) (
 chk (decide ((Int.toNat a.1)<List.length a.2.1)) (
 let x5:=(List.set a.2.1 (Int.toNat a.1) (let s:=List.getD a.2.1 (Int.toNat a.1) (aC .atype);⟨s.kind,s.name,s.aliases,s.items,s.syms,s.hasdef,s.df,r.2.1,s.fields,s.branches⟩))
 chk (Nat.beq (List.length a.2.1) (List.length x5)) (
 some (.int .i64 a.1,[some [.ul .atype x5,.int .i64 a.2.2],some [.int .i64 h,.str i,.sl .str .own j,.int .i64 k,.sl .str .own l,.bool m,.str n,.int .i64 o,.sl .afield .own p,.sl (.num .i64) .own q],none,none])))))) (
 u a.1 a.2.1 a.2.2))))))))))
theorem afZ(N:Nat):LJ (qL N) lu (fQ N):=fun _=>by kernel_rfl
def iI(N:Nat):(St→Ro)→St→Ro:=fun a s=>run cZ N lr (qJ (run cZ N) a) s
def lv(N:Nat)(f:eQ→Ro)(q2:qK→Ro):eQ→Ro:=fun(v2,z,v4,i,j,k,l,m,g,h,d,b,n,c,e,o,p,q,r,s,t,u)=>
 let x1:=(↑(List.length g):Int)
 let w:=fun g0 g1=>q2 (v2,z,v4,i,j,k,l,m,g0,g1,n,c,e,o,p,q,r,s,t,u)
 cond (decide (h<x1)) (
 cond (b==0) (
 chk (ixl h g) (
 let x2:=List.getD g (Int.toNat h) (aC .str)
 aE (gL d b x2 z) (fun y=>
 chk (decide ((List.length e+List.length ([y.1]:Bss))*16≤140737488355328)) (
 let x3:=(e++([y.1]:Bss))
 let x4:=(IntKind.wrap .i64 (h+1))
 f (v2,z,v4,i,j,k,l,m,g,x4,y.2.1,y.2.2,n,c,x3,o,p,q,r,s,t,u))))) (
 aE (dP d b c) (fun v=>
 cond (v.2.2.2==0) (
 cond v.2.1 (
 aE (aK v.2.2.1 v.2.2.2 5) (fun r9=>
 w r9.2.1 r9.2.2)) (
 w v.2.2.1 v.2.2.2)) (
 w v.2.2.1 v.2.2.2)))) (
 aE (dP d b c) (fun a=>
 cond (a.2.2.2==0) (
 cond a.2.1 (
 aE (aK a.2.2.1 a.2.2.2 5) (fun x=>
 w x.2.1 x.2.2)) (
 w a.2.2.1 a.2.2.2)) (
 w a.2.2.1 a.2.2.2)))
def fR(N:Nat)(a:eQ→Ro)(x:eQ):Ro:=lv N a (fun z=>fQ N z) x
def qM(N:Nat)(a:St→Ro):List (Nat×(St→Ro)):=(bP cZ N lr (qJ (run cZ N) a)++(bP cZ N om (fin fg)++[]))
theorem af0(N:Nat):∀(a:St→Ro)(x:eQ),iI N a (db x)=fR N (fun y=>a (db y)) x:=by
 intro a x
 have hX:∀C:Nat→St→Ro,cE C cZ N lr (qJ (cE C cZ N) a) (db x)=lv N (fun y=>a (db y)) (fun z=>C 1000001 (lu z)) x:=by
  intro C
  kernel_rfl
 have h:iI N a (db x)=lv N (fun y=>a (db y)) (fun z=>qL N (lu z)) x:=(dh (C:=eJ (qM N a)) (bU (aY (l:=(qM N a)) (by kernel_rfl))) (mH (de (eR (bU (dF (aY (l:=(qM N a)) (by kernel_rfl)))) rfl))) _).trans ((hX _).trans (by kernel_rfl))
 have e2:(fun z=>qL N (lu z))=(fun z=>fQ N z):=funext fun z=>afZ N z
 rw[h,e2]
 rfl
def qN(N:Nat):St→Ro:=fun s=>run cZ N kg (fin fg) s
def lw(N:Nat)(l:eQ→Ro):iH→Ro:=fun(k,m,n,b,c,d,e,f,i,g,a)=>
 cond (!(a==0)) (
 some (.int .i64 0,[some [.ul .atype g,.int .i64 a]])) (
 aE (gL g a i m) (fun h=>
 aE (pX h.1) (fun(o:Bs)=>
 aE (ee h.2.1 h.2.2 b c d e f ([97,108,105,97,115,101,115]:Bs)) (fun j=>
 l (k,o,n,b,c,d,e,f,j.1,0,j.2.2.1,j.2.2.2,k,h.1,([]:Bss),0,([]:Bss),false,([]:Bs),0,([]:List aO),([]:List Int))))))
def mo(N:Nat)(x:iH):Ro:=lw N (fun z=>aS N (fR N) z) x
def yo(N:Nat):List (Nat×(St→Ro)):=(bP cZ N kg (fin fg)++[])
theorem af1(N:Nat):∀(x:iH),qN N (il x)=mo N x:=by
 intro x
 have hX:∀C:Nat→St→Ro,cE C cZ N kg (fin fg) (il x)=lw N (fun z=>C 1000000 (db z)) x:=by
  intro C
  kernel_rfl
 have h:qN N (il x)=lw N (fun z=>bo N (iI N) (db z)) x:=(dh (C:=eJ (yo N)) (bU (aY (l:=(yo N)) (by kernel_rfl))) rfl _).trans ((hX _).trans (by kernel_rfl))
 have e1:(fun z=>bo N (iI N) (db z))=(fun z=>aS N (fR N) z):=funext fun z=>bk (db) (iI N) (fR N) (af0 N) N z
 rw[h,e1]
 rfl
def jt(N:Nat)(g:List aA)(h a b:Int)(c:Bs)(d:List aH)(e:Bss)(j:Int)(n:Bs)(k:Int)(l:iH→Ro):Ro:=
 aE (eW g h a b c d e ([110,97,109,101]:Bs) true) (fun f=>
 aE (eb a b c d e ([110,97,109,101,115,112,97,99,101]:Bs)) (fun i=>
 cond i.2.2.2.2.2 (
 cond (!(i.1==4)) (
 aE (aK f.2.1 f.2.2 2) (fun m=>
 l (j,i.2.2.1,k,a,b,c,d,e,f.1,m.2.1,m.2.2))) (
 l (j,i.2.2.1,k,a,b,c,d,e,f.1,f.2.1,f.2.2))) (
 l (j,n,k,a,b,c,d,e,f.1,f.2.1,f.2.2))))
def zP(N:Nat)(a:List aA)(b c d:Int)(e:Bs)(f:List aH)(g:Bss)(h:Int)(i:Bs)(j:Int):Ro:=jt N a b c d e f g h i j (fun z=>mo N z)
theorem ahy(N:Nat)(a:List aA)(c d g:Int)(i:Bs)(j:List aH)(k:Bss)(l:Int)(m:Bs)(n:Int)(h:Tot (zP N a c d g i j k l m n) (fun z=>∃(o:Int)(p:List aA)(s:Int)(rest:List aJ),z.1.dimR=.int .i64 o∧z.2=some [.ul .atype p,.int .i64 s]::rest∧gQ a c d g i j k l m n (o,p,s))):∃r,kn a c d g i j k l m n r:=FnC.finO (css:=[[.ul .atype a,.int .i64 c]]) aiU (N:=N) ((bM _ (by kernel_rfl) rfl (fun C=>jt N a c d g i j k l m n (fun z=>C 1000002 (il z))) (fun C=>by kernel_rfl)).trans (Eq.trans (b:=jt N a c d g i j k l m n (fun z=>qN N (il z))) (by kernel_rfl) (congrArg (jt N a c d g i j k l m n) (funext fun z=>af1 N z)))) h fun _ ⟨o,p,s,_,e,f,q⟩=>⟨(o,p,s),e,⟨_,f⟩,q⟩
noncomputable def br:aN:=tab (P:=Tryz.prog) [] [oH,dO,alk,akg,aki,pB] [] [qY,alm]
def wQ:IR:=Rs [Ld 88 5 true 5,Mv 89 12,Ca 90 57 [88,89],Mv 87 90,Ex_ 91 0 87,Ex_ 92 1 87,Pp (.alr 13 5),Fz 13 5 91,Mv 14 92] (Sq (Rs [Mv 93 14,Un 94 93] (Cn 94 (Rs [Mv 95 0,Ca 96 54 [95,kI 2],Mv 8 96] .ret) .skip)) (Rs [Mv 97 0,Ld 98 5 true 13,Mv 99 2,Mv 100 3,Bc 101 .add 100 1,Ca 102 25 [97,98,99,101],Mv 15 102] (Sq (Rs [Mv 103 0,Nk 104 103,Fa 105 1 104,Lo 106 105,Bc 107 .eql 106 0] (Cn 107 (.gh (.opn (.cell 0 0)) (.ghp (.cls (.cell 0 0)) (Rg [Mv 108 0,Nk 109 108,Fa 110 0 109,Fa 111 0 110,Lo 112 111,Mv 113 11,Mv 114 15,Pp (.ixw 115 .atype 112 113),Pp (.fdw 116 3 115),Pp (.stw none 1 116 114)]))) .skip)) (Rs [Mv 117 11,Mv 8 117] .ret))))
def lz:IR:=Cn 75 (Rs [Mv 78 0,Fa 79 2 9,Lq 80 79,Ca 81 59 [80],Pp (.bld 82 [vI 0,vS,fu .str true,vI 0,fu .str true,.bool false,vS,vI 0,fu .afield true,fu (.num .i64) true] [(0,1,81)]),Ca 83 60 [78,82],Mv 11 83] (Rs [Ms 12 [105,116,101,109,115]] (Sq (Rs [Fa 84 2 9,Lq 85 84,Pp (.bin 86 .eql 85 (kS [109,97,112]))] (Cn 86 (Rg [Ms 12 [118,97,108,117,101,115]]) .skip)) (.cut [0,2,3,5,11,12,1000000] 1 wQ)))) .skip
def lA:IR:=Cn 63 (Sq (.reg [Mv 67 0,Ld 68 5 true 5,Fa 69 2 9,Lq 70 69,Ca 71 59 [70],Mv 72 2,Mv 73 3,Fo [] [0] (.call 74 58 [67,68,71,72,73]),Mv 8 74] [[],[],[],[2],[2,3],[],[],rg 0 6,rg 0 7]) .ret) (Sq (Rs [Pp (.bin 76 .eql 62 (kS [97,114,114,97,121])),Mv 75 76] (Cn 75 .skip (Rg [Pp (.bin 77 .eql 62 (kS [109,97,112])),Mv 75 77]))) (.cut [0,2,3,5,9,75,1000001] 1 lz))
def wR:IR:=Rs [Mv 118 0,Fa 119 2 9,Lq 120 119,Mv 121 2,Ca 122 55 [118,120,121],Mv 8 122] .ret
def lB:IR:=.cut [0,2,9,1000003] 1 wR
def eF:IR:=Rs [Mv 123 0,Ca 124 54 [123,kI 2],Mv 8 124] .ret
def akL:IR:=Rs [Bx 5 1,Mi 8 0] (Sq (Rs [Mv 16 0,Nk 17 16,Fa 18 1 17,Lo 19 18,Bc 20 .neq 19 0] (Cn 20 (Rs [Mi 8 0] .ret) .skip)) (Sq (Rs [Mv 21 3,Bc 22 .gtr 21 20] (Cn 22 (Rs [Mv 23 0,Ca 24 54 [23,kI 3],Mv 8 24] .ret) .skip)) (Sq (Rs [Fa 25 0 5,Lq 26 25] (.block 0 (Rs [Bc 28 .eql 26 4,Mv 27 28] (Cn 27 (Rs [Mv 29 0,Fa 30 2 5,Lq 31 30,Mv 32 2,Ca 33 55 [29,31,32],Mv 8 33] .ret) (Rs [Bc 35 .eql 26 5,Mv 34 35] (Cn 34 (Rs [Mv 36 0,Ld 37 5 true 5,Mv 38 2,Mv 39 3,Ca 40 56 [36,37,38,39],Mv 8 40] .ret) (Rs [Bc 42 .eql 26 6,Mv 41 42] (Cn 41 (Rs [Ld 44 5 true 5,Ca 45 57 [44,kS [116,121,112,101]],Mv 43 45,Ex_ 46 0 43,Ex_ 47 1 43,Pp (.alr 9 5),Fz 9 5 46,Mv 10 47] (Sq (Rs [Mv 48 10,Un 49 48] (Cn 49 (Rs [Mv 50 0,Ca 51 54 [50,kI 2],Mv 8 51] .ret) .skip)) (Sq (Rs [Fa 52 0 9,Lq 53 52,Bc 54 .neq 53 4] (Cn 54 (Rs [Mv 55 0,Ld 56 5 true 9,Mv 57 2,Mv 58 3,Bc 59 .add 58 1,Ca 60 25 [55,56,57,59],Mv 8 60] .ret) .skip)) (Sq (Rs [Fa 61 2 9,Lq 62 61] (.block 1 (Sq (Rs [Pp (.bin 64 .eql 62 (kS [114,101,99,111,114,100])),Mv 63 64] (Cn 63 .skip (Rs [Pp (.bin 65 .eql 62 (kS [101,110,117,109])),Mv 63 65] (Cn 63 .skip (Rg [Pp (.bin 66 .eql 62 (kS [102,105,120,101,100])),Mv 63 66]))))) (.cut [0,2,3,5,9,62,63,1000002] 1 lA)))) lB)))) .skip)))))))) eF)))
def fJ:List RV:=[.t 8]
theorem akM:FnC Tryz.prog br [25,54,55,56,58,60,2000025,2000054,2000055,2000056,2000058,2000060] 1 abf Tryz.f25 akL fJ:=fnC Tryz.func25
abbrev ju:Type:=(Bs×Int×Int×Int×Bs×List aH×Bss×Int×Int×Bs×List aH×Bss×Bs×Bool×List aA×Int)
def iJ:ju→St:=fun(g,h,i,j,k,l,m,n,o,p,a,b,c,d,e,f)=>{env:=(.ptr 0 0::.undef::.str g::.int .i64 h::.undef::.ea [.int .i64 i,.int .i64 j,.str k,.sl .jnode (.may false) l,.sl .str (.may false) m]::(U 3 (.ea [.int .i64 n,.int .i64 o,.str p,.sl .jnode (.may false) a,.sl .str (.may false) b]::(U 52 (.str c::.bool d::(U 61 [])))))),hp:=[some [.ul .atype e,.int .i64 f]]}
def fh(R:IR→(Ex→St→Ro)→St→Ro):Ex→St→Ro:=(aQ 1 (bv (R lB) (aQ 0 (bv (R eF) (fin fJ)))))
abbrev jv:Type:=(Bs×Int×Int×Int×Bs×List aH×Bss×Int×Int×Bs×List aH×Bss×Bool×List aA×Int)
def fS:jv→St:=fun(f,g,h,i,j,k,l,m,n,o,a,b,c,d,e)=>{env:=(.ptr 0 0::.undef::.str f::.int .i64 g::.undef::.ea [.int .i64 h,.int .i64 i,.str j,.sl .jnode (.may false) k,.sl .str (.may false) l]::(U 3 (.ea [.int .i64 m,.int .i64 n,.str o,.sl .jnode (.may false) a,.sl .str (.may false) b]::(U 65 (.bool c::(U 49 [])))))),hp:=[some [.ul .atype d,.int .i64 e]]}
abbrev rM:Type:=(Bs×Int×Int×Int×Bs×List aH×Bss×Int×Bs×List aA×Int)
def mq:rM→St:=fun(b,c,d,e,f,g,h,i,j,k,a)=>{env:=(.ptr 0 0::.undef::.str b::.int .i64 c::.undef::.ea [.int .i64 d,.int .i64 e,.str f,.sl .jnode (.may false) g,.sl .str (.may false) h]::(U 5 (.int .i64 i::.str j::(U 112 [])))),hp:=[some [.ul .atype k,.int .i64 a]]}
def rN(N:Nat):St→Ro:=fun s=>run br N wQ (fh (run br N)) s
def jw(N:Nat):rM→Ro:=fun(o,p,h,i,j,k,l,b,m,e,f)=>
 aE (eb h i j k l m) (fun c=>
 cond (!c.2.2.2.2.2) (
 aE (aK e f 2) (fun g=>
 some (.int .i64 g.1,[some [.ul .atype g.2.1,.int .i64 g.2.2]]))) (
 let q:=(IntKind.wrap .i64 (p+1))
 aE (dw e f c.1 c.2.1 c.2.2.1 c.2.2.2.1 c.2.2.2.2.1 o q) (fun a=>
 cond (a.2.2==0) (
 chk (decide (0<List.length a.2.1)) (
 chk (decide (0≤b)&&decide (b<↑(List.length a.2.1))) (
 chk (decide ((Int.toNat b)<List.length a.2.1)) (
 let n:=(List.set a.2.1 (Int.toNat b) (let d:=List.getD a.2.1 (Int.toNat b) (aC .atype);⟨d.kind,d.name,d.aliases,a.1,d.syms,d.hasdef,d.df,d.size,d.fields,d.branches⟩))
 chk (Nat.beq (List.length a.2.1) (List.length n)) (
 some (.int .i64 b,[some [.ul .atype n,.int .i64 a.2.2],none,none])))))) (
 some (.int .i64 b,[some [.ul .atype a.2.1,.int .i64 a.2.2]])))))
theorem ahz(N:Nat):LJ (rN N) mq (jw N):=fun _=>by kernel_rfl
abbrev rO:Type:=(Bs×Int×Int×Bs×List aH×Bss×List aA×Int)
def ms:rO→St:=fun(a,b,c,d,e,f,g,h)=>{env:=(.ptr 0 0::.undef::.str a::(U 6 (.ea [.int .i64 b,.int .i64 c,.str d,.sl .jnode (.may false) e,.sl .str (.may false) f]::(U 115 [])))),hp:=[some [.ul .atype g,.int .i64 h]]}
def aiV(R:IR→(Ex→St→Ro)→St→Ro):Ex→St→Ro:=(aQ 0 (bv (R eF) (fin fJ)))
def rP(N:Nat):St→Ro:=fun s=>run br N wR (aiV (run br N)) s
def jx(N:Nat):rO→Ro:=fun(e,_,_,b,_,_,c,d)=>
 aE (iu c d b e) (fun a=>
 some (.int .i64 a.1,[some [.ul .atype a.2.1,.int .i64 a.2.2]]))
theorem ahA(N:Nat):LJ (rP N) ms (jx N):=fun _=>by kernel_rfl
def no(N:Nat):St→Ro:=fun s=>run br N lz (fh (run br N)) s
def mt(N:Nat)(p:rM→Ro)(r:rO→Ro):jv→Ro:=fun(n,q,c,d,e,f,g,j,k,b,l,m,o,h,i)=>
 cond o (
 aE (nI b) (fun(s:Int)=>
 aE (fF h i s ([]:Bs) ([]:Bss) 0 ([]:Bss) false ([]:Bs) 0 ([]:List aO) ([]:List Int)) (fun a=>
 let t:=decide (b=([109,97,112]:Bs))
 cond t (
 p (n,q,c,d,e,f,g,a.1,([118,97,108,117,101,115]:Bs),a.2.1,a.2.2)) (
 p (n,q,c,d,e,f,g,a.1,([105,116,101,109,115]:Bs),a.2.1,a.2.2))))) (
 r (n,j,k,b,l,m,h,i))
def jy(N:Nat)(x:jv):Ro:=mt N (fun z=>jw N z) (fun z=>jx N z) x
def np(N:Nat):List (Nat×(St→Ro)):=(bP br N lz (fh (run br N))++(bP br N lB (aQ 0 (bv (run br N eF) (fin fJ)))++(bP br N eF (fin fJ)++[])))
theorem ahB(N:Nat):∀(x:jv),no N (fS x)=jy N x:=by
 intro x
 have hX:∀C:Nat→St→Ro,cE C br N lz (fh (cE C br N)) (fS x)=mt N (fun z=>C 1000000 (mq z)) (fun z=>C 1000003 (ms z)) x:=by
  intro C
  kernel_rfl
 have h:no N (fS x)=mt N (fun z=>rN N (mq z)) (fun z=>rP N (ms z)) x:=(dh (C:=eJ (np N)) (bU (aY (l:=(np N)) (by kernel_rfl))) (de (eR (bU (dF (aY (l:=(np N)) (by kernel_rfl)))) (de (eR (bU (dF (dF (aY (l:=(np N)) (by kernel_rfl))))) rfl)))) _).trans ((hX _).trans (by kernel_rfl))
 have e2:(fun z=>rN N (mq z))=(fun z=>jw N z):=funext fun z=>ahz N z
 have e3:(fun z=>rP N (ms z))=(fun z=>jx N z):=funext fun z=>ahA N z
 rw[h,e2,e3]
 rfl
def rQ(N:Nat):St→Ro:=fun s=>run br N lA (fh (run br N)) s
def mu(N:Nat)(s:jv→Ro):ju→Ro:=fun(p,q,a,b,c,d,e,i,j,f,k,l,m,n,g,h)=>
 let r:=fun t=>s (p,q,a,b,c,d,e,i,j,f,k,l,t,g,h)
 cond n (
 aE (nI f) (fun(u:Int)=>
 aE (kn g h a b c d e u p q) (fun o=>
 some (.int .i64 o.1,[some [.ul .atype o.2.1,.int .i64 o.2.2]])))) (
 let v:=decide (m=([97,114,114,97,121]:Bs))
 cond v (
 r true) (
 let w:=decide (m=([109,97,112]:Bs))
 r w))
def nq(N:Nat)(x:ju):Ro:=mu N (fun z=>jy N z) x
def nr(N:Nat):List (Nat×(St→Ro)):=(bP br N lA (fh (run br N))++(bP br N lB (aQ 0 (bv (run br N eF) (fin fJ)))++(bP br N eF (fin fJ)++[])))
theorem ahC(N:Nat):∀(x:ju),rQ N (iJ x)=nq N x:=by
 intro x
 have hX:∀C:Nat→St→Ro,cE C br N lA (fh (cE C br N)) (iJ x)=mu N (fun z=>C 1000001 (fS z)) x:=by
  intro C
  kernel_rfl
 have h:rQ N (iJ x)=mu N (fun z=>no N (fS z)) x:=(dh (C:=eJ (nr N)) (bU (aY (l:=(nr N)) (by kernel_rfl))) (de (eR (bU (dF (aY (l:=(nr N)) (by kernel_rfl)))) (de (eR (bU (dF (dF (aY (l:=(nr N)) (by kernel_rfl))))) rfl)))) _).trans ((hX _).trans (by kernel_rfl))
 have e1:(fun z=>no N (fS z))=(fun z=>jy N z):=funext fun z=>ahB N z
 rw[h,e1]
 rfl
def kz(N:Nat)(b:List aA)(a d f:Int)(e:Bs)(g:List aH)(h:Bss)(j:Bs)(k:Int)(s:ju→Ro):Ro:=
 let l:=fun t u r v w x=>s (j,k,d,f,e,g,h,t,u,r,v,w,r,x,b,a)
 cond (!(a==0)) (
 some (.int .i64 0,[some [.ul .atype b,.int .i64 a]])) (
 cond (decide (20<k)) (
 aE (aK b a 3) (fun m=>
 some (.int .i64 m.1,[some [.ul .atype m.2.1,.int .i64 m.2.2]]))) (
 cond (d==4) (
 aE (iu b a e j) (fun n=>
 some (.int .i64 n.1,[some [.ul .atype n.2.1,.int .i64 n.2.2]]))) (
 cond (d==5) (
 aE (km b a d f e g h j k) (fun o=>
 some (.int .i64 o.1,[some [.ul .atype o.2.1,.int .i64 o.2.2]]))) (
 cond (d==6) (
 aE (eb d f e g h ([116,121,112,101]:Bs)) (fun c=>
 cond (!c.2.2.2.2.2) (
 aE (aK b a 2) (fun p=>
 some (.int .i64 p.1,[some [.ul .atype p.2.1,.int .i64 p.2.2]]))) (
 cond (!(c.1==4)) (
 let y:=(IntKind.wrap .i64 (k+1))
 aE (dw b a c.1 c.2.1 c.2.2.1 c.2.2.2.1 c.2.2.2.2.1 j y) (fun q=>
 some (.int .i64 q.1,[some [.ul .atype q.2.1,.int .i64 q.2.2]]))) (
 let z:=decide (c.2.2.1=([114,101,99,111,114,100]:Bs))
 cond z (
 l c.1 c.2.1 c.2.2.1 c.2.2.2.1 c.2.2.2.2.1 true) (
 let x8:=decide (c.2.2.1=([101,110,117,109]:Bs))
 cond x8 (
 l c.1 c.2.1 c.2.2.1 c.2.2.2.1 c.2.2.2.2.1 true) (
 let x9:=decide (c.2.2.1=([102,105,120,101,100]:Bs))
 l c.1 c.2.1 c.2.2.1 c.2.2.2.1 c.2.2.2.2.1 x9)))))) (
 aE (aK b a 2) (fun i=>
 some (.int .i64 i.1,[some [.ul .atype i.2.1,.int .i64 i.2.2]])))))))
def aam(N:Nat)(a:List aA)(b c d:Int)(e:Bs)(f:List aH)(g:Bss)(h:Bs)(i:Int):Ro:=kz N a b c d e f g h i (fun z=>nq N z)
theorem aiW(N:Nat)(a:List aA)(c d g:Int)(i:Bs)(j:List aH)(k:Bss)(l:Bs)(m:Int)(h:Tot (aam N a c d g i j k l m) (fun z=>∃(n:Int)(o:List aA)(p:Int)(rest:List aJ),z.1.dimR=.int .i64 n∧z.2=some [.ul .atype o,.int .i64 p]::rest∧fN a c d g i j k l m (n,o,p))):∃r,dw a c d g i j k l m r:=FnC.finO (css:=[[.ul .atype a,.int .i64 c]]) akM (N:=N) ((bM _ (by kernel_rfl) rfl (fun C=>kz N a c d g i j k l m (fun z=>C 1000002 (iJ z))) (fun C=>by kernel_rfl)).trans (Eq.trans (b:=kz N a c d g i j k l m (fun z=>rQ N (iJ z))) (by kernel_rfl) (congrArg (kz N a c d g i j k l m) (funext fun z=>ahC N z)))) h fun _ ⟨n,o,p,_,e,f,q⟩=>⟨(n,o,p),e,⟨_,f⟩,q⟩
noncomputable def ax8:aN:=tab (P:=Tryz.prog) [] [oH] [] []
def awd:IR:=Rs [Bx 1 0,Pp (.new 2 [nl .atype]),Mi 3 0] (Rs [Pp (.bld 5 [.ul .atype ([]:List aA),vI 0] []),Pp (.box 6 5),Mv 4 6] (Rs [Mv 7 4,Ld 8 5 true 1,Ca 9 25 [7,8,kS [],kI 1]] (Sq (Rs [Mv 10 4,Nk 11 10,Fa 12 1 11,Lo 13 12,Bc 14 .neq 13 0] (Cn 14 (Sq (.reg [Pp (.bld 15 [nl .atype] []),Mv 16 4,Nk 17 16,Fa 18 1 17,Fo [1] [] (.ld 19 1 false false 18),Fo [] [0] (.st none 1 2 15),Mv 3 19] [[],[],[1],[1,2],[1,2,3],[0],rg 0 5]) .ret) .skip)) (Sq (.gh (.fz (.cell 1 0)) (Rg [Mv 20 4,Nk 21 20,Fa 22 0 21,Pp (.ld 23 1 true false 22),Sv 1 2 23,Mi 3 0])) .ret))))
def awe:List RV:=[.cell 2 1 true,.t 3]
theorem awf:FnC Tryz.prog ax8 [25,2000025] 0 ak8 Tryz.f12 awd awe:=fnC Tryz.func12
def aka(N:Nat)(b c:Int)(d:Bs)(e:List aH)(f:Bss):Ro:=
 let g:=fun h i j k l=>(some (.tup [.agg [.sl .atype (.may false) h],.int .i64 i],[some [j],some [k,.int .i64 l]]):Ro)
 aE (dw ([]:List aA) 0 b c d e f ([]:Bs) 1) (fun a=>
 cond (!(a.2.2==0)) (
 g ([]:List aA) a.2.2 (.sl .atype .own ([]:List aA)) (.ul .atype a.2.1) a.2.2) (
 g a.2.1 0 (.sl .atype (.may false) a.2.1) (.sl .atype .own a.2.1) a.2.2))
def akb(N:Nat)(a b:Int)(c:Bs)(d:List aH)(e:Bss):Ro:=aka N a b c d e
theorem atI(N:Nat)(a b:Int)(c:Bs)(d:List aH)(f:Bss)(h:Tot (akb N a b c d f) (fun z=>∃(g:List aA)(i:Int)(rest:List aJ),z.1.dimR=.tup [.agg [.sl .atype (.may false) g],.int .i64 i]∧z.2=rest∧yJ a b c d f (g,i))):∃r,tY a b c d f r:=awf.finP (N:=N) (by kernel_rfl) h fun _ ⟨g,i,_,e,_,q⟩=>⟨(g,i),e,q⟩
end Go.Proofs.YtdpajabhmmmjoaaGreat
end
noncomputable section
namespace Go.Proofs.YtdpajabhmmmjoaaGreat
open Go.AM
set_option autoImplicit false
set_option linter.unusedVariables false
set_option linter.unusedSimpArgs false
set_option maxRecDepth 100000
theorem nz{e c:Int}(hc:c≠0):(if e=0 then c else e)≠0:=by split<;>assumption
theorem aAF(s:List UInt8)(hs:s.length≤1000000):∃r,pX s r:=by
 apply apM 2000000
 unfold afg oX
 dsimp only
 refine bm (fun x=>x.1=s∧ -1≤x.2∧x.2<(s.length:Int)) (fun x=>(x.2+1).toNat) ?_ _ _ ⟨rfl,by simp only[aI ((s.length:Int)-1) (by omega)];omega,by simp only[aI ((s.length:Int)-1) (by omega)];omega⟩ (by simp only[aI ((s.length:Int)-1) (by omega)];omega)
 rintro again ⟨s,i⟩ ⟨rfl,i1,i2⟩ ih
 simp only at i1 i2 ih hs ⊢
 have e:=aI (i-1) (by omega)
 unfold rJ
 dsimp only
 repeat' (first|(with_reducible refine aD ?_ ?_<;>(intro hb;(try simp only[bnl] at hb);(try revert hb;intro _)))|with_reducible refine aP ?_ ?_|with_reducible refine aG ?_|fail)
 ·first|(simp only[bnl,lnl];done)|(simp only[bnl,lnl];omega)
 ·first|(simp only[bnl,lnl];done)|(simp only[bnl,lnl];omega)
 ·exact⟨_,_,rfl,rfl,by simp only[mI,List.length_drop,List.length_take];omega⟩
 ·exact ih (s,_) ⟨rfl,by simp only[e];omega,by simp only[e];omega⟩ (by simp only[e];omega)
 ·exact⟨_,_,rfl,rfl,by simp[mI]⟩
theorem aDg(ts:List aA)(t:Int):∃r,sE ts t r:=by
 apply awc 1
 unfold amN amM
 dsimp only
 repeat' (first|(with_reducible refine aD ?_ ?_<;>(intro hb;(try simp only[bnl] at hb);(try revert hb;intro _)))|with_reducible refine aP ?_ ?_|with_reducible refine aG ?_|(refine aF (aCp _) ?_;intro _ _)|fail)
 all_goals first|exact⟨_,_,rfl,rfl⟩|(first|(simp only[bnl,lnl];done)|(simp only[bnl,lnl];omega))
theorem auj(ts:List aA)(e:Int)(name space:List UInt8)(h1:name.length≤100)(h2:space.length≤10000):∃r,gL ts e name space r:=by
 apply ahq 2000
 unfold zL jk
 refine aF (aCy _ _ (by omega) (by omega)) ?_
 rintro j ⟨-,hj⟩
 dsimp only[uO] at hj ⊢
 refine bm (fun x=>x.1=name∧x.2.1.length≤name.length+space.length+1∧0≤x.2.2.1∧x.2.2.1≤(name.length:Int)∧x.2.2.2.1=ts∧x.2.2.2.2=e) (fun x=>((name.length:Int)-x.2.2.1).toNat) ?_ _ _ ⟨rfl,by simp only;omega,by simp,by simp,rfl,rfl⟩ (by simp;omega)
 rintro again ⟨name,w,i,ts,e⟩ ⟨rfl,i0,i1,i2,rfl,rfl⟩ ih
 simp only at i0 i1 i2 ih h1 hj ⊢
 have ew:i<name.length→IntKind.i64.wrap (i+1)=i+1:=fun h=>aI (i+1) (by omega)
 unfold mc
 dsimp only
 have next:∀q:List UInt8,i<name.length→q.length≤name.length+space.length+1→Tot (again (name,q,IntKind.i64.wrap (i+1),ts,e)) _:=fun q h hq=>ih (name,q,IntKind.i64.wrap (i+1),ts,e)
  (by simp only[ew h];exact⟨trivial,hq,by omega,by omega,trivial,trivial⟩) (by simp only[ew h];omega)
 repeat' (first|(with_reducible refine aD ?_ ?_<;>(intro hb;(try simp only[bnl] at hb);(try revert hb;intro _)))|with_reducible refine aP ?_ ?_|with_reducible refine aG ?_|(refine aF (dx _ _ _) ?_;rintro _ ⟨-,rfl⟩;try dsimp only)|(refine aF (aBy _ (by omega)) ?_;intro _ _)|fail)
 all_goals first|(first|(simp only[bnl,lnl];done)|(simp only[bnl,lnl];omega))|(refine next _ (by omega) (by omega))|skip
 ·refine⟨_,_,_,_,rfl,rfl,?_,rfl,fun h=>absurd h (nz (by decide))⟩
  simp only
  omega
 ·refine⟨_,_,_,_,rfl,rfl,?_,rfl,fun h=>absurd h (nz (by decide))⟩
  simp only
  omega
 ·refine⟨_,_,_,_,rfl,rfl,?_,rfl,fun h=>h⟩
  simp only
  omega
theorem apN(ts:List aA)(e c0 c1:Int)(c2:List UInt8)(c3:List aH)(c4:List (List UInt8))(name:List UInt8)(must:Bool)(h:bx (.mk c0 c1 c2 c3 c4)):∃r,eW ts e c0 c1 c2 c3 c4 name must r:=by
 obtain⟨k1,k2,k3,k4,k5,k6⟩:=h.kids
 apply aiM 1
 unfold aaj aai
 dsimp only
 refine aF (qB _ _ _ _ _ _ (by omega)) ?_
 rintro r ⟨-,hr⟩
 have hg:=vm (k:=c0) (names:=c4) (name:=name) k6
 simp only[dA] at hr
 rw[←hr] at hg
 obtain⟨g1,g2,g3,g4,g5,g6⟩:=hg.kids
 repeat' (first|(with_reducible refine aD ?_ ?_<;>(intro hb;(try simp only[bnl] at hb);(try revert hb;intro _)))|with_reducible refine aP ?_ ?_|with_reducible refine aG ?_|(refine aF (dx _ _ _) ?_;rintro _ ⟨-,rfl⟩;try dsimp only)|fail)
 all_goals first|exact⟨_,_,_,_,rfl,rfl,g1,rfl,fun h=>h⟩|exact⟨_,_,_,_,rfl,rfl,Nat.zero_le _,rfl,fun h=>h⟩|exact⟨_,_,_,_,rfl,rfl,Nat.zero_le _,rfl,fun h=>absurd h (nz (by decide))⟩
theorem amP(ts:List aA)(e c0 c1:Int)(c2:List UInt8)(c3:List aH)(c4:List (List UInt8))(name:List UInt8)(h:bx (.mk c0 c1 c2 c3 c4)):∃r,ee ts e c0 c1 c2 c3 c4 name r:=by
 obtain⟨k1,k2,k3,k4,k5,k6⟩:=h.kids
 apply ahs 2000
 unfold zN jm
 refine aF (qB _ _ _ _ _ _ (by omega)) ?_
 rintro r ⟨-,hr⟩
 have hg:=vm (k:=c0) (names:=c4) (name:=name) k6
 simp only[dA] at hr
 rw[←hr] at hg
 obtain⟨d0,d1,d2,l,d4,d5⟩:=r
 obtain⟨g1,g2,g3,g4,g5,g6⟩:=hg.kids
 dsimp only at g2 g6 ⊢
 have loop:∀e1:Int,(e1=0→e=0)→Tot (aS 2000 (iD 2000) (d0,d1,d2,l,d4,[],0,ts,e1)) (fun z=>∃(y0:List (List UInt8))(y1:Bool)(y2:List aA)(y3:Int)(rest:List aJ),z.1.dimR=.tup [.sl .str (.may false) y0,.bool y1]∧z.2=some [.ul .atype y2,.int .i64 y3]::rest∧pa ts e c0 c1 c2 c3 c4 name (y0,y1,y2,y3)):=by
  intro e1 he1
  refine bm (fun x=>x.2.2.2.1=l∧(x.2.2.2.2.2.1.length:Int)=x.2.2.2.2.2.2.1∧x.2.2.2.2.2.2.1≤(l.length:Int)∧du x.2.2.2.2.2.1∧x.2.2.2.2.2.2.2.1=ts∧(x.2.2.2.2.2.2.2.2=0→e=0)) (fun x=>((l.length:Int)-x.2.2.2.2.2.2.1).toNat) ?_ _ _ ⟨rfl,rfl,by simp,by simp[du],rfl,he1⟩ (by simp;omega)
  rintro again ⟨d0,d1,d2,l,d4,out,i,ts,e1⟩ ⟨rfl,i1,i2,i3,rfl,i4⟩ ih
  simp only at i1 i2 i3 i4 ih g2 g6 ⊢
  have ew:i<l.length→IntKind.i64.wrap (i+1)=i+1:=fun h=>aI (i+1) (by omega)
  unfold iD
  dsimp only
  have next:∀e2:Int,i<l.length→(e2=0→e=0)→Tot (again (d0,d1,d2,l,d4,out++[(List.getD l (Int.toNat i) (aC .jnode)).s],IntKind.i64.wrap (i+1),ts,e2)) _:=fun e2 h hq=>ih (d0,d1,d2,l,d4,out++[(List.getD l (Int.toNat i) (aC .jnode)).s],IntKind.i64.wrap (i+1),ts,e2)
   (by
    simp only[ew h,List.length_append,List.length_cons,List.length_nil]
    refine⟨trivial,by omega,by omega,?_,trivial,hq⟩
    intro x hx
    rcases List.mem_append.1 hx with hx|hx
    ·exact i3 x hx
    ·simp only[List.mem_singleton] at hx
     subst hx
     exact(bx.eta.2 (bx.getD g6 i.toNat)).kids.1) (by simp only[ew h];omega)
  repeat' (first|(with_reducible refine aD ?_ ?_<;>(intro hb;(try simp only[bnl] at hb);(try revert hb;intro _)))|with_reducible refine aP ?_ ?_|with_reducible refine aG ?_|(refine aF (dx _ _ _) ?_;rintro _ ⟨-,rfl⟩;try dsimp only)|fail)
  all_goals first|(first|(simp only[bnl,lnl];done)|(simp only[bnl,lnl];omega))|(refine next _ (by omega) ?_)|skip
  ·exact fun h=>absurd h (nz (by decide))
  ·exact i4
  ·exact⟨_,_,_,_,_,rfl,rfl,by simp only;omega,i3,rfl,i4⟩
  ·exact⟨_,_,_,_,_,rfl,rfl,by simp only;omega,i3,rfl,i4⟩
 repeat' (first|(with_reducible refine aD ?_ ?_<;>(intro hb;(try simp only[bnl] at hb);(try revert hb;intro _)))|with_reducible refine aP ?_ ?_|with_reducible refine aG ?_|(refine aF (dx _ _ _) ?_;rintro _ ⟨-,rfl⟩;try dsimp only)|fail)
 ·exact⟨_,_,_,_,_,rfl,rfl,by simp,by simp[du],rfl,fun h=>h⟩
 ·exact loop _ fun h=>absurd h (nz (by decide))
 ·exact loop _ fun h=>h
theorem auk(ts:List aA)(e:Int)(s space:List UInt8)(h:ts.length≤60)(h1:s.length≤100)(h2:space.length≤10000):∃r,iu ts e s space r:=by
 apply aiQ 2000
 unfold aal kw
 have loop:Tot (aS 2000 (jo 2000) (s,space,false,0,ts,e)) (fun z=>∃(y0:Int)(y1:List aA)(y2:Int)(rest:List aJ),z.1.dimR=.int .i64 y0∧z.2=some [.ul .atype y1,.int .i64 y2]::rest∧pW ts e s space (y0,y1,y2)):=by
  refine bm (fun x=>x.1=s∧x.2.1=space∧0≤x.2.2.2.1∧x.2.2.2.1≤(s.length:Int)∧x.2.2.2.2.1=ts∧x.2.2.2.2.2=e) (fun x=>((s.length:Int)-x.2.2.2.1).toNat) ?_ _ _ ⟨rfl,rfl,by simp,by simp,rfl,rfl⟩ (by simp;omega)
  rintro again ⟨s,space,d,i,ts,e⟩ ⟨rfl,rfl,i1,i2,rfl,rfl⟩ ih
  simp only at i1 i2 ih h h1 h2 ⊢
  have ew:i<s.length→IntKind.i64.wrap (i+1)=i+1:=fun h=>aI (i+1) (by omega)
  unfold jo
  dsimp only
  have next:∀b:Bool,i<s.length→Tot (again (s,space,b,IntKind.i64.wrap (i+1),ts,e)) _:=fun b h=>ih (s,space,b,IntKind.i64.wrap (i+1),ts,e)
   (by simp only[ew h];exact⟨trivial,trivial,by omega,by omega,trivial,trivial⟩) (by simp only[ew h];omega)
  repeat' (first|(with_reducible refine aD ?_ ?_<;>(intro hb;(try simp only[bnl] at hb);(try revert hb;intro _)))|with_reducible refine aP ?_ ?_|with_reducible refine aG ?_|(refine aF (dx _ _ _) ?_;rintro _ ⟨-,rfl⟩;try dsimp only)|(refine aF (axH _ _ _ h) ?_;rintro⟨a,b,ts',e'⟩ ⟨-,hq,hf⟩;simp only[Prod.mk.injEq] at hq;obtain⟨rfl,rfl⟩:=hq;dsimp only at hf ⊢)|fail)
  all_goals first|(first|(simp only[bnl,lnl];done)|(simp only[bnl,lnl];omega))|(refine next _ (by omega))|exact⟨_,_,_,_,rfl,rfl,bX.bad h (nz (by decide)),fun h=>absurd h (nz (by decide))⟩|exact⟨_,_,_,_,rfl,rfl,bX.refl h,fun _=>hf (by assumption)⟩
 refine aF (apE _) ?_
 rintro(k:Int) ⟨-,hk1,hk2,hk3⟩
 repeat' (first|(with_reducible refine aD ?_ ?_<;>(intro hb;(try simp only[bnl] at hb);(try revert hb;intro _)))|with_reducible refine aP ?_ ?_|with_reducible refine aG ?_|(refine aF (am6 _ _ _ _ _ _ _ _ _ _ _ _ h) ?_;rintro _ ⟨-,rfl⟩;try dsimp only)|fail)
 ·by_cases hl:60≤ts.length
  ·skip
   simp only[if_pos hl]
   exact⟨_,_,_,_,rfl,rfl,bX.bad h (nz (by decide)),fun h=>absurd h (nz (by decide))⟩
  ·simp only[if_neg hl]
   refine⟨_,_,_,_,rfl,rfl,bX.push (by omega) _ ⟨by simp only;omega,by simp,by simp,by simp,by simp,by simp,by simp,(fun h=>by simp only at h;omega),(by simp only;omega),(fun h=>by simp only at h;omega),fun _=>rfl⟩,fun _=>?_⟩
   simp only[List.length_append,List.length_cons,List.length_nil]
   omega
 ·exact loop
 ·exact loop
end Go.Proofs.YtdpajabhmmmjoaaGreat
end
noncomputable section
namespace Go.Proofs.YtdpajabhmmmjoaaGreat
open Go.AM
set_option autoImplicit false
set_option linter.unusedVariables false
set_option linter.unusedSimpArgs false
set_option maxRecDepth 100000
theorem qO{α:Type}{l:List α}{i:Nat}{x d:α}(h:l[i]? =some x):l.getD i d=x:=by
 rw[List.getD_eq_getElem?_getD,h];rfl
theorem azh{α:Type}{l:List α}{i:Nat}{x d:α}(h:i<l.length):(l.set i x).getD i d=x:=qO (List.getElem?_set_self h)
theorem azi(ts:List aA)(e c0 c1:Int)(c2:List UInt8)(c3:List aH)(c4:List (List UInt8))(at_:Int)(h:bx (.mk c0 c1 c2 c3 c4))(hat:e=0→0≤at_∧at_<ts.length):∃r,iv ts e c0 c1 c2 c3 c4 at_ r:=by
 obtain⟨k1,k2,k3,k4,k5,k6⟩:=h.kids
 apply aev 2000
 unfold wO ig
 dsimp only
 refine aF (amP _ _ _ _ _ _ _ _ h) ?_
 rintro⟨l,is,ts',e1⟩ ⟨-,h1,h2,rfl,h3⟩
 dsimp only at h1 h2 h3 hat ⊢
 have loop2:∀(hd:Bool)(d:List UInt8)(e1:Int),(e1=0→e=0∧l≠[])→Tot (aS 2000 (fc 2000) (at_,l,hd,d,false,0,ts',e1)) (fun z=>∃(y0:List aA)(y1:Int)(rest:List aJ),z.1.dimR=.tup []∧z.2=some [.ul .atype y0,.int .i64 y1]::rest∧eN ts' e c0 c1 c2 c3 c4 at_ (y0,y1)):=by
  intro hd d e1 he1
  refine bm (fun x=>match x with|(a,l',hd',d',b,i,ts2,e2)=>a=at_∧l'=l∧hd'=hd∧d'=d∧0≤i∧i≤(l.length:Int)∧ts2=ts'∧e2=e1) (fun x=>((l.length:Int)-x.2.2.2.2.2.1).toNat) ?_ _ _ ⟨rfl,rfl,rfl,rfl,by simp,by simp,rfl,rfl⟩ (by simp;omega)
  rintro again ⟨a,l',hd',d',b,i,ts2,e2⟩ ⟨rfl,rfl,rfl,rfl,i1,i2,rfl,rfl⟩ ih
  dsimp only at ih
  have ew:i<l'.length→IntKind.i64.wrap (i+1)=i+1:=fun h=>aI (i+1) (by omega)
  have next:∀b:Bool,i<l'.length→Tot (again (a,l',hd',d',b,IntKind.i64.wrap (i+1),ts2,e2)) _:=fun b h=>ih (a,l',hd',d',b,IntKind.i64.wrap (i+1),ts2,e2)
   (by simp only[ew h];exact⟨trivial,trivial,trivial,trivial,by omega,by omega,trivial,trivial⟩) (by simp only[ew h];omega)
  unfold fc
  dsimp only
  have fin:∀(h0:e2=0)(e3:Int),e3=e2→eN ts2 e c0 c1 c2 c3 c4 a (List.set (List.set (List.set ts2 (Int.toNat a) (let e_:=List.getD ts2 (Int.toNat a) (aC .atype);⟨(e_).kind,(e_).name,(e_).aliases,(e_).items,l',(e_).hasdef,(e_).df,(e_).size,(e_).fields,(e_).branches⟩)) (Int.toNat a) (let e_:=List.getD (List.set ts2 (Int.toNat a) (let e_:=List.getD ts2 (Int.toNat a) (aC .atype);⟨(e_).kind,(e_).name,(e_).aliases,(e_).items,l',(e_).hasdef,(e_).df,(e_).size,(e_).fields,(e_).branches⟩)) (Int.toNat a) (aC .atype);⟨(e_).kind,(e_).name,(e_).aliases,(e_).items,(e_).syms,hd',(e_).df,(e_).size,(e_).fields,(e_).branches⟩)) (Int.toNat a) (let e_:=List.getD (List.set (List.set ts2 (Int.toNat a) (let e_:=List.getD ts2 (Int.toNat a) (aC .atype);⟨(e_).kind,(e_).name,(e_).aliases,(e_).items,l',(e_).hasdef,(e_).df,(e_).size,(e_).fields,(e_).branches⟩)) (Int.toNat a) (let e_:=List.getD (List.set ts2 (Int.toNat a) (let e_:=List.getD ts2 (Int.toNat a) (aC .atype);⟨(e_).kind,(e_).name,(e_).aliases,(e_).items,l',(e_).hasdef,(e_).df,(e_).size,(e_).fields,(e_).branches⟩)) (Int.toNat a) (aC .atype);⟨(e_).kind,(e_).name,(e_).aliases,(e_).items,(e_).syms,hd',(e_).df,(e_).size,(e_).fields,(e_).branches⟩)) (Int.toNat a) (aC .atype);⟨(e_).kind,(e_).name,(e_).aliases,(e_).items,(e_).syms,(e_).hasdef,d',(e_).size,(e_).fields,(e_).branches⟩),e3):=by
   rintro h0 e3 rfl
   have ha:=hat (he1 h0).1
   have hl:a.toNat<ts2.length:=by omega
   refine⟨fun h=>(he1 h).1,fun h=>absurd h0 h,fun _=>⟨l',hd',d',(he1 h0).2,h1,ts2[a.toNat],List.getElem?_eq_getElem hl,?_⟩⟩
   have g:∀x:aA,(ts2.set a.toNat x).getD a.toNat (aC .atype)=x:=fun x=>azh hl
   have g0:ts2.getD a.toNat (aC .atype)=ts2[a.toNat]:=qO (List.getElem?_eq_getElem hl)
   simp only[List.set_set,g,g0]
  repeat' (first|(with_reducible refine aD ?_ ?_<;>(intro hb;(try simp only[bnl] at hb);(try revert hb;intro _)))|with_reducible refine aP ?_ ?_|with_reducible refine aG ?_|(refine aF (dx _ _ _) ?_;rintro _ ⟨-,rfl⟩;try dsimp only)|fail)
  all_goals first|(refine next _ (by omega))|skip
  all_goals have hat':e2=0→0≤a∧a<ts2.length:=fun h=>hat (he1 h).1
  all_goals first|(first|(simp only[bnl,lnl];done)|(simp only[bnl,lnl];omega))|skip
  all_goals first|exact⟨_,_,_,rfl,rfl,fun h=>(he1 h).1,fun _=>rfl,fun h=>absurd h (by assumption)⟩|exact⟨_,_,_,rfl,rfl,fun h=>absurd h (nz (by decide)),fun _=>rfl,fun h=>absurd h (nz (by decide))⟩|exact⟨_,_,_,rfl,rfl,fin (by assumption) _ rfl⟩|(exfalso;exact nz (by decide) (by assumption))|skip
 have loop1:∀(e1:Int),(e1=0→e=0∧l≠[])→Tot (aS 2000 (gz 2000) (at_,c0,c1,c2,c3,c4,l,0,ts',e1)) (fun z=>∃(y0:List aA)(y1:Int)(rest:List aJ),z.1.dimR=.tup []∧z.2=some [.ul .atype y0,.int .i64 y1]::rest∧eN ts' e c0 c1 c2 c3 c4 at_ (y0,y1)):=by
  intro e1 he1
  refine bm (fun x=>match x with|(a,d0,d1,d2,d3,d4,l',i,ts2,e2)=>a=at_∧d0=c0∧d1=c1∧d2=c2∧d3=c3∧d4=c4∧l'=l∧0≤i∧i≤(l.length:Int)∧ts2=ts'∧(e2=0→e=0∧l≠[])) (fun x=>((l.length:Int)-x.2.2.2.2.2.2.2.1).toNat) ?_ _ _ ⟨rfl,rfl,rfl,rfl,rfl,rfl,rfl,by simp,by simp,rfl,he1⟩ (by simp;omega)
  rintro again ⟨a,d0,d1,d2,d3,d4,l',i,ts2,e2⟩ ⟨rfl,rfl,rfl,rfl,rfl,rfl,rfl,i1,i2,rfl,i3⟩ ih
  dsimp only at ih
  have ew:i<l'.length→IntKind.i64.wrap (i+1)=i+1:=fun h=>aI (i+1) (by omega)
  have next:∀e2:Int,i<l'.length→(e2=0→e=0∧l'≠[])→Tot (again (a,d0,d1,d2,d3,d4,l',IntKind.i64.wrap (i+1),ts2,e2)) _:=fun e2 h he=>ih (a,d0,d1,d2,d3,d4,l',IntKind.i64.wrap (i+1),ts2,e2)
   (by simp only[ew h];exact⟨trivial,trivial,trivial,trivial,trivial,trivial,trivial,by omega,by omega,trivial,he⟩) (by simp only[ew h];omega)
  have inner:∀e2:Int,i<l'.length→(e2=0→e=0∧l'≠[])→Tot (aS 2000 (fb 2000 again) (a,d0,d1,d2,d3,d4,l',i,0,ts2,e2)) (fun z=>∃(y0:List aA)(y1:Int)(rest:List aJ),z.1.dimR=.tup []∧z.2=some [.ul .atype y0,.int .i64 y1]::rest∧eN ts2 e d0 d1 d2 d3 d4 a (y0,y1)):=by
   intro e2 hi he
   refine bm (fun x=>match x with|(a',b0,b1,b2,b3,b4,l2,i',k,ts3,e3)=>a'=a∧b0=d0∧b1=d1∧b2=d2∧b3=d3∧b4=d4∧l2=l'∧i'=i∧0≤k∧k≤i∧ts3=ts2∧(e3=0→e=0∧l'≠[])) (fun x=>(i-x.2.2.2.2.2.2.2.2.1).toNat) ?_ _ _ ⟨rfl,rfl,rfl,rfl,rfl,rfl,rfl,rfl,by simp,i1,rfl,he⟩ (by simp only;omega)
   rintro again1 ⟨a',b0,b1,b2,b3,b4,l2,i',k,ts3,e3⟩ ⟨rfl,rfl,rfl,rfl,rfl,rfl,rfl,rfl,j1,j2,rfl,j3⟩ ih1
   dsimp only at ih1
   have ek:k<i'→IntKind.i64.wrap (k+1)=k+1:=fun h=>aI (k+1) (by omega)
   have next1:∀e2:Int,k<i'→(e2=0→e=0∧l2≠[])→Tot (again1 (a',b0,b1,b2,b3,b4,l2,i',IntKind.i64.wrap (k+1),ts3,e2)) _:=fun e2 h he=>ih1 (a',b0,b1,b2,b3,b4,l2,i',IntKind.i64.wrap (k+1),ts3,e2)
    (by simp only[ek h];exact⟨trivial,trivial,trivial,trivial,trivial,trivial,trivial,trivial,by omega,by omega,trivial,he⟩) (by simp only[ek h];omega)
   unfold fb
   dsimp only
   repeat' (first|(with_reducible refine aD ?_ ?_<;>(intro hb;(try simp only[bnl] at hb);(try revert hb;intro _)))|with_reducible refine aP ?_ ?_|with_reducible refine aG ?_|(refine aF (dx _ _ _) ?_;rintro _ ⟨-,rfl⟩;try dsimp only)|fail)
   all_goals first|(first|(simp only[bnl,lnl];done)|(simp only[bnl,lnl];omega))|exact next1 _ (by omega) j3|exact next1 _ (by omega) (fun h=>absurd h (nz (by decide)))|exact next _ hi j3
  unfold gz jn
  dsimp only
  repeat' (first|(with_reducible refine aD ?_ ?_<;>(intro hb;(try simp only[bnl] at hb);(try revert hb;intro _)))|with_reducible refine aP ?_ ?_|with_reducible refine aG ?_|(refine aF (dx _ _ _) ?_;rintro _ ⟨-,rfl⟩;try dsimp only)|(refine aF (aiC _ ?_) ?_;rotate_left;intro _ _)|(refine aF (qB _ _ _ _ _ _ (by omega)) ?_;intro _ _)|(refine aF (apN _ _ _ _ _ _ _ _ _ h) ?_;rintro⟨w,ts4,e4⟩ ⟨-,w1,rfl,w2⟩;dsimp only at w2 ⊢)|fail)
  all_goals first|(first|(simp only[bnl,lnl];done)|(simp only[bnl,lnl];omega))|exact inner _ (by omega) i3|exact inner _ (by omega) (fun h=>absurd h (nz (by decide)))|exact loop2 _ _ _ (fun h=>i3 (w2 h))|skip
  ·have:(l'.getD i.toNat (aC .str)).length≤100:=by
    rw[List.getD_eq_getElem?_getD]
    cases hq:l'[i.toNat]? with
    |none=>exact Nat.zero_le _
    |some y=>exact h2 y (List.mem_of_getElem? hq)
   omega
 have nz':∀{e c:Int},c≠0→(if e=0 then c else e)=0→∀{p:Prop},p:=fun hc h=>absurd h (nz hc)
 repeat' (first|(with_reducible refine aD ?_ ?_<;>(intro hb;(try simp only[bnl] at hb);(try revert hb;intro _)))|with_reducible refine aP ?_ ?_|with_reducible refine aG ?_|(refine aF (dx _ _ _) ?_;rintro _ ⟨-,rfl⟩;try dsimp only)|fail)
 all_goals first|exact loop1 _ (fun h=>absurd h (nz (by decide)))|skip
 all_goals refine loop1 _ (fun h=>⟨h3 h,fun hl=>?_⟩)
 all_goals subst hl;simp at*
end Go.Proofs.YtdpajabhmmmjoaaGreat
end
noncomputable section
namespace Go.Proofs.YtdpajabhmmmjoaaGreat
open Go.AM
set_option autoImplicit false
set_option linter.unusedVariables false
set_option linter.unusedSimpArgs false
set_option maxRecDepth 100000
def ac8(deep:Int):Prop:=∀(ts:List aA)(e c0 c1:Int)(c2:List UInt8)(c3:List aH)(c4:List (List UInt8))(space:List UInt8),
 ts.length≤60→bx (.mk c0 c1 c2 c3 c4)→(space.length:Int)≤202*deep→∃r,dw ts e c0 c1 c2 c3 c4 space deep r
theorem bX.stuck{ts ts':List aA}{e e':Int}(h1:ts.length≤ts'.length)(h2:ts'.length≤60)(he:e'≠0):bX ts e ts' e':=
 ⟨h1,h2,fun h=>absurd h he,fun h=>absurd h he,fun h=>absurd h he⟩
structure nX(ts:List aA)(e:Int)(t0:aA)(at_:Int)(ts2:List aA)(e2:Int):Prop where
 len:ts.length≤ts2.length
 cap:ts2.length≤60
 grow:e2=0→at_=ts.length∧bX (ts++[t0]) e ts2 e2
theorem nX.add{ts:List aA}{e:Int}{t0:aA}(h:ts.length≤60){r:Int×List aA×Int}(hr:r=if 60≤ts.length then (0,ts,if e=0 then 3 else e) else ((ts.length:Int),ts++[t0],e)):nX ts e t0 r.1 r.2.1 r.2.2:=by
 by_cases hl:60≤ts.length
 ·rw[if_pos hl] at hr
  subst hr
  exact⟨Nat.le_refl _,h,fun h=>absurd h (nz (by decide))⟩
 ·rw[if_neg hl] at hr
  subst hr
  exact⟨by simp,by simp;omega,fun h=>⟨rfl,bX.refl (by simp;omega)⟩⟩
theorem nX.more{ts ts2 ts3:List aA}{e e2 e3:Int}{t0:aA}{a:Int}(h:nX ts e t0 a ts2 e2)(h':bX ts2 e2 ts3 e3):nX ts e t0 a ts3 e3:=
 ⟨Nat.le_trans h.len h'.len,h'.cap,fun he=>⟨(h.grow (h'.err he)).1,(h.grow (h'.err he)).2.trans h'⟩⟩
theorem nX.bad{ts ts2:List aA}{e e2 e3:Int}{t0:aA}{a:Int}(h:nX ts e t0 a ts2 e2)(he:e3≠0):nX ts e t0 a ts2 e3:=
 ⟨h.len,h.cap,fun h'=>absurd h' he⟩
theorem nX.stuck{ts ts2:List aA}{e e2:Int}{t0:aA}{a:Int}(h:nX ts e t0 a ts2 e2)(he:e2≠0):bX ts e ts2 e2:=bX.stuck h.len h.cap he
theorem nX.range{ts ts2:List aA}{e e2:Int}{t0:aA}{a:Int}(h:nX ts e t0 a ts2 e2)(he:e2=0):0≤a∧a<ts2.length:=by
 obtain⟨rfl,g⟩:=h.grow he
 have:=g.len
 simp only[List.length_append,List.length_singleton] at this
 omega
theorem nX.done{ts ts2:List aA}{e e2:Int}{t0 t:aA}{a:Int}(h:nX ts e t0 a ts2 e2)(he:e2=0)(ht:iR ts2.length t):bX ts e (ts2.set a.toNat t) e2:=by
 obtain⟨rfl,g⟩:=h.grow he
 rw[Int.toNat_natCast]
 exact g.close ht
theorem nX.get{ts ts2:List aA}{e e2:Int}{t0:aA}{a:Int}(h:nX ts e t0 a ts2 e2)(he:e2=0):ts2[a.toNat]? =some t0:=by
 obtain⟨rfl,g⟩:=h.grow he
 rw[Int.toNat_natCast]
 exact g.at_open he
theorem nX.kept{ts ts2:List aA}{e e2:Int}{t0:aA}{a:Int}(h:nX ts e t0 a ts2 e2)(ht:iR (ts.length+1) t0):bX ts e ts2 e2:=by
 by_cases he:e2=0
 ·obtain⟨rfl,g⟩:=h.grow he
  have:=g.len
  have:=g.cap
  simp only[List.length_append,List.length_singleton] at*
  exact(bX.push (by omega) t0 ht).trans g
 ·exact h.stuck he
theorem aBJ(deep:Int)(hd:1≤deep∧deep≤20)(hT:ac8 (deep+1))(ts:List aA)(e c0 c1:Int)(c2:List UInt8)(c3:List aH)(c4:List (List UInt8))(space:List UInt8)
  (h:ts.length≤60) (hn:bx (.mk c0 c1 c2 c3 c4)) (hs:(space.length:Int)≤202*deep):∃r,km ts e c0 c1 c2 c3 c4 space deep r:=by
 obtain⟨k1,k2,k3,k4,k5,k6⟩:=hn.kids
 apply ahv 2000
 unfold zO jp
 dsimp only
 refine aF (am6 _ _ _ _ _ _ _ _ _ _ _ _ h) ?_
 rintro r ⟨-,hr⟩
 have ho:=nX.add h hr
 clear hr
 obtain⟨a,ts1,e1⟩:=r
 dsimp only at ho ⊢
 repeat' (first|(with_reducible refine aD ?_ ?_<;>(intro hb;(try simp only[bnl] at hb);(try revert hb;intro _)))|with_reducible refine aP ?_ ?_|with_reducible refine aG ?_|(refine aF (dx _ _ _) ?_;rintro _ ⟨-,rfl⟩;try dsimp only)|fail)
 ·exact⟨_,_,_,_,rfl,rfl,ho.bad (nz (by decide)) |>.stuck (nz (by decide)),fun h=>absurd h (nz (by decide))⟩
 ·exact⟨_,_,_,_,rfl,rfl,ho.bad (nz (by decide)) |>.stuck (nz (by decide)),fun h=>absurd h (nz (by decide))⟩
 rename_i hl1 hl2
 refine bm (fun x=>match x with|(sp,dp,d0,d1,d2,l,d4,a',bs,i,ts2,e2)=>sp=space∧dp=deep∧l=c3∧a'=a∧(bs.length:Int)=i∧i≤(c3.length:Int)∧(∀b∈bs,0≤b∧b<(ts2.length:Int))∧nX ts e ⟨14,[],[],0,[],false,[],0,[],[]⟩ a ts2 e2) (fun x=>((c3.length:Int)-x.2.2.2.2.2.2.2.2.2.1).toNat) ?_ _ _
  ⟨rfl,rfl,rfl,rfl,rfl,by simp,by simp,ho⟩ (by simp;omega)
 rintro again ⟨sp,dp,d0,d1,d2,l,d4,a',bs,i,ts2,e2⟩ ⟨rfl,rfl,rfl,rfl,i1,i2,i3,i4⟩ ih
 dsimp only at ih
 have ew:i<l.length→IntKind.i64.wrap (i+1)=i+1:=fun h=>aI (i+1) (by omega)
 have ed:IntKind.i64.wrap (dp+1)=dp+1:=aI (dp+1) (by omega)
 unfold mj ll
 dsimp only
 have fin:e2=0→i=l.length→iR ts2.length (let e_:=List.getD ts2 (Int.toNat a') (aC .atype);⟨(e_).kind,(e_).name,(e_).aliases,(e_).items,(e_).syms,(e_).hasdef,(e_).df,(e_).size,(e_).fields,bs⟩):=by
  intro h0 hi
  rw[qO (i4.get h0)]
  have hr:=i4.range h0
  exact⟨⟨by simp,by simp only;omega⟩,by simp,by simp,i3,by simp only;omega,by simp,by simp,fun _ hb=>by
   have hb:bs=[]:=hb
   rw[hb] at i1
   simp at i1
   omega,by simp,by simp,fun _=>rfl⟩
 have hat:e2=0→0≤a'∧a'<ts2.length:=fun h0=>i4.range h0
 repeat' (first|(with_reducible refine aD ?_ ?_<;>(intro hb;(try simp only[bnl] at hb);(try revert hb;intro _)))|with_reducible refine aP ?_ ?_|with_reducible refine aG ?_|(refine aF (dx _ _ _) ?_;rintro _ ⟨-,rfl⟩;try dsimp only)|fail)
 all_goals try simp only[ed]
 ·first|(simp only[bnl,lnl];done)|(simp only[bnl,lnl];omega)
 ·have hkid:=bx.eta.2 (bx.getD k6 i.toNat)
  refine aF (hT _ _ _ _ _ _ _ _ i4.cap hkid (by omega)) ?_
  rintro⟨k,ts3,e3⟩ ⟨-,g1,g2⟩
  dsimp only at g1 g2 ⊢
  have i5:=i4.more g1
  have hl3:=g1.len
  repeat' (first|(with_reducible refine aD ?_ ?_<;>(intro hb;(try simp only[bnl] at hb);(try revert hb;intro _)))|with_reducible refine aP ?_ ?_|with_reducible refine aG ?_|(refine aF (dx _ _ _) ?_;rintro _ ⟨-,rfl⟩;try dsimp only)|fail)
  ·rename_i he3
   exact⟨_,_,_,_,rfl,rfl,i5.stuck he3,fun h=>absurd h he3⟩
  ·have:=g2 (by assumption);first|(simp only[bnl,lnl];done)|(simp only[bnl,lnl];omega)
  ·have:=g2 (by assumption);first|(simp only[bnl,lnl];done)|(simp only[bnl,lnl];omega)
  ·have:=g2 (by assumption);first|(simp only[bnl,lnl];done)|(simp only[bnl,lnl];omega)
  ·first|(simp only[bnl,lnl];done)|(simp only[bnl,lnl];omega)
  ·exact⟨_,_,_,_,rfl,rfl,(i5.bad (nz (by decide))).stuck (nz (by decide)),fun h=>absurd h (nz (by decide))⟩
  ·rename_i he3 hk
   have g2':=g2 he3
   refine bm (fun x=>match x with|(sp',dp',d0,d1,d2,l',d4,a2,bs',i',k',m,ts4,e4)=>sp'=sp∧dp'=dp∧l'=l∧a2=a'∧bs'=bs∧i'=i∧k'=k∧0≤m∧m≤(bs.length:Int)∧ts4=ts3∧e4=e3) (fun x=>((bs.length:Int)-x.2.2.2.2.2.2.2.2.2.2.2.1).toNat) ?_ _ _
    ⟨rfl,rfl,rfl,rfl,rfl,rfl,rfl,by simp,by simp,rfl,rfl⟩ (by simp;omega)
   rintro again1 ⟨sp',dp',d0',d1',d2',l',d4',a2,bs',i',k',m,ts4,e4⟩ ⟨rfl,rfl,rfl,rfl,rfl,rfl,rfl,j1,j2,rfl,rfl⟩ ih1
   dsimp only at ih1
   have em:m<bs'.length→IntKind.i64.wrap (m+1)=m+1:=fun h=>aI (m+1) (by omega)
   unfold iE
   dsimp only
   repeat' (first|(with_reducible refine aD ?_ ?_<;>(intro hb;(try simp only[bnl] at hb);(try revert hb;intro _)))|with_reducible refine aP ?_ ?_|with_reducible refine aG ?_|(refine aF (dx _ _ _) ?_;rintro _ ⟨-,rfl⟩;try dsimp only)|(refine azF ?_ (aDg _ _) ?_;rotate_left;intro _ _)|fail)
   all_goals first|(first|(simp only[bnl,lnl];done)|(simp only[bnl,lnl];omega))|exact⟨_,_,_,_,rfl,rfl,(i5.bad (nz (by decide))).stuck (nz (by decide)),fun h=>absurd h (nz (by decide))⟩|skip
   ·rename_i hm _ _ _ _ _
    refine ih1 (sp',dp',d0',d1',d2',l',d4',a2,bs',i',k',_,ts4,e4) ?_ ?_
    ·simp only[em hm];exact⟨trivial,trivial,trivial,trivial,trivial,trivial,trivial,by omega,by omega,trivial,trivial⟩
    ·simp only[em hm];omega
   ·have hil:i'<l'.length:=by omega
    refine ih (sp',dp',d0',d1',d2',l',d4',a2,_,_,ts4,e4) ?_ ?_
    ·simp only[ew hil,List.length_append,List.length_cons,List.length_nil]
     refine⟨trivial,trivial,trivial,trivial,by omega,by omega,?_,i5⟩
     intro b hb
     rcases List.mem_append.1 hb with hb|hb
     ·have:=i3 b hb;omega
     ·simp only[List.mem_singleton] at hb
      subst hb;exact g2'
    ·simp only[ew hil];omega
 all_goals first|(exfalso;omega)|skip
 all_goals have hat2:=fun h0=>hat h0
 all_goals first|(first|(simp only[bnl,lnl];done)|(simp only[bnl,lnl];omega))|skip
 ·rename_i h0
  exact⟨_,_,_,_,rfl,rfl,i4.stuck h0,fun h=>absurd h h0⟩
 ·rename_i h0
  have hr:=i4.range h0
  exact⟨_,_,_,_,rfl,rfl,i4.done h0 (fin h0 (by omega)),fun _=>by simpa using hr⟩
 ·rename_i h0
  exact⟨_,_,_,_,rfl,rfl,i4.stuck h0,fun h=>absurd h h0⟩
end Go.Proofs.YtdpajabhmmmjoaaGreat
end
noncomputable section
namespace Go.Proofs.YtdpajabhmmmjoaaGreat
open Go.AM
set_option autoImplicit false
set_option linter.unusedVariables false
set_option linter.unusedSimpArgs false
set_option maxRecDepth 100000
theorem aiX{l:List (List UInt8)}(h:du l)(i:Nat):(l.getD i (aC .str)).length≤100:=by
 rw[List.getD_eq_getElem?_getD]
 cases hq:l[i]? with
 |none=>exact Nat.zero_le _
 |some y=>exact h y (List.mem_of_getElem? hq)
def xQ(m:Nat)(l:List aO):Prop:=l.length≤8∧∀f∈l,0≤f.typ∧f.typ<m∧bx f.df
theorem xQ.mono{m m':Nat}{l:List aO}(h:xQ m l)(hm:m≤m'):xQ m' l:=
 ⟨h.1,fun f hf=>⟨(h.2 f hf).1,by have:=(h.2 f hf).2.1;omega,(h.2 f hf).2.2⟩⟩
theorem aAG(deep:Int)(hd:1≤deep∧deep≤20)(hT:ac8 (deep+1))(ts:List aA)(e c0 c1:Int)(c2:List UInt8)(c3:List aH)(c4:List (List UInt8))(at_:Int)(space:List UInt8)
  (h:ts.length≤60) (hn:bx (.mk c0 c1 c2 c3 c4)) (hs:(space.length:Int)≤202*deep+201) (hat:e=0→0≤at_∧at_<ts.length):∃r,iT ts e c0 c1 c2 c3 c4 at_ space deep r:=by
 obtain⟨k1,k2,k3,k4,k5,k6⟩:=hn.kids
 apply afY 2000
 unfold yn iG
 dsimp only
 refine aF (qB _ _ _ _ _ _ (by omega)) ?_
 rintro r ⟨-,hr⟩
 have hg:=vm (k:=c0) (names:=c4) (name:=[102,105,101,108,100,115]) k6
 simp only[dA] at hr
 rw[←hr] at hg
 obtain⟨b0,b1,b2,l,b4,b5⟩:=r
 obtain⟨g1,g2,g3,g4,g5,g6⟩:=hg.kids
 dsimp only at g2 g6 ⊢
 have bad:∀c:Int,c≠0→eX ts e c0 c1 c2 c3 c4 at_ space deep (ts,if e=0 then c else e):=fun c hc=>⟨ts,bX.stuck (Nat.le_refl _) h (nz hc),.inl rfl⟩
 repeat' (first|(with_reducible refine aD ?_ ?_<;>(intro hb;(try simp only[bnl] at hb);(try revert hb;intro _)))|with_reducible refine aP ?_ ?_|with_reducible refine aG ?_|(refine aF (dx _ _ _) ?_;rintro _ ⟨-,rfl⟩;try dsimp only)|fail)
 ·exact⟨_,_,_,rfl,rfl,bad 2 (by decide)⟩
 ·exact⟨_,_,_,rfl,rfl,bad 2 (by decide)⟩
 ·exact⟨_,_,_,rfl,rfl,bad 3 (by decide)⟩
 rename_i hl
 refine bm (fun x=>match x with|(a,sp,dp,d0,d1,d2,l',d4,out,i,ts2,e2)=>a=at_∧sp=space∧dp=deep∧l'=l∧(out.length:Int)=i∧i≤(l.length:Int)∧bX ts e ts2 e2∧(e2=0→xQ ts2.length out)) (fun x=>((l.length:Int)-x.2.2.2.2.2.2.2.2.2.1).toNat) ?_ _ _
  ⟨rfl,rfl,rfl,rfl,rfl,by simp,bX.refl h,fun _=>⟨by simp,by simp⟩⟩ (by simp;omega)
 rintro again ⟨a,sp,dp,d0,d1,d2,l,d4,out,i,ts2,e2⟩ ⟨rfl,rfl,rfl,rfl,i1,i2,i3,i4⟩ ih
 dsimp only at ih
 have ew:i<l.length→IntKind.i64.wrap (i+1)=i+1:=fun h=>aI (i+1) (by omega)
 have ed:IntKind.i64.wrap (dp+1)=dp+1:=aI (dp+1) (by omega)
 have hat2:e2=0→0≤a∧a<ts2.length:=fun h0=>by
  have:=hat (i3.err h0)
  have:=i3.len
  omega
 unfold lq ke
 dsimp only
 have hkid:=bx.eta.2 (bx.getD g6 i.toNat)
 have hkk:=hkid.kids
 have inner2:∀(ts3:List aA)(e3:Int)(nm:List UInt8)(al:List (List UInt8))(ty:Int)(hd':Bool)(f0 f1:Int)(f2:List UInt8)(f3:List aH)(f4:List (List UInt8)),i<l.length→bX ts e ts3 e3→du al→al.length≤100→(e3=0→xQ ts3.length out∧0≤ty∧ty<ts3.length)→bx (.mk f0 f1 f2 f3 f4)→
   Tot (aS 2000 (eE 2000 again) (a,sp,dp,d0,d1,d2,l,d4,out,i,0,ts3,e3,nm,al,ty,hd',f0,f1,f2,f3,f4)) (fun z=>∃(y0:List aA)(y1:Int)(rest:List aJ),z.1.dimR=.tup []∧z.2=some [.ul .atype y0,.int .i64 y1]::rest∧eX ts e c0 c1 c2 c3 c4 a sp dp (y0,y1)):=by
  intro ts3 e3 nm al ty hd' f0 f1 f2 f3 f4 hil hgr hal hal2 hty hnd
  refine bm (fun x=>match x with|(a',sp',dp',d0',d1',d2',l',d4',out',i',m,ts4,e4,nm',al',ty',hd2,f0',f1',f2',f3',f4')=>a'=a∧sp'=sp∧dp'=dp∧l'=l∧out'=out∧i'=i∧0≤m∧m≤(al.length:Int)∧bX ts e ts4 e4∧al'=al∧ty'=ty∧(e4=0→xQ ts4.length out∧0≤ty∧ty<ts4.length)∧bx (.mk f0' f1' f2' f3' f4')) (fun x=>((al.length:Int)-x.2.2.2.2.2.2.2.2.2.2.1).toNat) ?_ _ _
   ⟨rfl,rfl,rfl,rfl,rfl,rfl,by simp,by simp,hgr,rfl,rfl,hty,hnd⟩ (by simp;omega)
  rintro again2 ⟨a',sp',dp',d0',d1',d2',l',d4',out',i',m,ts4,e4,nm',al',ty',hd2,f0',f1',f2',f3',f4'⟩ ⟨rfl,rfl,rfl,rfl,rfl,rfl,j1,j2,j3,rfl,rfl,j4,j5⟩ ih2
  dsimp only at ih2
  have em:m<al'.length→IntKind.i64.wrap (m+1)=m+1:=fun h=>aI (m+1) (by omega)
  have out1:Tot (again (a',sp',dp',d0',d1',d2',l',d4',out'++[⟨nm',al',ty',hd2,⟨f0',f1',f2',f3',f4'⟩⟩],IntKind.i64.wrap (i'+1),ts4,e4)) _:=ih (a',sp',dp',d0',d1',d2',l',d4',out'++[⟨nm',al',ty',hd2,⟨f0',f1',f2',f3',f4'⟩⟩],IntKind.i64.wrap (i'+1),ts4,e4)
   (by
    simp only[ew hil,List.length_append,List.length_cons,List.length_nil]
    refine⟨trivial,trivial,trivial,trivial,by omega,by omega,j3,fun h0=>?_⟩
    obtain⟨q1,q2⟩:=j4 h0
    refine⟨by simp;omega,fun f hf=>?_⟩
    rcases List.mem_append.1 hf with hf|hf
    ·exact q1.2 f hf
    ·simp only[List.mem_singleton] at hf
     subst hf
     exact⟨q2.1,q2.2,j5⟩) (by simp only[ew hil];omega)
  have next:∀e5:Int,m<al'.length→bX ts e ts4 e5→(e5=0→e4=0)→Tot (again2 (a',sp',dp',d0',d1',d2',l',d4',out',i',IntKind.i64.wrap (m+1),ts4,e5,nm',al',ty',hd2,f0',f1',f2',f3',f4')) _:=fun e5 hm hg5 he5=>ih2 (a',sp',dp',d0',d1',d2',l',d4',out',i',IntKind.i64.wrap (m+1),ts4,e5,nm',al',ty',hd2,f0',f1',f2',f3',f4')
   (by
    simp only[em hm]
    exact⟨trivial,trivial,trivial,trivial,trivial,trivial,by omega,by omega,hg5,trivial,trivial,fun h0=>j4 (he5 h0),j5⟩) (by simp only[em hm];omega)
  unfold eE
  dsimp only
  repeat' (first|(with_reducible refine aD ?_ ?_<;>(intro hb;(try simp only[bnl] at hb);(try revert hb;intro _)))|with_reducible refine aP ?_ ?_|with_reducible refine aG ?_|(refine aF (dx _ _ _) ?_;rintro _ ⟨-,rfl⟩;try dsimp only)|(refine aF (aiC _ ?_) ?_;rotate_left;intro _ _)|fail)
  all_goals first|(first|(simp only[bnl,lnl];done)|(simp only[bnl,lnl];omega))|exact out1|exact next _ (by omega) j3 (fun h=>h)|exact next _ (by omega) (bX.stuck j3.len j3.cap (nz (by decide))) (fun h=>absurd h (nz (by decide)))|skip
  ·have:=aiX hal m.toNat;omega
 have inner1:∀(ts3:List aA)(e3:Int)(nm:List UInt8),i<l.length→bX ts2 e2 ts3 e3→
   Tot (aS 2000 (fC 2000 again) (a,sp,dp,d0,d1,d2,l,d4,out,i,(List.getD l (Int.toNat i) (aC .jnode)).kind,(List.getD l (Int.toNat i) (aC .jnode)).n,(List.getD l (Int.toNat i) (aC .jnode)).s,(List.getD l (Int.toNat i) (aC .jnode)).l,(List.getD l (Int.toNat i) (aC .jnode)).names,0,ts3,e3,nm,([]:List (List UInt8)),0,false,0,0,([]:List UInt8),([]:List aH),([]:List (List UInt8)))) (fun z=>∃(y0:List aA)(y1:Int)(rest:List aJ),z.1.dimR=.tup []∧z.2=some [.ul .atype y0,.int .i64 y1]::rest∧eX ts e c0 c1 c2 c3 c4 a sp dp (y0,y1)):=by
  intro ts3 e3 nm hil hgr
  refine bm (fun x=>match x with|(a',sp',dp',d0',d1',d2',l',d4',out',i',v0,v1,v2,v3,v4,m,ts4,e4,nm',al',ty',hd2,f0',f1',f2',f3',f4')=>a'=a∧sp'=sp∧dp'=dp∧d0'=d0∧d1'=d1∧d2'=d2∧l'=l∧d4'=d4∧out'=out∧i'=i∧bx (.mk v0 v1 v2 v3 v4)∧0≤m∧m≤(out.length:Int)∧bX ts2 e2 ts4 e4) (fun x=>((out.length:Int)-x.2.2.2.2.2.2.2.2.2.2.2.2.2.2.2.1).toNat) ?_ _ _
   ⟨rfl,rfl,rfl,rfl,rfl,rfl,rfl,rfl,rfl,rfl,hkid,by simp,by simp,hgr⟩ (by simp;omega)
  rintro again1 ⟨a',sp',dp',d0',d1',d2',l',d4',out',i',v0,v1,v2,v3,v4,m,ts4,e4,nm',al',ty',hd2,f0',f1',f2',f3',f4'⟩ ⟨rfl,rfl,rfl,rfl,rfl,rfl,rfl,rfl,rfl,rfl,hv,j1,j2,j3⟩ ih1
  dsimp only at ih1
  have em:m<out'.length→IntKind.i64.wrap (m+1)=m+1:=fun h=>aI (m+1) (by omega)
  have next:∀e5:Int,m<out'.length→bX ts2 e2 ts4 e5→Tot (again1 (a',sp',dp',d0',d1',d2',l',d4',out',i',v0,v1,v2,v3,v4,IntKind.i64.wrap (m+1),ts4,e5,nm',al',ty',hd2,f0',f1',f2',f3',f4')) _:=fun e5 hm hg5=>ih1 (a',sp',dp',d0',d1',d2',l',d4',out',i',v0,v1,v2,v3,v4,IntKind.i64.wrap (m+1),ts4,e5,nm',al',ty',hd2,f0',f1',f2',f3',f4')
   (by
    simp only[em hm]
    exact⟨trivial,trivial,trivial,trivial,trivial,trivial,trivial,trivial,trivial,trivial,hv,by omega,by omega,hg5⟩) (by simp only[em hm];omega)
  obtain⟨q1,q2,q3,q4,q5,q6⟩:=hv.kids
  have behind:∀(e5 w0 w1:Int)(w2:List UInt8)(w3:List aH)(w4:List (List UInt8)),bx (.mk w0 w1 w2 w3 w4)→bX ts2 e2 ts4 e5→Tot (aE (dw ts4 e5 w0 w1 w2 w3 w4 sp' (dp'+1)) (fun r12=>
      aE (eb v0 v1 v2 v3 v4 ([100,101,102,97,117,108,116]:List UInt8)) (fun r13=>
       aE (ee r12.2.1 r12.2.2 v0 v1 v2 v3 v4 ([97,108,105,97,115,101,115]:List UInt8)) (fun r14=>
        (fun z=>aS 2000 (eE 2000 again) z) (a',sp',dp',d0',d1',d2',l',d4',out',i',0,r14.2.2.1,r14.2.2.2,nm',r14.1,r12.1,r13.2.2.2.2.2,r13.1,r13.2.1,r13.2.2.1,r13.2.2.2.1,r13.2.2.2.2.1))))) (fun z=>∃(y0:List aA)(y1:Int)(rest:List aJ),z.1.dimR=.tup []∧z.2=some [.ul .atype y0,.int .i64 y1]::rest∧eX ts e c0 c1 c2 c3 c4 a' sp' dp' (y0,y1)):=by
   intro e5 w0 w1 w2 w3 w4 hw hg5
   refine aF (hT _ _ _ _ _ _ _ _ j3.cap hw (by omega)) ?_
   rintro⟨k,ts5,e6⟩ ⟨-,x1,x2⟩
   dsimp only at x1 x2 ⊢
   refine aF (qB _ _ _ _ _ _ (by omega)) ?_
   rintro r ⟨-,hr⟩
   have hg:=vm (k:=v0) (names:=v4) (name:=[100,101,102,97,117,108,116]) q6
   simp only[dA] at hr
   rw[←hr] at hg
   refine aF (amP _ _ _ _ _ _ _ _ hv) ?_
   rintro⟨al,is,ts6,e7⟩ ⟨-,t1,t2,rfl,t3⟩
   dsimp only at t1 t2 t3 ⊢
   have hgg:=hg5.trans x1
   have g7:bX ts2 e2 ts6 e7:=by
    by_cases h7:e7=0
    ·have h6:=t3 h7
     rw[h6] at hgg
     rw[h7];exact hgg
    ·exact bX.stuck hgg.len hgg.cap h7
   exact inner2 ts6 e7 _ _ _ _ _ _ _ _ _ hil (i3.trans g7) t2 t1 (fun h0=>⟨(i4 (g7.err h0)).mono g7.len,x2 (t3 h0)⟩) hg
  unfold fC kc
  dsimp only
  repeat' (first|(with_reducible refine aD ?_ ?_<;>(intro hb;(try simp only[bnl] at hb);(try revert hb;intro _)))|with_reducible refine aP ?_ ?_|with_reducible refine aG ?_|(refine aF (dx _ _ _) ?_;rintro _ ⟨-,rfl⟩;try dsimp only)|fail)
  all_goals first|(first|(simp only[bnl,lnl];done)|(simp only[bnl,lnl];omega))|exact next _ (by omega) j3|exact next _ (by omega) (bX.stuck j3.len j3.cap (nz (by decide)))|skip
  refine aF (qB _ _ _ _ _ _ (by omega)) ?_
  rintro r ⟨-,hr⟩
  have hg:=vm (k:=v0) (names:=v4) (name:=[116,121,112,101]) q6
  simp only[dA] at hr
  rw[←hr] at hg
  repeat' (first|(with_reducible refine aD ?_ ?_<;>(intro hb;(try simp only[bnl] at hb);(try revert hb;intro _)))|with_reducible refine aP ?_ ?_|with_reducible refine aG ?_|(refine aF (dx _ _ _) ?_;rintro _ ⟨-,rfl⟩;try dsimp only)|fail)
  all_goals simp only[ed]
  ·exact behind _ _ _ _ _ _ hg (bX.stuck j3.len j3.cap (nz (by decide)))
  ·exact behind _ _ _ _ _ _ hg j3
 repeat' (first|(with_reducible refine aD ?_ ?_<;>(intro hb;(try simp only[bnl] at hb);(try revert hb;intro _)))|with_reducible refine aP ?_ ?_|with_reducible refine aG ?_|(refine aF (dx _ _ _) ?_;rintro _ ⟨-,rfl⟩;try dsimp only)|(refine aF (apN _ _ _ _ _ _ _ _ _ hkid) ?_;rintro⟨w,ts3,e3⟩ ⟨-,w1,rfl,w2⟩;dsimp only at w1 w2 ⊢)|fail)
 all_goals first|(first|(simp only[bnl,lnl];done)|(simp only[bnl,lnl];omega))|skip
 ·exact⟨_,_,_,rfl,rfl,_,bX.stuck i3.len i3.cap (nz (by decide)),.inl rfl⟩
 ·rename_i he3
  have g0:bX ts3 e2 ts3 e3:=by
   have:=w2 he3
   subst this;rw[he3];exact bX.refl i3.cap
  repeat' (first|(with_reducible refine aD ?_ ?_<;>(intro hb;(try simp only[bnl] at hb);(try revert hb;intro _)))|with_reducible refine aP ?_ ?_|with_reducible refine aG ?_|(refine aF (aiC _ (by omega)) ?_;intro _ _)|(refine aF (dx _ _ _) ?_;rintro _ ⟨-,rfl⟩;try dsimp only)|fail)
  ·exact inner1 _ _ _ (by omega) (bX.stuck (Nat.le_refl _) i3.cap (nz (by decide)))
  ·exact inner1 _ _ _ (by omega) g0
 ·rename_i he3
  exact inner1 _ _ _ (by omega) (bX.stuck (Nat.le_refl _) i3.cap he3)
 all_goals first|(exfalso;omega)|skip
 all_goals first|(have:=hat2 (by assumption);first|(simp only[bnl,lnl];done)|(simp only[bnl,lnl];omega))|skip
 ·rename_i he
  exact⟨_,_,_,rfl,rfl,_,i3,.inl rfl⟩
 ·rename_i he
  have hr:=hat2 he
  have hl:a.toNat<ts2.length:=by omega
  refine⟨_,_,_,rfl,rfl,ts2,i3,.inr ⟨out,(i4 he).1,(i4 he).2,_,List.getElem?_eq_getElem hl,?_⟩⟩
  rw[qO (List.getElem?_eq_getElem hl)]
 ·exact⟨_,_,_,rfl,rfl,_,i3,.inl rfl⟩
end Go.Proofs.YtdpajabhmmmjoaaGreat
end
