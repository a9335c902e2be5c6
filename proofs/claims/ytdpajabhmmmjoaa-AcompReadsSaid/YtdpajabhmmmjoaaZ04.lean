import Derived.KernelRfl
import Derived.Test.YtdpajabhmmmjoaaChecked
import Derived.Test.YtdpajabhmmmjoaaZ02
import Derived.Test.YtdpajabhmmmjoaaZ03
noncomputable section
namespace Go.Proofs.Ytdpajabhmmmjoaa
open Go.AM
set_option autoImplicit false
set_option linter.unusedVariables false
set_option maxRecDepth 100000
noncomputable def wA:aN:=tab (P:=Try.prog) [] [] [] [aal,alP,atN]
def ae1:IR:=Rs [Mv 97 11,Mv 98 97,Gt 98 (.mov 99 8),Gt 98 (.mov 100 99),Gf 100 (.fad 101 0 5),Gf 100 (.lde 102 1 false 101),Gf 100 (.bin 103 .eql 102 (kU 0)),Gt 98 (.pick 104 100 (kB true) 103),Pa 105 98 104,Mv 106 105,Gt 106 (.mov 107 9),Gt 106 (.mov 108 107),Gf 108 (.fad 109 1 5),Gf 108 (.lde 110 1 false 109),Gf 108 (.bin 111 .eql 110 (kS [])),Gt 106 (.pick 112 108 (kB true) 111),Pa 113 106 112,Mv 114 113,Gt 114 (.mov 115 10),Gt 114 (.mov 116 115),Gf 116 (.fad 117 2 5),Gf 116 (.lde 118 1 false 117),Gf 116 (.lenl 119 118),Gf 116 (.bin 120 .eql 119 (kI 0)),Gt 114 (.pick 121 116 (kB true) 120),Pa 122 114 121,Mv 6 122] .ret
def s5:IR:=Sq (Rs [Fa 78 0 7,Lq 79 78,Bc 80 .neq 79 13,Mv 81 80,Gt 81 (.fad 82 3 5),Gt 81 (.lde 83 1 false 82),Gt 81 (.lenl 84 83),Gt 81 (.bin 85 .gtr 84 (kI 0)),Pa 86 81 85,Mv 87 86,Gf 87 (.fad 88 0 7),Gf 87 (.lde 89 1 false 88),Gf 87 (.bin 90 .neq 89 (kI 14)),Gf 87 (.mov 91 90),Gt 91 (.fad 92 4 5),Gt 91 (.lde 93 1 false 92),Gt 91 (.bin 94 .neq 93 (kI 0)),Gf 87 (.pick 95 91 94 (kB false)),Po 96 87 95] (Cn 96 (Rs [Mb 6 false] .ret) .skip)) (.cut [5,8,9,10,11,1000000] 0 ae1)
def auv:IR:=Rs [Bx 3 0,Bx 5 2,Mb 6 false] (Sq (Rs [Ld 12 1 true 3,Mv 13 1,Ca 14 45 [12,13],Un 15 14] (Cn 15 (Rs [Mb 6 false] .ret) .skip)) (Rs [Fa 16 0 3,Lq 17 16,Mv 18 1,Ix 19 .atype 17 18,Ld 20 10 true 19,Pp (.alr 7 10),Fz 7 10 20] (Rs [Mb 8 false,Mb 9 false,Mb 10 false] (Rs [Mb 11 true] (Sq (Rs [Fa 21 0 7,Lq 22 21] (.block 0 (Rs [Bc 28 .eql 22 1,Mv 27 28] (Cn 27 .skip (Rs [Bc 30 .eql 22 2,Mv 29 30] (Cn 29 (.reg [Fa 31 0 5,Lq 32 31,Pp (.bin 33 .leq 32 (kU 1)),Mb 8 true,Mv 11 33] [[],[0],[0,1],[],rg 0 3]) (Rs [Bc 35 .eql 22 3,Mv 34 35] (Cn 34 (.reg [Fa 36 0 5,Lq 37 36,Pp (.cvi 38 .i64 37),Pp (.bin 39 .geq 38 (kI (-2147483648))),Mv 40 39,Gt 40 (.fad 41 0 5),Gt 40 (.lde 42 1 false 41),Gt 40 (.cvi 43 .i64 42),Gt 40 (.bin 44 .lss 43 (kI 2147483648)),Pa 45 40 44,Mb 8 true,Mv 11 45] [[],[0],[0,1],[0,1,2],rg 0 3,rg 0 4,rg 0 5,rg 0 6,rg 0 7,rg 0 8,rg 0 4,rg 0 10]) (Sq (Rs [Bc 47 .eql 22 4,Mv 46 47] (Cn 46 .skip (Rg [Bc 48 .eql 22 6,Mv 46 48]))) (Cn 46 (Rg [Mb 8 true]) (Rs [Bc 50 .eql 22 5,Mv 49 50] (Cn 49 (.reg [Fa 51 0 5,Lq 52 51,Pp (.bin 53 .lss 52 (kU 4294967296)),Mb 8 true,Mv 11 53] [[],[0],[0,1],[],rg 0 3]) (Rs [Bc 55 .eql 22 10,Mv 54 55] (Cn 54 (.reg [Fa 56 0 5,Lq 57 56,Fa 58 4 7,Lq 59 58,Ll 60 59,Pp (.cvi 61 .u64 60),Bi 62 .lss 57 61,Mb 8 true,Mv 11 62] [[],[0],[],[2],[2,3],[2,3,4],rg 0 5,[],rg 0 7]) (Rs [Bc 64 .eql 22 7,Mv 63 64] (Cn 63 (Rg [Mb 9 true]) (Rs [Bc 66 .eql 22 8,Mv 65 66] (Cn 65 (Rg [Fa 67 1 5,Lq 68 67,Ca 69 46 [68],Mb 9 true,Mv 11 69]) (Rs [Bc 71 .eql 22 11,Mv 70 71] (Cn 70 (.reg [Fa 72 1 5,Lq 73 72,Pp (.lens 74 73),Fa 75 7 7,Lq 76 75,Bi 77 .eql 74 76,Mb 9 true,Mv 11 77] [[],[0],[0,1],[],[3],rg 0 4,[],rg 0 6]) (Rg [Ld 23 1 true 3,Ld 24 10 true 7,Ld 25 5 true 5,Ca 26 47 [23,24,25],Mb 10 true,Mv 11 26]))))))))))))))))))))) (.cut [5,7,8,9,10,11,1000001] 0 s5))))))
def tZ:List RV:=[.t 6]
theorem auw:FnC Try.prog wA [] 0 alL Try.f18 auv tZ:=fnC Try.func18
abbrev rN:Type:=(Int×Bs×List aH×Bss×Int×Int×Bs×Bss×Int×Bss×Bool×Bs×Int×List aM×List Int×Bool×Bool×Bool×Bool)
def p5:rN→St:=fun(j,k,l,m,n,o,p,q,r,s,a,b,c,d,e,f,g,h,i)=>{env:=(U 5 (.ea [.int .u64 j,.str k,.sl .aval (.may false) l,.sl .str (.may false) m,.int .i64 n]::.undef::.ea [.int .i64 o,.str p,.sl .str (.may false) q,.int .i64 r,.sl .str (.may false) s,.bool a,.str b,.int .i64 c,.sl .afield (.may false) d,.sl (.num .i64) (.may false) e]::.bool f::.bool g::.bool h::.bool i::(U 111 []))),hp:=[]}
abbrev abQ:Type:=(Int×Bs×List aH×Bss×Int×Bool×Bool×Bool×Bool)
def uX:abQ→St:=fun(a,b,c,d,e,f,g,h,i)=>{env:=(U 5 (.ea [.int .u64 a,.str b,.sl .aval (.may false) c,.sl .str (.may false) d,.int .i64 e]::.undef::.undef::.bool f::.bool g::.bool h::.bool i::(U 111 []))),hp:=[]}
def abR(N:Nat):St→Ro:=fun s=>run wA N ae1 (fin tZ) s
def rO(N:Nat):abQ→Ro:=fun(d,c,a,_,_,g,f,b,e)=>
 cond e (
 cond g (
 cond f (
 cond b (
 some (.bool true,[])) (
 let h:=(↑(List.length a):Int)
 some (.bool (h==0),[]))) (
 let i:=decide (c=([]:Bs))
 cond i (
 cond b (
 some (.bool true,[])) (
 let j:=(↑(List.length a):Int)
 some (.bool (j==0),[]))) (
 some (.bool false,[])))) (
 cond (d==0) (
 cond f (
 cond b (
 some (.bool true,[])) (
 let k:=(↑(List.length a):Int)
 some (.bool (k==0),[]))) (
 let l:=decide (c=([]:Bs))
 cond l (
 cond b (
 some (.bool true,[])) (
 let m:=(↑(List.length a):Int)
 some (.bool (m==0),[]))) (
 some (.bool false,[])))) (
 some (.bool false,[])))) (
 some (.bool false,[]))
theorem aqM(N:Nat):LJ (abR N) uX (rO N):=fun _=>by kernel_rfl
def abS(N:Nat):St→Ro:=fun s=>run wA N s5 (fin tZ) s
def uY(N:Nat)(j:abQ→Ro):rN→Ro:=fun(d,e,f,c,a,b,_,_,_,_,_,_,_,_,_,k,l,h,i)=>
 let g:=j (d,e,f,c,a,k,l,h,i)
 cond (!(b==13)) (
 let m:=(↑(List.length c):Int)
 cond (decide (0<m)) (
 some (.bool false,[])) (
 cond (!(b==14)) (
 cond (!(a==0)) (
 some (.bool false,[])) (
 g)) (
 g))) (
 cond (!(b==14)) (
 cond (!(a==0)) (
 some (.bool false,[])) (
 g)) (
 g))
def rP(N:Nat)(x:rN):Ro:=uY N (fun z=>rO N z) x
def ahM(N:Nat):List (Nat×(St→Ro)):=(bR wA N s5 (fin tZ)++[])
theorem aqN(N:Nat):∀(x:rN),abS N (p5 x)=rP N x:=by
 intro x
 have hX:∀C:Nat→St→Ro,bY C wA N s5 (fin tZ) (p5 x)=uY N (fun z=>C 1000000 (uX z)) x:=by
  intro C
  kernel_rfl
 have h:abS N (p5 x)=uY N (fun z=>abR N (uX z)) x:=(cW (C:=eZ (ahM N)) (bS (aY (l:=(ahM N)) (by kernel_rfl))) rfl _).trans ((hX _).trans (by kernel_rfl))
 have e1:(fun z=>abR N (uX z))=(fun z=>rO N z):=funext fun z=>aqM N z
 rw[h,e1]
 rfl
def t6(N:Nat)(g:List aA)(i b:Int)(c:Bs)(d:List aH)(e:Bss)(f:Int)(h:rN→Ro):Ro:=
 aG (iv g i) (fun(o:Bool)=>
 cond (!o) (
 some (.bool false,[])) (
 chk (ixl i g) (
 let a:=(List.getD g (Int.toNat i) (aB .atype))
 cond (a.kind==1) (
 h (b,c,d,e,f,a.kind,a.name,a.aliases,a.items,a.syms,a.hasdef,a.df,a.size,a.fields,a.branches,false,false,false,true)) (
 cond (a.kind==2) (
 h (b,c,d,e,f,a.kind,a.name,a.aliases,a.items,a.syms,a.hasdef,a.df,a.size,a.fields,a.branches,true,false,false,decide (b≤1))) (
 cond (a.kind==3) (
 let p:=decide ((-2147483648)≤(IntKind.wrap .i64 b))
 cond p (
 let j:=decide ((IntKind.wrap .i64 b)<2147483648)
 h (b,c,d,e,f,a.kind,a.name,a.aliases,a.items,a.syms,a.hasdef,a.df,a.size,a.fields,a.branches,true,false,false,(cond true j false))) (
 h (b,c,d,e,f,a.kind,a.name,a.aliases,a.items,a.syms,a.hasdef,a.df,a.size,a.fields,a.branches,true,false,false,false))) (
 cond (a.kind==4) (
 h (b,c,d,e,f,a.kind,a.name,a.aliases,a.items,a.syms,a.hasdef,a.df,a.size,a.fields,a.branches,true,false,false,true)) (
 cond (a.kind==6) (
 h (b,c,d,e,f,a.kind,a.name,a.aliases,a.items,a.syms,a.hasdef,a.df,a.size,a.fields,a.branches,true,false,false,true)) (
 cond (a.kind==5) (
 let k:=decide (b<4294967296)
 h (b,c,d,e,f,a.kind,a.name,a.aliases,a.items,a.syms,a.hasdef,a.df,a.size,a.fields,a.branches,true,false,false,k)) (
 cond (a.kind==10) (
 let l:=(↑(List.length a.syms):Int)
 let m:=decide (b<(IntKind.wrap .u64 l))
 h (b,c,d,e,f,a.kind,a.name,a.aliases,a.items,a.syms,a.hasdef,a.df,a.size,a.fields,a.branches,true,false,false,m)) (
 cond (a.kind==7) (
 h (b,c,d,e,f,a.kind,a.name,a.aliases,a.items,a.syms,a.hasdef,a.df,a.size,a.fields,a.branches,false,true,false,true)) (
 cond (a.kind==8) (
 aG (rv c) (fun(q:Bool)=>
 h (b,c,d,e,f,a.kind,a.name,a.aliases,a.items,a.syms,a.hasdef,a.df,a.size,a.fields,a.branches,false,true,false,q))) (
 cond (a.kind==11) (
 let n:=(↑(List.length c):Int)
 h (b,c,d,e,f,a.kind,a.name,a.aliases,a.items,a.syms,a.hasdef,a.df,a.size,a.fields,a.branches,false,true,false,(n==a.size))) (
 aG (tK g a.kind a.name a.aliases a.items a.syms a.hasdef a.df a.size a.fields a.branches b c d e f) (fun(r:Bool)=>
 h (b,c,d,e,f,a.kind,a.name,a.aliases,a.items,a.syms,a.hasdef,a.df,a.size,a.fields,a.branches,false,false,true,r)))))))))))))))
def akk(N:Nat)(a:List aA)(g b:Int)(c:Bs)(d:List aH)(e:Bss)(f:Int):Ro:=t6 N a g b c d e f (fun z=>rP N z)
theorem ast(N:Nat)(a:List aA)(j c:Int)(d:Bs)(f:List aH)(g:Bss)(i:Int)(h:Tot (akk N a j c d f g i) (fun z=>∃(k:Bool)(rest:List aK),z.1.dimR=.bool k∧z.2=rest∧uI a j c d f g i (k))):∃r,gb a j c d f g i r:=auw.finP (N:=N) ((bo _ (by kernel_rfl) rfl (fun C=>t6 N a j c d f g i (fun z=>C 1000001 (p5 z))) (fun C=>by kernel_rfl)).trans (Eq.trans (b:=t6 N a j c d f g i (fun z=>abS N (p5 z))) (by kernel_rfl) (congrArg (t6 N a j c d f g i) (funext fun z=>aqN N z)))) h fun _ ⟨k,_,e,_,q⟩=>⟨(k),e,q⟩
noncomputable def eu:aN:=tab (P:=Try.prog) [] [] [] [alO,alP]
def s6:IR:=Sq (Rs [Mv 30 7,Fa 31 3 5,Lq 32 31,Ll 33 32,Bi 34 .lss 30 33] (Cn 34 .skip (.exit 1))) (Sq (.block 2 (Sq (.reg [Fa 37 3 5,Lq 38 37,Mv 39 7,Ix 40 .str 38 39,Lq 41 40,Ca 42 46 [41],Un 43 42,Mv 44 43,Gf 44 (.mov 45 7),Gf 44 (.bin 46 .gtr 45 (kI 0)),Gf 44 (.mov 47 46),Gt 47 (.fad 48 3 5),Gt 47 (.lde 49 1 false 48),Gt 47 (.mov 50 7),Gt 47 (.ixa 51 .str 49 50),Gt 47 (.lde 52 1 false 51),Gt 47 (.fad 53 3 5),Gt 47 (.lde 54 1 false 53),Gt 47 (.mov 55 7),Gt 47 (.bin 56 .sub 55 (kI 1)),Gt 47 (.ixa 57 .str 54 56),Gt 47 (.lde 58 1 false 57),Gt 47 (.bin 59 .leq 52 58),Gf 44 (.pick 60 47 59 (kB false)),Po 61 44 60] [[],[0],[],[0,1,2],rg 0 3,rg 0 4,rg 0 5,rg 0 6,rg 0 7,rg 0 8,rg 0 9,rg 0 10,rg 0 11,rg 0 10,rg 0 13,rg 0 14,rg 0 10,rg 0 10++[16],rg 0 10,rg 0 10++[18],rg 0 10++rg 16 19,rg 0 10++rg 16 20,rg 0 21,rg 0 22,rg 0 23]) (Cn 61 (Rs [Mb 6 false] .ret) .skip))) (Rg [Mv 35 7,Bc 36 .add 35 1,Mv 7 36]))
def xU:IR:=Sq (Rs [Mv 95 8,Fa 96 2 5,Lq 97 96,Ll 98 97,Bi 99 .lss 95 98] (Cn 99 .skip (.exit 3))) (Sq (.block 4 (Rs [Fa 102 3 4,Lq 103 102,Mv 9 103] (Sq (Rs [Fa 104 0 4,Lq 105 104,Bc 106 .eql 105 9] (Cn 106 (Rg [Fa 107 8 4,Lq 108 107,Mv 109 8,Ix 110 .afield 108 109,Fa 111 2 110,Lo 112 111,Mv 9 112]) .skip)) (Sq (.reg [Ld 113 1 true 3,Mv 114 9,Fa 115 2 5,Lq 116 115,Mv 117 8,Ix 118 .aval 116 117,Ld 119 5 true 118,Ca 120 18 [113,114,119],Un 121 120] [[],[],[],[2],[],[2,3,4],rg 2 5,rg 0 6,rg 0 7]) (Cn 121 (Rs [Mb 6 false] .ret) .skip))))) (Rg [Mv 100 8,Bc 101 .add 100 1,Mv 8 101]))
def xV:IR:=Rs [Mb 6 true] .ret
def xW:IR:=Sq (Rs [Mi 8 0] (.block 3 (.loop [3,4,5,8,1000001] 0 xU))) xV
def asu:IR:=Rs [Bx 3 0,Bx 4 1,Bx 5 2,Mb 6 false] (Sq (Rs [Fa 10 0 4,Lq 11 10] (.block 0 (Rs [Bc 13 .eql 11 9,Mv 12 13] (Cn 12 (Rs [Fa 14 2 5,Lq 15 14,Ll 16 15,Fa 17 8 4,Lq 18 17,Ll 19 18,Bi 20 .neq 16 19] (Cn 20 (Rs [Mb 6 false] .ret) .skip)) (Rs [Bc 22 .eql 11 13,Mv 21 22] (Cn 21 (Sq (Rs [Fa 23 2 5,Lq 24 23,Ll 25 24,Fa 26 3 5,Lq 27 26,Ll 28 27,Bi 29 .neq 25 28] (Cn 29 (Rs [Mb 6 false] .ret) .skip)) (Rs [Mi 7 0] (.block 1 (.loop [3,4,5,7,1000000] 0 s6)))) (Rs [Bc 63 .eql 11 14,Mv 62 63] (Cn 62 (Sq (.reg [Fa 64 4 5,Lq 65 64,Bc 66 .geq 65 0,Mv 67 66,Gt 67 (.fad 68 4 5),Gt 67 (.lde 69 1 false 68),Gt 67 (.fad 70 9 4),Gt 67 (.lde 71 1 false 70),Gt 67 (.lenl 72 71),Gt 67 (.bin 73 .lss 69 72),Pa 74 67 73,Mv 75 74,Gt 75 (.fad 76 2 5),Gt 75 (.lde 77 1 false 76),Gt 75 (.lenl 78 77),Gt 75 (.bin 79 .eql 78 (kI 1)),Pa 80 75 79,Mv 81 80,Gt 81 (.lde 82 1 true 3),Gt 81 (.fad 83 9 4),Gt 81 (.lde 84 1 false 83),Gt 81 (.fad 85 4 5),Gt 81 (.lde 86 1 false 85),Gt 81 (.ixa 87 (.num .i64) 84 86),Gt 81 (.lde 88 1 false 87),Gt 81 (.fad 89 2 5),Gt 81 (.lde 90 1 false 89),Gt 81 (.ixa 91 .aval 90 (kI 0)),Gt 81 (.lde 92 5 true 91),Gt 81 (.call 93 18 [82,88,92]),Pa 94 81 93,Mv 6 94] [[],[0],[0,1],[0,1,2],rg 0 3,rg 0 4,rg 0 3,[0,1,2,3,6],[0,1,2,3,6,7],rg 0 8,rg 0 9,rg 0 10,rg 0 11,rg 0 12,rg 0 13,rg 0 14,rg 0 15,rg 0 16,rg 0 17,rg 0 17,rg 0 17++[19],rg 0 17,rg 0 17++[21],rg 0 17++rg 19 22,rg 0 17++rg 19 23,rg 0 17,rg 0 17++[25],rg 0 17++[25,26],rg 0 17++[25,26,27],rg 0 28,rg 0 29,rg 0 30]) .ret) .skip)))))))) xW)
def rQ:List RV:=[.t 6]
theorem asv:FnC Try.prog eu [] 0 ajL Try.f47 asu rQ:=fnC Try.func47
def aqO(R:IR→(Ex→St→Ro)→St→Ro)(a:St→Ro):Ex→St→Ro:=(bj a [3,4,5,8,1000001] 0 (aP 3 (bg (R xV) (fin rQ))))
abbrev uZ:Type:=(List aA×Int×Bs×Bss×Int×Bss×Bool×Bs×Int×List aM×List Int×Int×Bs×List aH×Bss×Int×Int)
def s7:uZ→St:=fun(h,i,j,k,l,m,n,o,p,q,a,b,c,d,e,f,g)=>{env:=(U 3 (.ea [.sl .atype (.may false) h]::.ea [.int .i64 i,.str j,.sl .str (.may false) k,.int .i64 l,.sl .str (.may false) m,.bool n,.str o,.int .i64 p,.sl .afield (.may false) q,.sl (.num .i64) (.may false) a]::.ea [.int .u64 b,.str c,.sl .aval (.may false) d,.sl .str (.may false) e,.int .i64 f]::.undef::.undef::.int .i64 g::(U 113 []))),hp:=[]}
def aaB(N:Nat):(St→Ro)→St→Ro:=fun a s=>run eu N xU (aqO (run eu N) a) s
def mE(N:Nat)(d:uZ→Ro):uZ→Ro:=fun(b,f,h,i,g,j,k,m,o,c,p,q,r,a,t,u,e)=>
 let y:=(↑(List.length a):Int)
 let x:=fun z=>d (b,f,h,i,g,j,k,m,o,c,p,q,r,a,t,u,z)
 cond (decide (e<y)) (
 cond (f==9) (
 chk (ixl e c) (
 let x4:=(List.getD c (Int.toNat e) (aB .afield))
 chk (ixl e a) (
 let v:=(List.getD a (Int.toNat e) (aB .aval))
 aG (gb b x4.typ v.n v.s v.l v.keys v.branch) (fun(r1:Bool)=>
 cond (!r1) (
 some (.bool false,[])) (
 let x6:=(IntKind.wrap .i64 (e+1))
 x x6))))) (
 chk (ixl e a) (
 let w:=(List.getD a (Int.toNat e) (aB .aval))
 aG (gb b g w.n w.s w.l w.keys w.branch) (fun(r2:Bool)=>
 cond (!r2) (
 some (.bool false,[])) (
 let x8:=(IntKind.wrap .i64 (e+1))
 x x8))))) (
 some (.bool true,[]))
theorem apa(N:Nat):LB (aaB N) s7 (mE N):=fun _ _=>by kernel_rfl
def aaC(R:IR→(Ex→St→Ro)→St→Ro)(a:St→Ro):Ex→St→Ro:=(bj a [3,4,5,7,1000000] 0 (aP 1 (aP 0 (bg (R xW) (fin rQ)))))
abbrev jo:Type:=(List aA×Int×Bs×Bss×Int×Bss×Bool×Bs×Int×List aM×List Int×Int×Bs×List aH×Bss×Int×Int)
def e9:jo→St:=fun(h,i,j,k,l,m,n,o,p,q,a,b,c,d,e,f,g)=>{env:=(U 3 (.ea [.sl .atype (.may false) h]::.ea [.int .i64 i,.str j,.sl .str (.may false) k,.int .i64 l,.sl .str (.may false) m,.bool n,.str o,.int .i64 p,.sl .afield (.may false) q,.sl (.num .i64) (.may false) a]::.ea [.int .u64 b,.str c,.sl .aval (.may false) d,.sl .str (.may false) e,.int .i64 f]::.undef::.int .i64 g::(U 114 []))),hp:=[]}
def aqP(R:IR→(Ex→St→Ro)→St→Ro)(a:St→Ro):Ex→St→Ro:=(bj a [3,4,5,8,1000001] 0 (aP 3 (bg (R xV) (fin rQ))))
abbrev u0:Type:=(List aA×Int×Bs×Bss×Int×Bss×Bool×Bs×Int×List aM×List Int×Int×Bs×List aH×Bss×Int×Int)
def pd:u0→St:=fun(h,i,j,k,l,m,n,o,p,q,a,b,c,d,e,f,g)=>{env:=(U 3 (.ea [.sl .atype (.may false) h]::.ea [.int .i64 i,.str j,.sl .str (.may false) k,.int .i64 l,.sl .str (.may false) m,.bool n,.str o,.int .i64 p,.sl .afield (.may false) q,.sl (.num .i64) (.may false) a]::.ea [.int .u64 b,.str c,.sl .aval (.may false) d,.sl .str (.may false) e,.int .i64 f]::.undef::.undef::.int .i64 g::(U 113 []))),hp:=[]}
def u5(N:Nat):(St→Ro)→St→Ro:=fun a s=>run eu N xU (aqP (run eu N) a) s
def p6(N:Nat)(f:u0→Ro):u0→Ro:=fun(b,h,j,k,i,m,o,p,q,c,r,t,u,a,v,w,g)=>
 let x:=(↑(List.length a):Int)
 let z0:=fun g0=>f (b,h,j,k,i,m,o,p,q,c,r,t,u,a,v,w,g0)
 cond (decide (g<x)) (
 cond (h==9) (
 chk (ixl g c) (
 let y:=(List.getD c (Int.toNat g) (aB .afield))
 chk (ixl g a) (
 let d:=(List.getD a (Int.toNat g) (aB .aval))
 aG (gb b y.typ d.n d.s d.l d.keys d.branch) (fun(r4:Bool)=>
 cond (!r4) (
 some (.bool false,[])) (
 let z:=(IntKind.wrap .i64 (g+1))
 z0 z))))) (
 chk (ixl g a) (
 let e:=(List.getD a (Int.toNat g) (aB .aval))
 aG (gb b i e.n e.s e.l e.keys e.branch) (fun(r5:Bool)=>
 cond (!r5) (
 some (.bool false,[])) (
 let aa:=(IntKind.wrap .i64 (g+1))
 z0 aa))))) (
 some (.bool true,[]))
theorem apb(N:Nat):LB (u5 N) pd (p6 N):=fun _ _=>by kernel_rfl
def u6(N:Nat):(St→Ro)→St→Ro:=fun a s=>run eu N s6 (aaC (run eu N) a) s
def s8(N:Nat)(b:jo→Ro)(q2:u0→Ro):jo→Ro:=fun(d,e,f,g,h,i,j,k,l,m,n,o,p,q,a,r,c)=>
 let v:=(↑(List.length a):Int)
 let z0:=fun g0=>b (d,e,f,g,h,i,j,k,l,m,n,o,p,q,a,r,g0)
 cond (decide (c<v)) (
  chk (ixl c a) (
   let w:=List.getD a (Int.toNat c) (aB .str)
   aG (rv w) (fun(r3:Bool)=>
    cond (!r3) (
     some (.bool false,[])) (
     cond (decide (0<c)) (
      chk (ixl c a) (
       let s:=List.getD a (Int.toNat c) (aB .str)
       let t:=(IntKind.wrap .i64 (c-1))
       chk (ixl t a) (
        let u:=List.getD a (Int.toNat t) (aB .str)
        let x:=(Op.bytesLess s u||decide (s=u))
        cond x (
         some (.bool false,[])) (
         let y:=(IntKind.wrap .i64 (c+1))
         z0 y)))) (
      let z:=(IntKind.wrap .i64 (c+1))
      z0 z))))) (
  q2 (d,e,f,g,h,i,j,k,l,m,n,o,p,q,a,r,0))
def u7(N:Nat)(a:jo→Ro)(x:jo):Ro:=s8 N a (fun z=>aR N (p6 N) z) x
def aaD(N:Nat)(a:St→Ro):List (Nat×(St→Ro)):=(bR eu N s6 (aaC (run eu N) a)++(bR eu N xW (fin rQ)++[]))
theorem apc(N:Nat):∀(a:St→Ro)(x:jo),u6 N a (e9 x)=u7 N (fun y=>a (e9 y)) x:=by
 intro a x
 have hX:∀C:Nat→St→Ro,bY C eu N s6 (aaC (bY C eu N) a) (e9 x)=s8 N (fun y=>a (e9 y)) (fun z=>C 1000001 (pd z)) x:=by
  intro C
  kernel_rfl
 have h:u6 N a (e9 x)=s8 N (fun y=>a (e9 y)) (fun z=>aX N (u5 N) (pd z)) x:=(cW (C:=eZ (aaD N a)) (bS (aY (l:=(aaD N a)) (by kernel_rfl))) (jd (cD (cD (fL (bS (dP (aY (l:=(aaD N a)) (by kernel_rfl)))) rfl)))) _).trans ((hX _).trans (by kernel_rfl))
 have e2:(fun z=>aX N (u5 N) (pd z))=(fun z=>aR N (p6 N) z):=funext fun z=>aW (pd) (u5 N) (p6 N) (apb N) N z
 rw[h,e2]
 rfl
def rR(N:Nat)(e:List aA)(c:Int)(i:Bs)(j:Bss)(k:Int)(m:Bss)(o:Bool)(p:Bs)(q:Int)(f:List aM)(d:List Int)(r:Int)(t:Bs)(a:List aH)(g:Bss)(b:Int)(z:uZ→Ro)(q1:jo→Ro):Ro:=
 let y:=z (e,c,i,j,k,m,o,p,q,f,d,r,t,a,g,b,0)
 cond (c==9) (
 let x1:=(↑(List.length a):Int)
 let x2:=(↑(List.length f):Int)
 cond (!(x1==x2)) (
 some (.bool false,[])) (
 y)) (
 cond (c==13) (
 let x9:=(↑(List.length a):Int)
 let u:=(↑(List.length g):Int)
 cond (!(x9==u)) (
 some (.bool false,[])) (
 q1 (e,c,i,j,k,m,o,p,q,f,d,r,t,a,g,b,0))) (
 cond (c==14) (
 cond (decide (0≤b)) (
 let v:=(↑(List.length d):Int)
 cond (decide (b<v)) (
 let w:=(↑(List.length a):Int)
 cond (w==1) (
 chk (ixl b d) (
 let x:=List.getD d (Int.toNat b) (aB (.num .i64))
 chk (decide ((0:Int)<↑(List.length a))) (
 let h:=(List.getD a (Int.toNat 0) (aB .aval))
 aG (gb e x h.n h.s h.l h.keys h.branch) (fun(r6:Bool)=>
 some (.bool r6,[]))))) (
 some (.bool false,[]))) (
 some (.bool false,[]))) (
 some (.bool false,[]))) (
 y)))
def ahN(N:Nat)(a:List aA)(b:Int)(c:Bs)(d:Bss)(e:Int)(f:Bss)(g:Bool)(h:Bs)(i:Int)(j:List aM)(k:List Int)(l:Int)(m:Bs)(n:List aH)(o:Bss)(p:Int):Ro:=rR N a b c d e f g h i j k l m n o p (fun z=>aR N (mE N) z) (fun z=>aR N (u7 N) z)
theorem aqQ(N:Nat)(a:List aA)(c:Int)(d:Bs)(f:Bss)(g:Int)(i:Bss)(j:Bool)(k:Bs)(l:Int)(m:List aM)(n:List Int)(o:Int)(p:Bs)(s:List aH)(t:Bss)(u:Int)(h:Tot (ahN N a c d f g i j k l m n o p s t u) (fun z=>∃(v:Bool)(rest:List aK),z.1.dimR=.bool v∧z.2=rest∧dV a c d f g i j k l m n o p s t u (v))):∃r,tK a c d f g i j k l m n o p s t u r:=asv.finP (N:=N) ((bo _ (by kernel_rfl) rfl (fun C=>rR N a c d f g i j k l m n o p s t u (fun z=>C 1000001 (s7 z)) (fun z=>C 1000000 (e9 z))) (fun C=>by kernel_rfl)).trans (Eq.trans (b:=rR N a c d f g i j k l m n o p s t u (fun z=>aX N (aaB N) (s7 z)) (fun z=>aX N (u6 N) (e9 z))) (by kernel_rfl) (congr (congrArg (rR N a c d f g i j k l m n o p s t u) (funext fun z=>aW (s7) (aaB N) (mE N) (apa N) N z)) (funext fun z=>aW (e9) (u6 N) (u7 N) (apc N) N z)))) h fun _ ⟨v,_,e,_,q⟩=>⟨(v),e,q⟩
noncomputable def ae2:aN:=tab (P:=Try.prog) [] [] [] [alR]
def agu:IR:=Sq (Rs [Mv 5 0,Pp (.lens 6 5),Bc 7 .gtr 6 0] (Cn 7 .skip (.exit 0))) (.block 1 (Rs [Mv 9 0,Ca 10 79 [9],Mv 8 10,Ex_ 11 0 8,Ex_ 12 1 8,Mv 3 11,Mv 4 12] (Sq (Rs [Mv 13 4,Bc 14 .eql 13 0] (Cn 14 (Rs [Mb 2 false] .ret) .skip)) (Rg [Mv 15 0,Mv 16 4,Pp (.subs 17 15 (some 16) none),Mv 0 17]))))
def agv:IR:=Rs [Mb 2 true] .ret
def aux:IR:=Rs [Mb 2 false] (Sq (.block 0 (.loop [0,1000000] 0 agu)) agv)
def akl:List RV:=[.t 2]
theorem auy:FnC Try.prog ae2 [] 0 alG Try.f46 aux akl:=fnC Try.func46
def asw(R:IR→(Ex→St→Ro)→St→Ro)(a:St→Ro):Ex→St→Ro:=(bj a [0,1000000] 0 (aP 0 (bg (R agv) (fin akl))))
abbrev xp:Type:=(Bs)
def u9(x:xp):St:={env:=(.str x::(U 17 [])),hp:=[]}
def abT(N:Nat):(St→Ro)→St→Ro:=fun a s=>run ae2 N agu (asw (run ae2 N) a) s
def xq(N:Nat)(a:xp→Ro)(x:xp):Ro:=
 let b:Bs:=x
 let d:=(↑(List.length b):Int)
 cond (decide (0<d)) (
 aG (oS b) (fun c=>
 cond (c.2==0) (
 some (.bool false,[])) (
 chk (decide (0≤c.2)&&decide (c.2≤(↑(List.length b):Int))) (
 let e:=(List.drop (Int.toNat c.2) (List.take (List.length b) b))
 a (e))))) (
 some (.bool true,[]))
theorem aqR(N:Nat):LB (abT N) u9 (xq N):=fun _ _=>by kernel_rfl
def t7(N:Nat)(a:Bs)(b:xp→Ro):Ro:=
 b (a)
def akm(N:Nat)(a:Bs):Ro:=t7 N a (fun z=>aR N (xq N) z)
theorem asx(N:Nat)(a:Bs)(h:Tot (akm N a) (fun z=>∃(c:Bool)(rest:List aK),z.1.dimR=.bool c∧z.2=rest∧aag a (c))):∃r,rv a r:=auy.finP (N:=N) ((bo _ (by kernel_rfl) rfl (fun C=>t7 N a (fun z=>C 1000000 (u9 z))) (fun C=>by kernel_rfl)).trans (Eq.trans (b:=t7 N a (fun z=>aX N (abT N) (u9 z))) (by kernel_rfl) (congrArg (t7 N a) (funext fun z=>aW (u9) (abT N) (xq N) (aqR N) N z)))) h fun _ ⟨c,_,e,_,q⟩=>⟨(c),e,q⟩
end Go.Proofs.Ytdpajabhmmmjoaa
end
noncomputable section
namespace Go.Proofs.Ytdpajabhmmmjoaa
open Go.AM
set_option autoImplicit false
set_option linter.unusedVariables false
set_option maxRecDepth 100000
noncomputable def ai9:aN:=tab (P:=Try.prog) [] [] [] []
def akn:IR:=Sq (Rs [Fa 7 0 2,Lq 8 7,Bc 9 .eql 8 6,Mv 10 9,Gt 10 (.mov 11 6),Gt 10 (.fad 12 4 2),Gt 10 (.lde 13 1 false 12),Gt 10 (.lenl 14 13),Gt 10 (.bin 15 .lss 11 14),Pa 16 10 15,Mv 17 16,Gt 17 (.mov 18 6),Gt 17 (.fad 19 3 2),Gt 17 (.lde 20 1 false 19),Gt 17 (.lenl 21 20),Gt 17 (.bin 22 .lss 18 21),Pa 23 17 22] (Cn 23 .skip (.exit 0))) (Sq (.block 1 (Rs [Fa 26 4 2,Lq 27 26,Mv 28 6,Ix 29 .str 27 28,Lq 30 29,Mv 31 1,Bi 32 .eql 30 31] (Cn 32 (Rs [Fa 33 3 2,Lq 34 33,Mv 35 6,Ix 36 .jnode 34 35,Ld 37 5 true 36,Sv 5 4 37,Mb 5 true] .ret) .skip))) (Rg [Mv 24 6,Bc 25 .add 24 1,Mv 6 25]))
def ako:IR:=Rs [Pp (.bld 38 [vI 0,vI 0,vS,nl .jnode,nl .str] []),Sv 5 4 38,Mb 5 false] .ret
def axQ:IR:=Rs [Bx 2 0,Pp (.new 4 [vI 0,vI 0,vS,nl .jnode,nl .str]),Mb 5 false] (Sq (Rs [Mi 6 0] (.block 0 (.loop [1,2,4,6,1000000] 1 akn))) ako)
def aoj:List RV:=[.cell 4 5 true,.t 5]
theorem axR:FnC Try.prog ai9 [] 0 aqa Try.f113 axQ aoj:=fnC Try.func113
def aww(R:IR→(Ex→St→Ro)→St→Ro)(a:St→Ro):Ex→St→Ro:=(bj a [1,2,4,6,1000000] 1 (aP 0 (bg (R ako) (fin aoj))))
abbrev aaE:Type:=(Bs×Int×Int×Bs×List aD×Bss×Int×Int×Int×Bs×List aD×Bss)
def yS:aaE→St:=fun(c,d,e,f,g,h,i,j,k,l,a,b)=>{env:=(.undef::.str c::.ea [.int .i64 d,.int .i64 e,.str f,.sl .jnode (.may false) g,.sl .str (.may false) h]::.undef::.ptr 0 0::.undef::.int .i64 i::(U 32 [])),hp:=[some [.int .i64 j,.int .i64 k,.str l,.sl .jnode .own a,.sl .str .own b]]}
def ae3(N:Nat):(St→Ro)→St→Ro:=fun a s=>run ai9 N akn (aww (run ai9 N) a) s
def aaF(N:Nat)(c:aaE→Ro):aaE→Ro:=fun(q,d,g,h,a,b,e,i,j,k,m,o)=>
 let p:=fun r t u v w x y z=>(some (.tup [.agg [.int .i64 r,.int .i64 t,.str u,.sl .jnode (.may false) v,.sl .str (.may false) w],.bool x],[some [.int .i64 r,.int .i64 t,.str u,y,z]]):Ro)
 cond (d==6) (
 let x1:=(↑(List.length b):Int)
 cond (decide (e<x1)) (
 let x2:=(↑(List.length a):Int)
 cond (decide (e<x2)) (
 chk (ixl e b) (
 let x3:=List.getD b (Int.toNat e) (aB .str)
 cond (decide (x3=q)) (
 chk (ixl e a) (
 let f:=(List.getD a (Int.toNat e) (aB .jnode))
 p f.kind f.n f.s f.l f.names true (.sl .jnode (.may false) f.l) (.sl .str (.may false) f.names))) (
 let x5:=(IntKind.wrap .i64 (e+1))
 c (q,d,g,h,a,b,x5,i,j,k,m,o)))) (
 p 0 0 ([]:Bs) ([]:List aD) ([]:Bss) false (.sl .jnode .own ([]:List aD)) (.sl .str .own ([]:Bss)))) (
 p 0 0 ([]:Bs) ([]:List aD) ([]:Bss) false (.sl .jnode .own ([]:List aD)) (.sl .str .own ([]:Bss)))) (
 p 0 0 ([]:Bs) ([]:List aD) ([]:Bss) false (.sl .jnode .own ([]:List aD)) (.sl .str .own ([]:Bss)))
theorem auz(N:Nat):LB (ae3 N) yS (aaF N):=fun _ _=>by kernel_rfl
def yr(N:Nat)(a b:Int)(c:Bs)(d:List aD)(e:Bss)(f:Bs)(g:aaE→Ro):Ro:=
 g (f,a,b,c,d,e,0,0,0,([]:Bs),([]:List aD),([]:Bss))
def aok(N:Nat)(a b:Int)(c:Bs)(d:List aD)(e:Bss)(f:Bs):Ro:=yr N a b c d e f (fun z=>aR N (aaF N) z)
theorem awx(N:Nat)(a c:Int)(d:Bs)(f:List aD)(g:Bss)(i:Bs)(h:Tot (aok N a c d f g i) (fun z=>∃(j:Int)(k:Int)(l:Bs)(m:List aD)(n:Bss)(o:Bool)(rest:List aK),z.1.dimR=.tup [.agg [.int .i64 j,.int .i64 k,.str l,.sl .jnode (.may false) m,.sl .str (.may false) n],.bool o]∧z.2=rest∧dg a c d f g i (j,k,l,m,n,o))):∃r,dJ a c d f g i r:=axR.finP (N:=N) ((bo _ (by kernel_rfl) rfl (fun C=>yr N a c d f g i (fun z=>C 1000000 (yS z))) (fun C=>by kernel_rfl)).trans (Eq.trans (b:=yr N a c d f g i (fun z=>aX N (ae3 N) (yS z))) (by kernel_rfl) (congrArg (yr N a c d f g i) (funext fun z=>aW (yS) (ae3 N) (aaF N) (auz N) N z)))) h fun _ ⟨j,k,l,m,n,o,_,e,_,q⟩=>⟨(j,k,l,m,n,o),e,q⟩
noncomputable def agL:aN:=tab (P:=Try.prog) [] [] [] [atR,av0]
def ahO:IR:=Sq (Rs [Mv 4 3,Mv 5 0,Pp (.lens 6 5),Bi 7 .lss 4 6] (Cn 7 .skip (.exit 0))) (Sq (.block 1 (Rs [Mv 10 0,Mv 11 3,Pp (.idx 12 10 11),Ca 13 164 [12],Un 14 13,Mv 15 14,Gt 15 (.mov 16 3),Gt 15 (.bin 17 .eql 16 (kI 0)),Gt 15 (.mov 18 17),Gf 18 (.mov 19 0),Gf 18 (.mov 20 3),Gf 18 (.idx 21 19 20),Gf 18 (.call 22 165 [21]),Gf 18 (.un 23 .not 22),Gt 15 (.pick 24 18 (kB true) 23),Pa 25 15 24] (Cn 25 (Rs [Mb 2 false] .ret) .skip))) (Rg [Mv 8 3,Bc 9 .add 8 1,Mv 3 9]))
def ahP:IR:=Rs [Mv 26 0,Pp (.lens 27 26),Bc 28 .gtr 27 0,Mv 2 28] .ret
def awy:IR:=Rs [Mb 2 false] (Sq (Rs [Mi 3 0] (.block 0 (.loop [0,3,1000000] 0 ahO))) ahP)
def amC:List RV:=[.t 2]
theorem awz:FnC Try.prog agL [] 0 an7 Try.f161 awy amC:=fnC Try.func161
def auA(R:IR→(Ex→St→Ro)→St→Ro)(a:St→Ro):Ex→St→Ro:=(bj a [0,3,1000000] 0 (aP 0 (bg (R ahP) (fin amC))))
abbrev yT:Type:=(Bs×Int)
def xr:yT→St:=fun(a,b)=>{env:=(.str a::.undef::.undef::.int .i64 b::(U 25 [])),hp:=[]}
def ac4(N:Nat):(St→Ro)→St→Ro:=fun a s=>run agL N ahO (auA (run agL N) a) s
def yU(N:Nat)(a:yT→Ro):yT→Ro:=fun(b,c)=>
 let d:=(↑(List.length b):Int)
 cond (decide (c<d)) (
 chk (ixl c b) (
 let e:=(↑(UInt8.toNat (List.getD b (Int.toNat c) 0)):Int)
 aG (tL e) (fun(f:Bool)=>
 cond (!f) (
 cond (c==0) (
 some (.bool false,[])) (
 chk (ixl c b) (
 let g:=(↑(UInt8.toNat (List.getD b (Int.toNat c) 0)):Int)
 aG (wc g) (fun(h:Bool)=>
 cond (!h) (
 some (.bool false,[])) (
 let i:=(IntKind.wrap .i64 (c+1))
 a (b,i)))))) (
 let j:=(IntKind.wrap .i64 (c+1))
 a (b,j))))) (
 let k:=(↑(List.length b):Int)
 some (.bool (decide (0<k)),[]))
theorem asy(N:Nat):LB (ac4 N) xr (yU N):=fun _ _=>by kernel_rfl
def wB(N:Nat)(a:Bs)(b:yT→Ro):Ro:=
 b (a,0)
def amD(N:Nat)(a:Bs):Ro:=wB N a (fun z=>aR N (yU N) z)
theorem auB(N:Nat)(a:Bs)(h:Tot (amD N a) (fun z=>∃(c:Bool)(rest:List aK),z.1.dimR=.bool c∧z.2=rest)):∃r,lz a r:=awz.finP0 (N:=N) ((bo _ (by kernel_rfl) rfl (fun C=>wB N a (fun z=>C 1000000 (xr z))) (fun C=>by kernel_rfl)).trans (Eq.trans (b:=wB N a (fun z=>aX N (ac4 N) (xr z))) (by kernel_rfl) (congrArg (wB N a) (funext fun z=>aW (xr) (ac4 N) (yU N) (asy N) N z)))) h fun _ ⟨c,_,e,_⟩=>⟨(c),e⟩
noncomputable def auC:aN:=tab (P:=Try.prog) [] [] [] []
def asz:IR:=Rs [Mb 2 false] (Rs [Mv 3 0,Pp (.bin 4 .geq 3 (.c (.int .u8 97))),Mv 5 4,Gt 5 (.mov 6 0),Gt 5 (.bin 7 .leq 6 (.c (.int .u8 122))),Pa 8 5 7,Mv 9 8,Gf 9 (.mov 10 0),Gf 9 (.bin 11 .geq 10 (.c (.int .u8 65))),Gf 9 (.mov 12 11),Gt 12 (.mov 13 0),Gt 12 (.bin 14 .leq 13 (.c (.int .u8 90))),Gf 9 (.pick 15 12 14 (kB false)),Po 16 9 15,Mv 17 16,Gf 17 (.mov 18 0),Gf 17 (.bin 19 .eql 18 (.c (.int .u8 95))),Po 20 17 19,Mv 2 20] .ret)
def asA:List RV:=[.t 2]
theorem asB:FnC Try.prog auC [] 0 ajM Try.f164 asz asA:=fnC Try.func164
def ahQ(N:Nat)(a:Int):Ro:=
 let b:=(some (.bool (a==95),[]):Ro)
 cond (decide (97≤a)) (
 cond (decide (a≤122)) (
 some (.bool true,[])) (
 cond (decide (65≤a)) (
 cond (decide (a≤90)) (
 some (.bool true,[])) (
 b)) (
 b))) (
 cond (decide (65≤a)) (
 cond (decide (a≤90)) (
 some (.bool true,[])) (
 b)) (
 b))
def ahR(N:Nat)(a:Int):Ro:=ahQ N a
theorem aqS(N:Nat)(b:Int)(h:Tot (ahR N b) (fun z=>∃(a:Bool)(rest:List aK),z.1.dimR=.bool a∧z.2=rest)):∃r,tL b r:=asB.finP0 (N:=N) (by kernel_rfl) h fun _ ⟨a,_,e,_⟩=>⟨(a),e⟩
noncomputable def awA:aN:=tab (P:=Try.prog) [] [] [] []
def auD:IR:=Rs [Mb 2 false] (Rs [Mv 3 0,Pp (.bin 4 .geq 3 (.c (.int .u8 48))),Mv 5 4,Gt 5 (.mov 6 0),Gt 5 (.bin 7 .leq 6 (.c (.int .u8 57))),Pa 8 5 7,Mv 2 8] .ret)
def auE:List RV:=[.t 2]
theorem auF:FnC Try.prog awA [] 0 alM Try.f165 auD auE:=fnC Try.func165
def akp(N:Nat)(a:Int):Ro:=
 cond (decide (48≤a)) (
 some (.bool (decide (a≤57)),[])) (
 some (.bool false,[]))
def akq(N:Nat)(a:Int):Ro:=akp N a
theorem asC(N:Nat)(b:Int)(h:Tot (akq N b) (fun z=>∃(a:Bool)(rest:List aK),z.1.dimR=.bool a∧z.2=rest)):∃r,wc b r:=auF.finP0 (N:=N) (by kernel_rfl) h fun _ ⟨a,_,e,_⟩=>⟨(a),e⟩
noncomputable def axS:aN:=tab (P:=Try.prog) [] [] [] []
def awB:IR:=Rs [Ms 4 []] (Sq (Rs [Mv 5 0,Pp (.bin 6 .eql 5 (kS [])),Mv 7 6,Gf 7 (.mov 8 1),Gf 7 (.bin 9 .eql 8 (kS [])),Po 10 7 9] (Cn 10 (Rs [Mv 11 0,Mv 12 1,Bi 13 .add 11 12,Mv 4 13] .ret) .skip)) (Rs [Mv 14 0,Pp (.bin 15 .add 14 (kS [46])),Mv 16 1,Bi 17 .add 15 16,Mv 4 17] .ret))
def awC:List RV:=[.t 4]
theorem awD:FnC Try.prog axS [] 0 an8 Try.f159 awB awC:=fnC Try.func159
def amE(N:Nat)(a b:Bs):Ro:=
 let d:=decide (a=([]:Bs))
 cond d (
 chk (decide (List.length a+List.length b≤9223372036854775807)) (
 some (.str (a++b),[]))) (
 let e:=decide (b=([]:Bs))
 cond e (
 chk (decide (List.length a+List.length b≤9223372036854775807)) (
 some (.str (a++b),[]))) (
 chk (decide (List.length a+List.length ([46]:Bs)≤9223372036854775807)) (
 let c:=(a++([46]:Bs))
 chk (decide (List.length c+List.length b≤9223372036854775807)) (
 some (.str (c++b),[])))))
def amF(N:Nat)(a b:Bs):Ro:=amE N a b
theorem auG(N:Nat)(b c:Bs)(h:Tot (amF N b c) (fun z=>∃(a:Bs)(rest:List aK),z.1.dimR=.str a∧z.2=rest∧xb b c (a))):∃r,yk b c r:=awD.finP (N:=N) (by kernel_rfl) h fun _ ⟨a,_,e,_,q⟩=>⟨(a),e,q⟩
noncomputable def ae4:aN:=tab (P:=Try.prog) [] [] [] [agH]
def agw:IR:=Sq (Rs [Mv 5 4,Mv 6 0,Pp (.lens 7 6),Bi 8 .leq 5 7] (Cn 8 .skip (.exit 0))) (Sq (.block 1 (Sq (Rs [Mv 11 4,Mv 12 0,Pp (.lens 13 12),Bi 14 .lss 11 13,Mv 15 14,Gt 15 (.mov 16 0),Gt 15 (.mov 17 4),Gt 15 (.idx 18 16 17),Gt 15 (.bin 19 .neq 18 (.c (.int .u8 46))),Pa 20 15 19] (Cn 20 (Rs [Mv 21 3,Mv 22 0,Mv 23 4,Mv 24 4,Bc 25 .add 24 1,Pp (.subs 26 22 (some 23) (some 25)),Bi 27 .add 21 26,Mv 3 27] (.exit 1)) .skip)) (Sq (Rs [Mv 28 3,Ca 29 161 [28],Un 30 29] (Cn 30 (Rs [Mb 2 false] .ret) .skip)) (Rg [Ms 3 []])))) (Rg [Mv 9 4,Bc 10 .add 9 1,Mv 4 10]))
def ae5:IR:=Rs [Mb 2 true] .ret
def auH:IR:=Rs [Mb 2 false] (Rs [Ms 3 []] (Sq (Rs [Mi 4 0] (.block 0 (.loop [0,3,4,1000000] 0 agw))) ae5))
def akr:List RV:=[.t 2]
theorem auI:FnC Try.prog ae4 [] 0 alN Try.f160 auH akr:=fnC Try.func160
def asD(R:IR→(Ex→St→Ro)→St→Ro)(a:St→Ro):Ex→St→Ro:=(bj a [0,3,4,1000000] 0 (aP 0 (bg (R ae5) (fin akr))))
abbrev xt:Type:=(Bs×Bs×Int)
def va:xt→St:=fun(a,b,c)=>{env:=(.str a::.undef::.undef::.str b::.int .i64 c::(U 26 [])),hp:=[]}
def abU(N:Nat):(St→Ro)→St→Ro:=fun a s=>run ae4 N agw (asD (run ae4 N) a) s
def xu(N:Nat)(a:xt→Ro):xt→Ro:=fun(c,d,b)=>
 let g:=(↑(List.length c):Int)
 cond (decide (b≤g)) (
 let h:=(↑(List.length c):Int)
 cond (decide (b<h)) (
 chk (ixl b c) (
 let i:=(↑(UInt8.toNat (List.getD c (Int.toNat b) 0)):Int)
 cond (!(i==46)) (
 let e:=(IntKind.wrap .i64 (b+1))
 chk (decide (0≤e)&&decide (e≤(↑(List.length c):Int))&&(decide (0≤b)&&decide (b≤e))) (
 let f:=(List.drop (Int.toNat b) (List.take (Int.toNat e) c))
 chk (decide (List.length d+List.length f≤9223372036854775807)) (
 let j:=(IntKind.wrap .i64 (b+1))
 a (c,(d++f),j)))) (
 aG (lz d) (fun(k:Bool)=>
 cond (!k) (
 some (.bool false,[])) (
 let l:=(IntKind.wrap .i64 (b+1))
 a (c,([]:Bs),l)))))) (
 aG (lz d) (fun(m:Bool)=>
 cond (!m) (
 some (.bool false,[])) (
 let n:=(IntKind.wrap .i64 (b+1))
 a (c,([]:Bs),n))))) (
 some (.bool true,[]))
theorem aqT(N:Nat):LB (abU N) va (xu N):=fun _ _=>by kernel_rfl
def t9(N:Nat)(a:Bs)(b:xt→Ro):Ro:=
 b (a,([]:Bs),0)
def aks(N:Nat)(a:Bs):Ro:=t9 N a (fun z=>aR N (xu N) z)
theorem asE(N:Nat)(a:Bs)(h:Tot (aks N a) (fun z=>∃(c:Bool)(rest:List aK),z.1.dimR=.bool c∧z.2=rest)):∃r,wa a r:=auI.finP0 (N:=N) ((bo _ (by kernel_rfl) rfl (fun C=>t9 N a (fun z=>C 1000000 (va z))) (fun C=>by kernel_rfl)).trans (Eq.trans (b:=t9 N a (fun z=>aX N (abU N) (va z))) (by kernel_rfl) (congrArg (t9 N a) (funext fun z=>aW (va) (abU N) (xu N) (aqT N) N z)))) h fun _ ⟨c,_,e,_⟩=>⟨(c),e⟩
noncomputable def awE:aN:=tab (P:=Try.prog) [] [] [] [alR]
def auJ:IR:=Rs [Pp (.mov 2 (.c (.int .u32 0))),Mi 3 0] (Rs [Mv 4 0,Ca 5 79 [4],Ex_ 6 0 5,Ex_ 7 1 5,Mv 2 6,Mv 3 7] .ret)
def auK:List RV:=[.t 2,.t 3]
theorem auL:FnC Try.prog awE [] 0 alF Try.f162 auJ auK:=fnC Try.func162
def akt(N:Nat)(b:Bs):Ro:=
 aG (oS b) (fun a=>
 some (.tup [.int .u32 a.1,.int .i64 a.2],[]))
def aku(N:Nat)(a:Bs):Ro:=akt N a
theorem asF(N:Nat)(c:Bs)(h:Tot (aku N c) (fun z=>∃(a:Int)(b:Int)(rest:List aK),z.1.dimR=.tup [.int .u32 a,.int .i64 b]∧z.2=rest∧af0 c (a,b))):∃r,wb c r:=auL.finP (N:=N) (by kernel_rfl) h fun _ ⟨a,b,_,e,_,q⟩=>⟨(a,b),e,q⟩
noncomputable def ae6:aN:=tab (P:=Try.prog) [] [] [] []
def ae7:IR:=Sq (Rs [Mv 50 8,Mv 51 5,Bi 52 .lss 50 51] (Cn 52 .skip (.exit 1))) (Sq (.block 2 (Sq (Rs [Mv 55 0,Mv 56 8,Pp (.idx 57 55 56),Pp (.bin 58 .lss 57 (.c (.int .u8 128))),Mv 59 58,Gf 59 (.mov 60 0),Gf 59 (.mov 61 8),Gf 59 (.idx 62 60 61),Gf 59 (.bin 63 .gtr 62 (.c (.int .u8 191))),Po 64 59 63] (Cn 64 (Rs [Pp (.mov 2 (.c (.int .u32 0))),Mi 3 0] .ret) .skip)) (Rg [Mv 65 6,Pp (.bin 66 .mul 65 (.c (.int .u32 64))),Mv 67 0,Mv 68 8,Pp (.idx 69 67 68),Pp (.bin 70 .sub 69 (.c (.int .u8 128))),Pp (.cvi 71 .u32 70),Bi 72 .add 66 71,Mv 6 72]))) (Rg [Mv 53 8,Bc 54 .add 53 1,Mv 8 54]))
def ae8:IR:=Sq (Rs [Mv 73 6,Mv 74 7,Bi 75 .lss 73 74,Mv 76 75,Gf 76 (.mov 77 6),Gf 76 (.bin 78 .gtr 77 (.c (.int .u32 1114111))),Po 79 76 78,Mv 80 79,Gf 80 (.mov 81 6),Gf 80 (.bin 82 .geq 81 (.c (.int .u32 55296))),Gf 80 (.mov 83 82),Gt 83 (.mov 84 6),Gt 83 (.bin 85 .leq 84 (.c (.int .u32 57343))),Gf 80 (.pick 86 83 85 (kB false)),Po 87 80 86] (Cn 87 (Rs [Pp (.mov 2 (.c (.int .u32 0))),Mi 3 0] .ret) .skip)) (Rs [Mv 88 6,Mv 89 5,Mv 2 88,Mv 3 89] .ret)
def auM:IR:=Rs [Pp (.mov 2 (.c (.int .u32 0))),Mi 3 0] (Sq (Rs [Mv 9 0,Pp (.lens 10 9),Bc 11 .eql 10 0] (Cn 11 (Rs [Pp (.mov 2 (.c (.int .u32 0))),Mi 3 0] .ret) .skip)) (Rs [Mv 12 0,Pp (.idx 13 12 (kI 0)),Pp (.cvi 14 .u32 13),Mv 4 14] (Rs [Mi 5 0,Pp (.mov 6 (.c (.int .u32 0))),Pp (.mov 7 (.c (.int .u32 0)))] (Sq (.block 0 (Rs [Mv 16 4,Pp (.bin 17 .lss 16 (.c (.int .u32 128))),Mv 15 17] (Cn 15 (Rs [Mv 18 4,Mv 2 18,Mi 3 1] .ret) (Rs [Mv 20 4,Pp (.bin 21 .geq 20 (.c (.int .u32 192))),Mv 22 21,Gt 22 (.mov 23 4),Gt 22 (.bin 24 .lss 23 (.c (.int .u32 224))),Pa 25 22 24,Mv 19 25] (Cn 19 (Rg [Mv 26 4,Pp (.bin 27 .sub 26 (.c (.int .u32 192))),Mi 5 2,Mv 6 27,Pp (.mov 7 (.c (.int .u32 128)))]) (Rs [Mv 29 4,Pp (.bin 30 .geq 29 (.c (.int .u32 224))),Mv 31 30,Gt 31 (.mov 32 4),Gt 31 (.bin 33 .lss 32 (.c (.int .u32 240))),Pa 34 31 33,Mv 28 34] (Cn 28 (Rg [Mv 35 4,Pp (.bin 36 .sub 35 (.c (.int .u32 224))),Mi 5 3,Mv 6 36,Pp (.mov 7 (.c (.int .u32 2048)))]) (Rs [Mv 38 4,Pp (.bin 39 .geq 38 (.c (.int .u32 240))),Mv 40 39,Gt 40 (.mov 41 4),Gt 40 (.bin 42 .lss 41 (.c (.int .u32 248))),Pa 43 40 42,Mv 37 43] (Cn 37 (Rg [Mv 44 4,Pp (.bin 45 .sub 44 (.c (.int .u32 240))),Mi 5 4,Mv 6 45,Pp (.mov 7 (.c (.int .u32 65536)))]) (Rs [Pp (.mov 2 (.c (.int .u32 0))),Mi 3 0] .ret)))))))))) (Sq (Rs [Mv 46 0,Pp (.lens 47 46),Mv 48 5,Bi 49 .lss 47 48] (Cn 49 (Rs [Pp (.mov 2 (.c (.int .u32 0))),Mi 3 0] .ret) .skip)) (Sq (Rs [Mi 8 1] (.block 1 (.loop [0,5,6,7,8,1000000] 0 ae7))) ae8))))))
def akv:List RV:=[.t 2,.t 3]
theorem auN:FnC Try.prog ae6 [] 0 alH Try.f79 auM akv:=fnC Try.func79
def asG(R:IR→(Ex→St→Ro)→St→Ro)(a:St→Ro):Ex→St→Ro:=(bj a [0,5,6,7,8,1000000] 0 (aP 1 (bg (R ae8) (fin akv))))
abbrev xv:Type:=(Bs×Int×Int×Int×Int)
def vb:xv→St:=fun(a,b,c,d,e)=>{env:=(.str a::(U 4 (.int .i64 b::.int .u32 c::.int .u32 d::.int .i64 e::(U 81 [])))),hp:=[]}
def abV(N:Nat):(St→Ro)→St→Ro:=fun a s=>run ae6 N ae7 (asG (run ae6 N) a) s
def fx(N:Nat)(a:xv→Ro):xv→Ro:=fun(c,f,d,l,b)=>
 let e:=(some (.tup [.int .u32 0,.int .i64 0],[]):Ro)
 let m:=(some (.tup [.int .u32 d,.int .i64 f],[]):Ro)
 cond (decide (b<f)) (
 chk (ixl b c) (
 let n:=(↑(UInt8.toNat (List.getD c (Int.toNat b) 0)):Int)
 cond (decide (n<128)) (
 e) (
 chk (ixl b c) (
 let o:=(↑(UInt8.toNat (List.getD c (Int.toNat b) 0)):Int)
 cond (decide (191<o)) (
 e) (
 let g:=(IntKind.wrap .u32 (d*64))
 chk (ixl b c) (
 let h:=(↑(UInt8.toNat (List.getD c (Int.toNat b) 0)):Int)
 let i:=(IntKind.wrap .u8 (h-128))
 let j:=(IntKind.wrap .u32 (g+(IntKind.wrap .u32 i)))
 let k:=(IntKind.wrap .i64 (b+1))
 a (c,f,j,l,k))))))) (
 cond (decide (d<l)) (
 e) (
 cond (decide (1114111<d)) (
 e) (
 cond (decide (55296≤d)) (
 cond (decide (d≤57343)) (
 e) (
 m)) (
 m))))
theorem aqU(N:Nat):LB (abV N) vb (fx N):=fun _ _=>by kernel_rfl
def ua(N:Nat)(b:Bs)(d:xv→Ro):Ro:=
 let x1:=(↑(List.length b):Int)
 let c:=(some (.tup [.int .u32 0,.int .i64 0],[]):Ro)
 cond (x1==0) (
 c) (
 chk (decide ((0:Int)<↑(List.length b))) (
 let a:=(↑(UInt8.toNat (List.getD b (Int.toNat 0) 0)):Int)
 let x3:=decide ((IntKind.wrap .u32 a)<128)
 cond x3 (
 some (.tup [.int .u32 (IntKind.wrap .u32 a),.int .i64 1],[])) (
 let x4:=decide (192≤(IntKind.wrap .u32 a))
 cond x4 (
 let x5:=decide ((IntKind.wrap .u32 a)<224)
 cond x5 (
 let x6:=(IntKind.wrap .u32 ((IntKind.wrap .u32 a)-192))
 let x7:=(↑(List.length b):Int)
 cond (decide (x7<2)) (
 c) (
 d (b,2,x6,128,1))) (
 let e:=decide (224≤(IntKind.wrap .u32 a))
 cond e (
 let f:=decide ((IntKind.wrap .u32 a)<240)
 cond f (
 let g:=(IntKind.wrap .u32 ((IntKind.wrap .u32 a)-224))
 let h:=(↑(List.length b):Int)
 cond (decide (h<3)) (
 c) (
 d (b,3,g,2048,1))) (
 let i:=decide (240≤(IntKind.wrap .u32 a))
 cond i (
 let j:=decide ((IntKind.wrap .u32 a)<248)
 cond j (
 let k:=(IntKind.wrap .u32 ((IntKind.wrap .u32 a)-240))
 let l:=(↑(List.length b):Int)
 cond (decide (l<4)) (
 c) (
 d (b,4,k,65536,1))) (
 c)) (
 c))) (
 let m:=decide (240≤(IntKind.wrap .u32 a))
 cond m (
 let n:=decide ((IntKind.wrap .u32 a)<248)
 cond n (
 let o:=(IntKind.wrap .u32 ((IntKind.wrap .u32 a)-240))
 let p:=(↑(List.length b):Int)
 cond (decide (p<4)) (
 c) (
 d (b,4,o,65536,1))) (
 c)) (
 c)))) (
 let q:=decide (224≤(IntKind.wrap .u32 a))
 cond q (
 let r:=decide ((IntKind.wrap .u32 a)<240)
 cond r (
 let s:=(IntKind.wrap .u32 ((IntKind.wrap .u32 a)-224))
 let t:=(↑(List.length b):Int)
 cond (decide (t<3)) (
 c) (
 d (b,3,s,2048,1))) (
 let u:=decide (240≤(IntKind.wrap .u32 a))
 cond u (
 let v:=decide ((IntKind.wrap .u32 a)<248)
 cond v (
 let w:=(IntKind.wrap .u32 ((IntKind.wrap .u32 a)-240))
 let x:=(↑(List.length b):Int)
 cond (decide (x<4)) (
 c) (
 d (b,4,w,65536,1))) (
 c)) (
 c))) (
 let y:=decide (240≤(IntKind.wrap .u32 a))
 cond y (
 let z:=decide ((IntKind.wrap .u32 a)<248)
 cond z (
 let aa:=(IntKind.wrap .u32 ((IntKind.wrap .u32 a)-240))
 let ab:=(↑(List.length b):Int)
 cond (decide (ab<4)) (
 c) (
 d (b,4,aa,65536,1))) (
 c)) (
 c))))))
def ac5(N:Nat)(a:Bs):Ro:=ua N a (fun z=>aR N (fx N) z)
theorem ahS(N:Nat)(a:Bs)(h:Tot (ac5 N a) (fun z=>∃(c:Int)(d:Int)(rest:List aK),z.1.dimR=.tup [.int .u32 c,.int .i64 d]∧z.2=rest∧af1 a (c,d))):∃r,oS a r:=auN.finP (N:=N) ((bo _ (by kernel_rfl) rfl (fun C=>ua N a (fun z=>C 1000000 (vb z))) (fun C=>by kernel_rfl)).trans (Eq.trans (b:=ua N a (fun z=>aX N (abV N) (vb z))) (by kernel_rfl) (congrArg (ua N a) (funext fun z=>aW (vb) (abV N) (fx N) (aqU N) N z)))) h fun _ ⟨c,d,_,e,_,q⟩=>⟨(c,d),e,q⟩
noncomputable def agM:aN:=tab (P:=Try.prog) [] [] [] []
def ahT:IR:=Sq (Rs [Mv 14 0,Mv 15 7,Bi 16 .shr 14 15,Pp (.bin 17 .eql 16 (kU 0))] (Cn 17 .skip (.exit 0))) (.block 1 (Rg [Mv 18 7,Bc 19 .sub 18 1,Mv 7 19]))
def agx:IR:=Rs [Mv 20 0,Mv 8 20] (Sq (Rs [Mv 21 7,Mv 22 1,Bi 23 .leq 21 22] (Cn 23 (Rg [Mv 24 0,Mv 25 1,Mv 26 7,Bi 27 .sub 25 26,Bi 28 .shl 24 27,Mv 8 28]) (Rs [Mv 29 7,Mv 30 1,Bi 31 .sub 29 30,Mv 9 31] (Rs [Mv 32 9,Bc 33 .sub 32 1,Pp (.bin 34 .shl (kU 1) 33),Mv 10 34] (Rs [Mv 35 0,Mv 36 9,Pp (.bin 37 .shl (kU 1) 36),Bi 38 .rem 35 37,Mv 11 38] (Rs [Mv 39 0,Mv 40 9,Bi 41 .shr 39 40,Mv 8 41] (Rs [Mv 42 11,Mv 43 10,Bi 44 .gtr 42 43,Mv 45 44,Gf 45 (.mov 46 11),Gf 45 (.mov 47 10),Gf 45 (.bin 48 .eql 46 47),Gf 45 (.mov 49 48),Gt 49 (.mov 50 8),Gt 49 (.bin 51 .rem 50 (kU 2)),Gt 49 (.bin 52 .eql 51 (kU 1)),Gf 45 (.pick 53 49 52 (kB false)),Po 54 45 53] (Cn 54 (Rg [Mv 55 8,Pp (.bin 56 .add 55 (kU 1)),Mv 8 56]) .skip)))))))) (Sq (.reg [Mv 57 7,Mv 58 2,Bi 59 .add 57 58,Pp (.cvi 60 .u64 59),Mv 61 1,Bi 62 .shl 60 61,Mv 63 8,Mv 64 1,Pp (.bin 65 .shl (kU 1) 64),Bi 66 .sub 63 65,Bi 67 .add 62 66,Mv 6 67] [[],[],[0,1],[0,1,2],[],rg 0 4,[],[],[7],[6,7,8],rg 0 9,rg 0 10]) .ret))
def awF:IR:=Rs [Pp (.mov 6 (kU 0))] (Sq (Rs [Mv 12 0,Pp (.bin 13 .eql 12 (kU 0))] (Cn 13 (Rs [Pp (.mov 6 (kU 0))] .ret) .skip)) (Rs [Mi 7 63] (Sq (.block 0 (.loop [0,1,2,7,1000000] 0 ahT)) agx)))
def amG:List RV:=[.t 6]
theorem awG:FnC Try.prog agM [] 0 an3 Try.f154 awF amG:=fnC Try.func154
def auO(R:IR→(Ex→St→Ro)→St→Ro)(a:St→Ro):Ex→St→Ro:=(bj a [0,1,2,7,1000000] 0 (aP 0 (bg (R agx) (fin amG))))
abbrev yV:Type:=(Int×Int×Int×Int)
def xw:yV→St:=fun(a,b,c,d)=>{env:=(.int .u64 a::.int .i64 b::.int .i64 c::(U 4 (.int .i64 d::(U 60 [])))),hp:=[]}
def ac6(N:Nat):(St→Ro)→St→Ro:=fun a s=>run agM N ahT (auO (run agM N) a) s
def yW(N:Nat)(d:yV→Ro):yV→Ro:=fun(e,a,f,b)=>
 chk (decide (0≤b)) (
 cond ((nM .u64 e b)==0) (
 let x1:=(IntKind.wrap .i64 (b-1))
 d (e,a,f,x1)) (
 cond (decide (b≤a)) (
 let x2:=(IntKind.wrap .i64 (a-b))
 chk (decide (0≤x2)) (
 let x3:=(IntKind.wrap .i64 (b+f))
 chk (decide (0≤a)) (
 let x4:=(f5 .u64 (IntKind.wrap .u64 x3) a)
 chk (decide (0≤a)) (
 let x5:=(IntKind.wrap .u64 ((f5 .u64 e x2)-(f5 .u64 1 a)))
 let x6:=(IntKind.wrap .u64 (x4+x5))
 some (.int .u64 x6,[]))))) (
 let c:=(IntKind.wrap .i64 (b-a))
 let g:=(IntKind.wrap .i64 (c-1))
 chk (decide (0≤g)) (
 chk (decide (0≤c)) (
 chk (!((f5 .u64 1 c)==0)) (
 let x9:=(Int.tmod e (f5 .u64 1 c))
 chk (decide (0≤c)) (
 let h:=decide ((f5 .u64 1 g)<x9)
 cond h (
 let i:=(IntKind.wrap .u64 ((nM .u64 e c)+1))
 let j:=(IntKind.wrap .i64 (b+f))
 chk (decide (0≤a)) (
 let k:=(f5 .u64 (IntKind.wrap .u64 j) a)
 chk (decide (0≤a)) (
 let l:=(IntKind.wrap .u64 (i-(f5 .u64 1 a)))
 let m:=(IntKind.wrap .u64 (k+l))
 some (.int .u64 m,[])))) (
 cond (x9==(f5 .u64 1 g)) (
 let n:=(Int.tmod (nM .u64 e c) 2)
 cond (n==1) (
 let o:=(IntKind.wrap .u64 ((nM .u64 e c)+1))
 let p:=(IntKind.wrap .i64 (b+f))
 chk (decide (0≤a)) (
 let q:=(f5 .u64 (IntKind.wrap .u64 p) a)
 chk (decide (0≤a)) (
 let r:=(IntKind.wrap .u64 (o-(f5 .u64 1 a)))
 let s:=(IntKind.wrap .u64 (q+r))
 some (.int .u64 s,[])))) (
 let t:=(IntKind.wrap .i64 (b+f))
 chk (decide (0≤a)) (
 let u:=(f5 .u64 (IntKind.wrap .u64 t) a)
 chk (decide (0≤a)) (
 let v:=(IntKind.wrap .u64 ((nM .u64 e c)-(f5 .u64 1 a)))
 let w:=(IntKind.wrap .u64 (u+v))
 some (.int .u64 w,[]))))) (
 let x:=(IntKind.wrap .i64 (b+f))
 chk (decide (0≤a)) (
 let y:=(f5 .u64 (IntKind.wrap .u64 x) a)
 chk (decide (0≤a)) (
 let z:=(IntKind.wrap .u64 ((nM .u64 e c)-(f5 .u64 1 a)))
 let aa:=(IntKind.wrap .u64 (y+z))
 some (.int .u64 aa,[]))))))))))))
theorem asH(N:Nat):LB (ac6 N) xw (yW N):=fun _ _=>by kernel_rfl
def wC(N:Nat)(a b c:Int)(d:yV→Ro):Ro:=
 cond (a==0) (
 some (.int .u64 0,[])) (
 d (a,b,c,63))
def amH(N:Nat)(a b c:Int):Ro:=wC N a b c (fun z=>aR N (yW N) z)
theorem auP(N:Nat)(a c d:Int)(h:Tot (amH N a c d) (fun z=>∃(f:Int)(rest:List aK),z.1.dimR=.int .u64 f∧z.2=rest)):∃r,oE a c d r:=awG.finP0 (N:=N) ((bo _ (by kernel_rfl) rfl (fun C=>wC N a c d (fun z=>C 1000000 (xw z))) (fun C=>by kernel_rfl)).trans (Eq.trans (b:=wC N a c d (fun z=>aX N (ac6 N) (xw z))) (by kernel_rfl) (congrArg (wC N a c d) (funext fun z=>aW (xw) (ac6 N) (yW N) (asH N) N z)))) h fun _ ⟨f,_,e,_⟩=>⟨(f),e⟩
noncomputable def awH:aN:=tab (P:=Try.prog) [] [] [] [aoa]
def auQ:IR:=Rs [Pp (.mov 2 (.c (.int .u32 0)))] (Sq (Rs [Mv 3 0,Bc 4 .lss 3 0] (Cn 4 (Rs [Mv 5 0,Bc 6 .add 5 1,Pp (.un 7 .neg 6),Pp (.cvi 8 .u64 7),Pp (.bin 9 .add 8 (kU 1)),Ca 10 154 [9,kI 23,kI 127],Pp (.cvi 11 .u32 10),Pp (.bin 12 .or (.c (.int .u32 2147483648)) 11),Mv 2 12] .ret) .skip)) (Rs [Mv 13 0,Pp (.cvi 14 .u64 13),Ca 15 154 [14,kI 23,kI 127],Pp (.cvi 16 .u32 15),Mv 2 16] .ret))
def auR:List RV:=[.t 2]
theorem auS:FnC Try.prog awH [] 0 alE Try.f132 auQ auR:=fnC Try.func132
def akw(N:Nat)(a:Int):Ro:=
 cond (decide (a<0)) (
 let b:=(IntKind.wrap .i64 (a+1))
 let c:=(IntKind.wrap .i64 (0-b))
 let d:=(IntKind.wrap .u64 ((IntKind.wrap .u64 c)+1))
 aG (oE d 23 127) (fun(e:Int)=>
 let f:=(eY .or .u32 2147483648 (IntKind.wrap .u32 e))
 some (.int .u32 f,[]))) (
 aG (oE (IntKind.wrap .u64 a) 23 127) (fun(g:Int)=>
 some (.int .u32 (IntKind.wrap .u32 g),[])))
def akx(N:Nat)(a:Int):Ro:=akw N a
theorem asI(N:Nat)(b:Int)(h:Tot (akx N b) (fun z=>∃(a:Int)(rest:List aK),z.1.dimR=.int .u32 a∧z.2=rest)):∃r,rx b r:=auS.finP0 (N:=N) (by kernel_rfl) h fun _ ⟨a,_,e,_⟩=>⟨(a),e⟩
noncomputable def auT:aN:=tab (P:=Try.prog) [] [] [] [aoa]
def asJ:IR:=Rs [Pp (.mov 2 (kU 0))] (Sq (Rs [Mv 3 0,Bc 4 .lss 3 0] (Cn 4 (Rs [Mv 5 0,Bc 6 .add 5 1,Pp (.un 7 .neg 6),Pp (.cvi 8 .u64 7),Pp (.bin 9 .add 8 (kU 1)),Ca 10 154 [9,kI 52,kI 1023],Pp (.bin 11 .or (kU 9223372036854775808) 10),Mv 2 11] .ret) .skip)) (Rs [Mv 12 0,Pp (.cvi 13 .u64 12),Ca 14 154 [13,kI 52,kI 1023],Mv 2 14] .ret))
def asK:List RV:=[.t 2]
theorem asL:FnC Try.prog auT [] 0 ajI Try.f133 asJ asK:=fnC Try.func133
def ahU(N:Nat)(a:Int):Ro:=
 cond (decide (a<0)) (
 let b:=(IntKind.wrap .i64 (a+1))
 let c:=(IntKind.wrap .i64 (0-b))
 let d:=(IntKind.wrap .u64 ((IntKind.wrap .u64 c)+1))
 aG (oE d 52 1023) (fun(e:Int)=>
 let f:=(eY .or .u64 9223372036854775808 e)
 some (.int .u64 f,[]))) (
 aG (oE (IntKind.wrap .u64 a) 52 1023) (fun(g:Int)=>
 some (.int .u64 g,[])))
def ahV(N:Nat)(a:Int):Ro:=ahU N a
theorem aqV(N:Nat)(b:Int)(h:Tot (ahV N b) (fun z=>∃(a:Int)(rest:List aK),z.1.dimR=.int .u64 a∧z.2=rest)):∃r,ng b r:=asL.finP0 (N:=N) (by kernel_rfl) h fun _ ⟨a,_,e,_⟩=>⟨(a),e⟩
end Go.Proofs.Ytdpajabhmmmjoaa
end
noncomputable section
namespace Go.Proofs.Ytdpajabhmmmjoaa
open Go.AM
set_option autoImplicit false
set_option linter.unusedSimpArgs false
set_option linter.unusedVariables false
theorem adZ(a:UInt8)(n:Nat)(h:n<256):(UInt8.ofNat n=a)↔(n=a.toNat):=by
 constructor
 ·rintro rfl;simp;omega
 ·intro h;subst h;simp
theorem aCF(a b:UInt8)(v:Nat)(hv:v<32)(ha:a.toNat=192+v):
  gly (v*64+b.toNat%64)=[a,b]↔(128≤b.toNat∧b.toNat≤191∧128≤v*64+b.toNat%64):=by
 have hb:=UInt8.toNat_lt b
 unfold gly
 by_cases h1:v*64+b.toNat%64<128
 ·rw[if_pos h1]
  constructor
  ·intro h;simp at h
  ·omega
 ·rw[if_neg h1,if_pos (by omega)]
  simp only[List.cons.injEq,and_true]
  rw[adZ _ _ (by omega),adZ _ _ (by omega)]
  omega
theorem aCG(a b c:UInt8)(v:Nat)(hv:v<16)(ha:a.toNat=224+v)(r:Nat)(hr:r=(v*64+b.toNat%64)*64+c.toNat%64):
  gly r=[a,b,c]↔(128≤b.toNat∧b.toNat≤191∧128≤c.toNat∧c.toNat≤191∧2048≤r∧¬(55296≤r∧r≤57343)):=by
 have hb:=UInt8.toNat_lt b
 have hc:=UInt8.toNat_lt c
 unfold gly
 by_cases h1:r<128
 ·rw[if_pos h1]
  constructor
  ·intro h;simp at h
  ·omega
 by_cases h2:r<2048
 ·rw[if_neg h1,if_pos h2]
  constructor
  ·intro h;simp at h
  ·omega
 by_cases h3:(55296≤r∧r<57344)∨1114111<r
 ·rw[if_neg h1,if_neg h2,if_pos h3]
  constructor
  ·intro h
   simp only[List.cons.injEq,and_true] at h
   obtain⟨rfl,rfl,rfl⟩:=h
   simp at ha hr
   omega
  ·omega
 ·rw[if_neg h1,if_neg h2,if_neg h3,if_pos (by omega)]
  simp only[List.cons.injEq,and_true]
  rw[adZ _ _ (by omega),adZ _ _ (by omega),adZ _ _ (by omega)]
  omega
theorem aCH(a b c d:UInt8)(v:Nat)(hv:v<8)(ha:a.toNat=240+v)(r:Nat)(hr:r=((v*64+b.toNat%64)*64+c.toNat%64)*64+d.toNat%64):
  gly r=[a,b,c,d]↔(128≤b.toNat∧b.toNat≤191∧128≤c.toNat∧c.toNat≤191∧128≤d.toNat∧d.toNat≤191∧65536≤r∧r≤1114111):=by
 have hb:=UInt8.toNat_lt b
 have hc:=UInt8.toNat_lt c
 have hd:=UInt8.toNat_lt d
 unfold gly
 by_cases h1:r<128
 ·rw[if_pos h1]
  constructor
  ·intro h;simp at h
  ·omega
 by_cases h2:r<2048
 ·rw[if_neg h1,if_pos h2]
  constructor
  ·intro h;simp at h
  ·omega
 by_cases h3:(55296≤r∧r<57344)∨1114111<r
 ·rw[if_neg h1,if_neg h2,if_pos h3]
  constructor
  ·intro h;simp at h
  ·omega
 by_cases h4:r<65536
 ·rw[if_neg h1,if_neg h2,if_neg h3,if_pos h4]
  constructor
  ·intro h;simp at h
  ·omega
 ·rw[if_neg h1,if_neg h2,if_neg h3,if_neg h4]
  simp only[List.cons.injEq,and_true]
  rw[adZ _ _ (by omega),adZ _ _ (by omega),adZ _ _ (by omega),adZ _ _ (by omega)]
  omega
theorem apd(n v:Nat)(s:List UInt8):(mA n v s).2 ≤s.length:=by
 unfold mA
 split
 ·simp
 ·dsimp only
  split
  ·dsimp only;omega
  ·simp
theorem aAU(s:List UInt8):(md s).2 ≤s.length:=by
 unfold md
 split
 ·simp
 ·rename_i c t
  split
  ·simp
  ·split
   ·exact apd _ _ _
   ·split
    ·exact apd _ _ _
    ·split
     ·exact apd _ _ _
     ·simp
theorem acd:∀(k:Nat)(s:List UInt8),s.length≤k→aen k s=aen s.length s
 |k,[],h=>by cases k<;>rfl
 |0,_::_,h=>by simp at h
 |k+1,c::s,h=>by
  have h1:s.length+1≤k+1:=h
  show (if (md (c::s)).2 =0 then false else aen k ((c::s).drop (md (c::s)).2))=(if (md (c::s)).2 =0 then false else aen s.length ((c::s).drop (md (c::s)).2))
  split
  ·rfl
  ·rename_i hp
   have hl:((c::s).drop (md (c::s)).2).length≤s.length:=by simp;omega
   rw[acd k _ (by omega)]
   by_cases hk:s.length=k
   ·rw[hk];exact(acd k _ (by omega)).symm
   ·exact(acd s.length _ hl).symm
termination_by k=>k
decreasing_by all_goals (try simp_wf);all_goals omega
theorem axT(c:UInt8)(s:List UInt8):iB (c::s)=if (md (c::s)).2 =0 then false else iB ((c::s).drop (md (c::s)).2):=by
 show (if (md (c::s)).2 =0 then false else aen s.length ((c::s).drop (md (c::s)).2))=_
 split
 ·rfl
 ·exact acd _ _ (by simp;omega)
end Go.Proofs.Ytdpajabhmmmjoaa
end
noncomputable section
namespace Go.Proofs.Ytdpajabhmmmjoaa
open Go.AM
set_option autoImplicit false
set_option linter.unusedVariables false
set_option linter.unusedSimpArgs false
set_option maxRecDepth 100000
theorem s9{α R:Type}(n:Nat)(B:(α→Option R)→α→Option R)(x:α):aR (n+1) B x=B (aR n B) x:=rfl
theorem rS(N:Nat)(rec:(List UInt8×Int×Int×Int×Int)→Option (V×List aK))(s:List UInt8)(v n i:Nat)(l:Int)(x:UInt8)(hx:s.getD i 0=x)(hv:v<2^20)(hi:i<n)(hn:n≤s.length)(h4:n≤4):
  fx N rec (s,(n:Int),(v:Int),l,(i:Int))=if 128≤x.toNat∧x.toNat≤191 then rec (s,(n:Int),((v*64+x.toNat%64:Nat):Int),l,((i+1:Nat):Int)) else some (.tup [.int .u32 0,.int .i64 0],[]):=by
 have hb:=UInt8.toNat_lt x
 simp only[fx,Int.toNat_natCast,hx]
 by_cases h1:x.toNat<128
 ·rw[if_neg (by omega)]
  simp(disch:=omega) only[kd,]
 by_cases h2:191<x.toNat
 ·rw[if_neg (by omega)]
  simp(disch:=omega) only[kd,]
 ·rw[if_pos (by omega)]
  simp(disch:=omega) only[kd,]
  rw[show (v:Int)*64+((x.toNat:Int)-128)=((v*64+x.toNat%64:Nat):Int) by omega]
  rfl
theorem aja(N:Nat)(rec:(List UInt8×Int×Int×Int×Int)→Option (V×List aK))(s:List UInt8)(v n l:Nat):
  fx N rec (s,(n:Int),(v:Int),(l:Int),(n:Int))=if l≤v∧v≤1114111∧¬(55296≤v∧v≤57343) then some (.tup [.int .u32 v,.int .i64 n],[]) else some (.tup [.int .u32 0,.int .i64 0],[]):=by
 simp only[fx]
 by_cases h1:v<l
 ·rw[if_neg (by omega)];simp(disch:=omega) only[kd,]
 by_cases h2:1114111<v
 ·rw[if_neg (by omega)];simp(disch:=omega) only[kd,]
 by_cases h3:55296≤v
 ·by_cases h4:v≤57343
  ·rw[if_neg (by omega)];simp(disch:=omega) only[kd,]
  ·rw[if_pos (by omega)];simp(disch:=omega) only[kd,]
 ·rw[if_pos (by omega)];simp(disch:=omega) only[kd,]
theorem aAV(M:Nat)(a b:UInt8)(t:List UInt8)(v:Nat)(hv:v<32)(ha:a.toNat=192+v):
  aR (M+5) (fx (M+5)) (a::b::t,((2:Nat):Int),(v:Int),((128:Nat):Int),((1:Nat):Int))=some (.tup [.int .u32 (mA 2 v (a::b::t)).1,.int .i64 (mA 2 v (a::b::t)).2],[]):=by
 have hg:=aCF a b v hv ha
 rw[s9,rS _ _ _ _ 2 1 _ b rfl (by omega) (by omega) (by simp) (by omega),s9,aja]
 simp only[mA]
 rw[if_neg (show ¬(a::b::t).length<2 by simp)]
 simp only[List.take_succ_cons,List.take_zero,List.tail_cons,List.foldl_cons,List.foldl_nil,hg]
 by_cases h1:128≤b.toNat∧b.toNat≤191
 ·rw[if_pos h1]
  by_cases h2:128≤v*64+b.toNat%64
  ·rw[if_pos (by omega),if_pos (by omega)]
  ·rw[if_neg (by omega),if_neg (by omega)];rfl
 ·rw[if_neg h1,if_neg (by omega)];rfl
theorem aAW(M:Nat)(a b c:UInt8)(t:List UInt8)(v:Nat)(hv:v<16)(ha:a.toNat=224+v):
  aR (M+5) (fx (M+5)) (a::b::c::t,((3:Nat):Int),(v:Int),((2048:Nat):Int),((1:Nat):Int))=some (.tup [.int .u32 (mA 3 v (a::b::c::t)).1,.int .i64 (mA 3 v (a::b::c::t)).2],[]):=by
 have hg:=aCG a b c v hv ha _ rfl
 rw[s9,rS _ _ _ _ 3 1 _ b rfl (by omega) (by omega) (by simp) (by omega),s9,rS _ _ _ _ 3 2 _ c rfl (by omega) (by omega) (by simp) (by omega),s9,aja]
 simp only[mA]
 rw[if_neg (show ¬(a::b::c::t).length<3 by simp)]
 simp only[List.take_succ_cons,List.take_zero,List.tail_cons,List.foldl_cons,List.foldl_nil,hg]
 by_cases h1:128≤b.toNat∧b.toNat≤191
 ·rw[if_pos h1]
  by_cases h2:128≤c.toNat∧c.toNat≤191
  ·rw[if_pos h2]
   by_cases h3:2048≤(v*64+b.toNat%64)*64+c.toNat%64∧¬(55296≤(v*64+b.toNat%64)*64+c.toNat%64∧(v*64+b.toNat%64)*64+c.toNat%64≤57343)
   ·rw[if_pos (by omega),if_pos (by omega)]
   ·rw[if_neg (by omega),if_neg (by omega)];rfl
  ·rw[if_neg h2,if_neg (by omega)];rfl
 ·rw[if_neg h1,if_neg (by omega)];rfl
theorem aAX(M:Nat)(a b c d:UInt8)(t:List UInt8)(v:Nat)(hv:v<8)(ha:a.toNat=240+v):
  aR (M+5) (fx (M+5)) (a::b::c::d::t,((4:Nat):Int),(v:Int),((65536:Nat):Int),((1:Nat):Int))=some (.tup [.int .u32 (mA 4 v (a::b::c::d::t)).1,.int .i64 (mA 4 v (a::b::c::d::t)).2],[]):=by
 have hg:=aCH a b c d v hv ha _ rfl
 rw[s9,rS _ _ _ _ 4 1 _ b rfl (by omega) (by omega) (by simp) (by omega),s9,rS _ _ _ _ 4 2 _ c rfl (by omega) (by omega) (by simp) (by omega),s9,rS _ _ _ _ 4 3 _ d rfl (by omega) (by omega) (by simp) (by omega),s9,aja]
 simp only[mA]
 rw[if_neg (show ¬(a::b::c::d::t).length<4 by simp)]
 simp only[List.take_succ_cons,List.take_zero,List.tail_cons,List.foldl_cons,List.foldl_nil,hg]
 by_cases h1:128≤b.toNat∧b.toNat≤191
 ·rw[if_pos h1]
  by_cases h2:128≤c.toNat∧c.toNat≤191
  ·rw[if_pos h2]
   by_cases h3:128≤d.toNat∧d.toNat≤191
   ·rw[if_pos h3]
    by_cases h4:65536≤((v*64+b.toNat%64)*64+c.toNat%64)*64+d.toNat%64∧((v*64+b.toNat%64)*64+c.toNat%64)*64+d.toNat%64≤1114111
    ·rw[if_pos (by omega),if_pos (by omega)]
    ·rw[if_neg (by omega),if_neg (by omega)];rfl
   ·rw[if_neg h3,if_neg (by omega)];rfl
  ·rw[if_neg h2,if_neg (by omega)];rfl
 ·rw[if_neg h1,if_neg (by omega)];rfl
theorem ae9(M:Nat)(s:List UInt8)(hl:s.length≤9223372036854775807):
  ac5 (M+5) s=some (.tup [.int .u32 (ye s).1,.int .i64 (ye s).2],[]):=by
 match s with
 | []=>rfl
 |c::t=>
  have hc:c.toNat<256:=UInt8.toNat_lt _
  rw[List.length_cons] at hl
  simp only[ac5,ua,ye,md,List.length_cons,Int.toNat_zero,List.getD_cons_zero]
  by_cases h1:c.toNat<128
  ·simp(disch:=omega) only[kd,]
   rfl
  by_cases h0:c.toNat<192
  ·simp(disch:=omega) only[kd,]
   rfl
  by_cases h2:c.toNat<224
  ·have e:c.toNat / 32=6:=by omega
   match t with
   | []=>simp(disch:=omega) only[kd,mA,List.length_cons,List.length_nil];rfl
   |b::t=>
    rw[List.length_cons] at hl
    simp(disch:=omega) only[kd,e,List.length_cons]
    rw[show (c.toNat:Int)-192=((c.toNat%32:Nat):Int) by omega]
    exact aAV M c b t _ (by omega) (by omega)
  by_cases h3:c.toNat<240
  ·have e:c.toNat / 16=14:=by omega
   match t with
   | []=>simp(disch:=omega) only[kd,mA,List.length_cons,List.length_nil];rfl
   | [b]=>simp(disch:=omega) only[kd,mA,List.length_cons,List.length_nil];rfl
   |b::d::t=>
    rw[List.length_cons,List.length_cons] at hl
    simp(disch:=omega) only[kd,e,List.length_cons]
    rw[show (c.toNat:Int)-224=((c.toNat%16:Nat):Int) by omega]
    exact aAW M c b d t _ (by omega) (by omega)
  by_cases h4:c.toNat<248
  ·have e:c.toNat / 8=30:=by omega
   match t with
   | []=>simp(disch:=omega) only[kd,mA,List.length_cons,List.length_nil];rfl
   | [b]=>simp(disch:=omega) only[kd,mA,List.length_cons,List.length_nil];rfl
   | [b,d]=>simp(disch:=omega) only[kd,mA,List.length_cons,List.length_nil];rfl
   |b::d::f::t=>
    rw[List.length_cons,List.length_cons,List.length_cons] at hl
    simp(disch:=omega) only[kd,e,List.length_cons]
    rw[show (c.toNat:Int)-240=((c.toNat%8:Nat):Int) by omega]
    exact aAX M c b d f t _ (by omega) (by omega)
  ·simp(disch:=omega) only[kd,]
   rfl
end Go.Proofs.Ytdpajabhmmmjoaa
end
noncomputable section
namespace Go.Proofs.Ytdpajabhmmmjoaa
open Go.AM
set_option autoImplicit false
set_option linter.unusedVariables false
set_option linter.unusedSimpArgs false
set_option maxRecDepth 100000
theorem ay1(c:Int):∃r,tL c r:=by
 apply aqS 1
 unfold ahR ahQ
 dsimp only
 repeat' (first|(with_reducible refine aC ?_ ?_<;>(intro hb;(try simp only[bnl] at hb);(try revert hb;intro _)))|with_reducible refine aJ ?_ ?_|with_reducible refine aF ?_|fail)
 all_goals exact⟨_,_,rfl,rfl⟩
theorem azT(c:Int):∃r,wc c r:=by
 apply asC 1
 unfold akq akp
 repeat' (first|(with_reducible refine aC ?_ ?_<;>(intro hb;(try simp only[bnl] at hb);(try revert hb;intro _)))|with_reducible refine aJ ?_ ?_|with_reducible refine aF ?_|fail)
 all_goals exact⟨_,_,rfl,rfl⟩
theorem ajb(s:List UInt8)(hs:s.length≤1000000):∃r,lz s r:=by
 apply auB 2000000
 unfold amD wB
 refine aU (fun x=>x.1=s∧0≤x.2∧x.2≤(s.length:Int)) (fun x=>((s.length:Int)-x.2).toNat) ?_ _ _ ⟨rfl,by simp,by simp⟩ (by simp;omega)
 rintro again ⟨a,i⟩ ⟨rfl,i1,i2⟩ ih
 simp only at i1 i2 ih hs ⊢
 have next:i<a.length→Tot (again (a,IntKind.i64.wrap (i+1))) _:=fun h=>ih (a,IntKind.i64.wrap (i+1)) (by simp only[aI (i+1) (by omega)];exact⟨trivial,by omega,by omega⟩) (by simp only[aI (i+1) (by omega)];omega)
 unfold yU
 dsimp only
 repeat' (first|(with_reducible refine aC ?_ ?_<;>(intro hb;(try simp only[bnl] at hb);(try revert hb;intro _)))|with_reducible refine aJ ?_ ?_|with_reducible refine aF ?_|(refine aE (ay1 _) ?_;intro _ _)|(refine aE (azT _) ?_;intro _ _)|(exact next (by assumption))|fail)
 all_goals first|exact⟨_,_,rfl,rfl⟩|(simp only[bnl];omega)
theorem aAY(a b:List UInt8)(ha:a.length≤1000000)(hb:b.length≤1000000):∃r,yk a b r:=by
 apply auG 1
 unfold amF amE
 dsimp only
 repeat' (first|(with_reducible refine aC ?_ ?_<;>(intro hb;(try simp only[bnl] at hb);(try revert hb;intro _)))|with_reducible refine aJ ?_ ?_|with_reducible refine aF ?_|fail)
 all_goals first|exact⟨_,_,rfl,rfl,by simp only[xb,List.length_append,List.length_cons,List.length_nil];omega⟩|(simp only[bnl,List.length_append,List.length_cons,List.length_nil];omega)
theorem azU(s:List UInt8)(hs:s.length≤1000000):∃r,wa s r:=by
 apply asE 2000000
 unfold aks t9
 refine aU (fun x=>x.1=s∧0≤x.2.2∧x.2.2≤(s.length:Int)+1∧(x.2.1.length:Int)≤x.2.2) (fun x=>((s.length:Int)+1-x.2.2).toNat) ?_ _ _ ⟨rfl,by simp,by simp;omega,by simp⟩ (by simp;omega)
 rintro again ⟨a,p,i⟩ ⟨rfl,i1,i2,i3⟩ ih
 simp only at i1 i2 i3 ih hs ⊢
 have next:∀q:List UInt8,i≤a.length→(q.length:Int)≤i+1→Tot (again (a,q,IntKind.i64.wrap (i+1))) _:=fun q h hq=>ih (a,q,IntKind.i64.wrap (i+1)) (by simp only[aI (i+1) (by omega)];exact⟨trivial,by omega,by omega,by omega⟩) (by simp only[aI (i+1) (by omega)];omega)
 unfold xu
 dsimp only
 repeat' (first|(with_reducible refine aC ?_ ?_<;>(intro hb;(try simp only[bnl] at hb);(try revert hb;intro _)))|with_reducible refine aJ ?_ ?_|with_reducible refine aF ?_|(refine aE (ajb _ (by omega)) ?_;intro _ _)|fail)
 all_goals first|exact⟨_,_,rfl,rfl⟩|(refine next _ (by omega) ?_)|skip
 all_goals try simp(disch:=omega) only[kd,bnl,List.length_append,List.length_cons,List.length_nil,List.length_drop,List.length_take]
 all_goals first|omega|skip
theorem aCI(v k:Int)(hk:0≤k)(h:(nM .u64 v k==0)=true)(hv:0<v):0<k:=by
 rcases Int.lt_or_eq_of_le hk with h1|h1
 ·exact h1
 ·subst h1
  simp[nM] at h
  omega
theorem aCr:∀k:Nat,k<64→(!(f5 .u64 1 (k:Int)==0))=true:=by
 intro k hk
 have:∀k:Fin 64,(!(f5 .u64 1 ((k:Nat):Int)==0))=true:=by decide
 exact this ⟨k,hk⟩
theorem awI(v a b:Int)(hv:0≤v)(ha:0≤a)(ha2:a≤60)(hb:0≤b)(hb2:b≤2000):∃r,oE v a b r:=by
 apply auP 100
 unfold amH wC
 repeat' (first|(with_reducible refine aC ?_ ?_<;>(intro hb;(try simp only[bnl] at hb);(try revert hb;intro _)))|with_reducible refine aJ ?_ ?_|with_reducible refine aF ?_|fail)
 ·exact⟨_,_,rfl,rfl⟩
 rename_i hne
 refine aU (fun x=>x.1=v∧x.2.1=a∧x.2.2.1=b∧0≤x.2.2.2∧x.2.2.2≤63) (fun x=>x.2.2.2.toNat) ?_ _ _ ⟨rfl,rfl,rfl,by simp,by simp⟩ (by simp)
 rintro again ⟨v,a,b,k⟩ ⟨rfl,rfl,rfl,i1,i2⟩ ih
 simp only at i1 i2 ih hne hv ha ha2 hb hb2 ⊢
 unfold yW
 dsimp only
 have e1:=aI (k-1) (by omega)
 have e2:=aI (a-k) (by omega)
 have e3:=aI (k-a) (by omega)
 refine aJ (by simp only[bnl];omega) (aC (fun h=>?_) (fun h=>aC (fun h1=>?_) (fun h1=>?_)))
 ·have:=aCI v k i1 h (by omega)
  exact ih (v,a,b,_) (by simp only[e1];exact⟨trivial,trivial,trivial,by omega,by omega⟩) (by simp only[e1];omega)
 ·simp only[bnl] at h1
  repeat' (first|(with_reducible refine aC ?_ ?_<;>(intro hb;(try simp only[bnl] at hb);(try revert hb;intro _)))|with_reducible refine aJ ?_ ?_|with_reducible refine aF ?_|fail)
  all_goals first|exact⟨_,_,rfl,rfl⟩|(simp only[bnl,e2];omega)
 ·simp only[bnl] at h1
  have e4:=aI (k-a-1) (by omega)
  have:=aCr (k-a).toNat (by omega)
  rw[Int.toNat_of_nonneg (by omega)] at this
  simp only[e3,e4]
  repeat' (first|(with_reducible refine aC ?_ ?_<;>(intro hb;(try simp only[bnl] at hb);(try revert hb;intro _)))|with_reducible refine aJ ?_ ?_|with_reducible refine aF ?_|fail)
  all_goals first|exact⟨_,_,rfl,rfl⟩|exact this|(simp only[bnl];omega)
theorem agy(n:Int):0≤IntKind.u64.wrap n:=by
 simp only[IntKind.wrap,IntKind.signed,IntKind.bits,Bool.false_and,Bool.false_eq_true,if_false]
 exact Int.emod_nonneg _ (by decide)
theorem att(n:Int):∃r,rx n r:=by
 apply asI 1
 unfold akx akw
 dsimp only
 repeat' (first|(with_reducible refine aC ?_ ?_<;>(intro hb;(try simp only[bnl] at hb);(try revert hb;intro _)))|with_reducible refine aJ ?_ ?_|with_reducible refine aF ?_|(refine aE (awI _ _ _ (agy _) (by omega) (by omega) (by omega) (by omega)) ?_;intro _ _)|fail)
 all_goals exact⟨_,_,rfl,rfl⟩
theorem aqW(n:Int):∃r,ng n r:=by
 apply aqV 1
 unfold ahV ahU
 dsimp only
 repeat' (first|(with_reducible refine aC ?_ ?_<;>(intro hb;(try simp only[bnl] at hb);(try revert hb;intro _)))|with_reducible refine aJ ?_ ?_|with_reducible refine aF ?_|(refine aE (awI _ _ _ (agy _) (by omega) (by omega) (by omega) (by omega)) ?_;intro _ _)|fail)
 all_goals exact⟨_,_,rfl,rfl⟩
theorem azV(s:List UInt8)(hs:s.length≤1000000):∃r,oS s r:=by
 apply ahS 100
 exact⟨_,ae9 95 s (by omega),_,_,_,rfl,rfl,rfl⟩
theorem atu(s:List UInt8):0≤(ye s).2 ∧(ye s).2 ≤s.length:=by
 have:=aAU s
 simp only[ye]
 omega
theorem azW(s:List UInt8)(hs:s.length≤1000000):∃r,wb s r:=by
 apply asF 1
 unfold aku akt
 refine aE (azV s hs) ?_
 rintro⟨a,b⟩ ⟨-,h⟩
 exact aF ⟨_,_,_,rfl,rfl,h⟩
theorem rT(k n:Int)(s:List UInt8)(l:List aD)(names:List (List UInt8))(name:List UInt8)(hl:names.length≤1000):∃r,dJ k n s l names name r:=by
 apply awx 2000
 unfold aok yr
 refine aU (fun x=>x.1=name∧x.2.1=k∧x.2.2.2.2.1=l∧x.2.2.2.2.2.1=names∧0≤x.2.2.2.2.2.2.1∧x.2.2.2.2.2.2.1≤(names.length:Int)∧∀j:Nat,(j:Int)<x.2.2.2.2.2.2.1→names.getD j []≠name)
  (fun x=>((names.length:Int)-x.2.2.2.2.2.2.1).toNat) ?_ _ _ ⟨rfl,rfl,rfl,rfl,by simp,by simp,fun j hj=>by simp at hj;omega⟩ (by simp;omega)
 rintro again ⟨a0,a1,a2,a3,a4,a5,i,b0,b1,b2,b3,b4⟩ ⟨rfl,rfl,rfl,rfl,i1,i2,i3⟩ ih
 simp only at i1 i2 i3 ih hl ⊢
 unfold aaF
 dsimp only
 repeat' (first|(with_reducible refine aC ?_ ?_<;>(intro hb;(try simp only[bnl] at hb);(try revert hb;intro _)))|with_reducible refine aJ ?_ ?_|with_reducible refine aF ?_|fail)
 ·simp only[bnl];omega
 ·simp only[bnl];omega
 ·rename_i hk hb hc hb2
  have e:=aws (names:=a5) (l:=a4) (name:=a0) (i:=i.toNat) (by omega) (by omega) (fun j hj=>i3 j (by omega)) hb2
  refine⟨_,_,_,_,_,_,_,rfl,rfl,?_⟩
  simp only[dg]
  rw[if_pos hk,e];rfl
 ·rename_i hk hb hc hb2
  have ew:=aI (i+1) (by omega)
  refine ih _ ⟨rfl,rfl,rfl,rfl,?_,?_,?_⟩ ?_
  ·simp only[ew];omega
  ·simp only[ew];omega
  ·simp only[ew]
   intro j hj
   by_cases e:(j:Int)=i
   ·have:i.toNat=j:=by omega
    rw[this] at hb2
    exact hb2
   ·exact i3 j (by omega)
  ·simp only[ew];omega
 ·rename_i hk hb hc
  refine⟨_,_,_,_,_,_,_,rfl,rfl,?_⟩
  simp only[dg]
  rw[if_pos hk,amB (i:=i.toNat) (fun j hj=>i3 j (by omega)) (.inr (by omega))]
  rfl
 ·rename_i hk hb
  refine⟨_,_,_,_,_,_,_,rfl,rfl,?_⟩
  simp only[dg]
  rw[if_pos hk,amB (i:=i.toNat) (fun j hj=>i3 j (by omega)) (.inl (by omega))]
  rfl
 ·rename_i hk
  refine⟨_,_,_,_,_,_,_,rfl,rfl,?_⟩
  simp only[dg]
  rw[if_neg hk];rfl
end Go.Proofs.Ytdpajabhmmmjoaa
end
noncomputable section
namespace Go.Proofs.Ytdpajabhmmmjoaa
open Go.AM
set_option autoImplicit false
set_option linter.unusedVariables false
set_option maxRecDepth 100000
end Go.Proofs.Ytdpajabhmmmjoaa
end
noncomputable section
namespace Go.AM
set_option autoImplicit false
set_option linter.unusedSimpArgs false
set_option linter.unusedVariables false
theorem aBA(a b:Int)(h:0≤b∧b≤64):nM .u64 a b=a / (2^b.toNat:Nat):=by
 unfold nM
 rw[show min b.toNat IntKind.u64.bits=b.toNat from by show min _ 64=_;omega,Int.fdiv_eq_ediv_of_nonneg _ (Int.le_of_lt (Int.pow_pos (by omega)))]
 norm_cast
theorem aBB(k:Nat)(hk:k≤32)(a:Int)(ha:0≤a∧a≤4294967295):eY .and .u32 a ((2^k-1:Nat):Int)=a%(2^k:Nat):=by
 obtain⟨n,rfl⟩:∃n:Nat,a=(n:Int):=⟨a.toNat,by omega⟩
 have hp:2^k≤2^32:=Nat.pow_le_pow_right (by omega) hk
 have hq:0<2^k:=Nat.pow_pos (by omega)
 rw[aAN .u32 rfl _ _ (by show _<2^32;omega) (by show _<2^32;omega),Nat.and_two_pow_sub_one_eq_mod]
 norm_cast
theorem ay2(a:Int)(ha:0≤a∧a≤4294967295):eY .and .u32 a 8388607=a%8388608:=aBB 23 (by omega) a ha
end Go.AM
end
noncomputable section
namespace Go.Proofs.Ytdpajabhmmmjoaa
open Go.AM
set_option autoImplicit false
set_option linter.unusedSimpArgs false
set_option linter.unusedVariables false
end Go.Proofs.Ytdpajabhmmmjoaa
end
noncomputable section
namespace Go.Proofs.Ytdpajabhmmmjoaa
open Go.AM
set_option autoImplicit false
set_option linter.unusedSimpArgs false
set_option linter.unusedVariables false
end Go.Proofs.Ytdpajabhmmmjoaa
end
noncomputable section
namespace Go.Proofs.Ytdpajabhmmmjoaa
open Go.AM
set_option autoImplicit false
set_option linter.unusedVariables false
set_option maxRecDepth 100000
end Go.Proofs.Ytdpajabhmmmjoaa
end
noncomputable section
namespace Go.Proofs.Ytdpajabhmmmjoaa
open Go.AM
set_option autoImplicit false
set_option linter.unusedSimpArgs false
set_option linter.unusedVariables false
theorem aH.eta(v:aH):aH.mk v.n v.s v.l v.keys v.branch=v:=by cases v;rfl
theorem acH{α:Type}(l:List α)(i:Nat)(d:α)(h:i<l.length):l.drop i=l.getD i d::l.drop (i+1):=by
 rw[List.drop_eq_getElem_cons h,List.getD_eq_getElem?_getD,List.getElem?_eq_getElem h]
 rfl
theorem awJ:∀(l:List aH)(i:Nat),szL (l.drop i)≤szL l
 | [],i=>by simp
 |v::l,0=>by simp
 |v::l,i+1=>by
  have:=awJ l i
  simp only[List.drop_succ_cons,szL]
  omega
theorem ang(l:List aH)(i:Nat)(h:i<l.length):szV (l.getD i (aB .aval))≤szL l:=by
 have h1:=awJ l i
 rw[acH l i (aB .aval) h,szL] at h1
 omega
theorem azX(v:aH):szV v=szL v.l+1:=by cases v;rfl
def wD(l:List (List UInt8))(i:Nat):Bool:=match i with|0=>je l|i+1=>sI (l.getD i []) (l.drop (i+1))
theorem awK(l:List (List UInt8)):wD l l.length=true:=by
 unfold wD
 split
 ·rename_i h
  rw[List.length_eq_zero_iff.1 h];rfl
 ·rename_i i h
  rw[show l.drop (i+1)=[] from List.drop_eq_nil_of_le (by omega)]
  rfl
theorem auU(l:List (List UInt8))(i:Nat)(h:i<l.length):
  wD l i=(iB (l.getD i [])&&((decide (i=0)||Op.bytesLess (l.getD (i-1) []) (l.getD i []))&&wD l (i+1))):=by
 cases i with
 |zero=>
  have:=acH l 0 [] h
  rw[List.drop_zero] at this
  simp only[wD]
  conv=>lhs;rw[this]
  simp[je]
 |succ i=>
  simp only[wD]
  rw[acH l (i+1) [] h]
  simp[sI]
end Go.Proofs.Ytdpajabhmmmjoaa
end
noncomputable section
namespace Go.Proofs.Ytdpajabhmmmjoaa
open Go.AM
set_option autoImplicit false
set_option linter.unusedSimpArgs false
set_option linter.unusedVariables false
set_option maxRecDepth 100000
end Go.Proofs.Ytdpajabhmmmjoaa
end
noncomputable section
namespace Go.Proofs.Ytdpajabhmmmjoaa
open Go.AM
set_option autoImplicit false
set_option linter.unusedVariables false
set_option linter.unusedSimpArgs false
set_option maxRecDepth 100000
theorem ta{P:Program}{f:FuncId}{vs:List V}{R:Type}{ret:R→V}{r0:R}(h:(∀x∈vs,x.fits)→∃r,aV P f vs (ret r)∧r=r0):∃r,aV P f vs (ret r)∧r=r0:=
 ⟨r0,aV.fits fun hf=>by obtain⟨r,h1,rfl⟩:=h hf;exact h1,rfl⟩
theorem atv(s:List UInt8):∃r,rv s r:=by
 refine ta (ret:=fun r=>.bool r) fun hf=>?_
 have hs:s.length≤9223372036854775807:=hf (.str s) (by simp)
 have hp:∀t:List UInt8,∃r,oS t r:=fun t=>by
  refine ta (ret:=fun(r:Int×Int)=>.tup [.int .u32 r.1,.int .i64 r.2]) fun hf=>?_
  have ht:t.length≤9223372036854775807:=hf (.str t) (by simp)
  exact ahS 100 t ⟨_,ae9 95 t ht,_,_,_,rfl,rfl,rfl⟩
 refine asx (s.length+1) s ?_
 unfold akm t7
 refine aU (fun x=>x.length≤s.length∧iB x=iB s) (fun x=>x.length) ?_ _ _ ⟨Nat.le_refl _,rfl⟩ (by omega)
 rintro again t ⟨h1,h2⟩ ih
 unfold xq
 dsimp only
 cases t with
 |nil=>
  simp only[List.length_nil]
  exact aC (fun h=>by simp at h) (fun _=>aF ⟨_,_,rfl,rfl,h2⟩)
 |cons c t=>
  refine aC (fun _=>?_) (fun h=>by simp only[List.length_cons,decide_eq_false_iff_not] at h;omega)
  refine aE (hp _) ?_
  rintro⟨c',n'⟩ ⟨-,hp'⟩
  have hle:=atu (c::t)
  have hv:=axT c t
  have hp':(c',n')=ye (c::t):=hp'
  rw[←hp'] at hle
  have hn:n'=((md (c::t)).2 :Int):=congrArg Prod.snd hp'
  simp only[List.length_cons] at hle h1
  dsimp only at hle ⊢
  repeat' (first|(with_reducible refine aC ?_ ?_<;>(intro hb;(try simp only[bnl] at hb);(try revert hb;intro _)))|with_reducible refine aJ ?_ ?_|with_reducible refine aF ?_|fail)
  ·rename_i h
   rw[if_pos (by omega)] at hv
   exact⟨_,_,rfl,rfl,by rw[aag,←h2,hv]⟩
  ·simp only[bnl,List.length_cons];exact hle
  ·rename_i h
   rw[if_neg (by omega)] at hv
   refine ih _ ⟨?_,?_⟩ ?_
   ·simp only[List.length_drop,List.length_take,List.length_cons];omega
   ·rw[List.take_length,hn,Int.toNat_natCast,←hv,h2]
   ·simp only[List.length_drop,List.length_take,List.length_cons];omega
def qT(ts:List aA)(kind items:Int)(fields:List aM)(l:List aH)(i:Nat):Bool:=
 cond (kind==9) (oQ ts (fields.drop i) (l.drop i)) (bV ts items (l.drop i))
theorem aAZ{α:Type}{l:List α}{i:Nat}{x d:α}(h:l[i]? =some x):l.getD i d=x:=by
 rw[List.getD_eq_getElem?_getD,h];rfl
def ahW(ts:List aA)(n:Nat):Prop:=∀(t m:Int)(s:List UInt8)(l:List aH)(ks:List (List UInt8))(b:Int),szL l+1≤n→∃r,gb ts t m s l ks b r
theorem ajc(ts:List aA)(n:Nat)(hF:ahW ts n)(N:Nat)(k0 k3:Int)(k8:List aM)(l:List aH)(hl:l.length≤9223372036854775807)(hN:l.length<N)(hs:szL l≤n)(hr:k0=9→l.length=k8.length)(Q:V×List aK→Prop)(hQ:Q (.bool (qT ts k0 k3 k8 l 0),[]))
  (B:((List aA×Int×List UInt8×List (List UInt8)×Int×List (List UInt8)×Bool×List UInt8×Int×List aM×List Int×Int×List UInt8×List aH×List (List UInt8)×Int×Int)→Option (V×List aK))→(List aA×Int×List UInt8×List (List UInt8)×Int×List (List UInt8)×Bool×List UInt8×Int×List aM×List Int×Int×List UInt8×List aH×List (List UInt8)×Int×Int)→Option (V×List aK))
  (hB:B=mE N∨B=p6 N)
  (k1:List UInt8) (k2:List (List UInt8)) (k4:List (List UInt8)) (k5:Bool) (k6:List UInt8) (k7:Int) (k9:List Int) (m:Int) (s:List UInt8) (ks:List (List UInt8)) (b:Int):
  Tot (aR N B (ts,k0,k1,k2,k3,k4,k5,k6,k7,k8,k9,m,s,l,ks,b,0)) Q:=by
 refine aU (fun x=>match x with|(ts',v0,v1,v2,v3,v4,v5,v6,v7,v8,v9,m',s',l',ks',b',i)=>ts'=ts∧v0=k0∧v3=k3∧v8=k8∧l'=l∧0≤i∧i≤(l.length:Int)∧qT ts k0 k3 k8 l i.toNat=qT ts k0 k3 k8 l 0)
  (fun x=>((l.length:Int)-x.2.2.2.2.2.2.2.2.2.2.2.2.2.2.2.2).toNat) ?_ _ _ ⟨rfl,rfl,rfl,rfl,rfl,by simp,by simp,rfl⟩ (by simp;omega)
 rintro again ⟨ts',v0,v1,v2,v3,v4,v5,v6,v7,v8,v9,m',s',l',ks',b',i⟩ ⟨rfl,rfl,rfl,rfl,rfl,i1,i2,i3⟩ ih
 dsimp only at ih
 have eqB:B again (ts',v0,v1,v2,v3,v4,v5,v6,v7,v8,v9,m',s',l',ks',b',i)=mE N again (ts',v0,v1,v2,v3,v4,v5,v6,v7,v8,v9,m',s',l',ks',b',i):=by
  rcases hB with rfl|rfl<;>rfl
 rw[eqB]
 unfold mE
 dsimp only
 refine aC (fun h=>?_) (fun h=>?_)
 ·have h:=of_decide_eq_true h
  have hil:i.toNat<l'.length:=by omega
  have hsz:=ang l' i.toNat hil
  have hsz2:=azX (l'.getD i.toNat (aB .aval))
  have ew:IntKind.i64.wrap (i+1)=i+1:=aI (i+1) (by omega)
  have et:(i+1).toNat=i.toNat+1:=by omega
  have next:qT ts' v0 v3 v8 l' (i.toNat+1)=qT ts' v0 v3 v8 l' 0→Tot (again (ts',v0,v1,v2,v3,v4,v5,v6,v7,v8,v9,m',s',l',ks',b',IntKind.i64.wrap (i+1))) _:=fun hh=>ih (ts',v0,v1,v2,v3,v4,v5,v6,v7,v8,v9,m',s',l',ks',b',IntKind.i64.wrap (i+1))
   (by simp only[ew,et];exact⟨trivial,trivial,trivial,trivial,trivial,by omega,by omega,hh⟩) (by simp only[ew];omega)
  have hd:=acH l' i.toNat (aB .aval) hil
  refine aC (fun h9=>?_) (fun h9=>?_)
  ·have h9':v0=9:=by simpa using h9
   have hlen:=hr h9'
   refine vck (vck ?_)
   refine aE (hF _ _ _ _ _ _ (by omega)) ?_
   rintro _ ⟨-,rfl⟩
   have hfd:=acH v8 i.toNat (aB .afield) (by omega)
   have step:qT ts' v0 v3 v8 l' i.toNat=(bm ts' (v8.getD i.toNat (aB .afield)).typ (l'.getD i.toNat (aB .aval))&&qT ts' v0 v3 v8 l' (i.toNat+1)):=by
    simp only[qT,h9,cond_true]
    rw[hd,hfd]
    simp only[oQ,List.headD_cons,List.tail_cons]
   rw[aH.eta]
   refine aC (fun hb=>aF ?_) (fun hb=>?_)
   ·have hb':bm ts' (v8.getD i.toNat (aB .afield)).typ (l'.getD i.toNat (aB .aval))=false:=by simpa using hb
    rw[step,hb',Bool.false_and] at i3
    rw[←i3] at hQ;exact hQ
   ·have hb':bm ts' (v8.getD i.toNat (aB .afield)).typ (l'.getD i.toNat (aB .aval))=true:=by simpa using hb
    rw[step,hb',Bool.true_and] at i3
    exact next i3
  ·refine vck ?_
   refine aE (hF _ _ _ _ _ _ (by omega)) ?_
   rintro _ ⟨-,rfl⟩
   have step:qT ts' v0 v3 v8 l' i.toNat=(bm ts' v3 (l'.getD i.toNat (aB .aval))&&qT ts' v0 v3 v8 l' (i.toNat+1)):=by
    simp only[qT,h9,cond_false]
    rw[hd]
    simp only[bV]
   rw[aH.eta]
   refine aC (fun hb=>aF ?_) (fun hb=>?_)
   ·have hb':bm ts' v3 (l'.getD i.toNat (aB .aval))=false:=by simpa using hb
    rw[step,hb',Bool.false_and] at i3
    rw[←i3] at hQ;exact hQ
   ·have hb':bm ts' v3 (l'.getD i.toNat (aB .aval))=true:=by simpa using hb
    rw[step,hb',Bool.true_and] at i3
    exact next i3
 ·have h:=of_decide_eq_false h
  have:i.toNat=l'.length:=by omega
  rw[this] at i3
  have e:qT ts' v0 v3 v8 l' l'.length=true:=by
   simp only[qT,List.drop_length]
   cases v0==9<;>simp[oQ,bV]
  rw[e] at i3
  refine aF ?_
  rw[←i3] at hQ;exact hQ
theorem azY(ts:List aA)(n:Nat)(hF:ahW ts n)(k0:Int)(k1:List UInt8)(k2:List (List UInt8))(k3:Int)(k4:List (List UInt8))(k5:Bool)(k6:List UInt8)(k7:Int)(k8:List aM)(k9:List Int)(m:Int)(s:List UInt8)(l:List aH)(ks:List (List UInt8))(b:Int)(hs:szL l≤n):
  ∃r,tK ts k0 k1 k2 k3 k4 k5 k6 k7 k8 k9 m s l ks b r:=by
 refine ta (ret:=fun r=>.bool r) fun hf=>?_
 have hl:l.length≤9223372036854775807:=hf (.agg [.int .u64 m,.str s,.sl .aval (.may false) l,.sl .str (.may false) ks,.int .i64 b]) (by simp) (.sl .aval (.may false) l) (by simp)
 have hk:ks.length≤9223372036854775807:=hf (.agg [.int .u64 m,.str s,.sl .aval (.may false) l,.sl .str (.may false) ks,.int .i64 b]) (by simp) (.sl .str (.may false) ks) (by simp)
 refine aqQ (l.length+ks.length+2) _ _ _ _ _ _ _ _ _ _ _ _ _ _ _ _ ?_
 generalize hN:l.length+ks.length+2=N
 unfold ahN rR
 dsimp only
 refine aC (fun h9=>aC (fun hb=>aF ⟨_,_,rfl,rfl,?_⟩) (fun hb=>?_)) (fun h9=>aC (fun h13=>aC (fun hb=>aF ⟨_,_,rfl,rfl,?_⟩) (fun hb=>?_)) (fun h13=>aC (fun h14=>?_) (fun h14=>?_)))
 ·have:¬l.length=k8.length:=by simp at hb;omega
  simp only[dV,aeo,h9,cond_true,this,decide_false,Bool.false_and]
 ·have:l.length=k8.length:=by simp at hb;omega
  refine ajc ts n hF N k0 k3 k8 l hl (by omega) hs (fun _=>this) _ ⟨_,_,rfl,rfl,?_⟩ _ (.inl rfl) _ _ _ _ _ _ _ _ _ _ _
  simp only[dV,aeo,qT,h9,cond_true,this,decide_true,Bool.true_and,List.drop_zero]
 ·have:¬(ks.length:Int)=l.length:=by simp at hb;omega
  simp only[dV,aeo,h9,h13,cond_true,cond_false,beq_eq_false_iff_ne.2 this,Bool.false_and]
 ·have hlk:(l.length:Int)=ks.length:=by simpa using hb
  have goalE:∀r:Bool,r=(je ks&&bV ts k3 l)→dV ts k0 k1 k2 k3 k4 k5 k6 k7 k8 k9 m s l ks b r:=by
   intro r hr
   simp only[dV,aeo,h9,h13,cond_true,cond_false,hlk.symm,beq_self_eq_true,Bool.true_and]
   exact hr
  refine aU (fun x=>match x with|(ts',v0,v1,v2,v3,v4,v5,v6,v7,v8,v9,m',s',l',ks',b',i)=>ts'=ts∧v0=k0∧v3=k3∧v8=k8∧l'=l∧ks'=ks∧0≤i∧i≤(ks.length:Int)∧wD ks i.toNat=je ks)
   (fun x=>((ks.length:Int)-x.2.2.2.2.2.2.2.2.2.2.2.2.2.2.2.2).toNat) ?_ _ _ ⟨rfl,rfl,rfl,rfl,rfl,rfl,by simp,by simp,rfl⟩ (by simp;omega)
  rintro again ⟨ts',v0,v1,v2,v3,v4,v5,v6,v7,v8,v9,m',s',l',ks',b',i⟩ ⟨rfl,rfl,rfl,rfl,rfl,rfl,i1,i2,i3⟩ ih
  dsimp only at ih
  unfold u7 s8
  dsimp only
  refine aC (fun h=>?_) (fun h=>?_)
  ·have h:=of_decide_eq_true h
   have ew:IntKind.i64.wrap (i+1)=i+1:=aI (i+1) (by omega)
   have et:(i+1).toNat=i.toNat+1:=by omega
   have hst:=auU ks' i.toNat (by omega)
   rw[i3] at hst
   have next:wD ks' (i.toNat+1)=je ks'→Tot (again (ts',v0,v1,v2,v3,v4,v5,v6,v7,v8,v9,m',s',l',ks',b',IntKind.i64.wrap (i+1))) _:=fun hh=>ih (ts',v0,v1,v2,v3,v4,v5,v6,v7,v8,v9,m',s',l',ks',b',IntKind.i64.wrap (i+1))
    (by simp only[ew,et];exact⟨trivial,trivial,trivial,trivial,trivial,trivial,by omega,by omega,hh⟩) (by simp only[ew];omega)
   refine vck ?_
   refine aE (atv _) ?_
   rintro _ ⟨-,rfl⟩
   change Tot (cond (!iB (ks'.getD i.toNat [])) _ _) _
   refine aC (fun hv=>aF ⟨_,_,rfl,rfl,goalE _ ?_⟩) (fun hv=>?_)
   ·have hv:iB (ks'.getD i.toNat [])=false:=by simpa using hv
    rw[hst,hv];rfl
   ·have hv:iB (ks'.getD i.toNat [])=true:=by simpa using hv
    rw[hv,Bool.true_and] at hst
    refine aC (fun hp=>?_) (fun hp=>?_)
    ·have hp:=of_decide_eq_true hp
     have em:IntKind.i64.wrap (i-1)=i-1:=aI (i-1) (by omega)
     have e1:(i-1).toNat=i.toNat-1:=by omega
     have hz:decide (i.toNat=0)=false:=decide_eq_false (by omega)
     rw[hz,Bool.false_or] at hst
     rw[em,e1]
     refine vck (vck ?_)
     change Tot (cond (Op.bytesLess (ks'.getD i.toNat []) (ks'.getD (i.toNat-1) [])||decide (ks'.getD i.toNat []=ks'.getD (i.toNat-1) [])) _ _) _
     rw[adY]
     refine aC (fun hv=>aF ⟨_,_,rfl,rfl,goalE _ ?_⟩) (fun hv=>?_)
     ·have hv:Op.bytesLess (ks'.getD (i.toNat-1) []) (ks'.getD i.toNat [])=false:=by simpa using hv
      rw[hst,hv];rfl
     ·have hv:Op.bytesLess (ks'.getD (i.toNat-1) []) (ks'.getD i.toNat [])=true:=by simpa using hv
      rw[hv,Bool.true_and] at hst
      exact next hst.symm
    ·have hp:=of_decide_eq_false hp
     have hz:decide (i.toNat=0)=true:=decide_eq_true (by omega)
     rw[hz,Bool.true_or,Bool.true_and] at hst
     exact next hst.symm
  ·have h:=of_decide_eq_false h
   have hi:i.toNat=ks'.length:=by omega
   rw[hi,awK] at i3
   refine ajc ts' n hF N v0 v3 v8 l' hl (by omega) hs (fun h=>by simp[h] at h9) _ ⟨_,_,rfl,rfl,goalE _ ?_⟩ _ (.inr rfl) _ _ _ _ _ _ _ _ _ _ _
   rw[←i3,Bool.true_and]
   simp only[qT,h9,cond_false,List.drop_zero]
 ·
  have goalE:∀r:Bool,r=(decide (0≤b)&&(decide (b<(k9.length:Int))&&(((l.length:Int)==1)&&bV ts (k9.getD b.toNat 0) l)))→dV ts k0 k1 k2 k3 k4 k5 k6 k7 k8 k9 m s l ks b r:=by
   intro r hr
   simp only[dV,aeo,h9,h13,h14,cond_true,cond_false]
   exact hr
  refine aC (fun hb=>aC (fun hb2=>aC (fun hb3=>?_) (fun hb3=>aF ⟨_,_,rfl,rfl,goalE _ ?_⟩)) (fun hb2=>aF ⟨_,_,rfl,rfl,goalE _ ?_⟩)) (fun hb=>aF ⟨_,_,rfl,rfl,goalE _ ?_⟩)
  ·have hb1:=of_decide_eq_true hb
   have hb2':=of_decide_eq_true hb2
   have hb3':(l.length:Int)=1:=by simpa using hb3
   obtain⟨v,rfl⟩:∃v,l=[v]:=by
    match l,hb3' with
    | [v],_=>exact⟨v,rfl⟩
   have hsz:=azX v
   simp only[szL] at hs
   refine vck (aJ (by simp) ?_)
   refine aE (hF _ _ _ _ _ _ (by simp only[Int.toNat_zero,List.getD_cons_zero];omega)) ?_
   rintro _ ⟨-,rfl⟩
   refine aF ⟨_,_,rfl,rfl,goalE _ ?_⟩
   simp only[hb,hb2,hb3,Bool.true_and,Int.toNat_zero,List.getD_cons_zero,aH.eta,bV,Bool.and_true]
   rfl
  ·rw[hb3];simp
  ·rw[hb2];simp
  ·rw[hb];simp
 ·refine ajc ts n hF N k0 k3 k8 l hl (by omega) hs (fun h=>by simp[h] at h9) _ ⟨_,_,rfl,rfl,?_⟩ _ (.inl rfl) _ _ _ _ _ _ _ _ _ _ _
  simp only[dV,aeo,qT,h9,h13,h14,cond_false,List.drop_zero]
def zp(kind n:Int)(s:List UInt8)(l:List aH)(ks:List (List UInt8))(b:Int)(num txt prt ok:Bool):Bool:=
 cond (!(kind==13)&&decide ((0:Int)<(ks.length:Int))) false (cond (!(kind==14)&& !(b==0)) false (ok&&((num||(n==0))&&((txt||decide (s=[]))&&(prt||((l.length:Int)==0))))))
theorem asM(ks:List (List UInt8)):(((ks.length:Int))==0)= !decide ((0:Int)<(ks.length:Int)):=by
 cases ks with
 |nil=>rfl
 |cons a l=>simp;omega
theorem lt0:decide ((0:Int)<0)=false:=rfl
theorem zq(kind m:Int)(s:List UInt8)(l:List aH)(ks:List (List UInt8))(b:Int)(ok:Bool)(h1:kind≠13)(h2:kind≠14):zp kind m s l ks b true false false ok=(ok&&dE 0 s l ks b):=by
 simp only[zp,dE,beq_eq_false_iff_ne.2 h1,beq_eq_false_iff_ne.2 h2,asM ks,Bool.not_false,Bool.not_true,Bool.true_and,Bool.false_and,Bool.true_or,Bool.false_or,beq_self_eq_true,decide_true,List.length_nil,Int.ofNat_zero,Int.natCast_zero,Bool.and_true,cond_false,lt0]
 generalize decide ((0:Int)<(ks.length:Int))=p
 generalize (b==0)=q
 generalize (m==0)=r
 generalize decide (s=[])=t
 generalize ((l.length:Int)==0)=u
 cases ok<;>cases p<;>cases q<;>cases r<;>cases t<;>cases u<;>rfl
theorem ape(kind m:Int)(s:List UInt8)(l:List aH)(ks:List (List UInt8))(b:Int)(ok:Bool)(h1:kind≠13)(h2:kind≠14):zp kind m s l ks b false true false ok=(ok&&dE m [] l ks b):=by
 simp only[zp,dE,beq_eq_false_iff_ne.2 h1,beq_eq_false_iff_ne.2 h2,asM ks,Bool.not_false,Bool.not_true,Bool.true_and,Bool.false_and,Bool.true_or,Bool.false_or,beq_self_eq_true,decide_true,List.length_nil,Int.ofNat_zero,Int.natCast_zero,Bool.and_true,cond_false,lt0]
 generalize decide ((0:Int)<(ks.length:Int))=p
 generalize (b==0)=q
 generalize (m==0)=r
 generalize decide (s=[])=t
 generalize ((l.length:Int)==0)=u
 cases ok<;>cases p<;>cases q<;>cases r<;>cases t<;>cases u<;>rfl
theorem azZ(m:Int)(s:List UInt8)(l:List aH)(ks:List (List UInt8))(b:Int):zp 1 m s l ks b false false false true=(dE m s l ks b):=by
 simp only[zp,dE,Int.reduceBEq,asM ks,Bool.not_false,Bool.not_true,Bool.true_and,Bool.false_and,Bool.true_or,Bool.false_or,beq_self_eq_true,decide_true,List.length_nil,Int.ofNat_zero,Int.natCast_zero,Bool.and_true,cond_false,lt0]
 generalize decide ((0:Int)<(ks.length:Int))=p
 generalize (b==0)=q
 generalize (m==0)=r
 generalize decide (s=[])=t
 generalize ((l.length:Int)==0)=u
 cases p<;>cases q<;>cases r<;>cases t<;>cases u<;>rfl
theorem awL(kind m:Int)(s:List UInt8)(l:List aH)(ks:List (List UInt8))(b:Int)(ok:Bool)(h1:kind≠13)(h2:kind≠14):zp kind m s l ks b false false true ok=(ok&&dE m s [] ks b):=by
 simp only[zp,dE,beq_eq_false_iff_ne.2 h1,beq_eq_false_iff_ne.2 h2,asM ks,Bool.not_false,Bool.not_true,Bool.true_and,Bool.false_and,Bool.true_or,Bool.false_or,beq_self_eq_true,decide_true,List.length_nil,Int.ofNat_zero,Int.natCast_zero,Bool.and_true,cond_false,lt0]
 generalize decide ((0:Int)<(ks.length:Int))=p
 generalize (b==0)=q
 generalize (m==0)=r
 generalize decide (s=[])=t
 generalize ((l.length:Int)==0)=u
 cases ok<;>cases p<;>cases q<;>cases r<;>cases t<;>cases u<;>rfl
theorem aA0(m:Int)(s:List UInt8)(l:List aH)(ks:List (List UInt8))(b:Int)(ok:Bool):zp 13 m s l ks b false false true ok=(ok&&dE m s [] [] b):=by
 simp only[zp,dE,Int.reduceBEq,asM ks,Bool.not_false,Bool.not_true,Bool.true_and,Bool.false_and,Bool.true_or,Bool.false_or,beq_self_eq_true,decide_true,List.length_nil,Int.ofNat_zero,Int.natCast_zero,Bool.and_true,cond_false,lt0]
 generalize decide ((0:Int)<(ks.length:Int))=p
 generalize (b==0)=q
 generalize (m==0)=r
 generalize decide (s=[])=t
 generalize ((l.length:Int)==0)=u
 cases ok<;>cases p<;>cases q<;>cases r<;>cases t<;>cases u<;>rfl
theorem aA1(m:Int)(s:List UInt8)(l:List aH)(ks:List (List UInt8))(b:Int)(ok:Bool):zp 14 m s l ks b false false true ok=(ok&&dE m s [] ks 0):=by
 simp only[zp,dE,Int.reduceBEq,asM ks,Bool.not_false,Bool.not_true,Bool.true_and,Bool.false_and,Bool.true_or,Bool.false_or,beq_self_eq_true,decide_true,List.length_nil,Int.ofNat_zero,Int.natCast_zero,Bool.and_true,cond_false,lt0]
 generalize decide ((0:Int)<(ks.length:Int))=p
 generalize (b==0)=q
 generalize (m==0)=r
 generalize decide (s=[])=t
 generalize ((l.length:Int)==0)=u
 cases ok<;>cases p<;>cases q<;>cases r<;>cases t<;>cases u<;>rfl
theorem aBC(m:Int)(h:0≤m∧m≤18446744073709551615):(m==IntKind.wrap .u64 (IntKind.wrap .i64 (IntKind.wrap .i32 (IntKind.wrap .u32 m))))=(decide ((-2147483648)≤IntKind.wrap .i64 m)&&decide (IntKind.wrap .i64 m<2147483648)):=by
 rw[Bool.eq_iff_iff]
 simp only[beq_iff_eq,Bool.and_eq_true,decide_eq_true_eq]
 rw[avG,aoG,aoG,avI,avH]
 omega
theorem az0(m:Int)(h:0≤m∧m≤18446744073709551615):(nM .u64 m 32==0)=decide (m<4294967296):=by
 rw[Bool.eq_iff_iff]
 simp only[beq_iff_eq,decide_eq_true_eq,nM,IntKind.bits]
 rw[show (2:Int)^(min (Int.toNat 32) 64)=4294967296 by decide,Int.fdiv_eq_ediv_of_nonneg _ (by decide)]
 omega
theorem az1(ts:List aA)(hts:cw ts)(n:Nat)(hF:ahW ts n):ahW ts (n+1):=by
 intro t m s l ks b hs
 refine ta (ret:=fun r=>.bool r) fun hf=>?_
 have hm:=avJ (hf (.agg [.int .u64 m,.str s,.sl .aval (.may false) l,.sl .str (.may false) ks,.int .i64 b]) (by simp)) m (by simp)
 refine ast 1 _ _ _ _ _ _ _ ?_
 unfold akk t6
 dsimp only
 have last:∀(num txt prt ok:Bool),Tot (rO 1 (m,s,l,ks,b,num,txt,prt,ok)) (fun z=>z=(.bool (ok&&((num||(m==0))&&((txt||decide (s=[]))&&(prt||((l.length:Int)==0))))),[])):=by
  intro num txt prt ok
  unfold rO
  dsimp only
  repeat' (first|(with_reducible refine aC ?_ ?_<;>(intro hb;(try simp only[bnl] at hb);(try revert hb;intro _)))|with_reducible refine aJ ?_ ?_|with_reducible refine aF ?_|fail)
  all_goals simp[*]
 have zero:∀(k0:Int)(k1:List UInt8)(k2:List (List UInt8))(k3:Int)(k4:List (List UInt8))(k5:Bool)(k6:List UInt8)(k7:Int)(k8:List aM)(k9:List Int)(num txt prt ok:Bool),zp k0 m s l ks b num txt prt ok=bm ts t (.mk m s l ks b)→
   Tot (rP 1 (m,s,l,ks,b,k0,k1,k2,k3,k4,k5,k6,k7,k8,k9,num,txt,prt,ok)) (fun z=>∃(y0:Bool)(rest:List aK),z.1.dimR=.bool y0∧z.2=rest∧uI ts t m s l ks b y0):=by
  intro k0 k1 k2 k3 k4 k5 k6 k7 k8 k9 num txt prt ok hr
  have key:Tot (rP 1 (m,s,l,ks,b,k0,k1,k2,k3,k4,k5,k6,k7,k8,k9,num,txt,prt,ok)) (fun z=>z=(.bool (zp k0 m s l ks b num txt prt ok),[])):=by
   have last:=last num txt prt ok
   unfold rP uY
   dsimp only
   simp only[zp]
   cases hA:(k0==13)<;>cases hB:decide ((0:Int)<(ks.length:Int))<;>cases hC:(k0==14)<;>cases hD:(b==0)<;>
    simp only[Bool.not_true,Bool.not_false,cond_true,cond_false,Bool.true_and,Bool.false_and,Bool.and_true,Bool.and_false]<;>first|exact last|exact aF rfl
  refine aAO key ?_
  rintro _ rfl
  exact⟨_,_,rfl,rfl,hr⟩
 refine aE (ae0 ts t) ?_
 rintro _ ⟨-,rfl⟩
 refine aC (fun h=>aF ⟨_,_,rfl,rfl,?_⟩) (fun h=>?_)
 ·have h:isT ts t=false:=by simpa using h
  simp only[uI,bm,h,Bool.false_and]
 have h:isT ts t=true:=by simpa using h
 have hr:0≤t∧t<ts.length:=by simpa [isT] using h
 have hl:t.toNat<ts.length:=by omega
 have hK:=(hts.2 ts[t.toNat] (List.getElem_mem hl)).kind
 have hg:ts.getD t.toNat (aB .atype)=ts[t.toNat]:=aAZ (List.getElem?_eq_getElem hl)
 refine vck ?_
 have hfit:bm ts t (.mk m s l ks b)=bm ts t (.mk m s l ks b):=rfl
 conv at hfit=>rhs;rw[bm,h,Bool.true_and]
 rw[hg] at hfit ⊢
 generalize ts[t.toNat]=k at hfit hK
 obtain⟨k0,k1,k2,k3,k4,k5,k6,k7,k8,k9⟩:=k
 dsimp only at hK hfit ⊢
 have hcases:k0=1∨k0=2∨k0=3∨k0=4∨k0=5∨k0=6∨k0=7∨k0=8∨k0=9∨k0=10∨k0=11∨k0=12∨k0=13∨k0=14:=by omega
 have hin:=azY ts n hF k0 k1 k2 k3 k4 k5 k6 k7 k8 k9 m s l ks b (by omega)
 rcases hcases with rfl|rfl|rfl|rfl|rfl|rfl|rfl|rfl|rfl|rfl|rfl|rfl|rfl|rfl
 all_goals simp only[Int.reduceBEq,Bool.or_true,Bool.true_or,Bool.or_false,Bool.false_or,cond_true,cond_false] at hfit ⊢
 ·exact zero _ _ _ _ _ _ _ _ _ _ _ _ _ _ (by rw[hfit,azZ])
 ·exact zero _ _ _ _ _ _ _ _ _ _ _ _ _ _ (by rw[hfit,zq _ _ _ _ _ _ _ (by decide) (by decide)];simp only[vV,Int.reduceBEq,cond_true,cond_false,decide_eq_true hm.1,decide_eq_true hm.2,Bool.true_and])
 ·have e:=aBC m hm
  refine aC (fun hx=>zero _ _ _ _ _ _ _ _ _ _ _ _ _ _ ?_) (fun hx=>zero _ _ _ _ _ _ _ _ _ _ _ _ _ _ ?_)
  ·rw[hfit,zq _ _ _ _ _ _ _ (by decide) (by decide)]
   simp only[vV,Int.reduceBEq,cond_true,cond_false,e,hx,Bool.true_and]
  ·rw[hfit,zq _ _ _ _ _ _ _ (by decide) (by decide)]
   simp only[vV,Int.reduceBEq,cond_true,cond_false,e,hx,Bool.false_and]
 ·exact zero _ _ _ _ _ _ _ _ _ _ _ _ _ _ (by rw[hfit,zq _ _ _ _ _ _ _ (by decide) (by decide)];simp only[vV,Int.reduceBEq,cond_true,cond_false,decide_eq_true hm.1,decide_eq_true hm.2,Bool.true_and])
 ·exact zero _ _ _ _ _ _ _ _ _ _ _ _ _ _ (by rw[hfit,zq _ _ _ _ _ _ _ (by decide) (by decide)];simp only[vV,Int.reduceBEq,cond_true,cond_false,az0 m hm])
 ·exact zero _ _ _ _ _ _ _ _ _ _ _ _ _ _ (by rw[hfit,zq _ _ _ _ _ _ _ (by decide) (by decide)];simp only[vV,Int.reduceBEq,cond_true,cond_false,decide_eq_true hm.1,decide_eq_true hm.2,Bool.true_and])
 ·exact zero _ _ _ _ _ _ _ _ _ _ _ _ _ _ (by rw[hfit,ape _ _ _ _ _ _ _ (by decide) (by decide)];rfl)
 ·refine aE (atv s) ?_
  rintro _ ⟨-,rfl⟩
  exact zero _ _ _ _ _ _ _ _ _ _ _ _ _ _ (by rw[hfit,ape _ _ _ _ _ _ _ (by decide) (by decide)];rfl)
 ·refine aE hin ?_
  rintro _ ⟨-,rfl⟩
  exact zero _ _ _ _ _ _ _ _ _ _ _ _ _ _ (by rw[hfit,awL _ _ _ _ _ _ _ (by decide) (by decide)];rfl)
 ·exact zero _ _ _ _ _ _ _ _ _ _ _ _ _ _ (by rw[hfit,zq _ _ _ _ _ _ _ (by decide) (by decide)];simp only[vV,Int.reduceBEq,cond_true,cond_false,decide_eq_true hm.1,decide_eq_true hm.2,Bool.true_and])
 ·exact zero _ _ _ _ _ _ _ _ _ _ _ _ _ _ (by rw[hfit,ape _ _ _ _ _ _ _ (by decide) (by decide)];rfl)
 ·refine aE hin ?_
  rintro _ ⟨-,rfl⟩
  exact zero _ _ _ _ _ _ _ _ _ _ _ _ _ _ (by rw[hfit,awL _ _ _ _ _ _ _ (by decide) (by decide)];rfl)
 ·refine aE hin ?_
  rintro _ ⟨-,rfl⟩
  exact zero _ _ _ _ _ _ _ _ _ _ _ _ _ _ (by rw[hfit,aA0];rfl)
 ·refine aE hin ?_
  rintro _ ⟨-,rfl⟩
  exact zero _ _ _ _ _ _ _ _ _ _ _ _ _ _ (by rw[hfit,aA1];rfl)
theorem awM(ts:List aA)(hts:cw ts):∀n,ahW ts n
 |0=>fun _ _ _ _ _ _ h=>by omega
 |n+1=>az1 ts hts n (awM ts hts n)
theorem az2(ts:List aA)(hts:cw ts)(t m:Int)(s:List UInt8)(l:List aH)(ks:List (List UInt8))(b:Int):∃r,gb ts t m s l ks b r:=awM ts hts (szL l+1) t m s l ks b (Nat.le_refl _)
end Go.Proofs.Ytdpajabhmmmjoaa
end
noncomputable section
namespace Go.Proofs.Ytdpajabhmmmjoaa
open Go.AM
set_option autoImplicit false
set_option linter.unusedVariables false
set_option linter.unusedSimpArgs false
theorem gr{α:Type}(l:List α)(i:Nat)(x d:α)(h:i<l.length):(l.set i x).getD i d=x:=by
 simp[List.getD_eq_getElem?_getD,List.getElem?_set,h]
theorem eH{α:Type}(l:List α)(i j:Nat)(x d:α)(h:i≠j):(l.set i x).getD j d=l.getD j d:=by
 simp[List.getD_eq_getElem?_getD,List.getElem?_set,h]
theorem cA{α:Type}(l:List α)(i:Nat)(d:α)(h:i<l.length):l.getD i d∈l:=by
 rw[List.getD_eq_getElem?_getD,List.getElem?_eq_getElem h];exact List.getElem_mem h
theorem wd.mono{k:aA}{r r':List Int}{m:Int}(h:wd k r m)(hl:r'.length=r.length)(hr:∀i,0≤r.getD i 0→r'.getD i 0=r.getD i 0):wd k r' m where
 pos:=h.pos
 uni h14:=by
  obtain⟨b,hb,h0,h1⟩:=h.uni h14
  exact⟨b,hb,by unfold rk at *;rw[hr _ h0];exact h0,by unfold rk at *;rw[hr _ h0];exact h1⟩
 rcd h14 f hf:=by
  obtain⟨h0,h1⟩:=h.rcd h14 f hf
  exact⟨by unfold rk at *;rw[hr _ h0];exact h0,by unfold rk at *;rw[hr _ h0];exact h1⟩
 pre h2:=by
  obtain⟨j,hj,e⟩:=h.pre h2
  exact⟨j,by omega,by rw[hr _ (by omega)];exact e⟩
theorem jO.step{ts:List aA}{r next:List Int}{m:Int}(h:jO ts r m)(hm:0≤m)(hl:next.length=ts.length)(h1:∀j,j<ts.length→0≤r.getD j 0→next.getD j 0=r.getD j 0)
  (h2:∀j,j<ts.length→r.getD j 0<0→next.getD j 0=-1∨wd (ts.getD j (aB .atype)) r (next.getD j 0)):jO ts next (m+1):=by
 have hrl:=h.len
 have hmono:∀i,0≤r.getD i 0→next.getD i 0=r.getD i 0:=fun i hi=>by
  by_cases hil:i<ts.length
  ·exact h1 i hil hi
  ·simp[List.getD_eq_getElem?_getD,List.getElem?_eq_none (show next.length≤i by omega),List.getElem?_eq_none (show r.length≤i by omega)]
 refine⟨hl,fun i hi=>?_,fun i hi=>?_,fun i hi h'=>?_,fun i hi h'=>?_⟩
 ·by_cases h0:0≤r.getD i 0
  ·rw[hmono i h0];omega
  ·rcases h2 i (by omega) (by omega) with e|e
   ·omega
   ·have:=e.pos;omega
 ·by_cases h0:0≤r.getD i 0
  ·rw[hmono i h0];have:=h.top i (by omega);omega
  ·rcases h2 i (by omega) (by omega) with e|e
   ·omega
   ·by_cases hp:2≤next.getD i 0
    ·obtain⟨j,hj,ej⟩:=e.pre hp
     have:=h.top j hj;omega
    ·omega
 ·by_cases h0:0≤r.getD i 0
  ·rw[hmono i h0] at h' ⊢;exact(h.ok i (by omega) h').mono (by omega) hmono
  ·rcases h2 i (by omega) (by omega) with e|e
   ·omega
   ·exact e.mono (by omega) hmono
 ·by_cases h0:0≤r.getD i 0
  ·rw[hmono i h0] at h';exact h.nul i (by omega) h'
  ·rcases h2 i (by omega) (by omega) with e|e
   ·omega
   ·have:=e.pos;omega
def aaG(n:Int):List Int→Nat
 | []=>0
 |x::l=>(if 1≤x∧x≤n then 1 else 0)+aaG n l
theorem ayn(n:Int):∀l,aaG n l≤l.length
 | []=>by simp[aaG]
 |x::l=>by have:=ayn n l;simp only[aaG,List.length_cons];split<;>omega
theorem atw(n:Int):∀l,aaG n l≤aaG (n+1) l
 | []=>by simp[aaG]
 |x::l=>by have:=atw n l;simp only[aaG];split<;>split<;>omega
theorem amI(n:Int)(hn:0≤n):∀(l:List Int)(j:Nat),j<l.length→l.getD j 0=n+1→aaG n l+1≤aaG (n+1) l
 | [],j,h,_=>by simp at h
 |x::l,0,h,e=>by
  have:=atw n l
  simp only[List.getD_cons_zero] at e
  simp only[aaG]
  rw[if_neg (by omega),if_pos (by omega)];omega
 |x::l,j+1,h,e=>by
  have:=amI n hn l j (by simpa using h) (by simpa using e)
  simp only[aaG];split<;>split<;>omega
theorem jO.chain{ts:List aA}{r:List Int}{m:Int}(h:jO ts r m):∀(n j:Nat),j<r.length→r.getD j 0=(n:Int)+1→n+1≤aaG ((n:Int)+1) r
 |0,j,hj,e=>by have:=amI 0 (by omega) r j hj (by simpa using e);simpa using (by omega:1≤aaG (0+1) r)
 |n+1,j,hj,e=>by
  obtain⟨j',hj',e'⟩:=(h.ok j hj (by omega)).pre (by omega)
  have ih:=jO.chain h n j' hj' (by omega)
  have:=amI ((n:Int)+1) (by omega) r j hj (by omega)
  have ec:(((n+1:Nat):Int)+1)=(n:Int)+1+1:=by omega
  rw[ec];omega
theorem jO.fin{ts:List aA}{r:List Int}{m:Int}(h:jO ts r m):jO ts r ts.length:=by
 refine⟨h.len,h.low,fun i hi=>?_,h.ok,h.nul⟩
 by_cases h1:1≤r.getD i 0
 ·have:=h.chain ((r.getD i 0).toNat-1) i hi (by omega)
  have h2:=ayn ((((r.getD i 0).toNat-1:Nat):Int)+1) r
  have:=h.len
  omega
 ·omega
theorem acI{ts:List aA}{r:List Int}{m:Int}{k:aA}{q:Int}(h:wd k r q)(h14:k.kind=14){b:Int}(hb:abE k r b):0≤rk r (brT k b.toNat)∧rk r (brT k b.toNat)<q:=by
 obtain⟨x,hx,h0,h1⟩:=h.uni h14
 obtain⟨j,hj,rfl⟩:=List.mem_iff_getElem.1 hx
 have e:brT k j=k.branches[j]:=by simp[brT,List.getD_eq_getElem?_getD,List.getElem?_eq_getElem hj]
 have:=hb.least j hj (by rw[e];exact h0)
 rw[e] at this
 omega
theorem apf(w:List Int)(i:Nat)(x:Int):∀l:List aM,(∀f∈l,f.typ.toNat≠i)→oU (w.set i x) l=oU w l
 | [],_=>rfl
 |f::l,h=>by
  have:=apf w i x l fun f hf=>h f (by simp[hf])
  simp only[oU,this,rk]
  rw[eH _ _ _ _ _ (fun e=>h f (by simp) e.symm)]
theorem nh.set{ts:List aA}{r w:List Int}{m:Int}(hR:jO ts r m){i j:Nat}{x:Int}(hj:j<r.length)(hr:0≤r.getD j 0)(hle:r.getD j 0≤r.getD i 0)(hne:i≠j)
  (h:nh (ts.getD j (aB .atype)) r w (w.getD j 0)):nh (ts.getD j (aB .atype)) r (w.set i x) ((w.set i x).getD j 0):=by
 rw[eH _ _ _ _ _ hne]
 refine⟨h.pos,h.top,fun h9=>?_,fun h14 b hb=>?_⟩
 ·have hk:1≤r.getD j 0:=by
   by_cases h0:r.getD j 0=0
   ·exact absurd h9 (hR.nul j hj h0).1
   ·omega
  rw[apf w i x _ fun f hf e=>?_]
  ·exact h.rcd h9
  ·have:=(hR.ok j hj hk).rcd (by omega) f hf
   unfold rk at this
   rw[e] at this;omega
 ·have hk:1≤r.getD j 0:=by
   by_cases h0:r.getD j 0=0
   ·exact absurd h14 (hR.nul j hj h0).2
   ·omega
  have hc:=acI (ts:=ts) (m:=m) (hR.ok j hj hk) h14 hb
  have hu:=h.uni h14 b hb
  unfold rk at hc hu ⊢
  rw[eH _ _ _ _ _ (fun e=>by rw[←e] at hc;omega)]
  exact hu
theorem aol{w:List Int}:∀{l:List aM},(∀f∈l,0≤rk w f.typ)→0≤oU w l
 | [],_=>by simp[oU]
 |f::l,h=>by
  have h1:=h f (by simp)
  have:=aol (w:=w) (l:=l) fun f hf=>h f (by simp[hf])
  simp only[oU];omega
theorem apg{w:List Int}:∀{l:List aM},(∀f∈l,0≤rk w f.typ)→∀f∈l,rk w f.typ≤oU w l
 | [],_=>fun f hf=>by simp at hf
 |g::l,h=>fun f hf=>by
  have h1:=h g (by simp)
  have h2:=aol (w:=w) (l:=l) fun f hf=>h f (by simp[hf])
  simp only[oU]
  rcases List.mem_cons.1 hf with rfl|hf
  ·omega
  ·have:=apg (w:=w) (l:=l) (fun f hf=>h f (by simp[hf])) f hf;omega
theorem aph(w:List Int):∀l m:List aM,oU w (l++m)=oU w l+oU w m
 | [],m=>by simp[oU]
 |f::l,m=>by simp only[List.cons_append,oU,aph w l m];omega
theorem wE{α:Type}(l:List α)(i:Nat)(d:α)(h:i<l.length):l.take (i+1)=l.take i++[l.getD i d]:=by
 rw[List.take_add_one,List.getElem?_eq_getElem h,List.getD_eq_getElem?_getD,List.getElem?_eq_getElem h];rfl
def wF:List Int→Nat
 | []=>0
 |x::l=>(if x<0 then 1 else 0)+wF l
theorem api:∀l,wF l≤l.length
 | []=>by simp[wF]
 |x::l=>by have:=api l;simp only[wF,List.length_cons];split<;>omega
theorem asN:∀(a b:List Int),a.length=b.length→(∀j,j<a.length→a.getD j 0<0→b.getD j 0<0)→wF a≤wF b
 | [],[],_,_=>Nat.le_refl _
 |x::a,y::b,hl,h=>by
  have ih:=asN a b (by simpa using hl) (fun j hj hx=>by have:=h (j+1) (by simpa using hj) (by simpa using hx);simpa using this)
  have h0:=h 0 (by simp)
  simp only[List.getD_cons_zero] at h0
  simp only[wF]
  split<;>split<;>omega
theorem asO:∀(a b:List Int),a.length=b.length→(∀j,j<a.length→a.getD j 0<0→b.getD j 0<0)→∀j,j<a.length→0≤a.getD j 0→b.getD j 0<0→wF a<wF b
 | [],[],_,_,j,hj,_,_=>by simp at hj
 |x::a,y::b,hl,h,0,hj,h1,h2=>by
  have ih:=asN a b (by simpa using hl) (fun j hj hx=>by have:=h (j+1) (by simpa using hj) (by simpa using hx);simpa using this)
  simp only[List.getD_cons_zero] at h1 h2
  simp only[wF]
  rw[if_neg (by omega),if_pos h2]
  omega
 |x::a,y::b,hl,h,j+1,hj,h1,h2=>by
  have ih:=asO a b (by simpa using hl) (fun j hj hx=>by have:=h (j+1) (by simpa using hj) (by simpa using hx);simpa using this) j (by simpa using hj) (by simpa using h1) (by simpa using h2)
  have h0:=h 0 (by simp)
  simp only[List.getD_cons_zero] at h0
  simp only[wF]
  split<;>split<;>omega
theorem aet.not{k:aA}{r:List Int}{m:Int}(h:aet k r)(h2:wd k r m):False:=by
 by_cases h14:k.kind=14
 ·obtain⟨b,hb,h0, -⟩:=h2.uni h14
  have:=h.1 h14 b hb
  omega
 ·obtain⟨f,hf,h0⟩:=h.2 h14
  have:=h2.rcd h14 f hf
  omega
theorem anc.step{ts:List aA}{r next:List Int}{n:Int}(hk:∀i,i<ts.length→(∀b∈(ts.getD i (aB .atype)).branches,0≤b∧b<(ts.length:Int))∧∀f∈(ts.getD i (aB .atype)).fields,0≤f.typ∧f.typ<(ts.length:Int))(hr:r.length=ts.length)(hl:next.length=ts.length)(h1:∀j,j<ts.length→0≤r.getD j 0→next.getD j 0=r.getD j 0)
  (h2:∀j,j<ts.length→r.getD j 0<0→(next.getD j 0=-1∧aet (ts.getD j (aB .atype)) r)∨wd (ts.getD j (aB .atype)) r (next.getD j 0)) (h:anc ts r∨n+wF r≤ts.length):anc ts next∨n+1+wF next≤ts.length:=by
 by_cases hx:∃j,j<ts.length∧r.getD j 0<0∧0≤next.getD j 0
 ·obtain⟨j,hj,h3,h4⟩:=hx
  right
  have hlt:=asO next r (by omega) (fun i hi hn=>by
   rcases Int.lt_or_le (r.getD i 0) 0 with e|e
   ·exact e
   ·have:=h1 i (by omega) e;omega) j (by omega) h4 h3
  rcases h with h|h
  ·exfalso
   rcases h2 j hj h3 with⟨e, -⟩|e
   ·omega
   ·exact(h j hj h3).not e
  ·omega
 ·left
  have hx:∀j,j<ts.length→r.getD j 0<0→next.getD j 0<0:=fun j hj h3=>by
   rcases Int.lt_or_le (next.getD j 0) 0 with e|e
   ·exact e
   ·exact absurd ⟨j,hj,h3,e⟩ hx
  intro j hj h3
  have h4:r.getD j 0<0:=by
   rcases Int.lt_or_le (r.getD j 0) 0 with e|e
   ·exact e
   ·have:=h1 j hj e;omega
  rcases h2 j hj h4 with⟨-,e⟩|e
  ·refine⟨fun h14 b hb=>?_,fun h14=>?_⟩
   ·have:=(hk j hj).1 b hb
    exact hx b.toNat (by omega) (e.1 h14 b hb)
   ·obtain⟨f,hf,h5⟩:=e.2 h14
    have:=(hk j hj).2 f hf
    exact⟨f,hf,hx f.typ.toNat (by omega) h5⟩
  ·have:=e.pos;omega
end Go.Proofs.Ytdpajabhmmmjoaa
end
noncomputable section
namespace Go.Proofs.Ytdpajabhmmmjoaa
open Go.AM
set_option autoImplicit false
set_option linter.unusedSimpArgs false
set_option linter.unusedVariables false
set_option maxRecDepth 100000
theorem aom{α:Type}(p:α→Bool)(d:α)(l:List α)(i:Nat)(h:i<l.length):cG p (l.drop i) i=if p (l.getD i d) then (i:Int) else cG p (l.drop (i+1)) (i+1):=by
 rw[List.drop_eq_getElem_cons h,cG]
 simp[List.getD,h]
theorem tb{α:Type}(p:α→Bool):∀(l:List α)(i:Nat),decide (0≤cG p l i)=l.any p
 | [],_=>rfl
 |x::l,i=>by
  rw[cG,List.any_cons]
  cases h:p x with
  |true=>simp
  |false=>simpa using tb p l (i+1)
theorem aaH{α:Type}(p:α→Bool):∀(l:List α)(i:Nat),cG p l i=-1∨((i:Int)≤cG p l i∧cG p l i<i+l.length)
 | [],_=>.inl rfl
 |x::l,i=>by
  rw[cG]
  cases h:p x with
  |true=>right;simp;omega
  |false=>
   rcases aaH p l (i+1) with e|e
   ·left;simpa using e
   ·right
    simp only[Bool.false_eq_true,if_false,List.length_cons]
    omega
structure Fst{α:Type}(p:α→Bool)(l:List α)(i:Int):Prop where
 nn:0≤i
 le:i≤l.length
 eq:cG p l 0=cG p (l.drop i.toNat) i.toNat
theorem Fst.zero{α:Type}(p:α→Bool)(l:List α):Fst p l 0:=⟨by omega,by omega,rfl⟩
theorem Fst.hit{α:Type}{p:α→Bool}{l:List α}{i:Int}(h:Fst p l i)(d:α)(hi:i<l.length)(hp:p (l.getD i.toNat d)=true):cG p l 0=i:=by
 have h0:=h.nn
 rw[h.eq,aom p d l _ (by omega),hp]
 simp;omega
theorem Fst.next{α:Type}{p:α→Bool}{l:List α}{i:Int}(h:Fst p l i)(d:α)(hi:i<l.length)(hp:p (l.getD i.toNat d)=false):Fst p l (i+1):=by
 have h0:=h.nn
 refine⟨by omega,by omega,?_⟩
 rw[h.eq,aom p d l _ (by omega),hp,show (i+1).toNat=i.toNat+1 by omega]
 simp
theorem Fst.none{α:Type}{p:α→Bool}{l:List α}{i:Int}(h:Fst p l i)(hi:¬i<l.length):cG p l 0=-1:=by
 have h0:=h.nn
 rw[h.eq,List.drop_eq_nil_of_le (by omega),cG]
theorem atx(s:List UInt8)(c:Int):∀n, -1≤pO s c n∧pO s c n<n
 |0=>by simp[pO]
 |n+1=>by
  have:=atx s c n
  rw[pO]
  split<;>omega
theorem az3(s:List UInt8)(c:Int):∃r,cH s c r:=by
 refine ta (ret:=fun r=>.int .i64 r) fun hf=>?_
 have hs:s.length≤9223372036854775807:=hf (.str s) (by simp)
 refine sR (s.length+1) s c ?_
 unfold jY cz
 dsimp only
 rw[aI ((s.length:Int)-1) (by omega)]
 refine aU (fun x=>x.1=s∧x.2.1=c∧ -1≤x.2.2∧x.2.2<(s.length:Int)∧pO s c s.length=pO s c (x.2.2+1).toNat) (fun x=>(x.2.2+1).toNat) ?_ _ _ ⟨rfl,rfl,by simp only;omega,by simp only;omega,by simp only;congr 1;omega⟩ (by simp only;omega)
 rintro again ⟨s',c',i⟩ ⟨rfl,rfl,i1,i2,i3⟩ ih
 dsimp only at i1 i2 i3 ih hs
 unfold dv
 dsimp only
 refine aC (fun h=>?_) (fun h=>?_)
 ·have h:=of_decide_eq_true h
  have e:(i+1).toNat=i.toNat+1:=by omega
  rw[e,pO] at i3
  refine aJ (ixt (by omega)) (aC (fun hb=>aF ⟨_,_,rfl,rfl,?_⟩) (fun hb=>ih _ ⟨rfl,rfl,?_,?_,?_⟩ ?_))
  ·rw[if_pos (by simpa using hb)] at i3
   show i=pO s' c' s'.length
   rw[i3];omega
  all_goals (try dsimp only);rw[aI (i-1) (by omega)]
  ·omega
  ·omega
  ·rw[if_neg (by simpa using hb)] at i3
   rw[i3];congr 1;omega
  ·omega
 ·have h:=of_decide_eq_false h
  refine aF ⟨_,_,rfl,rfl,?_⟩
  show -1=pO s' c' s'.length
  rw[i3,show (i+1).toNat=0 by omega];rfl
theorem aA2(s:List UInt8)(c:Int):∃r,gz s c r:=by
 apply adU 1
 unfold wu wt
 refine aE (az3 s c) ?_
 rintro(r:Int) ⟨-,hr⟩
 exact aF ⟨_,_,rfl,rfl,hr⟩
theorem ajd(s:List UInt8):∃r,oW s r:=by
 refine ta (ret:=fun r=>.str r) fun hf=>?_
 have hs:s.length≤9223372036854775807:=hf (.str s) (by simp)
 refine ar4 1 s ?_
 unfold aj7 aj6
 dsimp only
 refine aE (aA2 s 46) ?_
 rintro(r:Int) ⟨-,hr⟩
 have hr:r=pO s 46 s.length:=hr
 have hl:=atx s 46 s.length
 rw[←hr] at hl
 rw[aI (r+1) (by omega)]
 refine aJ (by simp;omega) (aF ⟨_,_,rfl,rfl,?_⟩)
 show _=fh s
 rw[List.take_length,hr];rfl
theorem ad0(s:List UInt8):∃r,jV s r:=by
 refine ta (ret:=fun r=>.str r) fun hf=>?_
 have hs:s.length≤9223372036854775807:=hf (.str s) (by simp)
 refine aqB (s.length+1) s ?_
 unfold ahD rK
 dsimp only
 rw[aI ((s.length:Int)-1) (by omega)]
 refine aU (fun x=>x.1=s∧ -1≤x.2∧x.2<(s.length:Int)∧pO s 46 s.length=pO s 46 (x.2+1).toNat) (fun x=>(x.2+1).toNat) ?_ _ _ ⟨rfl,by simp only;omega,by simp only;omega,by simp only;congr 1;omega⟩ (by simp only;omega)
 rintro again ⟨s',i⟩ ⟨rfl,i1,i2,i3⟩ ih
 dsimp only at i1 i2 i3 ih hs
 unfold uS
 dsimp only
 refine aC (fun h=>?_) (fun h=>?_)
 ·have h:=of_decide_eq_true h
  have e:(i+1).toNat=i.toNat+1:=by omega
  rw[e,pO] at i3
  refine aJ (ixt (by omega)) (aC (fun hb=>?_) (fun hb=>ih _ ⟨rfl,?_,?_,?_⟩ ?_))
  ·rw[if_pos (by simpa using hb)] at i3
   rw[aI (i+1) (by omega)]
   refine aJ (by simp;omega) (aF ⟨_,_,rfl,rfl,?_⟩)
   show _=fh s'
   rw[List.take_length,fh,i3,Int.toNat_of_nonneg h]
  all_goals (try dsimp only);rw[aI (i-1) (by omega)]
  ·omega
  ·omega
  ·rw[if_neg (by simpa using hb)] at i3
   rw[i3];congr 1;omega
  ·omega
 ·have h:=of_decide_eq_false h
  refine aF ⟨_,_,rfl,rfl,?_⟩
  show s'=fh s'
  rw[fh,i3,show (i+1).toNat=0 by omega];rfl
theorem aqX(ts:List aA)(t:Int):∃r,pR ts t r:=by
 apply awe 1
 unfold aod aoc
 dsimp only
 refine aC (fun h=>aF ⟨_,_,rfl,rfl,?_⟩) (fun h=>aF ⟨_,_,rfl,rfl,?_⟩)
 ·show _=isT ts t
  rw[isT,h];rfl
 ·show _=isT ts t
  rw[isT,h];rfl
theorem axU(s w:List UInt8):∃r,nA s w r:=by
 apply akQ 1
 unfold acA acz
 refine aE (ajd s) ?_
 rintro(r:List UInt8) ⟨-,hr⟩
 have hr:r=fh s:=hr
 exact aF ⟨_,_,rfl,rfl,by rw[hr];rfl⟩
theorem awN(l:List (List UInt8))(w:List UInt8)(hl:l.length≤1000):∃r,bL l w r:=by
 apply nY (l.length+1)
 unfold fV bJ
 dsimp only
 refine aU (fun x=>x.1=l∧x.2.1=w∧x.2.2.1=(l.length:Int)∧Fst (fun s=>decide (fh s=w)) l x.2.2.2) (fun x=>(l.length-x.2.2.2:Int).toNat) ?_ _ _ ⟨rfl,rfl,rfl,.zero _ _⟩ (by simp only;omega)
 rintro again ⟨l',w',n,i⟩ ⟨rfl,rfl,i1,i2⟩ ih
 dsimp only at i1 i2 ih hl
 subst i1
 have h0:=i2.nn
 unfold cm
 dsimp only
 refine aC (fun h=>?_) (fun h=>aF ⟨_,_,rfl,rfl,(i2.none (of_decide_eq_false h)).symm⟩)
 have h:=of_decide_eq_true h
 rw[aI (i+1) (by omega)]
 refine aJ (ixt (by omega)) (aE (axU _ _) ?_)
 rintro(r:Bool) ⟨-,hr⟩
 have hr:r=decide (fh (l'.getD i.toNat (aB .str))=w'):=hr
 exact aC (fun hb=>aF ⟨_,_,rfl,rfl,(i2.hit _ h (hr.symm.trans hb)).symm⟩) (fun hb=>ih _ ⟨rfl,rfl,rfl,i2.next _ h (hr.symm.trans hb)⟩ (by simp only;omega))
theorem auV(l:List (List UInt8))(w:List UInt8)(hl:l.length≤1000):∃r,bE l w r:=by
 apply mu 1
 unfold fo fm
 refine aE (awN l w hl) ?_
 rintro(r:Int) ⟨-,hr⟩
 have hr:r=cG _ l 0:=hr
 exact aF ⟨_,_,rfl,rfl,by rw[hr];exact tb _ _ _⟩
theorem ay3(a b:aA)(hb:b.aliases.length≤1000):∃r,lj a b r:=by
 apply aoW 1
 unfold agf age
 refine aE (ajd _) ?_
 rintro(r1:List UInt8) ⟨-,h1⟩
 refine aE (ajd _) ?_
 rintro(r2:List UInt8) ⟨-,h2⟩
 have h1:r1=fh a.name:=h1
 have h2:r2=fh b.name:=h2
 subst h1 h2
 refine aC (fun h=>aF ⟨_,_,rfl,rfl,?_⟩) (fun h=>?_)
 ·show true=tO a b
  rw[tO,h];rfl
 ·refine aE (auV _ _ hb) ?_
  rintro(r3:Bool) ⟨-,h3⟩
  have h3:r3=b.aliases.any _:=h3
  refine aF ⟨_,_,rfl,rfl,?_⟩
  show r3=tO a b
  rw[tO,h,h3];rfl
theorem ay4(a b:aA)(hb:b.aliases.length≤1000):∃r,ni a b r:=by
 apply aqD (b.aliases.length+1)
 unfold ahF rL
 dsimp only
 refine aE (ad0 _) ?_
 rintro(r1:List UInt8) ⟨-,h1⟩
 refine aE (ad0 _) ?_
 rintro(r2:List UInt8) ⟨-,h2⟩
 have h1:r1=fh b.name:=h1
 have h2:r2=fh a.name:=h2
 subst h1 h2
 refine aU (fun x=>x.1=a∧x.2.1=b∧0≤x.2.2.2∧x.2.2.2≤(b.aliases.length:Int)∧tO a b=(x.2.2.1||(b.aliases.drop x.2.2.2.toNat).any fun s=>decide (fh s=fh a.name))) (fun x=>(b.aliases.length-x.2.2.2:Int).toNat) ?_ _ _ ⟨rfl,rfl,by simp,by simp,rfl⟩ (by simp only;omega)
 rintro again ⟨a',b',is,i⟩ ⟨rfl,rfl,i1,i2,i3⟩ ih
 dsimp only at i1 i2 i3 ih hb
 unfold uU
 dsimp only
 refine aC (fun h=>?_) (fun h=>aF ⟨_,_,rfl,rfl,?_⟩)
 ·have h:=of_decide_eq_true h
  have e:b'.aliases.drop i.toNat=b'.aliases.getD i.toNat (aB .str)::b'.aliases.drop (i+1).toNat:=by
   rw[List.drop_eq_getElem_cons (by omega),show (i+1).toNat=i.toNat+1 by omega]
   simp[List.getD,show i.toNat<b'.aliases.length by omega]
  rw[e,List.any_cons] at i3
  rw[aI (i+1) (by omega)]
  refine aC (fun hb=>ih _ ⟨rfl,rfl,by simp only;omega,by simp only;omega,?_⟩ (by simp only;omega)) (fun hb=>aJ (ixt (by omega)) ?_)
  ·rw[hb] at i3;simpa using i3
  ·refine aE (ad0 _) ?_
   rintro(r3:List UInt8) ⟨-,h3⟩
   refine aE (ad0 _) ?_
   rintro(r4:List UInt8) ⟨-,h4⟩
   have h3:r3=fh _:=h3
   have h4:r4=fh _:=h4
   subst h3 h4
   refine ih _ ⟨rfl,rfl,by simp only;omega,by simp only;omega,?_⟩ (by simp only;omega)
   rw[i3,hb];rfl
 ·have h:=of_decide_eq_false h
  show is=tO a' b'
  rw[i3,List.drop_eq_nil_of_le (by omega)];simp
theorem ad1(w r:List aA)(t q:Int)(hr:∀x∈r,x.aliases.length≤1000):∃x,jT w r t q x:=by
 apply aqu 1
 unfold ahB ahA
 dsimp only
 refine aE (aqX w t) ?_
 rintro(r1:Bool) ⟨-,h1⟩
 have h1:r1=isT w t:=h1
 refine aC (fun h=>aF ⟨_,_,rfl,rfl,?_⟩) (fun h=>?_)
 ·have h:r1=false:=by simpa using h
  show false=dl w r t q
  rw[dl,←h1,h];rfl
 have h:r1=true:=by simpa using h
 rw[h] at h1
 refine aE (aqX r q) ?_
 rintro(r2:Bool) ⟨-,h2⟩
 have h2:r2=isT r q:=h2
 refine aC (fun h=>aF ⟨_,_,rfl,rfl,?_⟩) (fun h=>?_)
 ·have h:r2=false:=by simpa using h
  show false=dl w r t q
  rw[dl,←h1,←h2,h];rfl
 have h:r2=true:=by simpa using h
 rw[h] at h2
 have e:dl w r t q=aam (w.getD t.toNat (aB .atype)) (r.getD q.toNat (aB .atype)):=by rw[dl,←h1,←h2];rfl
 have t1:0≤t∧t<w.length:=by simpa [isT] using h1.symm
 have t2:0≤q∧q<r.length:=by simpa [isT] using h2.symm
 have hal:(r.getD q.toNat (aB .atype)).aliases.length≤1000:=hr _ (cA _ _ _ (by omega))
 refine aJ (ixt (by omega)) (aJ (ixt (by omega)) ?_)
 generalize w.getD t.toNat (aB .atype)=a at e ⊢
 generalize r.getD q.toNat (aB .atype)=b at e hal ⊢
 have fin:∀x:Bool,x=aam a b→zf w r t q x:=fun x h=>h.trans e.symm
 repeat' (first|(with_reducible refine aC ?_ ?_<;>(intro hb;(try simp only[bnl] at hb);(try revert hb;intro _)))|with_reducible refine aJ ?_ ?_|with_reducible refine aF ?_|(refine aE (ay3 a b hal) ?_;rintro(r3:Bool) ⟨-,h3⟩;have h3:r3=tO a b:=h3)|fail)
 all_goals
  refine⟨_,_,rfl,rfl,fin _ ?_⟩
  simp only[aam]
  simp_all<;>try (intros;omega)
theorem aqY(w r:List aA)(t q:Int)(hr:∀x∈r,x.aliases.length≤1000):∃x,pL w r t q x:=by
 apply aqE 1
 unfold ahH ahG
 dsimp only
 refine aE (ae0 w t) ?_
 rintro(r1:Bool) ⟨-,h1⟩
 have h1:r1=isT w t:=h1
 refine aC (fun h=>aF ⟨_,_,rfl,rfl,?_⟩) (fun h=>?_)
 ·have h:r1=false:=by simpa using h
  show false=dl w r t q
  rw[dl,←h1,h];rfl
 have h:r1=true:=by simpa using h
 rw[h] at h1
 refine aE (ae0 r q) ?_
 rintro(r2:Bool) ⟨-,h2⟩
 have h2:r2=isT r q:=h2
 refine aC (fun h=>aF ⟨_,_,rfl,rfl,?_⟩) (fun h=>?_)
 ·have h:r2=false:=by simpa using h
  show false=dl w r t q
  rw[dl,←h1,←h2,h];rfl
 have h:r2=true:=by simpa using h
 rw[h] at h2
 have e:dl w r t q=aam (w.getD t.toNat (aB .atype)) (r.getD q.toNat (aB .atype)):=by rw[dl,←h1,←h2];rfl
 have t1:0≤t∧t<w.length:=by simpa [isT] using h1.symm
 have t2:0≤q∧q<r.length:=by simpa [isT] using h2.symm
 have hal:(r.getD q.toNat (aB .atype)).aliases.length≤1000:=hr _ (cA _ _ _ (by omega))
 refine aJ (ixt (by omega)) (aJ (ixt (by omega)) ?_)
 generalize w.getD t.toNat (aB .atype)=a at e ⊢
 generalize r.getD q.toNat (aB .atype)=b at e hal ⊢
 have fin:∀x:Bool,x=aam a b→zh w r t q x:=fun x h=>h.trans e.symm
 repeat' (first|(with_reducible refine aC ?_ ?_<;>(intro hb;(try simp only[bnl] at hb);(try revert hb;intro _)))|with_reducible refine aJ ?_ ?_|with_reducible refine aF ?_|(refine aE (ay4 a b hal) ?_;rintro(r3:Bool) ⟨-,h3⟩;have h3:r3=tO a b:=h3)|fail)
 all_goals
  refine⟨_,_,rfl,rfl,fin _ ?_⟩
  simp only[aam]
  simp_all<;>try (intros;omega)
theorem az4(f:aM)(n:List UInt8):∃r,pS f n r:=by
 apply anz 1
 unfold aeP aeO
 exact aF ⟨_,_,rfl,rfl,rfl⟩
theorem ay5(l:List aM)(w:List UInt8)(hl:l.length≤1000):∃r,bw l w r:=by
 apply ll (l.length+1)
 unfold eN bv
 dsimp only
 refine aU (fun x=>x.1=l∧x.2.1=w∧x.2.2.1=(l.length:Int)∧Fst (fun f:aM=>decide (f.name=w)) l x.2.2.2) (fun x=>(l.length-x.2.2.2:Int).toNat) ?_ _ _ ⟨rfl,rfl,rfl,.zero _ _⟩ (by simp only;omega)
 rintro again ⟨l',w',n,i⟩ ⟨rfl,rfl,i1,i2⟩ ih
 dsimp only at i1 i2 ih hl
 subst i1
 have h0:=i2.nn
 unfold bU
 dsimp only
 refine aC (fun h=>?_) (fun h=>aF ⟨_,_,rfl,rfl,(i2.none (of_decide_eq_false h)).symm⟩)
 have h:=of_decide_eq_true h
 rw[aI (i+1) (by omega),av1]
 refine aJ (ixt (by omega)) (aE (az4 _ _) ?_)
 rintro(r:Bool) ⟨-,hr⟩
 have hr:r=decide ((l'.getD i.toNat (aB .afield)).name=w'):=hr
 exact aC (fun hb=>aF ⟨_,_,rfl,rfl,(i2.hit _ h (hr.symm.trans hb)).symm⟩) (fun hb=>ih _ ⟨rfl,rfl,rfl,i2.next _ h (hr.symm.trans hb)⟩ (by simp only;omega))
theorem aqZ(l:List aM)(d:List UInt8)(ns:List (List UInt8))(i:Nat)(h:i<ns.length):lA l (ns.drop i)=if 0≤agI l (ns.getD i d) then agI l (ns.getD i d) else lA l (ns.drop (i+1)):=by
 rw[List.drop_eq_getElem_cons h,lA]
 simp[List.getD,h]
theorem az5(a:aA)(f:aM)(h1:a.fields.length≤1000)(h2:f.aliases.length≤1000):∃r,wm a f r:=by
 apply asa (f.aliases.length+2)
 unfold aj9 tW
 dsimp only
 refine aJ (by simp;omega) ?_
 rw[show ([f.name]++f.aliases:List (List UInt8))=f.name::f.aliases from rfl]
 have hl:(f.name::f.aliases).length≤1001:=by simp;omega
 have hN:(f.name::f.aliases).length<f.aliases.length+2:=by simp
 have hpost:∀x:Int,x=lA a.fields (f.name::f.aliases)→aao a f x:=fun _ h=>h
 generalize f.name::f.aliases=ns at*
 refine aU (fun x=>x.1=a∧x.2.1=ns∧x.2.2.1=(ns.length:Int)∧0≤x.2.2.2∧x.2.2.2≤(ns.length:Int)∧lA a.fields ns=lA a.fields (ns.drop x.2.2.2.toNat)) (fun x=>(ns.length-x.2.2.2:Int).toNat) ?_ _ _ ⟨rfl,rfl,rfl,by simp,by simp,rfl⟩ (by simp only;omega)
 rintro again ⟨a',ns',n,i⟩ ⟨rfl,rfl,i0,i1,i2,i3⟩ ih
 dsimp only at i0 i1 i2 i3 ih hl hpost h1
 subst i0
 unfold xf
 dsimp only
 refine aC (fun h=>?_) (fun h=>aF ⟨_,_,rfl,rfl,hpost _ ?_⟩)
 ·have h:=of_decide_eq_true h
  rw[aqZ _ (aB .str) _ _ (by omega)] at i3
  rw[aI (i+1) (by omega)]
  refine aJ (ixt (by omega)) (aE (ay5 _ _ h1) ?_)
  rintro(r:Int) ⟨-,hr⟩
  have hr:r=agI a'.fields (ns'.getD i.toNat (aB .str)):=hr
  rw[←hr] at i3
  refine aC (fun hb=>aF ⟨_,_,rfl,rfl,hpost _ ?_⟩) (fun hb=>ih _ ⟨rfl,rfl,rfl,by simp only;omega,by simp only;omega,?_⟩ (by simp only;omega))
  ·rw[i3,if_pos (of_decide_eq_true hb)]
  ·rw[i3,if_neg (of_decide_eq_false hb)]
   simp only
   congr 2;omega
 ·have h:=of_decide_eq_false h
  rw[i3,List.drop_eq_nil_of_le (by omega)];rfl
theorem az6(a:aA)(f:aM)(h1:a.fields.length≤1000)(h2:f.aliases.length≤1000):∃r,wl a f r:=by
 apply ask (f.aliases.length+a.fields.length+3)
 unfold aka tX
 dsimp only
 refine aJ (by simp;omega) ?_
 rw[show ([f.name]++f.aliases:List (List UInt8))=f.name::f.aliases from rfl]
 have hl:(f.name::f.aliases).length≤1001:=by simp;omega
 have hN:(f.name::f.aliases).length<f.aliases.length+a.fields.length+3:=by simp;omega
 have hpost:∀x:Int,x=lA a.fields (f.name::f.aliases)→aaq a f x:=fun _ h=>h
 generalize f.name::f.aliases=ns at*
 refine aU (fun x=>x.1=a∧x.2.1=ns∧0≤x.2.2∧x.2.2≤(ns.length:Int)∧lA a.fields ns=lA a.fields (ns.drop x.2.2.toNat)) (fun x=>(ns.length-x.2.2:Int).toNat) ?_ _ _ ⟨rfl,rfl,by simp,by simp,rfl⟩ (by simp only;omega)
 rintro again ⟨a',ns',i⟩ ⟨rfl,rfl,i1,i2,i3⟩ ih
 dsimp only at i1 i2 i3 ih hl hpost h1 hN
 unfold xk uV
 dsimp only
 refine aC (fun h=>?_) (fun h=>aF ⟨_,_,rfl,rfl,hpost _ ?_⟩)
 ·have h:=of_decide_eq_true h
  rw[aqZ _ (aB .str) _ _ (by omega)] at i3
  refine aU (fun x=>x.1=a'∧x.2.1=ns'∧x.2.2.1=i∧Fst (fun g:aM=>decide (g.name=ns'.getD i.toNat (aB .str))) a'.fields x.2.2.2) (fun x=>(a'.fields.length-x.2.2.2:Int).toNat) ?_ _ _ ⟨rfl,rfl,rfl,.zero _ _⟩ (by simp only;omega)
  rintro again1 ⟨a2,ns2,i',k⟩ ⟨rfl,rfl,rfl,j1⟩ ih1
  dsimp only at j1 ih1 h1 hl h i1 i2 i3 hpost ih
  have k0:=j1.nn
  unfold rM
  dsimp only
  refine aC (fun hk=>?_) (fun hk=>?_)
  ·have hk:=of_decide_eq_true hk
   rw[aI (k+1) (by omega)]
   refine aJ (ixt (by omega)) (aJ (ixt (by omega)) (aC (fun hb=>aF ⟨_,_,rfl,rfl,hpost _ ?_⟩) (fun hb=>ih1 _ ⟨rfl,rfl,rfl,j1.next _ hk hb⟩ (by simp only;omega))))
   have:=j1.hit _ hk hb
   rw[i3,agI,this,if_pos k0]
  ·have hk:=of_decide_eq_false hk
   have:=j1.none hk
   rw[aI (i'+1) (by omega)]
   refine ih _ ⟨rfl,rfl,by simp only;omega,by simp only;omega,?_⟩ (by simp only;omega)
   rw[i3,agI,this,if_neg (by decide)]
   simp only
   congr 2;omega
 ·have h:=of_decide_eq_false h
  rw[i3,List.drop_eq_nil_of_le (by omega)];rfl
def ac7(r:List aA):Prop:=∀x∈r,x.aliases.length≤1000
theorem axV(b:Int)(w r:List aA)(t:Int)(hr:ac7 r):∃x,nB b w r t x:=by
 apply akR 1
 unfold acC acB
 refine aE (ad1 w r t b hr) ?_
 rintro(x:Bool) ⟨-,hx⟩
 exact aF ⟨_,_,rfl,rfl,hx⟩
theorem awO(l:List Int)(w r:List aA)(t:Int)(hr:ac7 r)(hl:l.length≤1000):∃x,cj l w r t x:=by
 apply qn (l.length+1)
 unfold ix cb
 dsimp only
 refine aU (fun x=>x.1=l∧x.2.1=w∧x.2.2.1=r∧x.2.2.2.1=t∧x.2.2.2.2.1=(l.length:Int)∧Fst (fun b=>dl w r t b) l x.2.2.2.2.2) (fun x=>(l.length-x.2.2.2.2.2:Int).toNat) ?_ _ _ ⟨rfl,rfl,rfl,rfl,rfl,.zero _ _⟩ (by simp only;omega)
 rintro again ⟨l',w',r',t',n,i⟩ ⟨rfl,rfl,rfl,rfl,i1,i2⟩ ih
 dsimp only at i1 i2 ih hl hr
 subst i1
 have h0:=i2.nn
 unfold cS
 dsimp only
 refine aC (fun h=>?_) (fun h=>aF ⟨_,_,rfl,rfl,(i2.none (of_decide_eq_false h)).symm⟩)
 have h:=of_decide_eq_true h
 rw[aI (i+1) (by omega)]
 refine aJ (ixt (by omega)) (aE (axV _ _ _ _ hr) ?_)
 rintro(x:Bool) ⟨-,hx⟩
 have hx:x=dl w' r' t' (l'.getD i.toNat (aB (.num .i64))):=hx
 exact aC (fun hb=>aF ⟨_,_,rfl,rfl,(i2.hit _ h (hx.symm.trans hb)).symm⟩) (fun hb=>ih _ ⟨rfl,rfl,rfl,rfl,rfl,i2.next _ h (hx.symm.trans hb)⟩ (by simp only;omega))
theorem axW(w r:List aA)(t q:Int)(hr:ac7 r)(hq:0≤q∧q<r.length)(hl:(r.getD q.toNat (aB .atype)).branches.length≤1000):∃x,rE w r t q x:=by
 apply ao0 1
 unfold agj agi
 dsimp only
 refine aJ (ixt (by omega)) (aE (awO _ w r t hr hl) ?_)
 rintro(x:Int) ⟨-,hx⟩
 exact aF ⟨_,_,rfl,rfl,hx⟩
theorem axX(w r:List aA)(t q:Int)(hr:ac7 r)(hq:0≤q∧q<r.length)(hl:(r.getD q.toNat (aB .atype)).branches.length≤1000):∃x,rF w r t q x:=by
 apply ao4 ((r.getD q.toNat (aB .atype)).branches.length+1)
 unfold agn pY
 refine aU (fun x=>x.1=t∧x.2.1=q∧x.2.2.1=w∧x.2.2.2.1=r∧Fst (fun b=>dl w r t b) (r.getD q.toNat (aB .atype)).branches x.2.2.2.2) (fun x=>((r.getD q.toNat (aB .atype)).branches.length-x.2.2.2.2:Int).toNat) ?_ _ _ ⟨rfl,rfl,rfl,rfl,.zero _ _⟩ (by simp only;omega)
 rintro again ⟨t',q',w',r',i⟩ ⟨rfl,rfl,rfl,rfl,i2⟩ ih
 dsimp only at i2 ih hl hr hq
 have h0:=i2.nn
 unfold sW
 dsimp only
 refine aJ (ixt (by omega)) (aC (fun h=>?_) (fun h=>aF ⟨_,_,rfl,rfl,(i2.none (of_decide_eq_false h)).symm⟩))
 have h:=of_decide_eq_true h
 rw[aI (i+1) (by omega)]
 refine aJ (ixt (by omega)) (aJ (ixt (by omega)) (aE (aqY _ _ _ _ hr) ?_))
 rintro(x:Bool) ⟨-,hx⟩
 have hx:x=dl w' r' t' ((r'.getD q'.toNat (aB .atype)).branches.getD i.toNat (aB (.num .i64))):=hx
 exact aC (fun hb=>aF ⟨_,_,rfl,rfl,(i2.hit _ h (hx.symm.trans hb)).symm⟩) (fun hb=>ih _ ⟨rfl,rfl,rfl,rfl,i2.next _ h (hx.symm.trans hb)⟩ (by simp only;omega))
theorem aq0(a:aA)(s:List UInt8)(hl:a.syms.length≤1000):∃r,oH a s r:=by
 apply ao6 (a.syms.length+1)
 unfold agp pZ
 refine aU (fun x=>x.1=s∧x.2.1=a∧Fst (fun y=>decide (y=s)) a.syms x.2.2) (fun x=>(a.syms.length-x.2.2:Int).toNat) ?_ _ _ ⟨rfl,rfl,.zero _ _⟩ (by simp only;omega)
 rintro again ⟨s',a',i⟩ ⟨rfl,rfl,i2⟩ ih
 dsimp only at i2 ih hl
 have h0:=i2.nn
 unfold sY
 dsimp only
 refine aC (fun h=>?_) (fun h=>aF ⟨_,_,rfl,rfl,(i2.none (of_decide_eq_false h)).symm⟩)
 have h:=of_decide_eq_true h
 rw[aI (i+1) (by omega)]
 exact aJ (ixt (by omega)) (aC (fun hb=>aF ⟨_,_,rfl,rfl,(i2.hit _ h hb).symm⟩) (fun hb=>ih _ ⟨rfl,rfl,i2.next _ h hb⟩ (by simp only;omega)))
theorem ay6(l:List (List UInt8))(s:List UInt8)(hl:l.length≤1000):∃r,eD l s r:=by
 apply aau (l.length+1)
 unfold qK ef
 dsimp only
 refine aU (fun x=>x.1=l∧x.2.1=s∧x.2.2.1=(l.length:Int)∧Fst (fun y=>decide (y=s)) l x.2.2.2) (fun x=>(l.length-x.2.2.2:Int).toNat) ?_ _ _ ⟨rfl,rfl,rfl,.zero _ _⟩ (by simp only;omega)
 rintro again ⟨l',s',n,i⟩ ⟨rfl,rfl,i1,i2⟩ ih
 dsimp only at i1 i2 ih hl
 subst i1
 have h0:=i2.nn
 unfold fP
 dsimp only
 refine aC (fun h=>?_) (fun h=>aF ⟨_,_,rfl,rfl,(i2.none (of_decide_eq_false h)).symm⟩)
 have h:=of_decide_eq_true h
 rw[aI (i+1) (by omega)]
 have hsym:decide (s'=l'.getD i.toNat (aB .str))=decide (l'.getD i.toNat (aB .str)=s'):=by
  rw[Bool.eq_iff_iff,decide_eq_true_iff,decide_eq_true_iff];exact eq_comm
 rw[hsym]
 exact aJ (ixt (by omega)) (aC (fun hb=>aF ⟨_,_,rfl,rfl,(i2.hit _ h hb).symm⟩) (fun hb=>ih _ ⟨rfl,rfl,rfl,i2.next _ h hb⟩ (by simp only;omega)))
theorem asP(l:List (List UInt8))(s:List UInt8):(l.any fun y=>decide (y=s))=decide (s∈l):=by
 rw[Bool.eq_iff_iff,List.any_eq_true,decide_eq_true_iff]
 constructor
 ·rintro⟨x,hx,e⟩;exact of_decide_eq_true e▸hx
 ·intro h;exact⟨s,h,by simp⟩
theorem awP(l:List (List UInt8))(s:List UInt8)(hl:l.length≤1000):∃r,dO l s r:=by
 apply yp 1
 unfold pc pa
 refine aE (ay6 l s hl) ?_
 rintro(r:Int) ⟨-,hr⟩
 have hr:r=cG (fun y=>decide (y=s)) l 0:=hr
 refine aF ⟨_,_,rfl,rfl,?_⟩
 show decide (0≤r)=_
 rw[hr,tb,asP]
theorem ay7(s:List UInt8)(k0:Int)(k1:List UInt8)(k2:List (List UInt8))(k3:Int)(k4:List (List UInt8))(k5:Bool)(k6:List UInt8)(k7:Int)(k8:List aM)(k9:List Int)(hl:k4.length≤1000):∃r,gf s k0 k1 k2 k3 k4 k5 k6 k7 k8 k9 r:=by
 apply acY 1
 unfold uQ uP
 refine aE (awP k4 s hl) ?_
 rintro(r:Bool) ⟨-,hr⟩
 have hr:r=decide (s∈k4):=hr
 exact aF ⟨_,_,rfl,rfl,by rw[hr];rfl⟩
theorem awQ(l:List (List UInt8))(k0:Int)(k1:List UInt8)(k2:List (List UInt8))(k3:Int)(k4:List (List UInt8))(k5:Bool)(k6:List UInt8)(k7:Int)(k8:List aM)(k9:List Int)(hl:l.length≤1000)(h4:k4.length≤1000):∃r,bu l k0 k1 k2 k3 k4 k5 k6 k7 k8 k9 r:=by
 apply kQ (l.length+1)
 unfold eG br
 dsimp only
 refine aU (fun x=>match x with|(l',c0,c1,c2,c3,c4,c5,c6,c7,c8,c9,n,i)=>l'=l∧c4=k4∧n=(l.length:Int)∧Fst (fun s=> !decide (s∈k4)) l i) (fun x=>(l.length-x.2.2.2.2.2.2.2.2.2.2.2.2:Int).toNat) ?_ _ _ ⟨rfl,rfl,rfl,.zero _ _⟩ (by simp only;omega)
 rintro again ⟨l',c0,c1,c2,c3,c4,c5,c6,c7,c8,c9,n,i⟩ ⟨rfl,rfl,rfl,i2⟩ ih
 dsimp only at i2 ih
 have h0:=i2.nn
 unfold bQ
 dsimp only
 refine aC (fun h=>?_) (fun h=>aF ⟨_,_,rfl,rfl,(i2.none (of_decide_eq_false h)).symm⟩)
 have h:=of_decide_eq_true h
 rw[aI (i+1) (by omega)]
 refine aJ (ixt (by omega)) (aE (ay7 _ _ _ _ _ _ _ _ _ _ _ h4) ?_)
 rintro(x:Bool) ⟨-,hx⟩
 have hx:x= !decide (l'.getD i.toNat (aB .str)∈c4):=hx
 exact aC (fun hb=>aF ⟨_,_,rfl,rfl,(i2.hit _ h (hx.symm.trans hb)).symm⟩) (fun hb=>ih _ ⟨rfl,rfl,rfl,i2.next _ h (hx.symm.trans hb)⟩ (by simp only;omega))
theorem auW(l:List (List UInt8))(k0:Int)(k1:List UInt8)(k2:List (List UInt8))(k3:Int)(k4:List (List UInt8))(k5:Bool)(k6:List UInt8)(k7:Int)(k8:List aM)(k9:List Int)(hl:l.length≤1000)(h4:k4.length≤1000):∃r,bq l k0 k1 k2 k3 k4 k5 k6 k7 k8 k9 r:=by
 apply jm 1
 unfold dT dS
 refine aE (awQ l k0 k1 k2 k3 k4 k5 k6 k7 k8 k9 hl h4) ?_
 rintro(r:Int) ⟨-,hr⟩
 have hr:r=cG _ l 0:=hr
 exact aF ⟨_,_,rfl,rfl,by rw[hr];exact tb _ _ _⟩
end Go.Proofs.Ytdpajabhmmmjoaa
end
noncomputable section
namespace Go.Proofs.Ytdpajabhmmmjoaa
open Go.AM
set_option autoImplicit false
set_option linter.unusedVariables false
set_option maxRecDepth 100000
noncomputable def wG:aN:=tab (P:=Try.prog) [] [] [] []
def vc:IR:=Rs [Mb 4 false] (Sq (.reg [Lq 5 1,Nk 6 5,Fa 7 3 6,Fo [1] [] (.ld 8 1 false false 7),Mv 9 0,Lq 10 2,Pp (.bld 11 [vI 0,vI 0] [(0,1,9),(1,1,10)]),Pp (.mget 12 .pb false (.t 8) (.t 11)),Mv 4 12] [[],[0],[0,1],[0,1,2],[],[],[4,5],rg 0 6,rg 0 7]) .ret)
def vd:List RV:=[.t 4]
theorem ad2:FnC Try.prog wG [] 2 wi Try.f94 vc vd:=fnC Try.func94
def ve(N:Nat)(o0_0:List ((Int×Int)×Bool))(o1_0 o1_1:List aA)(o1_2:List Bool)(p0 pc1_0:Int):Ro:=
 let x1:=(abA (k:=.pb) o0_0 (p0,pc1_0))
 some (.bool x1,[some [.mp .pb o0_0],some [.sl .atype (.may false) o1_0,.sl .atype (.may false) o1_1,.sl .bool (.may false) o1_2,.mr 0]])
def n8(N:Nat)(o0_0:List ((Int×Int)×Bool))(o1_0 o1_1:List aA)(o1_2:List Bool)(p0 pc1_0:Int):Ro:=ve N o0_0 o1_0 o1_1 o1_2 p0 pc1_0
theorem ac8(N:Nat)(o0_0:List ((Int×Int)×Bool))(o1_0 o1_1:List aA)(o1_2:List Bool)(p0 pc1_0:Int):nO wG N 13 vd vc [.int .i64 p0,.ea [.ptr 1 0],.ea [.int .i64 pc1_0]] [some [.mp .pb o0_0],some [.sl .atype (.may false) o1_0,.sl .atype (.may false) o1_1,.sl .bool (.may false) o1_2,.mr 0]]=n8 N o0_0 o1_0 o1_1 o1_2 p0 pc1_0:=by kernel_rfl
theorem ac9(N:Nat)(o0_0:List ((Int×Int)×Bool))(o1_0 o1_1:List aA)(o1_2:List Bool)(p0 pc1_0:Int)(h:Tot (n8 N o0_0 o1_0 o1_1 o1_2 p0 pc1_0) (fun z=>∃(y0:Bool),z.1=.bool y0∧z.2=[some [.mp .pb o0_0],some [.sl .atype (.may false) o1_0,.sl .atype (.may false) o1_1,.sl .bool (.may false) o1_2,.mr 0]]∧sC o0_0 o1_0 o1_1 o1_2 p0 pc1_0 (y0))):∃r,ge o0_0 o1_0 o1_1 o1_2 p0 pc1_0 r:=by
 obtain⟨⟨v,hp⟩,hz,y0,e1,e2,hq⟩:=h
 simp only at e1 e2
 subst e1 e2
 exact⟨(y0),ad2.fnOK rfl ((ac8 N o0_0 o1_0 o1_1 o1_2 p0 pc1_0).trans hz),hq⟩
def fW:Nat→List V→Option (Bool×V):=fun _ _=>none
def cn:aN:=fun f us hp=>match f,us,hp with
 |94,[.int .i64 a0,.ea [.ptr 1 0],.ea [.int .i64 ac1_0]],[some [.mp .pb o0_0],some [.sl .atype (.may false) o1_0,.sl .atype (.may false) o1_1,.sl .bool (.may false) o1_2,.mr 0]]=>some (can (ge o0_0 o1_0 o1_1 o1_2 a0 ac1_0),.bool (pick (ge o0_0 o1_0 o1_1 o1_2 a0 ac1_0)),[some [.mp .pb o0_0],some [.sl .atype (.may false) o1_0,.sl .atype (.may false) o1_1,.sl .bool (.may false) o1_2,.mr 0]])
 |_,_,_=>none
def bl:aN:=(adR cn (w7 fW))
theorem mv:ep bl [94]:=(adS (by
 intro f us hp hf
 unfold cn
 split<;>first|rfl|(simp at hf)) (by
 intro f us hp hf
 unfold cn
 split<;>first|rfl|(simp at hf)) (sH _ _))
theorem nq:dR Try.prog bl:=by
 refine aiZ ?_ ?_
 ·intro f us hp v hp' h
  unfold cn at h
  split at h
  ·simp only[Option.some.injEq,Prod.mk.injEq] at h
   obtain⟨hc,rfl,rfl⟩:=h
   exact((aad hc).1).dim rfl
  ·simp at h
 intro f vs hp v hp' h
 obtain⟨h, -⟩:=afU h
 simp[fW] at h
def fp:IR:=Rs [Bi 9 .lss 8 7] (Sq (Cn 9 .skip (.exit 0)) (Sq (.block 1 (Rs [Mv 10 8,Mv 5 10] (Rs [Mv 11 1,Mv 12 0,Mv 13 5,Ix 14 (.num .i64) 12 13,Lq 15 14,Pp (.dcall (some 16) 94 (.t 11) [.t 15])] (Cn 16 (Rs [Mv 17 5,Mv 4 17] .ret) .skip)))) (Rg [Bc 18 .add 8 1,Mv 8 18])))
def fq:IR:=Rs [Mi 4 (-1)] .ret
def dx:IR:=Rs [Mi 4 0] (Sq (Rs [Mv 6 0,Ll 7 6,Mi 8 0] (.block 0 (.loop [0,1,7,8,1000000] 2 fp))) fq)
def co:List RV:=[.t 4]
theorem n9:FnC Try.prog bl [94] 2 fT Try.f127 dx co:=⟨nq,mv,Try.func127,by kernel_rfl,by kernel_rfl,by decide⟩
def nF(R:IR→(Ex→St→Ro)→St→Ro)(again0:St→Ro):Ex→St→Ro:=(bj again0 [0,1,7,8,1000000] 2 (aP 0 (bg (R fq) (fin co))))
abbrev ce:Type:=(List Int×Int×Int×Int×List ((Int×Int)×Bool)×List aA×List aA×List Bool)
def b8(x:ce):St:={env:=(.sl (.num .i64) (.may false) x.1::.fn 94 [.ea [.ptr 1 0],.ea [.int .i64 x.2.1]]::(U 5 (.int .i64 x.2.2.1::.int .i64 x.2.2.2.1::(U 10 [])))),hp:=[some [.mp .pb x.2.2.2.2.1],some [.sl .atype (.may false) x.2.2.2.2.2.1,.sl .atype (.may false) x.2.2.2.2.2.2.1,.sl .bool (.may false) x.2.2.2.2.2.2.2,.mr 0]]}
def dn(N:Nat):(St→Ro)→St→Ro:=fun again0 s=>run bl N fp (nF (run bl N) again0) s
def cg(N:Nat)(again0:ce→Ro)(x:ce):Ro:=
 let v0:List Int:=x.1
 let v1_1_0:Int:=x.2.1
 let v7:Int:=x.2.2.1
 let v8:Int:=x.2.2.2.1
 let o0_0:List ((Int×Int)×Bool):=x.2.2.2.2.1
 let o1_0:List aA:=x.2.2.2.2.2.1
 let o1_1:List aA:=x.2.2.2.2.2.2.1
 let o1_2:List Bool:=x.2.2.2.2.2.2.2
 let z0:=fun g0=>(some (.int .i64 g0,[some [.mp .pb o0_0],some [.sl .atype (.may false) o1_0,.sl .atype (.may false) o1_1,.sl .bool (.may false) o1_2,.mr 0]]):Ro)
 cond (decide (v8<v7)) (
  chk (ixl v8 v0) (
   let x2:=List.getD v0 (Int.toNat v8) (aB (.num .i64))
   aG (ge o0_0 o1_0 o1_1 o1_2 x2 v1_1_0) (fun(r1:Bool)=>
    cond r1 (
     z0 v8) (
     let x3:=(IntKind.wrap .i64 (v8+1))
     again0 (v0,v1_1_0,v7,x3,o0_0,o1_0,o1_1,o1_2))))) (
  z0 (-1))
theorem nr(N:Nat):LB (dn N) b8 (cg N):=fun _ _=>by kernel_rfl
def bG(N:Nat)(o0_0:List ((Int×Int)×Bool))(o1_0 o1_1:List aA)(o1_2:List Bool)(p0:List Int)(p1_1_0:Int)(q0:ce→Ro):Ro:=
 let x1:=(↑(List.length p0):Int)
 q0 (p0,p1_1_0,x1,0,o0_0,o1_0,o1_1,o1_2)
def dy(N:Nat)(o0_0:List ((Int×Int)×Bool))(o1_0 o1_1:List aA)(o1_2:List Bool)(p0:List Int)(p1_1_0:Int):Ro:=bG N o0_0 o1_0 o1_1 o1_2 p0 p1_1_0 (fun z=>aR N (cg N) z)
def oM(N:Nat):List (Nat×(St→Ro)):=bR bl N dx (fin co)++[]
theorem nG(N:Nat)(o0_0:List ((Int×Int)×Bool))(o1_0 o1_1:List aA)(o1_2:List Bool)(p0:List Int)(p1_1_0:Int):nO bl N 19 co dx [.sl (.num .i64) (.may false) p0,.fn 94 [.ea [.ptr 1 0],.ea [.int .i64 p1_1_0]]] [some [.mp .pb o0_0],some [.sl .atype (.may false) o1_0,.sl .atype (.may false) o1_1,.sl .bool (.may false) o1_2,.mr 0]]=dy N o0_0 o1_0 o1_1 o1_2 p0 p1_1_0:=
 ((bo (oM N) (by kernel_rfl) rfl (fun C=>bG N o0_0 o1_0 o1_1 o1_2 p0 p1_1_0 (fun z=>C 1000000 (b8 z))) (fun C=>by kernel_rfl)).trans (Eq.trans (b:=bG N o0_0 o1_0 o1_1 o1_2 p0 p1_1_0 (fun z=>aX N (dn N) (b8 z))) (by kernel_rfl) (congrArg (bG N o0_0 o1_0 o1_1 o1_2 p0 p1_1_0) (funext fun z=>aW (b8) (dn N) (cg N) (nr N) N z))))
theorem nH(N:Nat)(o0_0:List ((Int×Int)×Bool))(o1_0 o1_1:List aA)(o1_2:List Bool)(p0:List Int)(p1_1_0:Int)(h:Tot (dy N o0_0 o1_0 o1_1 o1_2 p0 p1_1_0) (fun z=>∃(y0:Int),z.1=.int .i64 y0∧z.2=[some [.mp .pb o0_0],some [.sl .atype (.may false) o1_0,.sl .atype (.may false) o1_1,.sl .bool (.may false) o1_2,.mr 0]]∧fj o0_0 o1_0 o1_1 o1_2 p0 p1_1_0 (y0))):∃r,bI o0_0 o1_0 o1_1 o1_2 p0 p1_1_0 r:=by
 obtain⟨⟨v,hp⟩,hz,y0,e1,e2,hq⟩:=h
 simp only at e1 e2
 subst e1 e2
 exact⟨(y0),n9.fnOK rfl ((nG N o0_0 o1_0 o1_1 o1_2 p0 p1_1_0).trans hz),hq⟩
def ft:Nat→List V→Option (Bool×V):=fun _ _=>none
def bZ:aN:=fun f us hp=>match f,us,hp with
 |127,[.sl (.num .i64) (.may _) a0,.fn 94 [.ea [.ptr 1 0],.ea [.int .i64 a1_1_0]]],[some [.mp .pb o0_0],some [.sl .atype (.may false) o1_0,.sl .atype (.may false) o1_1,.sl .bool (.may false) o1_2,.mr 0]]=>some (can (bI o0_0 o1_0 o1_1 o1_2 a0 a1_1_0),.int .i64 (pick (bI o0_0 o1_0 o1_1 o1_2 a0 a1_1_0)),[some [.mp .pb o0_0],some [.sl .atype (.may false) o1_0,.sl .atype (.may false) o1_1,.sl .bool (.may false) o1_2,.mr 0]])
 |_,_,_=>none
def b9:aN:=(adR bZ (w7 ft))
theorem lq:ep b9 [127]:=(adS (by
 intro f us hp hf
 unfold bZ
 split<;>first|rfl|(simp at hf)) (by
 intro f us hp hf
 unfold bZ
 split<;>first|rfl|(simp at hf)) (sH _ _))
theorem lF:dR Try.prog b9:=by
 refine aiZ ?_ ?_
 ·intro f us hp v hp' h
  unfold bZ at h
  split at h
  ·simp only[Option.some.injEq,Prod.mk.injEq] at h
   obtain⟨hc,rfl,rfl⟩:=h
   exact((aad hc).1).dim rfl
  ·simp at h
 intro f vs hp v hp' h
 obtain⟨h, -⟩:=afU h
 simp[ft] at h
def fe:IR:=Rs [Mb 4 false] (Rs [Mv 5 0,Mv 6 1,Ca 7 127 [5,6],Bc 8 .geq 7 0,Mv 4 8] .ret)
def ff:List RV:=[.t 4]
theorem mw:FnC Try.prog b9 [127] 2 fk Try.f93 fe ff:=⟨lF,lq,Try.func93,by kernel_rfl,by kernel_rfl,by decide⟩
def fg(N:Nat)(o0_0:List ((Int×Int)×Bool))(o1_0 o1_1:List aA)(o1_2:List Bool)(p0:List Int)(p1_1_0:Int):Ro:=
 aG (bI o0_0 o1_0 o1_1 o1_2 p0 p1_1_0) (fun(r1:Int)=>
  some (.bool (decide (0≤r1)),[some [.mp .pb o0_0],some [.sl .atype (.may false) o1_0,.sl .atype (.may false) o1_1,.sl .bool (.may false) o1_2,.mr 0]]))
def da(N:Nat)(o0_0:List ((Int×Int)×Bool))(o1_0 o1_1:List aA)(o1_2:List Bool)(p0:List Int)(p1_1_0:Int):Ro:=fg N o0_0 o1_0 o1_1 o1_2 p0 p1_1_0
theorem mi(N:Nat)(o0_0:List ((Int×Int)×Bool))(o1_0 o1_1:List aA)(o1_2:List Bool)(p0:List Int)(p1_1_0:Int):nO b9 N 9 ff fe [.sl (.num .i64) (.may false) p0,.fn 94 [.ea [.ptr 1 0],.ea [.int .i64 p1_1_0]]] [some [.mp .pb o0_0],some [.sl .atype (.may false) o1_0,.sl .atype (.may false) o1_1,.sl .bool (.may false) o1_2,.mr 0]]=da N o0_0 o1_0 o1_1 o1_2 p0 p1_1_0:=by kernel_rfl
theorem mj(N:Nat)(o0_0:List ((Int×Int)×Bool))(o1_0 o1_1:List aA)(o1_2:List Bool)(p0:List Int)(p1_1_0:Int)(h:Tot (da N o0_0 o1_0 o1_1 o1_2 p0 p1_1_0) (fun z=>∃(y0:Bool),z.1=.bool y0∧z.2=[some [.mp .pb o0_0],some [.sl .atype (.may false) o1_0,.sl .atype (.may false) o1_1,.sl .bool (.may false) o1_2,.mr 0]]∧eK o0_0 o1_0 o1_1 o1_2 p0 p1_1_0 (y0))):∃r,bB o0_0 o1_0 o1_1 o1_2 p0 p1_1_0 r:=by
 obtain⟨⟨v,hp⟩,hz,y0,e1,e2,hq⟩:=h
 simp only at e1 e2
 subst e1 e2
 exact⟨(y0),mw.fnOK rfl ((mi N o0_0 o1_0 o1_1 o1_2 p0 p1_1_0).trans hz),hq⟩
noncomputable def gY:aN:=tab (P:=Try.prog) [] [] [] [awa]
def vh:IR:=Rs [Bi 14 .lss 13 12] (Sq (Cn 14 .skip (.exit 0)) (Sq (.block 1 (Rs [Ix 15 .afield 11 13,Ld 16 9 true 15,Pp (.alr 8 9),Fz 8 9 16] (Rs [Ld 17 10 true 4,Ld 18 9 true 8,Ca 19 130 [17,18],Mv 9 19] (Sq (.reg [Mv 20 9,Bc 21 .lss 20 0,Mv 22 21,Gt 22 (.fad 23 3 8),Gt 22 (.lde 24 1 false 23),Gt 22 (.un 25 .not 24),Pa 26 22 25,Mv 27 26,Gf 27 (.mov 28 9),Gf 27 (.bin 29 .geq 28 (kI 0)),Gf 27 (.mov 30 29),Gt 30 (.mov 31 0),Gt 30 (.nck 32 31),Gt 30 (.fad 33 3 32),⟨some (30,true),.ld 34 1 false false 33,some ([1],[])⟩,Gt 30 (.fad 35 8 4),Gt 30 (.lde 36 1 false 35),Gt 30 (.mov 37 9),Gt 30 (.ixa 38 .afield 36 37),Gt 30 (.fad 39 2 38),⟨some (30,true),.ld 40 1 false false 39,some ([],[])⟩,Gt 30 (.fad 41 2 8),Gt 30 (.lde 42 1 false 41),Gt 30 (.bld 43 [vI 0,vI 0] [(0,1,40),(1,1,42)]),Gt 30 (.mget 44 .pb false (.t 34) (.t 43)),Gf 27 (.pick 45 30 44 (kB false)),Po 46 27 45] [[],[0],[0,1],[0,1,2],rg 0 3,rg 0 4,rg 0 5,rg 0 6,rg 0 7,rg 0 8,rg 0 9,rg 0 10,rg 0 11,rg 0 12,rg 0 13,rg 0 10,rg 0 10++[15],rg 0 10,rg 0 10++[15,16,17],rg 0 10++rg 15 18,rg 0 10++rg 15 19,rg 0 10,rg 0 10++[21],rg 0 10++rg 15 22,rg 0 23,rg 0 24,rg 0 25]) (Cn 46 (Rs [Mb 6 false] .ret) .skip))))) (Rg [Bc 47 .add 13 1,Mv 13 47])))
def ub:IR:=Rs [Mb 6 true] .ret
def pB:IR:=Rs [Bx 4 1,Bx 5 2,Mb 6 false] (Sq (Rs [Fa 10 8 5,Lq 11 10,Ll 12 11,Mi 13 0] (.block 0 (.loop [0,4,11,12,13,1000000] 2 vh))) ub)
def ke:List RV:=[.t 6]
theorem afw:FnC Try.prog gY [] 2 ym Try.f98 pB ke:=fnC Try.func98
def afa(R:IR→(Ex→St→Ro)→St→Ro)(again0:St→Ro):Ex→St→Ro:=(bj again0 [0,4,11,12,13,1000000] 2 (aP 0 (bg (R ub) (fin ke))))
abbrev jp:Type:=(aA×List aM×Int×Int×List ((Int×Int)×Bool)×List aA×List aA×List Bool)
def iU(x:jp):St:={env:=(.ptr 1 0::(U 3 (.ea (enc .atype x.1)::(U 6 (.sl .afield (.may false) x.2.1::.int .i64 x.2.2.1::.int .i64 x.2.2.2.1::(U 34 [])))))),hp:=[some [.mp .pb x.2.2.2.2.1],some [.sl .atype (.may false) x.2.2.2.2.2.1,.sl .atype (.may false) x.2.2.2.2.2.2.1,.sl .bool (.may false) x.2.2.2.2.2.2.2,.mr 0]]}
def pe(N:Nat):(St→Ro)→St→Ro:=fun again0 s=>run gY N vh (afa (run gY N) again0) s
def jq(N:Nat)(again0:jp→Ro)(x:jp):Ro:=
 let v4:aA:=x.1
 let v11:List aM:=x.2.1
 let v12:Int:=x.2.2.1
 let v13:Int:=x.2.2.2.1
 let o0_0:List ((Int×Int)×Bool):=x.2.2.2.2.1
 let o1_0:List aA:=x.2.2.2.2.2.1
 let o1_1:List aA:=x.2.2.2.2.2.2.1
 let o1_2:List Bool:=x.2.2.2.2.2.2.2
 let z0:=fun g0=>(some (.bool g0,[some [.mp .pb o0_0],some [.sl .atype (.may false) o1_0,.sl .atype (.may false) o1_1,.sl .bool (.may false) o1_2,.mr 0]]):Ro)
 let z1:=fun g0=>again0 (v4,v11,v12,g0,o0_0,o1_0,o1_1,o1_2)
 cond (decide (v13<v12)) (
  chk (ixl v13 v11) (
   let x2:=(List.getD v11 (Int.toNat v13) (aB .afield))
   aG (wm v4 (reF x2)) (fun(r1:Int)=>
    cond (decide (r1<0)) (
     cond (!x2.hasdef) (
      z0 false) (
      cond (decide (0≤r1)) (
       chk (ixl r1 v4.fields) (
        let x3:=(List.getD v4.fields (Int.toNat r1) (aB .afield))
        let x4:=(abA (k:=.pb) o0_0 (x3.typ,x2.typ))
        cond x4 (
         z0 false) (
         let x5:=(IntKind.wrap .i64 (v13+1))
         z1 x5))) (
       let x6:=(IntKind.wrap .i64 (v13+1))
       z1 x6))) (
     cond (decide (0≤r1)) (
      chk (ixl r1 v4.fields) (
       let x7:=(List.getD v4.fields (Int.toNat r1) (aB .afield))
       let x8:=(abA (k:=.pb) o0_0 (x7.typ,x2.typ))
       cond x8 (
        z0 false) (
        let x9:=(IntKind.wrap .i64 (v13+1))
        z1 x9))) (
      let x10:=(IntKind.wrap .i64 (v13+1))
      z1 x10))))) (
  z0 true)
theorem ad3(N:Nat):LB (pe N) iU (jq N):=fun _ _=>by kernel_rfl
def gA(N:Nat)(o0_0:List ((Int×Int)×Bool))(o1_0 o1_1:List aA)(o1_2:List Bool)(p1 p2:aA)(q0:jp→Ro):Ro:=
 let x1:=(↑(List.length p2.fields):Int)
 q0 (p1,p2.fields,x1,0,o0_0,o1_0,o1_1,o1_2)
def pC(N:Nat)(o0_0:List ((Int×Int)×Bool))(o1_0 o1_1:List aA)(o1_2:List Bool)(p1 p2:aA):Ro:=gA N o0_0 o1_0 o1_1 o1_2 p1 p2 (fun z=>aR N (jq N) z)
def agN(N:Nat):List (Nat×(St→Ro)):=bR gY N pB (fin ke)++[]
theorem afb(N:Nat)(o0_0:List ((Int×Int)×Bool))(o1_0 o1_1:List aA)(o1_2:List Bool)(p1 p2:aA):nO gY N 48 ke pB [.ptr 1 0,.agg (enc .atype p1),.agg (enc .atype p2)] [some [.mp .pb o0_0],some [.sl .atype (.may false) o1_0,.sl .atype (.may false) o1_1,.sl .bool (.may false) o1_2,.mr 0]]=pC N o0_0 o1_0 o1_1 o1_2 p1 p2:=
 ((bo (agN N) (by kernel_rfl) rfl (fun C=>gA N o0_0 o1_0 o1_1 o1_2 p1 p2 (fun z=>C 1000000 (iU z))) (fun C=>by kernel_rfl)).trans (Eq.trans (b:=gA N o0_0 o1_0 o1_1 o1_2 p1 p2 (fun z=>aX N (pe N) (iU z))) (by kernel_rfl) (congrArg (gA N o0_0 o1_0 o1_1 o1_2 p1 p2) (funext fun z=>aW (iU) (pe N) (jq N) (ad3 N) N z))))
theorem afc(N:Nat)(o0_0:List ((Int×Int)×Bool))(o1_0 o1_1:List aA)(o1_2:List Bool)(p1 p2:aA)(h:Tot (pC N o0_0 o1_0 o1_1 o1_2 p1 p2) (fun z=>∃(y0:Bool),z.1=.bool y0∧z.2=[some [.mp .pb o0_0],some [.sl .atype (.may false) o1_0,.sl .atype (.may false) o1_1,.sl .bool (.may false) o1_2,.mr 0]]∧nU o0_0 o1_0 o1_1 o1_2 p1 p2 (y0))):∃r,gW o0_0 o1_0 o1_1 o1_2 p1 p2 r:=by
 obtain⟨⟨v,hp⟩,hz,y0,e1,e2,hq⟩:=h
 simp only at e1 e2
 subst e1 e2
 exact⟨(y0),afw.fnOK rfl ((afb N o0_0 o1_0 o1_1 o1_2 p1 p2).trans hz),hq⟩
def lG:aN:=fun f us hp=>match f,us,hp with
 |93,[.sl (.num .i64) (.may _) a0,.fn 94 [.ea [.ptr 1 0],.ea [.int .i64 a1_1_0]]],[some [.mp .pb o0_0],some [.sl .atype (.may false) o1_0,.sl .atype (.may false) o1_1,.sl .bool (.may false) o1_2,.mr 0]]=>some (can (bB o0_0 o1_0 o1_1 o1_2 a0 a1_1_0),.bool (pick (bB o0_0 o1_0 o1_1 o1_2 a0 a1_1_0)),[some [.mp .pb o0_0],some [.sl .atype (.may false) o1_0,.sl .atype (.may false) o1_1,.sl .bool (.may false) o1_2,.mr 0]])
 |98,[.ptr 1 0,.agg [.int .i64 a1_0,.str a1_1,.sl .str (.may _) a1_2,.int .i64 a1_3,.sl .str (.may _) a1_4,.bool a1_5,.str a1_6,.int .i64 a1_7,.sl .afield (.may _) a1_8,.sl (.num .i64) (.may _) a1_9],.agg [.int .i64 a2_0,.str a2_1,.sl .str (.may _) a2_2,.int .i64 a2_3,.sl .str (.may _) a2_4,.bool a2_5,.str a2_6,.int .i64 a2_7,.sl .afield (.may _) a2_8,.sl (.num .i64) (.may _) a2_9]],[some [.mp .pb o0_0],some [.sl .atype (.may false) o1_0,.sl .atype (.may false) o1_1,.sl .bool (.may false) o1_2,.mr 0]]=>some (can (gW o0_0 o1_0 o1_1 o1_2 (⟨a1_0,a1_1,a1_2,a1_3,a1_4,a1_5,a1_6,a1_7,a1_8,a1_9⟩) (⟨a2_0,a2_1,a2_2,a2_3,a2_4,a2_5,a2_6,a2_7,a2_8,a2_9⟩)),.bool (pick (gW o0_0 o1_0 o1_1 o1_2 (⟨a1_0,a1_1,a1_2,a1_3,a1_4,a1_5,a1_6,a1_7,a1_8,a1_9⟩) (⟨a2_0,a2_1,a2_2,a2_3,a2_4,a2_5,a2_6,a2_7,a2_8,a2_9⟩))),[some [.mp .pb o0_0],some [.sl .atype (.may false) o1_0,.sl .atype (.may false) o1_1,.sl .bool (.may false) o1_2,.mr 0]])
 |_,_,_=>none
noncomputable def mF:aN:=(adR lG (w7 (agG (P:=Try.prog) [acX,j0,arV])))
theorem ad4:ep mF [93,98]:=(adS (by
 intro f us hp hf
 unfold lG
 split<;>first|rfl|(simp at hf)) (by
 intro f us hp hf
 unfold lG
 split<;>first|rfl|(simp at hf)) (sH _ _))
theorem afd:dR Try.prog mF:=by
 refine aiZ ?_ ?_
 ·intro f us hp v hp' h
  unfold lG at h
  split at h
  ·simp only[Option.some.injEq,Prod.mk.injEq] at h
   obtain⟨hc,rfl,rfl⟩:=h
   exact((aad hc).1).dim rfl
  ·simp only[Option.some.injEq,Prod.mk.injEq] at h
   obtain⟨hc,rfl,rfl⟩:=h
   exact((aad hc).1).dim rfl
  ·simp at h
 exact aiR _
def yt:IR:=Rs [Bx 3 0,Bx 5 2,Mb 6 false] (Sq (.reg [Lq 10 3,Nk 11 10,Fa 12 0 11,Fa 13 0 12,Fo [1] [] (.ld 14 1 false false 13),Mv 15 1,Ix 16 .atype 14 15,Ld 17 10 true 16,Lq 18 3,Nk 19 18,Fa 20 1 19,Fa 21 0 20,Fo [1] [] (.ld 22 1 false false 21),Lq 23 5,Ix 24 .atype 22 23,Ld 25 10 true 24,Pp (.alr 7 10),Pp (.alr 8 10),Fz 7 10 17,Fz 8 10 25] [[],[0],[0,1],[0,1,2],rg 0 3,[],rg 0 5,rg 0 6,[],[8],[8,9],[8,9,10],rg 8 11,[],rg 8 13,rg 8 14,[],[],rg 0 7++[16,17],rg 0 18]) (Sq (.block 0 (Rs [Lq 27 3,Nk 28 27,Fa 29 2 28,Lo 30 29,Mv 31 1,Ix 32 .bool 30 31,Lq 33 32,Un 34 33,Mv 26 34] (Cn 26 (Rs [Mb 6 true] .ret) (Rs [Fa 36 0 7,Lq 37 36,Bc 38 .eql 37 14,Mv 35 38] (Cn 35 (Rs [Fa 39 9 7,Lq 40 39,Pp (.mkf 41 94 [.t 3,.t 5]),Ca 42 93 [40,41],Un 43 42,Mv 6 43] .ret) (Rs [Fa 45 0 8,Lq 46 45,Bc 47 .eql 46 14,Mv 44 47] (Cn 44 (Sq (.reg [Lq 48 3,Nk 49 48,Fa 50 0 49,Fo [1] [] (.ld 51 1 true false 50),Lq 52 3,Nk 53 52,Fa 54 1 53,Fo [1] [] (.ld 55 1 true false 54),Mv 56 1,Lq 57 5,Ca 58 95 [51,55,56,57],Mv 9 58] [[],[0],[0,1],[0,1,2],[],[4],[4,5],[4,5,6],[],[],rg 0 9,rg 0 10]) (Sq (.reg [Mv 59 9,Bc 60 .geq 59 0,Mv 61 60,Gt 61 (.lde 62 1 false 3),Gt 61 (.nck 63 62),Gt 61 (.fad 64 3 63),⟨some (61,true),.ld 65 1 false false 64,some ([1],[])⟩,Gt 61 (.mov 66 1),Gt 61 (.fad 67 9 8),Gt 61 (.lde 68 1 false 67),Gt 61 (.mov 69 9),Gt 61 (.ixa 70 (.num .i64) 68 69),Gt 61 (.lde 71 1 false 70),Gt 61 (.bld 72 [vI 0,vI 0] [(0,1,66),(1,1,71)]),Gt 61 (.mget 73 .pb false (.t 65) (.t 72)),Gt 61 (.un 74 .not 73),Pa 75 61 74,Mv 6 75] [[],[0],[0,1],[0,1,2],rg 0 3,rg 0 4,rg 0 5,[0,1,2],[0,1,2],[0,1,2,8],[0,1,2],[0,1,2,8,9,10],[0,1,2]++rg 8 11,[0,1,2]++rg 7 12,rg 0 13,rg 0 14,rg 0 15,rg 0 16]) .ret)) (Sq (.reg [Lq 77 3,Nk 78 77,Fa 79 0 78,Fo [1] [] (.ld 80 1 true false 79),Lq 81 3,Nk 82 81,Fa 83 1 82,Fo [1] [] (.ld 84 1 true false 83),Mv 85 1,Lq 86 5,Ca 87 30 [80,84,85,86],Un 88 87,Mv 76 88] [[],[0],[0,1],[0,1,2],[],[4],[4,5],[4,5,6],[],[],rg 0 9,rg 0 10,rg 0 11]) (Cn 76 (Rs [Mb 6 false] .ret) .skip))))))))) (Sq (Rs [Fa 89 0 7,Lq 90 89] (.block 1 (Sq (Rs [Bc 92 .eql 90 12,Mv 91 92] (Cn 91 .skip (Rg [Bc 93 .eql 90 13,Mv 91 93]))) (Cn 91 (Sq (.reg [Lq 94 3,Nk 95 94,Fa 96 3 95,Fo [1] [] (.ld 97 1 false false 96),Fa 98 3 7,Lq 99 98,Fa 100 3 8,Lq 101 100,Pp (.bld 102 [vI 0,vI 0] [(0,1,99),(1,1,101)]),Pp (.mget 103 .pb false (.t 97) (.t 102)),Un 104 103,Mv 6 104] [[],[0],[0,1],[0,1,2],[],[4],[],[6],rg 4 7,rg 0 8,rg 0 9,rg 0 10]) .ret) (Rs [Bc 106 .eql 90 10,Mv 105 106] (Cn 105 (Rs [Fa 107 5 8,Lq 108 107,Mv 109 108,Gf 109 (.fad 110 4 7),Gf 109 (.lde 111 1 false 110),Gf 109 (.mkf 112 96 [.t 8]),Gf 109 (.call 113 90 [111,112]),Gf 109 (.un 114 .not 113),Po 115 109 114,Mv 6 115] .ret) (Rs [Bc 117 .eql 90 9,Mv 116 117] (Cn 116 (Rs [Lq 118 3,Ld 119 10 true 7,Ld 120 10 true 8,Ca 121 98 [118,119,120],Mv 6 121] .ret) .skip)))))))) (Rs [Mb 6 true] .ret))))
def yu:List RV:=[.t 6]
theorem agO:FnC Try.prog mF [93,98] 2 zK Try.f66 yt yu:=⟨afd,ad4,Try.func66,by kernel_rfl,by kernel_rfl,by decide⟩
def yv(N:Nat)(o0_0:List ((Int×Int)×Bool))(o1_0 o1_1:List aA)(o1_2:List Bool)(p1 p2:Int):Ro:=
 let z0:=fun g0=>(some (.bool g0,[some [.mp .pb o0_0],some [.sl .atype (.may false) o1_0,.sl .atype (.may false) o1_1,.sl .bool (.may false) o1_2,.mr 0]]):Ro)
 chk (ixl p1 o1_0) (
  let x1:=(List.getD o1_0 (Int.toNat p1) (aB .atype))
  chk (ixl p2 o1_1) (
   let x2:=(List.getD o1_1 (Int.toNat p2) (aB .atype))
   chk (ixl p1 o1_2) (
    let x3:=List.getD o1_2 (Int.toNat p1) (aB .bool)
    cond (!x3) (
     z0 true) (
     cond (x1.kind==14) (
      aG (bB o0_0 o1_0 o1_1 o1_2 x1.branches p2) (fun(r1:Bool)=>
       z0 (!r1))) (
      cond (x2.kind==14) (
       aG (rE o1_0 o1_1 p1 p2) (fun(r2:Int)=>
        cond (decide (0≤r2)) (
         chk (ixl r2 x2.branches) (
          let x4:=List.getD x2.branches (Int.toNat r2) (aB (.num .i64))
          let x5:=(abA (k:=.pb) o0_0 (p1,x4))
          z0 (!x5))) (
         z0 false))) (
       aG (jT o1_0 o1_1 p1 p2) (fun(r3:Bool)=>
        cond (!r3) (
         z0 false) (
         cond (x1.kind==12) (
          let x6:=(abA (k:=.pb) o0_0 (x1.items,x2.items))
          z0 (!x6)) (
          cond (x1.kind==13) (
           let x7:=(abA (k:=.pb) o0_0 (x1.items,x2.items))
           z0 (!x7)) (
           cond (x1.kind==10) (
            cond x2.hasdef (
             z0 true) (
             aG (bq x1.syms x2.kind x2.name x2.aliases x2.items x2.syms x2.hasdef x2.df x2.size x2.fields x2.branches) (fun(r4:Bool)=>
              z0 (!r4)))) (
            cond (x1.kind==9) (
             aG (gW o0_0 o1_0 o1_1 o1_2 x1 x2) (fun(r5:Bool)=>
              z0 r5)) (
             z0 true))))))))))))
def qo(N:Nat)(o0_0:List ((Int×Int)×Bool))(o1_0 o1_1:List aA)(o1_2:List Bool)(p1 p2:Int):Ro:=yv N o0_0 o1_0 o1_1 o1_2 p1 p2
theorem afx(N:Nat)(o0_0:List ((Int×Int)×Bool))(o1_0 o1_1:List aA)(o1_2:List Bool)(p1 p2:Int):nO mF N 122 yu yt [.ptr 1 0,.int .i64 p1,.int .i64 p2] [some [.mp .pb o0_0],some [.sl .atype (.may false) o1_0,.sl .atype (.may false) o1_1,.sl .bool (.may false) o1_2,.mr 0]]=qo N o0_0 o1_0 o1_1 o1_2 p1 p2:=by kernel_rfl
theorem afy(N:Nat)(o0_0:List ((Int×Int)×Bool))(o1_0 o1_1:List aA)(o1_2:List Bool)(p1 p2:Int)(h:Tot (qo N o0_0 o1_0 o1_1 o1_2 p1 p2) (fun z=>∃(y0:Bool),z.1=.bool y0∧z.2=[some [.mp .pb o0_0],some [.sl .atype (.may false) o1_0,.sl .atype (.may false) o1_1,.sl .bool (.may false) o1_2,.mr 0]]∧jk o0_0 o1_0 o1_1 o1_2 p1 p2 (y0))):∃r,iH o0_0 o1_0 o1_1 o1_2 p1 p2 r:=by
 obtain⟨⟨v,hp⟩,hz,y0,e1,e2,hq⟩:=h
 simp only at e1 e2
 subst e1 e2
 exact⟨(y0),agO.fnOK rfl ((afx N o0_0 o1_0 o1_1 o1_2 p1 p2).trans hz),hq⟩
end Go.Proofs.Ytdpajabhmmmjoaa
end
noncomputable section
namespace Go.Proofs.Ytdpajabhmmmjoaa
open Go.AM
set_option autoImplicit false
set_option linter.unusedVariables false
set_option maxRecDepth 100000
end Go.Proofs.Ytdpajabhmmmjoaa
end
noncomputable section
namespace Go.Proofs.Ytdpajabhmmmjoaa
open Go.AM
set_option autoImplicit false
set_option linter.unusedVariables false
set_option maxRecDepth 100000
noncomputable def rU:aN:=tab (P:=Try.prog) [] [] [] []
def adB:IR:=Sq (Rs [Mv 22 9,Fa 23 9 7,Lq 24 23,Ll 25 24,Bi 26 .lss 22 25] (Cn 26 .skip (.exit 0))) (Sq (.block 1 (Rs [Mv 29 2,Fa 30 9 7,Lq 31 30,Mv 32 9,Ix 33 (.num .i64) 31 32,Lq 34 33,Ix 35 (.num .i64) 29 34,Lq 36 35,Mv 10 36] (Rs [Mv 37 10,Bc 38 .geq 37 0,Mv 39 38,Gt 39 (.mov 40 8),Gt 39 (.bin 41 .lss 40 (kI 0)),Gt 39 (.mov 42 41),Gf 42 (.mov 43 10),Gf 42 (.mov 44 8),Gf 42 (.bin 45 .lss 43 44),Gt 39 (.pick 46 42 (kB true) 45),Pa 47 39 46] (Cn 47 (Rg [Mv 48 10,Mv 8 48]) .skip)))) (Rg [Mv 27 9,Bc 28 .add 27 1,Mv 9 28]))
def acJ:IR:=Sq (Rs [Mv 49 8,Bc 50 .lss 49 0] (Cn 50 (Rs [Mi 6 (-1)] .ret) .skip)) (Rs [Mv 51 8,Bc 52 .add 51 1,Mv 6 52] .ret)
def acK:IR:=Sq (Rs [Mv 53 12,Fa 54 8 7,Lq 55 54,Ll 56 55,Bi 57 .lss 53 56] (Cn 57 .skip (.exit 2))) (Sq (.block 3 (Rs [Mv 60 2,Fa 61 8 7,Lq 62 61,Mv 63 12,Ix 64 .afield 62 63,Fa 65 2 64,Lo 66 65,Ix 67 (.num .i64) 60 66,Lq 68 67,Mv 13 68] (Sq (Rs [Mv 69 13,Bc 70 .lss 69 0] (Cn 70 (Rs [Mi 6 (-1)] .ret) .skip)) (Rg [Mv 71 11,Mv 72 13,Pp (.mx 73 false 71 72),Mv 11 73])))) (Rg [Mv 58 12,Bc 59 .add 58 1,Mv 12 59]))
def acL:IR:=Rs [Mv 74 11,Bc 75 .add 74 1,Mv 6 75] .ret
def acM:IR:=Rs [Mi 11 0] (Sq (Rs [Mi 12 0] (.block 2 (.loop [2,7,11,12,1000001] 0 acK))) acL)
def aq1:IR:=Rs [Bx 3 0,Mi 6 0] (Rs [Fa 14 0 3,Lq 15 14,Mv 16 1,Ix 17 .atype 15 16,Ld 18 10 true 17,Pp (.alr 7 10),Fz 7 10 18] (Sq (Rs [Fa 19 0 7,Lq 20 19,Bc 21 .eql 20 14] (Cn 21 (Rs [Mi 8 (-1)] (Sq (Rs [Mi 9 0] (.block 0 (.loop [2,7,8,9,1000000] 0 adB))) acJ)) .skip)) acM))
def aaI:List RV:=[.t 6]
theorem aq2:FnC Try.prog rU [] 0 ahq Try.f123 aq1 aaI:=fnC Try.func123
def apj(R:IR→(Ex→St→Ro)→St→Ro)(a:St→Ro):Ex→St→Ro:=(bj a [2,7,8,9,1000000] 0 (aP 0 (bg (R acJ) (bg (R acM) (fin aaI)))))
abbrev tc:Type:=(List Int×aA×Int×Int)
def qU:tc→St:=fun(a,b,c,d)=>{env:=(.undef::.undef::.sl (.num .i64) (.may false) a::(U 4 (.ea (enc .atype b)::.int .i64 c::.int .i64 d::(U 66 [])))),hp:=[]}
def zr(N:Nat):(St→Ro)→St→Ro:=fun a s=>run rU N adB (apj (run rU N) a) s
def td(N:Nat)(a:tc→Ro):tc→Ro:=fun(d,b,e,c)=>
 let h:=(↑(List.length b.branches):Int)
 cond (decide (c<h)) (
 chk (ixl c b.branches) (
 let g:=List.getD b.branches (Int.toNat c) (aB (.num .i64))
 chk (ixl g d) (
 let f:=List.getD d (Int.toNat g) (aB (.num .i64))
 cond (decide (0≤f)) (
 cond (decide (e<0)) (
 let i:=(IntKind.wrap .i64 (c+1))
 a (d,b,f,i)) (
 cond (decide (f<e)) (
 let j:=(IntKind.wrap .i64 (c+1))
 a (d,b,f,j)) (
 let k:=(IntKind.wrap .i64 (c+1))
 a (d,b,e,k)))) (
 let l:=(IntKind.wrap .i64 (c+1))
 a (d,b,e,l))))) (
 cond (decide (e<0)) (
 some (.int .i64 (-1),[])) (
 let m:=(IntKind.wrap .i64 (e+1))
 some (.int .i64 m,[])))
theorem anI(N:Nat):LB (zr N) qU (td N):=fun _ _=>by kernel_rfl
def apk(R:IR→(Ex→St→Ro)→St→Ro)(a:St→Ro):Ex→St→Ro:=(bj a [2,7,11,12,1000001] 0 (aP 2 (bg (R acL) (fin aaI))))
abbrev te:Type:=(List Int×aA×Int×Int)
def qV:te→St:=fun(a,b,c,d)=>{env:=(.undef::.undef::.sl (.num .i64) (.may false) a::(U 4 (.ea (enc .atype b)::(U 3 (.int .i64 c::.int .i64 d::(U 63 [])))))),hp:=[]}
def zt(N:Nat):(St→Ro)→St→Ro:=fun a s=>run rU N acK (apk (run rU N) a) s
def tf(N:Nat)(a:te→Ro):te→Ro:=fun(g,f,c,b)=>
 let h:=(↑(List.length f.fields):Int)
 cond (decide (b<h)) (
 chk (ixl b f.fields) (
 let e:=(List.getD f.fields (Int.toNat b) (aB .afield))
 chk (ixl e.typ g) (
 let d:=List.getD g (Int.toNat e.typ) (aB (.num .i64))
 cond (decide (d<0)) (
 some (.int .i64 (-1),[])) (
 let i:=(if c<d then d else c)
 let j:=(IntKind.wrap .i64 (b+1))
 a (g,f,i,j))))) (
 let k:=(IntKind.wrap .i64 (c+1))
 some (.int .i64 k,[]))
theorem anJ(N:Nat):LB (zt N) qV (tf N):=fun _ _=>by kernel_rfl
def p7(N:Nat)(a:List aA)(c:Int)(d:List Int)(e:tc→Ro)(f:te→Ro):Ro:=
 chk (ixl c a) (
 let b:=(List.getD a (Int.toNat c) (aB .atype))
 cond (b.kind==14) (
 e (d,b,(-1),0)) (
 f (d,b,0,0)))
def agz(N:Nat)(a:List aA)(b:Int)(c:List Int):Ro:=p7 N a b c (fun z=>aR N (td N) z) (fun z=>aR N (tf N) z)
theorem apl(N:Nat)(a:List aA)(c:Int)(d:List Int)(h:Tot (agz N a c d) (fun z=>∃(f:Int)(rest:List aK),z.1.dimR=.int .i64 f∧z.2=rest∧xS a c d (f))):∃r,rz a c d r:=aq2.finP (N:=N) ((bo _ (by kernel_rfl) rfl (fun C=>p7 N a c d (fun z=>C 1000000 (qU z)) (fun z=>C 1000001 (qV z))) (fun C=>by kernel_rfl)).trans (Eq.trans (b:=p7 N a c d (fun z=>aX N (zr N) (qU z)) (fun z=>aX N (zt N) (qV z))) (by kernel_rfl) (congr (congrArg (p7 N a c d) (funext fun z=>aW (qU) (zr N) (td N) (anI N) N z)) (funext fun z=>aW (qV) (zt N) (tf N) (anJ N) N z)))) h fun _ ⟨f,_,e,_,q⟩=>⟨(f),e,q⟩
noncomputable def abW:aN:=tab (P:=Try.prog) [] [] [] []
def adC:IR:=Sq (Rs [Mv 7 6,Fa 8 9 2,Lq 9 8,Ll 10 9,Bi 11 .lss 7 10] (Cn 11 .skip (.exit 0))) (Sq (.block 1 (Sq (.reg [Mv 14 1,Fa 15 9 2,Lq 16 15,Mv 17 6,Ix 18 (.num .i64) 16 17,Lq 19 18,Ix 20 (.num .i64) 14 19,Lq 21 20,Bc 22 .geq 21 0,Mv 23 22,Gt 23 (.mov 24 1),Gt 23 (.fad 25 9 2),Gt 23 (.lde 26 1 false 25),Gt 23 (.mov 27 5),Gt 23 (.ixa 28 (.num .i64) 26 27),Gt 23 (.lde 29 1 false 28),Gt 23 (.ixa 30 (.num .i64) 24 29),Gt 23 (.lde 31 1 false 30),Gt 23 (.bin 32 .lss 31 (kI 0)),Gt 23 (.mov 33 32),Gf 33 (.mov 34 1),Gf 33 (.fad 35 9 2),Gf 33 (.lde 36 1 false 35),Gf 33 (.mov 37 6),Gf 33 (.ixa 38 (.num .i64) 36 37),Gf 33 (.lde 39 1 false 38),Gf 33 (.ixa 40 (.num .i64) 34 39),Gf 33 (.lde 41 1 false 40),Gf 33 (.mov 42 1),Gf 33 (.fad 43 9 2),Gf 33 (.lde 44 1 false 43),Gf 33 (.mov 45 5),Gf 33 (.ixa 46 (.num .i64) 44 45),Gf 33 (.lde 47 1 false 46),Gf 33 (.ixa 48 (.num .i64) 42 47),Gf 33 (.lde 49 1 false 48),Gf 33 (.bin 50 .lss 41 49),Gt 23 (.pick 51 33 (kB true) 50),Pa 52 23 51] [[],[],[1],[],[1,2,3],rg 1 4,rg 0 5,rg 0 6,rg 0 7,rg 0 8,rg 0 9,rg 0 9,rg 0 9++[11],rg 0 9,rg 0 9++[11,12,13],rg 0 9++rg 11 14,rg 0 15,rg 0 16,rg 0 17,rg 0 18,rg 0 19,rg 0 19,rg 0 19++[21],rg 0 19,rg 0 19++[21,22,23],rg 0 19++rg 21 24,rg 0 25,rg 0 26,rg 0 19,rg 0 19,rg 0 19++[29],rg 0 19,rg 0 19++[29,30,31],rg 0 19++rg 29 32,rg 0 19++rg 28 33,rg 0 19++rg 28 34,rg 0 35,rg 0 36,rg 0 37]) (Cn 52 (Rg [Mv 53 6,Mv 5 53]) .skip))) (Rg [Mv 12 6,Bc 13 .add 12 1,Mv 6 13]))
def adD:IR:=Rs [Mv 54 5,Mv 4 54] .ret
def aq3:IR:=Rs [Bx 2 0,Mi 4 0] (Rs [Mi 5 0] (Sq (Rs [Mi 6 0] (.block 0 (.loop [1,2,5,6,1000000] 0 adC))) adD))
def agA:List RV:=[.t 4]
theorem aq4:FnC Try.prog abW [] 0 ahp Try.f124 aq3 agA:=fnC Try.func124
def apm(R:IR→(Ex→St→Ro)→St→Ro)(a:St→Ro):Ex→St→Ro:=(bj a [1,2,5,6,1000000] 0 (aP 0 (bg (R adD) (fin agA))))
abbrev tg:Type:=(List Int×aA×Int×Int)
def qW:tg→St:=fun(a,b,c,d)=>{env:=(.undef::.sl (.num .i64) (.may false) a::.ea (enc .atype b)::.undef::.undef::.int .i64 c::.int .i64 d::(U 48 [])),hp:=[]}
def zu(N:Nat):(St→Ro)→St→Ro:=fun a s=>run abW N adC (apm (run abW N) a) s
def th(N:Nat)(a:tg→Ro):tg→Ro:=fun(c,b,e,d)=>
 let n:=(↑(List.length b.branches):Int)
 cond (decide (d<n)) (
 chk (ixl d b.branches) (
 let j:=List.getD b.branches (Int.toNat d) (aB (.num .i64))
 chk (ixl j c) (
 let o:=List.getD c (Int.toNat j) (aB (.num .i64))
 cond (decide (0≤o)) (
 chk (ixl e b.branches) (
 let k:=List.getD b.branches (Int.toNat e) (aB (.num .i64))
 chk (ixl k c) (
 let p:=List.getD c (Int.toNat k) (aB (.num .i64))
 cond (decide (p<0)) (
 let q:=(IntKind.wrap .i64 (d+1))
 a (c,b,d,q)) (
 chk (ixl d b.branches) (
 let l:=List.getD b.branches (Int.toNat d) (aB (.num .i64))
 chk (ixl l c) (
 let r:=List.getD c (Int.toNat l) (aB (.num .i64))
 chk (ixl e b.branches) (
 let m:=List.getD b.branches (Int.toNat e) (aB (.num .i64))
 chk (ixl m c) (
 let f:=List.getD c (Int.toNat m) (aB (.num .i64))
 cond (decide (r<f)) (
 let g:=(IntKind.wrap .i64 (d+1))
 a (c,b,d,g)) (
 let h:=(IntKind.wrap .i64 (d+1))
 a (c,b,e,h)))))))))) (
 let i:=(IntKind.wrap .i64 (d+1))
 a (c,b,e,i))))) (
 some (.int .i64 e,[]))
theorem anK(N:Nat):LB (zu N) qW (th N):=fun _ _=>by kernel_rfl
def p8(N:Nat)(a:aA)(b:List Int)(c:tg→Ro):Ro:=
 c (b,a,0,0)
def agB(N:Nat)(a:aA)(b:List Int):Ro:=p8 N a b (fun z=>aR N (th N) z)
theorem apn(N:Nat)(a:aA)(c:List Int)(h:Tot (agB N a c) (fun z=>∃(d:Int)(rest:List aK),z.1.dimR=.int .i64 d∧z.2=rest∧adj a c (d))):∃r,oF a c r:=aq4.finP (N:=N) ((bo _ (by kernel_rfl) rfl (fun C=>p8 N a c (fun z=>C 1000000 (qW z))) (fun C=>by kernel_rfl)).trans (Eq.trans (b:=p8 N a c (fun z=>aX N (zu N) (qW z))) (by kernel_rfl) (congrArg (p8 N a c) (funext fun z=>aW (qW) (zu N) (th N) (anK N) N z)))) h fun _ ⟨d,_,e,_,q⟩=>⟨(d),e,q⟩
noncomputable def cB:aN:=tab (P:=Try.prog) [] [] [123] [arP]
def ti:IR:=Sq (Rs [Mv 12 4,Mv 13 3,Pp (.lnw 14 13),Bi 15 .lss 12 14] (Cn 15 .skip (.exit 0))) (Sq (.block 1 (Sq (.gh (.opn (.slot 3)) (.ghp (.cls (.slot 3)) (Rg [Mv 18 3,Mv 19 4,Pp (.ixw 20 (.num .i64) 18 19),Pp (.stw none 1 20 (kI (-1)))]))) (Rs [Fa 21 0 1,Lq 22 21,Mv 23 4,Ix 24 .atype 22 23,Fa 25 0 24,Lo 26 25,Bc 27 .neq 26 9,Mv 28 27,Gt 28 (.fad 29 0 1),Gt 28 (.lde 30 1 false 29),Gt 28 (.mov 31 4),Gt 28 (.ixa 32 .atype 30 31),Gt 28 (.fad 33 0 32),Gt 28 (.ld 34 1 false false 33),Gt 28 (.bin 35 .neq 34 (kI 14)),Pa 36 28 35] (Cn 36 (.gh (.opn (.slot 3)) (.ghp (.cls (.slot 3)) (Rg [Mv 37 3,Mv 38 4,Pp (.ixw 39 (.num .i64) 37 38),Pp (.stw none 1 39 (kI 0))]))) .skip)))) (Rg [Mv 16 4,Bc 17 .add 16 1,Mv 4 17]))
def adE:IR:=Sq (Rs [Mv 49 7,Mv 50 3,Pp (.lnw 51 50),Bi 52 .lss 49 51] (Cn 52 .skip (.exit 4))) (Sq (.block 5 (Sq (Sq (.gh (.opn (.slot 3)) (.ghp (.cls (.slot 3)) (Rg [Mv 55 3,Mv 56 7,Pp (.ixw 57 (.num .i64) 55 56),Pp (.ldw 58 1 false 57),Bc 59 .geq 58 0]))) (Cn 59 (.exit 5) .skip)) (.gh (.opn (.slot 3)) (.gh (.opn (.slot 6)) (.ghp (.cls (.slot 3)) (.ghp (.cls (.slot 6)) (Rg [Mv 60 6,Mv 61 7,Ld 62 1 true 1,Mv 63 7,Mv 64 3,Ca 65 123 [62,63,64],Pp (.ixw 66 (.num .i64) 60 61),Pp (.stw none 1 66 65)]))))))) (Rg [Mv 53 7,Bc 54 .add 53 1,Mv 7 54]))
def adF:IR:=Rg [Pp (.mov 67 (.tk 6)),Pp (.mov 3 (.tk 67))]
def adG:IR:=Rg [Mv 44 5,Bc 45 .add 44 1,Mv 5 45]
def qX:IR:=Sq (Rs [Mv 40 5,Mv 41 3,Pp (.lnw 42 41),Bi 43 .leq 40 42] (Cn 43 .skip (.exit 2))) (Sq (.block 3 (Sq (.gh (.opn (.slot 3)) (.ghp (.cls (.slot 3)) (Rg [Pp (.blu 46 (.num .i64)),Mv 47 3,Pp (.apw 48 (.num .i64) (.tk 46) 47),Pp (.mov 6 (.tk 48))]))) (Sq (Rs [Mi 7 0] (.block 4 (.loop [1,3,5,6,7,1000001] 0 adE))) adF))) adG)
def xX:IR:=Rs [Pp (.mov 68 (.tk 3)),Pp (.mov 2 (.tk 68))] (.gh (.fz (.slot 2)) .ret)
def xY:IR:=Sq (Rs [Mi 5 0] (.block 2 (.loop [1,3,5,1000002] 0 qX))) xX
def asQ:IR:=Rs [Bx 1 0,Pp (.mov 2 (.c (.ul (.num .i64) ([]:List Int))))] (Rs [Fa 8 0 1,Lq 9 8,Ll 10 9,Pp (.mku 11 (.num .i64) 10),Pp (.mov 3 (.tk 11))] (Sq (Rs [Mi 4 0] (.block 0 (.loop [1,3,4,1000000] 0 ti))) xY))
def rV:List RV:=[.t 2]
theorem asR:FnC Try.prog cB [123,2000123] 0 ajP Try.f83 asQ rV:=fnC Try.func83
def aaJ(R:IR→(Ex→St→Ro)→St→Ro)(a:St→Ro):Ex→St→Ro:=(bj a [1,3,4,1000000] 0 (aP 0 (bg (R xY) (fin rV))))
abbrev jr:Type:=(List aA×List Int×Int)
def fa:jr→St:=fun(a,b,c)=>{env:=(.undef::.ea [.sl .atype (.may false) a]::.undef::.ul (.num .i64) b::.int .i64 c::(U 64 [])),hp:=[]}
def vi(R:IR→(Ex→St→Ro)→St→Ro)(a:St→Ro):Ex→St→Ro:=(bj a [1,3,5,1000002] 0 (aP 2 (bg (R xX) (fin rV))))
abbrev gM:Type:=(List aA×List Int×Int)
def cM:gM→St:=fun(a,b,c)=>{env:=(.undef::.ea [.sl .atype (.may false) a]::.undef::.ul (.num .i64) b::.undef::.int .i64 c::(U 63 [])),hp:=[]}
def aq5(R:IR→(Ex→St→Ro)→St→Ro)(a b:St→Ro):Ex→St→Ro:=(bj b [1,3,5,6,7,1000001] 0 (aP 4 (bg (R adF) (aP 3 (bg (R adG) (vi R a))))))
abbrev vj:Type:=(List aA×List Int×Int×List Int×Int)
def pf:vj→St:=fun(a,b,c,d,e)=>{env:=(.undef::.ea [.sl .atype (.may false) a]::.undef::.ul (.num .i64) b::.undef::.int .i64 c::.ul (.num .i64) d::.int .i64 e::(U 61 [])),hp:=[]}
def vk(N:Nat)(a:St→Ro):(St→Ro)→St→Ro:=fun b s=>run cB N adE (aq5 (run cB N) a b) s
def p9(N:Nat)(e:gM→Ro)(b:vj→Ro):vj→Ro:=fun(c,a,h,f,d)=>
 let i:=(↑(List.length a):Int)
 cond (decide (d<i)) (
 chk (decide (0<List.length a)) (
 chk (decide (0≤d)&&decide (d<↑(List.length a))) (
 chk (decide ((Int.toNat d)<List.length a)) (
 let j:=List.getD a (Int.toNat d) (aB (.num .i64))
 chk (Nat.beq (List.length a) (List.length a)) (
 cond (decide (0≤j)) (
 let k:=(IntKind.wrap .i64 (d+1))
 b (c,a,h,f,k)) (
 chk (decide (0<List.length a)) (
 chk (decide (0<List.length f)) (
 avg (rz c d a) (Nat.beq (List.length a) (List.length a)&&true) (fun(n:Int)=>
 chk (decide (0≤d)&&decide (d<↑(List.length f))) (
 chk (decide ((Int.toNat d)<List.length f)) (
 let g:=(List.set f (Int.toNat d) n)
 chk (Nat.beq (List.length f) (List.length g)) (
 chk (Nat.beq (List.length a) (List.length a)) (
 let l:=(IntKind.wrap .i64 (d+1))
 b (c,a,h,g,l)))))))))))))) (
 let m:=(IntKind.wrap .i64 (h+1))
 e (c,f,m))
theorem apo(N:Nat)(a:St→Ro):LB (vk N a) pf (p9 N (fun y=>a (cM y))):=fun _ _=>by kernel_rfl
def qa(N:Nat):(St→Ro)→St→Ro:=fun a s=>run cB N qX (vi (run cB N) a) s
def tj(N:Nat)(c:gM→Ro)(f:vj→Ro):gM→Ro:=fun(b,a,e)=>
 let d:=(↑(List.length a):Int)
 cond (decide (e≤d)) (
 chk (decide (0<List.length a)) (
 chk (Nat.beq (List.length a) (List.length a)&&decide ((List.length ([]:List Int)+List.length a)*8≤140737488355328)) (
 chk (Nat.beq (List.length a) (List.length a)) (
 f (b,a,e,(([]:List Int)++a),0))))) (
 some (.sl (.num .i64) .own a,[]))
def mG(N:Nat)(a:gM→Ro)(x:gM):Ro:=tj N a (fun z=>aR N (p9 N a) z) x
def aaK(N:Nat)(a:St→Ro):List (Nat×(St→Ro)):=(bR cB N qX (vi (run cB N) a)++(bR cB N xX (fin rV)++[]))
theorem apq(N:Nat):∀(a:St→Ro)(x:gM),qa N a (cM x)=mG N (fun y=>a (cM y)) x:=by
 intro a x
 have hX:∀C:Nat→St→Ro,bY C cB N qX (vi (bY C cB N) a) (cM x)=tj N (fun y=>a (cM y)) (fun z=>C 1000001 (pf z)) x:=by
  intro C
  kernel_rfl
 have h:qa N a (cM x)=tj N (fun y=>a (cM y)) (fun z=>aX N (vk N a) (pf z)) x:=(cW (C:=eZ (aaK N a)) (bS (aY (l:=(aaK N a)) (by kernel_rfl))) (jd (cD (fL (bS (dP (aY (l:=(aaK N a)) (by kernel_rfl)))) rfl))) _).trans ((hX _).trans (by kernel_rfl))
 have e2:(fun z=>aX N (vk N a) (pf z))=(fun z=>aR N (p9 N (fun y=>a (cM y))) z):=funext fun z=>aW (pf) (vk N a) (p9 N (fun y=>a (cM y))) (apo N a) N z
 rw[h,e2]
 rfl
def vl(N:Nat):(St→Ro)→St→Ro:=fun a s=>run cB N ti (aaJ (run cB N) a) s
def tl(N:Nat)(b:jr→Ro)(h:gM→Ro):jr→Ro:=fun(a,e,c)=>
 let i:=(↑(List.length e):Int)
 cond (decide (c<i)) (
 chk (decide (0<List.length e)) (
 chk (decide (0≤c)&&decide (c<↑(List.length e))) (
 chk (decide ((Int.toNat c)<List.length e)) (
 let d:=(List.set e (Int.toNat c) (-1))
 chk (Nat.beq (List.length e) (List.length d)) (
 chk (ixl c a) (
 let j:=(List.getD a (Int.toNat c) (aB .atype))
 cond (!(j.kind==9)) (
 chk (ixl c a) (
 let k:=(List.getD a (Int.toNat c) (aB .atype))
 cond (!(k.kind==14)) (
 chk (decide (0<List.length d)) (
 chk (decide (0≤c)&&decide (c<↑(List.length d))) (
 chk (decide ((Int.toNat c)<List.length d)) (
 let g:=(List.set d (Int.toNat c) 0)
 chk (Nat.beq (List.length d) (List.length g)) (
 let l:=(IntKind.wrap .i64 (c+1))
 b (a,g,l)))))) (
 let m:=(IntKind.wrap .i64 (c+1))
 b (a,d,m)))) (
 let f:=(IntKind.wrap .i64 (c+1))
 b (a,d,f)))))))) (
 h (a,e,0))
def vm(N:Nat)(a:jr→Ro)(x:jr):Ro:=tl N a (fun z=>aR N (mG N) z) x
def aaL(N:Nat)(a:St→Ro):List (Nat×(St→Ro)):=(bR cB N ti (aaJ (run cB N) a)++(bR cB N xY (fin rV)++[]))
theorem apr(N:Nat):∀(a:St→Ro)(x:jr),vl N a (fa x)=vm N (fun y=>a (fa y)) x:=by
 intro a x
 have hX:∀C:Nat→St→Ro,bY C cB N ti (aaJ (bY C cB N) a) (fa x)=tl N (fun y=>a (fa y)) (fun z=>C 1000002 (cM z)) x:=by
  intro C
  kernel_rfl
 have h:vl N a (fa x)=tl N (fun y=>a (fa y)) (fun z=>aX N (qa N) (cM z)) x:=(cW (C:=eZ (aaL N a)) (bS (aY (l:=(aaL N a)) (by kernel_rfl))) (jd (cD (fL (bS (dP (aY (l:=(aaL N a)) (by kernel_rfl)))) rfl))) _).trans ((hX _).trans (by kernel_rfl))
 have e1:(fun z=>aX N (qa N) (cM z))=(fun z=>aR N (mG N) z):=funext fun z=>aW (cM) (qa N) (mG N) (apq N) N z
 rw[h,e1]
 rfl
def rW(N:Nat)(a:List aA)(c:jr→Ro):Ro:=
 let b:=(↑(List.length a):Int)
 chk (decide (0≤b)&&decide (b*8≤140737488355328)) (
 let d:=(List.replicate (Int.toNat b) (aB (.num .i64)))
 c (a,d,0))
def ahX(N:Nat)(a:List aA):Ro:=rW N a (fun z=>aR N (vm N) z)
theorem aq6(N:Nat)(a:List aA)(h:Tot (ahX N a) (fun z=>∃(c:List Int)(rest:List aK),z.1.dimR=.sl (.num .i64) (.may false) c∧z.2=rest∧zc a (c))):∃r,pK a r:=asR.finP (N:=N) ((bo _ (by kernel_rfl) rfl (fun C=>rW N a (fun z=>C 1000000 (fa z))) (fun C=>by kernel_rfl)).trans (Eq.trans (b:=rW N a (fun z=>aX N (vl N) (fa z))) (by kernel_rfl) (congrArg (rW N a) (funext fun z=>aW (fa) (vl N) (vm N) (apr N) N z)))) h fun _ ⟨c,_,e,_,q⟩=>⟨(c),e,q⟩
noncomputable def bH:aN:=tab (P:=Try.prog) [] [] [] [ahr]
def acN:IR:=Sq (Rs [Mv 61 9,Fa 62 8 8,Lq 63 62,Ll 64 63,Bi 65 .lss 61 64] (Cn 65 .skip (.exit 4))) (Sq (.block 5 (.gh (.opn (.slot 5)) (.ghp (.cls (.slot 5)) (.reg [Mv 68 5,Mv 69 7,Mv 70 5,Mv 71 7,Pp (.ixw 72 (.num .i64) 70 71),Fo [0] [] (.ldw 73 1 false 72),Mv 74 5,Fa 75 8 8,Lq 76 75,Mv 77 9,Ix 78 .afield 76 77,Fa 79 2 78,Fo [] [] (.ld 80 1 false false 79),Pp (.ixw 81 (.num .i64) 74 80),Fo [0] [] (.ldw 82 1 false 81),Bi 83 .add 73 82,Pp (.mx 84 true 83 (kI 1000000)),Pp (.ixw 85 (.num .i64) 68 69),Fo [] [0] (.stw none 1 85 84)] [[],[],[],[],[2,3],[2,3,4],[],[],[7],[],[7,8,9],rg 7 10,rg 7 11,rg 6 12,rg 6 13,rg 2 14,rg 2 15,rg 0 16,rg 0 17])))) (Rg [Mv 66 9,Bc 67 .add 66 1,Mv 9 67]))
def abm:IR:=Rg [Mv 23 7,Bc 24 .add 23 1,Mv 7 24]
def pp:IR:=Sq (Rs [Mv 19 7,Mv 20 1,Ll 21 20,Bi 22 .lss 19 21] (Cn 22 .skip (.exit 2))) (Sq (.block 3 (Sq (Rs [Mv 25 1,Mv 26 7,Ix 27 (.num .i64) 25 26,Lq 28 27,Mv 29 6,Bi 30 .neq 28 29] (Cn 30 (.exit 3) .skip)) (Sq (.gh (.opn (.slot 5)) (.ghp (.cls (.slot 5)) (Rg [Mv 31 5,Mv 32 7,Pp (.ixw 33 (.num .i64) 31 32),Pp (.stw none 1 33 (kI 1))]))) (Rs [Fa 34 0 2,Lq 35 34,Mv 36 7,Ix 37 .atype 35 36,Ld 38 10 true 37,Pp (.alr 8 10),Fz 8 10 38] (Sq (Rs [Fa 39 0 8,Lq 40 39,Bc 41 .eql 40 14] (Cn 41 (.gh (.opn (.slot 5)) (.ghp (.cls (.slot 5)) (.reg [Mv 42 5,Mv 43 7,Mv 44 5,Mv 45 7,Pp (.ixw 46 (.num .i64) 44 45),Fo [2] [] (.ldw 47 1 false 46),Mv 48 5,Fa 49 9 8,Lq 50 49,Ld 51 10 true 8,Mv 52 1,Ca 53 124 [51,52],Ix 54 (.num .i64) 50 53,Lq 55 54,Pp (.ixw 56 (.num .i64) 48 55),Fo [2] [] (.ldw 57 1 false 56),Bi 58 .add 47 57,Pp (.mx 59 true 58 (kI 1000000)),Pp (.ixw 60 (.num .i64) 42 43),Fo [] [2] (.stw none 1 60 59)] [[],[],[],[],[2,3],[2,3,4],[],[],[7],[],[],[9,10],rg 7 11,rg 7 12,rg 6 13,rg 6 14,rg 2 15,rg 2 16,rg 0 17,rg 0 18]))) .skip)) (Rs [Mi 9 0] (.block 4 (.loop [1,2,5,6,7,8,9,1000000] 0 acN)))))))) abm)
def uv:IR:=Rg [Mv 17 6,Bc 18 .add 17 1,Mv 6 18]
def pr:IR:=Sq (Rs [Mv 13 6,Mv 14 1,Ll 15 14,Bi 16 .leq 13 15] (Cn 16 .skip (.exit 0))) (Sq (.block 1 (Rs [Mi 7 0] (.block 2 (.loop [1,2,5,6,7,1000001] 0 pp)))) uv)
def pt:IR:=Rs [Pp (.mov 86 (.tk 5)),Pp (.mov 4 (.tk 86))] (.gh (.fz (.slot 4)) .ret)
def aps:IR:=Rs [Bx 2 0,Pp (.mov 4 (.c (.ul (.num .i64) ([]:List Int))))] (Rs [Mv 10 1,Ll 11 10,Pp (.mku 12 (.num .i64) 11),Pp (.mov 5 (.tk 12))] (Sq (Rs [Mi 6 0] (.block 0 (.loop [1,2,5,6,1000002] 0 pr))) pt))
def tm:List RV:=[.t 4]
theorem apt:FnC Try.prog bH [] 0 af2 Try.f84 aps tm:=fnC Try.func84
def nI(R:IR→(Ex→St→Ro)→St→Ro)(a:St→Ro):Ex→St→Ro:=(bj a [1,2,5,6,1000002] 0 (aP 0 (bg (R pt) (fin tm))))
abbrev dN:Type:=(List Int×List aA×List Int×Int)
def bx:dN→St:=fun(a,b,c,d)=>{env:=(.undef::.sl (.num .i64) (.may false) a::.ea [.sl .atype (.may false) b]::.undef::.undef::.ul (.num .i64) c::.int .i64 d::(U 80 [])),hp:=[]}
def qY(R:IR→(Ex→St→Ro)→St→Ro)(a b:St→Ro):Ex→St→Ro:=(bj b [1,2,5,6,7,1000001] 0 (aP 2 (aP 1 (bg (R uv) (nI R a)))))
abbrev fG:Type:=(List Int×List aA×List Int×Int×Int)
def ck:fG→St:=fun(a,b,c,d,e)=>{env:=(.undef::.sl (.num .i64) (.may false) a::.ea [.sl .atype (.may false) b]::.undef::.undef::.ul (.num .i64) c::.int .i64 d::.int .i64 e::(U 79 [])),hp:=[]}
def anL(R:IR→(Ex→St→Ro)→St→Ro)(a b c:St→Ro):Ex→St→Ro:=(bj c [1,2,5,6,7,8,9,1000000] 0 (aP 4 (aP 3 (bg (R abm) (qY R a b)))))
abbrev qZ:Type:=(List Int×List aA×List Int×Int×Int×aA×Int)
def ml:qZ→St:=fun(a,b,c,d,e,f,g)=>{env:=(.undef::.sl (.num .i64) (.may false) a::.ea [.sl .atype (.may false) b]::.undef::.undef::.ul (.num .i64) c::.int .i64 d::.int .i64 e::.ea (enc .atype f)::.int .i64 g::(U 77 [])),hp:=[]}
def q9(N:Nat)(a b:St→Ro):(St→Ro)→St→Ro:=fun c s=>run bH N acN (anL (run bH N) a b c) s
def gI(N:Nat)(i:dN→Ro)(c:fG→Ro)(d:qZ→Ro):qZ→Ro:=fun(r,f,a,s,b,j,k)=>
 let l:=(↑(List.length j.fields):Int)
 cond (decide (k<l)) (
 chk (decide (0<List.length a)) (
 chk (decide (0≤b)&&decide (b<↑(List.length a))) (
 chk (decide ((Int.toNat b)<List.length a)) (
 let m:=List.getD a (Int.toNat b) (aB (.num .i64))
 chk (ixl k j.fields) (
 let e:=(List.getD j.fields (Int.toNat k) (aB .afield))
 chk (decide (0≤e.typ)&&decide (e.typ<↑(List.length a))) (
 chk (decide ((Int.toNat e.typ)<List.length a)) (
 let n:=List.getD a (Int.toNat e.typ) (aB (.num .i64))
 let g:=(IntKind.wrap .i64 (m+n))
 let o:=(if 1000000<g then 1000000 else g)
 chk (decide (0≤b)&&decide (b<↑(List.length a))) (
 chk (decide ((Int.toNat b)<List.length a)) (
 let h:=(List.set a (Int.toNat b) o)
 chk (Nat.beq (List.length a) (List.length h)) (
 let p:=(IntKind.wrap .i64 (k+1))
 d (r,f,h,s,b,j,p))))))))))) (
 let q:=(IntKind.wrap .i64 (b+1))
 c (r,f,a,s,q))
theorem amJ(N:Nat)(a b:St→Ro):LB (q9 N a b) ml (gI N (fun y=>a (bx y)) (fun y=>b (ck y))):=fun _ _=>by kernel_rfl
def nJ(N:Nat)(a:St→Ro):(St→Ro)→St→Ro:=fun b s=>run bH N pp (qY (run bH N) a b) s
def qb(N:Nat)(d:dN→Ro)(e:fG→Ro)(p:qZ→Ro):fG→Ro:=fun(g,a,h,j,b)=>
 let r:=(↑(List.length g):Int)
 cond (decide (b<r)) (
 chk (ixl b g) (
 let s:=List.getD g (Int.toNat b) (aB (.num .i64))
 cond (!(s==j)) (
 let t:=(IntKind.wrap .i64 (b+1))
 e (g,a,h,j,t)) (
 chk (decide (0<List.length h)) (
 chk (decide (0≤b)&&decide (b<↑(List.length h))) (
 chk (decide ((Int.toNat b)<List.length h)) (
 let c:=(List.set h (Int.toNat b) 1)
 chk (Nat.beq (List.length h) (List.length c)) (
 chk (ixl b a) (
 let i:=(List.getD a (Int.toNat b) (aB .atype))
 cond (i.kind==14) (
 chk (decide (0<List.length c)) (
 chk (decide (0≤b)&&decide (b<↑(List.length c))) (
 chk (decide ((Int.toNat b)<List.length c)) (
 let u:=List.getD c (Int.toNat b) (aB (.num .i64))
 aG (oF i g) (fun(q:Int)=>
 chk (ixl q i.branches) (
 let f:=List.getD i.branches (Int.toNat q) (aB (.num .i64))
 chk (decide (0≤f)&&decide (f<↑(List.length c))) (
 chk (decide ((Int.toNat f)<List.length c)) (
 let m:=List.getD c (Int.toNat f) (aB (.num .i64))
 let k:=(IntKind.wrap .i64 (u+m))
 let n:=(if 1000000<k then 1000000 else k)
 chk (decide (0≤b)&&decide (b<↑(List.length c))) (
 chk (decide ((Int.toNat b)<List.length c)) (
 let l:=(List.set c (Int.toNat b) n)
 chk (Nat.beq (List.length c) (List.length l)) (
 p (g,a,l,j,b,i,0)))))))))))) (
 p (g,a,c,j,b,i,0)))))))))) (
 let o:=(IntKind.wrap .i64 (j+1))
 d (g,a,h,o))
def nK(N:Nat)(a:dN→Ro)(b:fG→Ro)(x:fG):Ro:=qb N a b (fun z=>aR N (gI N a b) z) x
def ra(N:Nat)(a b:St→Ro):List (Nat×(St→Ro)):=(bR bH N pp (qY (run bH N) a b)++(bR bH N uv (nI (run bH N) a)++(bR bH N pt (fin tm)++[])))
theorem amK(N:Nat)(b:St→Ro):∀(a:St→Ro)(x:fG),nJ N b a (ck x)=nK N (fun y=>b (bx y)) (fun y=>a (ck y)) x:=by
 intro a x
 have hX:∀C:Nat→St→Ro,bY C bH N pp (qY (bY C bH N) b a) (ck x)=qb N (fun y=>b (bx y)) (fun y=>a (ck y)) (fun z=>C 1000000 (ml z)) x:=by
  intro C
  kernel_rfl
 have h:nJ N b a (ck x)=qb N (fun y=>b (bx y)) (fun y=>a (ck y)) (fun z=>aX N (q9 N b a) (ml z)) x:=(cW (C:=eZ (ra N b a)) (bS (aY (l:=(ra N b a)) (by kernel_rfl))) (jd (cD (cD (fL (bS (dP (aY (l:=(ra N b a)) (by kernel_rfl)))) (jd (cD (fL (bS (dP (dP (aY (l:=(ra N b a)) (by kernel_rfl))))) rfl))))))) _).trans ((hX _).trans (by kernel_rfl))
 have e2:(fun z=>aX N (q9 N b a) (ml z))=(fun z=>aR N (gI N (fun y=>b (bx y)) (fun y=>a (ck y))) z):=funext fun z=>aW (ml) (q9 N b a) (gI N (fun y=>b (bx y)) (fun y=>a (ck y))) (amJ N b a) N z
 rw[h,e2]
 rfl
def rc(N:Nat):(St→Ro)→St→Ro:=fun a s=>run bH N pr (nI (run bH N) a) s
def qc(N:Nat)(b:dN→Ro)(f:fG→Ro):dN→Ro:=fun(c,a,d,e)=>
 let g:=(↑(List.length c):Int)
 cond (decide (e≤g)) (
 f (c,a,d,e,0)) (
 some (.sl (.num .i64) .own d,[]))
def re(N:Nat)(a:dN→Ro)(x:dN):Ro:=qc N a (fun z=>aR N (nK N a) z) x
def xZ(N:Nat)(a:St→Ro):List (Nat×(St→Ro)):=(bR bH N pr (nI (run bH N) a)++(bR bH N pt (fin tm)++[]))
theorem amL(N:Nat):∀(a:St→Ro)(x:dN),rc N a (bx x)=re N (fun y=>a (bx y)) x:=by
 intro a x
 have hX:∀C:Nat→St→Ro,bY C bH N pr (nI (bY C bH N) a) (bx x)=qc N (fun y=>a (bx y)) (fun z=>C 1000001 (ck z)) x:=by
  intro C
  kernel_rfl
 have h:rc N a (bx x)=qc N (fun y=>a (bx y)) (fun z=>aX N (nJ N a) (ck z)) x:=(cW (C:=eZ (xZ N a)) (bS (aY (l:=(xZ N a)) (by kernel_rfl))) (jd (cD (fL (bS (dP (aY (l:=(xZ N a)) (by kernel_rfl)))) rfl))) _).trans ((hX _).trans (by kernel_rfl))
 have e1:(fun z=>aX N (nJ N a) (ck z))=(fun z=>aR N (nK N (fun y=>a (bx y))) z):=funext fun z=>aW (ck) (nJ N a) (nK N (fun y=>a (bx y))) (amK N a) N z
 rw[h,e1]
 rfl
def pg(N:Nat)(a:List aA)(c:List Int)(d:dN→Ro):Ro:=
 let b:=(↑(List.length c):Int)
 chk (decide (0≤b)&&decide (b*8≤140737488355328)) (
 let e:=(List.replicate (Int.toNat b) (aB (.num .i64)))
 d (c,a,e,0))
def afe(N:Nat)(a:List aA)(b:List Int):Ro:=pg N a b (fun z=>aR N (re N) z)
theorem anM(N:Nat)(a:List aA)(c:List Int)(h:Tot (afe N a c) (fun z=>∃(d:List Int)(rest:List aK),z.1.dimR=.sl (.num .i64) (.may false) d∧z.2=rest∧we a c (d))):∃r,ji a c r:=apt.finP (N:=N) ((bo _ (by kernel_rfl) rfl (fun C=>pg N a c (fun z=>C 1000002 (bx z))) (fun C=>by kernel_rfl)).trans (Eq.trans (b:=pg N a c (fun z=>aX N (rc N) (bx z))) (by kernel_rfl) (congrArg (pg N a c) (funext fun z=>aW (bx) (rc N) (re N) (amL N) N z)))) h fun _ ⟨d,_,e,_,q⟩=>⟨(d),e,q⟩
end Go.Proofs.Ytdpajabhmmmjoaa
end
noncomputable section
namespace Go.Proofs.Ytdpajabhmmmjoaa
open Go.AM
set_option autoImplicit false
set_option linter.unusedVariables false
set_option linter.unusedSimpArgs false
set_option maxRecDepth 100000
theorem cw.at{ts:List aA}(hs:cw ts){i:Nat}(h:i<ts.length):gu ts.length (ts.getD i (aB .atype)):=hs.2 _ (cA _ _ _ h)
theorem ay8(ts:List aA)(hs:cw ts)(t:Int)(ht:0≤t∧t<ts.length)(r:List Int)(hr:r.length=ts.length)(hb:∀i,i<r.length→-1≤r.getD i 0∧r.getD i 0≤100):∃m,rz ts t r m:=by
 apply apl 1000
 unfold agz p7
 dsimp only
 have hk:=hs.at (i:=t.toNat) (by omega)
 have hpost:∀m,xS ts t r m=((m=-1∧aet (ts.getD t.toNat (aB .atype)) r)∨wd (ts.getD t.toNat (aB .atype)) r m):=fun _=>rfl
 simp only[hpost]
 generalize ts.getD t.toNat (aB .atype)=k at hk
 have hn:=hs.1
 refine vck ?_
 refine aC (fun h14=>?_) (fun h14=>?_)
 ·simp only[bnl] at h14
  refine aU (fun x=>match x with
   |(r',k',best,i)=>r'=r∧k'=k∧0≤i∧i≤(k.branches.length:Int)∧ -1≤best∧best≤100∧(0≤best→∃b∈k.branches,rk r b=best)∧(best<0→∀b∈k.branches.take i.toNat,rk r b<0))
   (fun x=>((k.branches.length:Int)-x.2.2.2).toNat) ?_ _ _ ⟨rfl,rfl,by simp,by simp,by simp,by simp,by simp,by simp⟩ (by have:=hk.nb;simp;omega)
  rintro again ⟨r',k',best,i⟩ ⟨rfl,rfl,i1,i2,i3,i4,i5,i6⟩ ih
  dsimp only at ih
  unfold td
  dsimp only
  have hnb:=hk.nb
  refine aC (fun h=>?_) (fun h=>?_)
  ·have h:=of_decide_eq_true h
   have hi:i.toNat<k'.branches.length:=by omega
   have hbr:=hk.branches _ (cA k'.branches i.toNat 0 hi)
   have ew:IntKind.i64.wrap (i+1)=i+1:=aI (i+1) (by omega)
   refine vck ?_
   change Tot (chk (decide (0≤k'.branches.getD i.toNat 0)&&decide (k'.branches.getD i.toNat 0<(r'.length:Int))) _) _
   have hm:=cA k'.branches i.toNat 0 hi
   have hq:=hb (k'.branches.getD i.toNat 0).toNat (by omega)
   refine vck ?_
   have htk:=wE k'.branches i.toNat 0 hi
   have ei:(i+1).toNat=i.toNat+1:=by omega
   have nx:∀b:Int,((b=best∧(best<0→rk r' (k'.branches.getD i.toNat 0)<0))∨(0≤rk r' (k'.branches.getD i.toNat 0)∧b=rk r' (k'.branches.getD i.toNat 0)))→Tot (again (r',k',b,IntKind.i64.wrap (i+1))) _:=fun b hb'=>ih (r',k',b,IntKind.i64.wrap (i+1)) (by
    simp only[ew]
    rcases hb' with⟨rfl,hneg⟩|⟨h0,rfl⟩
    ·refine⟨trivial,trivial,by omega,by omega,i3,i4,i5,fun hb0 c hc=>?_⟩
     rw[ei,htk] at hc
     rcases List.mem_append.1 hc with hc|hc
     ·exact i6 hb0 c hc
     ·rw[List.mem_singleton.1 hc];exact hneg hb0
    ·exact⟨trivial,trivial,by omega,by omega,hq.1,hq.2,fun _=>⟨_,hm,rfl⟩,fun hb0=>by omega⟩) (by simp only[ew];omega)
   refine aC (fun h0=>?_) (fun h0=>nx _ (.inl ⟨rfl,fun _=>by have h0:¬0≤rk r' (k'.branches.getD i.toNat 0):=of_decide_eq_false h0;omega⟩))
   have h0:=of_decide_eq_true h0
   refine aC (fun _=>nx _ (.inr ⟨h0,rfl⟩)) (fun hb0=>aC (fun _=>nx _ (.inr ⟨h0,rfl⟩)) (fun _=>nx _ (.inl ⟨rfl,fun hb1=>absurd hb1 (of_decide_eq_false hb0)⟩)))
  ·have h:=of_decide_eq_false h
   rw[List.take_of_length_le (by omega)] at i6
   refine aC (fun h1=>aF ⟨_,_,rfl,rfl,.inl ⟨rfl,fun _=>i6 (of_decide_eq_true h1),fun hne=>absurd h14 hne⟩⟩) (fun h1=>?_)
   have h1:=of_decide_eq_false h1
   obtain⟨b,hbm,hbe⟩:=i5 (by omega)
   have hbr:=hk.branches b hbm
   refine aF ⟨_,_,rfl,rfl,.inr ?_⟩
   rw[aI _ (by omega)]
   refine⟨by omega,fun _=>⟨b,hbm,by omega,by omega⟩,fun hne=>absurd h14 hne,fun _=>⟨b.toNat,by omega,?_⟩⟩
   have:r'.getD b.toNat 0=best:=hbe
   omega
 ·simp only[bnl] at h14
  refine aU (fun x=>match x with
   |(r',k',most,i)=>r'=r∧k'=k∧0≤i∧i≤(k.fields.length:Int)∧0≤most∧most≤100∧(∀f∈k.fields.take i.toNat,0≤rk r f.typ∧rk r f.typ≤most)∧(1≤most→∃j,j<r.length∧r.getD j 0=most))
   (fun x=>((k.fields.length:Int)-x.2.2.2).toNat) ?_ _ _ ⟨rfl,rfl,by simp,by simp,by simp,by simp,by simp,by simp⟩ (by have:=hk.nf;simp;omega)
  rintro again ⟨r',k',most,i⟩ ⟨rfl,rfl,i1,i2,i3,i4,i5,i6⟩ ih
  dsimp only at ih
  unfold tf
  dsimp only
  have hnf:=hk.nf
  refine aC (fun h=>?_) (fun h=>?_)
  ·have h:=of_decide_eq_true h
   have hi:i.toNat<k'.fields.length:=by omega
   have hm:=cA k'.fields i.toNat (aB .afield) hi
   have hf:=hk.fields _ hm
   have ew:IntKind.i64.wrap (i+1)=i+1:=aI (i+1) (by omega)
   have ht:=wE k'.fields i.toNat (aB .afield) hi
   generalize k'.fields.getD i.toNat (aB .afield)=f at*
   refine vck (vck ?_)
   have hq:=hb f.typ.toNat (by omega)
   refine aC (fun h0=>aF ⟨_,_,rfl,rfl,.inl ⟨rfl,fun h'=>absurd h' h14,fun _=>⟨f,hm,of_decide_eq_true h0⟩⟩⟩) (fun h0=>?_)
   have h0:¬r'.getD f.typ.toNat 0<0:=of_decide_eq_false h0
   refine ih (r',k',_,_) ?_ (by simp only[ew];omega)
   simp only[ew]
   have ei:(i+1).toNat=i.toNat+1:=by omega
   have em:(if most<r'.getD f.typ.toNat (aB (.num .i64)) then r'.getD f.typ.toNat (aB (.num .i64)) else most)=(if most<r'.getD f.typ.toNat 0 then r'.getD f.typ.toNat 0 else most):=rfl
   rw[em,ei,ht]
   refine⟨trivial,trivial,by omega,by omega,by split<;>omega,by split<;>omega,fun g hg=>?_,fun h1=>?_⟩
   ·rcases List.mem_append.1 hg with hg|hg
    ·have:=i5 g hg;split<;>omega
    ·rw[List.mem_singleton] at hg
     subst hg
     have:rk r' g.typ=r'.getD g.typ.toNat 0:=rfl
     rw[this];split<;>omega
   ·split
    ·exact⟨f.typ.toNat,by omega,rfl⟩
    ·rename_i hh;rw[if_neg hh] at h1;exact i6 h1
  ·have h:=of_decide_eq_false h
   refine aF ⟨_,_,rfl,rfl,.inr ?_⟩
   rw[aI _ (by omega)]
   rw[List.take_of_length_le (by omega)] at i5
   refine⟨by omega,fun h'=>absurd h' h14,fun _ f hf=>by have:=i5 f hf;omega,fun h2=>?_⟩
   obtain⟨j,hj,e⟩:=i6 (by omega)
   exact⟨j,hj,by omega⟩
theorem aq7(k:aA)(m:Nat)(hk:gu m k)(h14:k.kind=14)(r:List Int)(hr:r.length=m):∃b,oF k r b:=by
 apply apn 1000
 unfold agB p8
 have hne:k.branches≠[]:=hk.done h14
 have hlen:0<k.branches.length:=List.length_pos_iff.2 hne
 have hnb:=hk.nb
 refine aU (fun x=>match x with
  |(r',k',b,i)=>r'=r∧k'=k∧0≤i∧i≤(k.branches.length:Int)∧0≤b∧b<k.branches.length∧(b≤i)∧(∀j:Nat,(j:Int)<i→0≤rk r (brT k j)→0≤rk r (brT k b.toNat)∧rk r (brT k b.toNat)≤rk r (brT k j))∧
   (∀j,j<b.toNat→0≤rk r (brT k j)→rk r (brT k b.toNat)<rk r (brT k j)))
  (fun x=>((k.branches.length:Int)-x.2.2.2).toNat) ?_ _ _ ⟨rfl,rfl,by simp,by simp,by simp,by omega,by simp,fun j hj=>by omega,fun j hj=>by simp at hj⟩ (by simp;omega)
 rintro again ⟨r',k',b,i⟩ ⟨rfl,rfl,i1,i2,i3,i4,i7,i5,i6⟩ ih
 dsimp only at ih
 unfold th
 dsimp only
 refine aC (fun h=>?_) (fun h=>?_)
 ·have h:=of_decide_eq_true h
  have hi:i.toNat<k'.branches.length:=by omega
  have hbr:=hk.branches _ (cA k'.branches i.toNat 0 hi)
  have hbb:=hk.branches _ (cA k'.branches b.toNat 0 (by omega))
  have ew:IntKind.i64.wrap (i+1)=i+1:=aI (i+1) (by omega)
  have keep:(0≤rk r' (brT k' i.toNat)→0≤rk r' (brT k' b.toNat)∧rk r' (brT k' b.toNat)≤rk r' (brT k' i.toNat))→Tot (again (r',k',b,IntKind.i64.wrap (i+1))) _:=fun hk'=>ih (r',k',b,IntKind.i64.wrap (i+1)) (by
   simp only[ew]
   refine⟨trivial,trivial,by omega,by omega,i3,i4,by omega,fun j hj h0=>?_,i6⟩
   by_cases hji:(j:Int)<i
   ·exact i5 j hji h0
   ·have e:j=i.toNat:=by omega
    rw[e] at h0 ⊢;exact hk' h0) (by simp only[ew];omega)
  have turn:0≤rk r' (brT k' i.toNat)→(0≤rk r' (brT k' b.toNat)→rk r' (brT k' i.toNat)<rk r' (brT k' b.toNat))→Tot (again (r',k',i,IntKind.i64.wrap (i+1))) _:=fun h0 hlt=>ih (r',k',i,IntKind.i64.wrap (i+1)) (by
   simp only[ew]
   refine⟨trivial,trivial,by omega,by omega,i1,h,by omega,fun j hj h0'=>?_,fun j hj h0'=>?_⟩
   ·by_cases hji:(j:Int)<i
    ·have:=i5 j hji h0'
     have:=hlt this.1
     omega
    ·have e:j=i.toNat:=by omega
     rw[e];exact⟨h0,Int.le_refl _⟩
   ·have:=i5 j (by omega) h0'
    have:=hlt this.1
    omega) (by simp only[ew];omega)
  refine vck ?_
  change Tot (chk (decide (0≤brT k' i.toNat)&&decide (brT k' i.toNat<(r'.length:Int))) (cond (decide (0≤rk r' (brT k' i.toNat))) (chk _ (chk (decide (0≤brT k' b.toNat)&&decide (brT k' b.toNat<(r'.length:Int))) (cond (decide (rk r' (brT k' b.toNat)<0)) _
   (chk _ (chk (decide (0≤brT k' i.toNat)&&decide (brT k' i.toNat<(r'.length:Int))) (chk _ (chk (decide (0≤brT k' b.toNat)&&decide (brT k' b.toNat<(r'.length:Int))) (cond (decide (rk r' (brT k' i.toNat)<rk r' (brT k' b.toNat))) _ _)))))))) _)) _
  have hbr:0≤brT k' i.toNat∧brT k' i.toNat<(m:Int):=hbr
  have hbb:0≤brT k' b.toNat∧brT k' b.toNat<(m:Int):=hbb
  refine vck (aC (fun h0=>?_) (fun h0=>keep fun h0'=>absurd h0' (of_decide_eq_false h0)))
  have h0:=of_decide_eq_true h0
  refine vck (vck (aC (fun h1=>turn h0 fun h1'=>absurd h1' (Int.not_le.2 (of_decide_eq_true h1))) (fun h1=>?_)))
  have h1:=of_decide_eq_false h1
  refine vck (vck (vck (vck (aC (fun h2=>turn h0 fun _=>of_decide_eq_true h2) (fun h2=>keep fun _=>?_)))))
  have h2:=of_decide_eq_false h2
  omega
 ·have h:=of_decide_eq_false h
  exact aF ⟨_,_,rfl,rfl,i3,i4,fun j hj=>i5 j (by omega),i6⟩
theorem aty(ts:List aA)(hs:cw ts):∃r,pK ts r:=by
 apply aq6 1000
 unfold ahX rW
 dsimp only
 obtain⟨⟨hn0,hn⟩,hall⟩:=hs
 have hs:cw ts:=⟨⟨hn0,hn⟩,hall⟩
 refine vck ?_
 have rounds:∀r,jO ts r 0→Tot (aR 1000 (mG 1000) (ts,r,0)) (fun z=>∃(y0:List Int)(rest:List aK),z.1.dimR=.sl (.num .i64) (.may false) y0∧z.2=rest∧zc ts y0):=by
  intro r hr
  refine aU (fun x=>match x with|(ts',r,n)=>ts'=ts∧0≤n∧n≤(ts.length:Int)+1∧jO ts r n∧(anc ts r∨n+wF r≤ts.length))
   (fun x=>((ts.length:Int)+1-x.2.2).toNat) ?_ _ _ ⟨rfl,by simp,by omega,hr,.inr (by have:=api r;have:=hr.len;omega)⟩ (by simp only;omega)
  rintro again ⟨ts',r,n⟩ ⟨rfl,i1,i2,i3,i4⟩ ih
  dsimp only at ih
  unfold mG tj
  dsimp only
  have hrl:=i3.len
  refine aC (fun h=>?_) (fun h=>aF ⟨_,_,rfl,rfl,i3.fin,by
   rcases i4 with e|e
   ·exact e
   ·have h:=of_decide_eq_false h
    exfalso;omega⟩)
  have h:=of_decide_eq_true h
  have ew:IntKind.i64.wrap (n+1)=n+1:=aI (n+1) (by omega)
  refine vck (vck (vck ?_))
  refine aU (fun x=>match x with|(ts2,r2,n2,next,i)=>ts2=ts'∧r2=r∧n2=n∧0≤i∧i≤(ts'.length:Int)∧next.length=ts'.length∧(∀j,j<ts'.length→(0≤r.getD j 0∨i≤(j:Int))→next.getD j 0=r.getD j 0)∧
    (∀j,j<ts'.length→(j:Int)<i→r.getD j 0<0→(next.getD j 0=-1∧aet (ts'.getD j (aB .atype)) r)∨wd (ts'.getD j (aB .atype)) r (next.getD j 0)))
   (fun x=>((ts'.length:Int)-x.2.2.2.2).toNat) ?_ _ _ ⟨rfl,rfl,rfl,by simp,by simp,by simpa using hrl,fun j _ _=>rfl,fun j _ hj=>by omega⟩ (by simp;omega)
  rintro again2 ⟨ts2,r2,n2,next,i⟩ ⟨rfl,rfl,rfl,j1,j2,j3,j4,j5⟩ ih2
  dsimp only at ih2
  unfold p9
  dsimp only
  refine aC (fun h'=>?_) (fun h'=>?_)
  ·have h':=of_decide_eq_true h'
   have ei:IntKind.i64.wrap (i+1)=i+1:=aI (i+1) (by omega)
   have hil:i.toNat<ts2.length:=by omega
   refine vck (vck (vck (vck ?_)))
   refine aC (fun h0=>?_) (fun h0=>?_)
   ·have h0:0≤r2.getD i.toNat 0:=of_decide_eq_true h0
    refine ih2 (ts2,r2,n2,next,_) ?_ (by simp only[ei];omega)
    simp only[ei]
    refine⟨trivial,trivial,trivial,by omega,by omega,j3,fun j hj hc=>j4 j hj (by omega),fun j hj hji hneg=>?_⟩
    by_cases hh:(j:Int)<i
    ·exact j5 j hj hh hneg
    ·have:j=i.toNat:=by omega
     rw[this] at hneg;omega
   ·have h0:¬0≤r2.getD i.toNat 0:=of_decide_eq_false h0
    refine vck (vck ?_)
    refine ayk (by simp) (ay8 ts2 hs i (by omega) r2 hrl fun q hq=>⟨i3.low q hq,by have:=i3.top q hq;omega⟩) ?_
    rintro(q:Int) ⟨-,hq⟩
    refine vck (vck (vck (vck ?_)))
    refine ih2 (ts2,r2,n2,_,_) ?_ (by simp only[ei];omega)
    simp only[ei]
    refine⟨trivial,trivial,trivial,by omega,by omega,by simpa using j3,fun j hj hc=>?_,fun j hj hji hneg=>?_⟩
    ·have hne:i.toNat≠j:=fun e=>by rw[e] at h0;omega
     rw[eH _ _ _ _ _ hne]
     exact j4 j hj (by omega)
    ·by_cases hh:(j:Int)<i
     ·rw[eH _ _ _ _ _ (by omega)]
      exact j5 j hj hh hneg
     ·have e:j=i.toNat:=by omega
      rw[e,gr _ _ _ _ (by omega)]
      exact hq
  ·have h':=of_decide_eq_false h'
   refine ih (ts2,next,_) ?_ (by simp only[ew];omega)
   simp only[ew]
   exact⟨trivial,by omega,by omega,i3.step i1 j3 (fun j hj h0=>j4 j hj (.inl h0)) (fun j hj h0=>(j5 j hj (by omega) h0).imp (·.1) id),anc.step (fun i hi=>⟨(hs.at hi).branches,fun f hf=>⟨((hs.at hi).fields f hf).1,((hs.at hi).fields f hf).2.1⟩⟩) hrl j3 (fun j hj h0=>j4 j hj (.inl h0)) (fun j hj h0=>j5 j hj (by omega) h0) i4⟩
 refine aU (fun x=>match x with|(ts',r,i)=>ts'=ts∧0≤i∧i≤(ts.length:Int)∧r.length=ts.length∧∀j,j<ts.length→(j:Int)<i→r.getD j 0=-1∨(r.getD j 0=0∧(ts.getD j (aB .atype)).kind≠9∧(ts.getD j (aB .atype)).kind≠14))
  (fun x=>((ts.length:Int)-x.2.2).toNat) ?_ _ _ ⟨rfl,by simp,by simp,by simp,fun j _ hj=>by omega⟩ (by simp;omega)
 rintro again ⟨ts',r,i⟩ ⟨rfl,i1,i2,i3,i4⟩ ih
 dsimp only at ih
 unfold vm tl
 dsimp only
 refine aC (fun h=>?_) (fun h=>?_)
 ·have h:=of_decide_eq_true h
  have ei:IntKind.i64.wrap (i+1)=i+1:=aI (i+1) (by omega)
  have hil:i.toNat<ts'.length:=by omega
  have put:∀l:List Int,l.length=ts'.length→(∀j,j<ts'.length→i.toNat≠j→l.getD j 0=r.getD j 0)→(l.getD i.toNat 0=-1∨(l.getD i.toNat 0=0∧(ts'.getD i.toNat (aB .atype)).kind≠9∧(ts'.getD i.toNat (aB .atype)).kind≠14))→Tot (again (ts',l,IntKind.i64.wrap (i+1))) _:=fun l h1 h2 h3=>ih (ts',l,IntKind.i64.wrap (i+1)) (by
   simp only[ei]
   refine⟨trivial,by omega,by omega,h1,fun j hj hji=>?_⟩
   by_cases hh:i.toNat=j
   ·rw[←hh];exact h3
   ·rw[h2 j hj hh];exact i4 j hj (by omega)) (by simp only[ei];omega)
  refine vck (vck (vck (vck (vck ?_))))
  refine aC (fun h9=>?_) (fun h9=>?_)
  ·refine vck (aC (fun h14=>?_) (fun h14=>?_))
   ·simp only[bnl] at h9 h14
    refine vck (vck (vck (vck ?_)))
    refine put _ (by simpa using i3) (fun j hj hne=>by rw[eH _ _ _ _ _ hne,eH _ _ _ _ _ hne]) (.inr ⟨gr _ _ _ _ (by simp;omega),h9,h14⟩)
   ·exact put _ (by simpa using i3) (fun j hj hne=>by rw[eH _ _ _ _ _ hne]) (.inl (gr _ _ _ _ (by omega)))
  ·exact put _ (by simpa using i3) (fun j hj hne=>by rw[eH _ _ _ _ _ hne]) (.inl (gr _ _ _ _ (by omega)))
 ·have h:=of_decide_eq_false h
  refine rounds r ⟨i3,fun j hj=>?_,fun j hj=>?_,fun j hj h1=>?_,fun j hj h0=>?_⟩
  all_goals have:=i4 j (by omega) (by omega)
  ·omega
  ·omega
  ·omega
  ·rcases this with e|⟨-,e⟩
   ·omega
   ·exact e
structure aCs(ts:List aA)(r w:List Int)(k i:Int):Prop where
 len:w.length=ts.length
 low:∀j,j<ts.length→0≤w.getD j 0∧w.getD j 0≤1000000
 ok:∀j,j<ts.length→0≤r.getD j 0→(r.getD j 0<k∨(r.getD j 0=k∧(j:Int)<i))→nh (ts.getD j (aB .atype)) r w (w.getD j 0)
theorem aon(ts:List aA)(hs:cw ts)(r:List Int)(hR:jO ts r ts.length):∃w,ji ts r w:=by
 apply anM 1000
 unfold afe pg
 dsimp only
 have hrl:=hR.len
 have hn:=hs.1
 refine vck ?_
 refine aU (fun x=>match x with|(r',ts',w,k)=>r'=r∧ts'=ts∧0≤k∧k≤(ts.length:Int)+1∧aCs ts r w k 0)
  (fun x=>((ts.length:Int)+1-x.2.2.2).toNat) ?_ _ _ ⟨rfl,rfl,by simp,by omega,by simp[hrl],fun j hj=>?_,fun j hj h0 hc=>by omega⟩ (by simp only;omega)
 rotate_left
 ·have:(List.replicate (r.length:Int).toNat (aB (.num .i64))).getD j 0=0:=by
   simp[List.getD_eq_getElem?_getD,List.getElem?_replicate,hrl,hj];rfl
  rw[this];omega
 rintro again ⟨r',ts',w,k⟩ ⟨rfl,rfl,i1,i2,i3⟩ ih
 dsimp only at ih
 unfold re qc
 dsimp only
 refine aC (fun h=>?_) (fun h=>?_)
 rotate_left
 ·have h:=of_decide_eq_false h
  refine aF ⟨_,_,rfl,rfl,i3.len,fun j hj h0=>i3.ok j (by omega) h0 (.inl ?_)⟩
  have:=hR.top j hj
  omega
 have h:=of_decide_eq_true h
 have ek:IntKind.i64.wrap (k+1)=k+1:=aI (k+1) (by omega)
 refine aU (fun x=>match x with|(r2,ts2,w,k2,i)=>r2=r'∧ts2=ts'∧k2=k∧0≤i∧i≤(ts'.length:Int)∧aCs ts' r' w k i)
  (fun x=>((ts'.length:Int)-x.2.2.2.2).toNat) ?_ _ _ ⟨rfl,rfl,rfl,by simp,by simp,i3⟩ (by simp;omega)
 rintro again2 ⟨r2,ts2,w,k2,i⟩ ⟨rfl,rfl,rfl,j1,j2,j3⟩ ih2
 dsimp only at ih2
 unfold nK qb
 dsimp only
 have jl:=j3.len
 refine aC (fun h1=>?_) (fun h1=>?_)
 rotate_left
 ·have h1:=of_decide_eq_false h1
  refine ih (r2,ts2,w,_) ?_ (by simp only[ek];omega)
  simp only[ek]
  exact⟨trivial,trivial,by omega,by omega,j3.len,j3.low,fun j hj h0 hc=>j3.ok j hj h0 (by omega)⟩
 have h1:=of_decide_eq_true h1
 have ei:IntKind.i64.wrap (i+1)=i+1:=aI (i+1) (by omega)
 have hil:i.toNat<ts2.length:=by omega
 refine vck (aC (fun hne=>?_) (fun heq=>?_))
 ·have hne:¬r2.getD i.toNat 0=k2:=by simp only[bnl] at hne;exact hne
  refine ih2 (r2,ts2,w,k2,_) ?_ (by simp only[ei];omega)
  simp only[ei]
  refine⟨trivial,trivial,trivial,by omega,by omega,j3.len,j3.low,fun j hj h0 hc=>j3.ok j hj h0 ?_⟩
  by_cases hji:i.toNat=j
  ·rw[hji] at hne;omega
  ·omega
 have heq:r2.getD i.toNat 0=k2:=by simp only[bnl] at heq;exact heq
 have hty:=hs.at hil
 have hz0:∀(w1:List Int)(l:List aM)(x:Int),1≤x→1+oU w1 (List.take (Int.toNat 0) l)≤x:=fun w1 l x hx=>by
  have h0:oU w1 (List.take (Int.toNat 0) l)=0:=rfl
  rw[h0];omega
 have inner:∀w1:List Int,w1.length=ts2.length→(∀j,j<ts2.length→0≤w1.getD j 0∧w1.getD j 0≤1000000)→1≤w1.getD i.toNat 0→
   (∀j,j<ts2.length→0≤r2.getD j 0→(r2.getD j 0<k2∨(r2.getD j 0=k2∧(j:Int)<i))→nh (ts2.getD j (aB .atype)) r2 w1 (w1.getD j 0))→
   ((ts2.getD i.toNat (aB .atype)).kind=14→∀b,abE (ts2.getD i.toNat (aB .atype)) r2 b→1+rk w1 (brT (ts2.getD i.toNat (aB .atype)) b.toNat)≤w1.getD i.toNat 0∨w1.getD i.toNat 0=1000000)→
   Tot (aR 1000 (gI 1000 again again2) (r2,ts2,w1,k2,i,ts2.getD i.toNat (aB .atype),0)) (fun z=>∃(y0:List Int)(rest:List aK),z.1.dimR=.sl (.num .i64) (.may false) y0∧z.2=rest∧we ts2 r2 y0):=by
  intro w1 q1 q2 q3 q4 q5
  generalize hkk:ts2.getD i.toNat (aB .atype)=kk at hty q5
  have hnf:=hty.nf
  refine aU (fun x=>match x with|(r3,ts3,w1,k3,i9,kk3,m)=>r3=r2∧ts3=ts2∧k3=k2∧i9=i∧kk3=kk∧0≤m∧m≤(kk.fields.length:Int)∧w1.length=ts2.length∧(∀j,j<ts2.length→0≤w1.getD j 0∧w1.getD j 0≤1000000)∧1≤w1.getD i.toNat 0∧
    (∀j,j<ts2.length→0≤r2.getD j 0→(r2.getD j 0<k2∨(r2.getD j 0=k2∧(j:Int)<i))→nh (ts2.getD j (aB .atype)) r2 w1 (w1.getD j 0))∧
    (kk.kind=14→∀b,abE kk r2 b→1+rk w1 (brT kk b.toNat)≤w1.getD i.toNat 0∨w1.getD i.toNat 0=1000000)∧
    (kk.kind=9→1+oU w1 (kk.fields.take m.toNat)≤w1.getD i.toNat 0∨w1.getD i.toNat 0=1000000))
   (fun x=>((kk.fields.length:Int)-x.2.2.2.2.2.2).toNat) ?_ _ _ ⟨rfl,rfl,rfl,rfl,rfl,by simp,by simp,q1,q2,q3,q4,q5,fun _=>.inl (hz0 w1 kk.fields _ q3)⟩ (by simp;omega)
  rintro again3 ⟨r3,ts3,w1,k3,i9,kk3,m⟩ ⟨rfl,rfl,rfl,rfl,rfl,m1,m2,q1,q2,q3,q4,q5,q6⟩ ih3
  dsimp only at ih3
  unfold gI
  dsimp only
  have hri:0≤r3.getD i9.toNat 0:=by omega
  refine aC (fun h2=>?_) (fun h2=>?_)
  ·have h2:=of_decide_eq_true h2
   have hm:m.toNat<kk3.fields.length:=by omega
   have hf:=hty.fields _ (cA kk3.fields m.toNat (aB .afield) hm)
   have em:IntKind.i64.wrap (m+1)=m+1:=aI (m+1) (by omega)
   have ht:=wE kk3.fields m.toNat (aB .afield) hm
   have hmem:=cA kk3.fields m.toNat (aB .afield) hm
   generalize kk3.fields.getD m.toNat (aB .afield)=f at*
   have a1:=q2 i9.toNat hil
   have a2:=q2 f.typ.toNat (by omega)
   refine vck (vck (vck (vck (vck (vck (vck (vck (vck ?_))))))))
   have ewr:IntKind.i64.wrap (w1.getD i9.toNat (aB (.num .i64))+w1.getD f.typ.toNat (aB (.num .i64)))=w1.getD i9.toNat 0+w1.getD f.typ.toNat 0:=aI _ (by
    have e1:w1.getD i9.toNat (aB (.num .i64))=w1.getD i9.toNat 0:=rfl
    have e2:w1.getD f.typ.toNat (aB (.num .i64))=w1.getD f.typ.toNat 0:=rfl
    rw[e1,e2];omega)
   rw[ewr]
   refine ih3 (r3,ts3,_,k3,i9,kk3,_) ?_ (by simp only[em];omega)
   simp only[em]
   have emt:(m+1).toNat=m.toNat+1:=by omega
   generalize hx:(if 1000000<w1.getD i9.toNat 0+w1.getD f.typ.toNat 0 then (1000000:Int) else w1.getD i9.toNat 0+w1.getD f.typ.toNat 0)=x
   have hx1:w1.getD i9.toNat 0≤x∧x≤1000000∧(x=1000000∨x=w1.getD i9.toNat 0+w1.getD f.typ.toNat 0):=by
    rw[←hx];split<;>omega
   refine⟨trivial,trivial,trivial,trivial,trivial,by omega,by omega,by simpa using q1,fun j hj=>?_,?_,fun j hj h0 hc=>?_,fun h14 b hb=>?_,fun h9=>?_⟩
   ·by_cases hji:i9.toNat=j
    ·rw[←hji,gr _ _ _ _ (by omega)];omega
    ·rw[eH _ _ _ _ _ hji];exact q2 j hj
   ·rw[gr _ _ _ _ (by omega)];omega
   ·have hji:i9.toNat≠j:=fun e=>by
     rcases hc with hc|⟨_,hc⟩
     ·rw[←e] at hc;omega
     ·omega
    exact nh.set hR (by omega) h0 (by omega) hji (q4 j hj h0 hc)
   ·rw[gr _ _ _ _ (by omega)]
    have hk1:1≤r3.getD i9.toNat 0:=by
     by_cases h0:r3.getD i9.toNat 0=0
     ·exact absurd h14 (by have:=(hR.nul i9.toNat (by omega) h0).2;rw[hkk] at this;exact this)
     ·omega
    have hro:=hR.ok i9.toNat (by omega) hk1
    rw[hkk] at hro
    have hc:=acI (ts:=ts3) (m:=0) hro h14 hb
    have hu:=q5 h14 b hb
    unfold rk at hc hu ⊢
    rw[eH _ _ _ _ _ (fun e=>by rw[←e] at hc;omega)]
    omega
   ·rw[gr _ _ _ _ (by omega),emt,ht,aph]
    have hk1:1≤r3.getD i9.toNat 0:=by
     by_cases h0:r3.getD i9.toNat 0=0
     ·exact absurd h9 (by have:=(hR.nul i9.toNat (by omega) h0).1;rw[hkk] at this;exact this)
     ·omega
    have hro:=hR.ok i9.toNat (by omega) hk1
    rw[hkk] at hro
    have hne:∀g∈kk3.fields,g.typ.toNat≠i9.toNat:=fun g hg e=>by
     have:=hro.rcd (by omega) g hg
     unfold rk at this
     rw[e] at this;omega
    rw[apf _ _ _ _ (fun g hg=>hne g (List.mem_of_mem_take hg))]
    have e1:oU (w1.set i9.toNat x) [f]=w1.getD f.typ.toNat 0:=by
     simp only[oU,rk]
     rw[eH _ _ _ _ _ (fun e=>hne f hmem e.symm)];omega
    rw[e1]
    have:=q6 h9
    omega
  ·have h2:=of_decide_eq_false h2
   refine ih2 (r3,ts3,w1,k3,_) ?_ (by simp only[ei];omega)
   simp only[ei]
   refine⟨trivial,trivial,trivial,by omega,by omega,q1,q2,fun j hj h0 hc=>?_⟩
   by_cases hji:i9.toNat=j
   ·rw[←hji,hkk]
    rw[List.take_of_length_le (by omega)] at q6
    exact⟨q3,(q2 _ hil).2,q6,q5⟩
   ·exact q4 j hj h0 (by omega)
 have hset:∀(l:List Int)(x:Int),l.length=ts2.length→(∀j,j<ts2.length→0≤l.getD j 0∧l.getD j 0≤1000000)→1≤x∧x≤1000000→
   (∀j,j<ts2.length→0≤r2.getD j 0→(r2.getD j 0<k2∨(r2.getD j 0=k2∧(j:Int)<i))→nh (ts2.getD j (aB .atype)) r2 l (l.getD j 0))→
   (l.set i.toNat x).length=ts2.length∧(∀j,j<ts2.length→0≤(l.set i.toNat x).getD j 0∧(l.set i.toNat x).getD j 0≤1000000)∧1≤(l.set i.toNat x).getD i.toNat 0∧
   (∀j,j<ts2.length→0≤r2.getD j 0→(r2.getD j 0<k2∨(r2.getD j 0=k2∧(j:Int)<i))→nh (ts2.getD j (aB .atype)) r2 (l.set i.toNat x) ((l.set i.toNat x).getD j 0)):=by
  intro l x h1 h2 h3 h4
  refine⟨by simpa using h1,fun j hj=>?_,?_,fun j hj h0 hc=>?_⟩
  ·by_cases hji:i.toNat=j
   ·rw[←hji,gr _ _ _ _ (by omega)];omega
   ·rw[eH _ _ _ _ _ hji];exact h2 j hj
  ·rw[gr _ _ _ _ (by omega)];omega
  ·have hji:i.toNat≠j:=fun e=>by
    rcases hc with hc|⟨_,hc⟩
    ·rw[←e] at hc;omega
    ·omega
   exact nh.set hR (by omega) h0 (by omega) hji (h4 j hj h0 hc)
 obtain⟨s1,s2,s3,s4⟩:=hset w 1 jl j3.low (by omega) j3.ok
 refine vck (vck (vck (vck (vck ?_))))
 refine aC (fun h14=>?_) (fun h14=>?_)
 rotate_left
 ·simp only[bnl] at h14
  exact inner _ s1 s2 s3 s4 fun h=>absurd h h14
 have h14:(ts2.getD i.toNat (aB .atype)).kind=14:=by simp only[bnl] at h14;exact h14
 refine vck (vck (vck ?_))
 refine aE (aq7 _ _ hty h14 r2 hrl) ?_
 rintro(b:Int) ⟨-,hb⟩
 have hb':=hb
 obtain⟨b1,b2,b3,b4⟩:=hb'
 have hbm:=hty.branches _ (cA _ b.toNat 0 (by omega))
 have hbm:0≤brT (ts2.getD i.toNat (aB .atype)) b.toNat∧brT (ts2.getD i.toNat (aB .atype)) b.toNat<(ts2.length:Int):=hbm
 refine vck ?_
 change Tot (chk (decide (0≤brT (ts2.getD i.toNat (aB .atype)) b.toNat)&&decide (brT (ts2.getD i.toNat (aB .atype)) b.toNat<((w.set i.toNat 1).length:Int))) (chk (decide ((brT (ts2.getD i.toNat (aB .atype)) b.toNat).toNat<(w.set i.toNat 1).length)) _)) _
 refine vck (vck (vck (vck (vck ?_))))
 have a1:=s2 i.toNat hil
 have a2:=s2 (brT (ts2.getD i.toNat (aB .atype)) b.toNat).toNat (by omega)
 have e1:(w.set i.toNat 1).getD i.toNat 0=1:=gr _ _ _ _ (by omega)
 have ewr:IntKind.i64.wrap ((w.set i.toNat 1).getD i.toNat (aB (.num .i64))+(w.set i.toNat 1).getD (brT (ts2.getD i.toNat (aB .atype)) b.toNat).toNat (aB (.num .i64)))=1+(w.set i.toNat 1).getD (brT (ts2.getD i.toNat (aB .atype)) b.toNat).toNat 0:=by
  have e2:(w.set i.toNat 1).getD i.toNat (aB (.num .i64))=1:=e1
  have e3:(w.set i.toNat 1).getD (brT (ts2.getD i.toNat (aB .atype)) b.toNat).toNat (aB (.num .i64))=(w.set i.toNat 1).getD (brT (ts2.getD i.toNat (aB .atype)) b.toNat).toNat 0:=rfl
  rw[e2,e3]
  exact aI _ (by omega)
 change Tot (aR 1000 (gI 1000 again again2) (r2,ts2,(w.set i.toNat 1).set i.toNat (if 1000000<IntKind.i64.wrap ((w.set i.toNat 1).getD i.toNat (aB (.num .i64))+(w.set i.toNat 1).getD (brT (ts2.getD i.toNat (aB .atype)) b.toNat).toNat (aB (.num .i64))) then 1000000 else IntKind.i64.wrap ((w.set i.toNat 1).getD i.toNat (aB (.num .i64))+(w.set i.toNat 1).getD (brT (ts2.getD i.toNat (aB .atype)) b.toNat).toNat (aB (.num .i64)))),k2,i,ts2.getD i.toNat (aB .atype),0)) _
 rw[ewr]
 generalize hx:(if 1000000<1+(w.set i.toNat 1).getD (brT (ts2.getD i.toNat (aB .atype)) b.toNat).toNat 0 then (1000000:Int) else 1+(w.set i.toNat 1).getD (brT (ts2.getD i.toNat (aB .atype)) b.toNat).toNat 0)=x
 have hx1:1≤x∧x≤1000000∧(x=1000000∨x=1+(w.set i.toNat 1).getD (brT (ts2.getD i.toNat (aB .atype)) b.toNat).toNat 0):=by rw[←hx];split<;>omega
 obtain⟨u1,u2,u3,u4⟩:=hset _ x s1 s2 ⟨hx1.1,hx1.2.1⟩ s4
 refine inner _ u1 u2 u3 u4 fun _ b' hb''=>?_
 have hk1:1≤r2.getD i.toNat 0:=by
  by_cases h0:r2.getD i.toNat 0=0
  ·exact absurd h14 (hR.nul i.toNat (by omega) h0).2
  ·omega
 have hro:=hR.ok i.toNat (by omega) hk1
 have hc:=acI (ts:=ts2) (m:=0) hro h14 hb
 have hc':=acI (ts:=ts2) (m:=0) hro h14 hb''
 have hbl:=hb.lt
 have hbn:=hb.nn
 have ebb:b'=b:=by
  have n':=hb''.nn
  have l':=hb''.lt
  have l1:=(hb.least b'.toNat (by omega) hc'.1).2
  have l2:=(hb''.least b.toNat (by omega) hc.1).2
  by_cases h1:b'<b
  ·exact absurd (hb.first b'.toNat (by omega) hc'.1) (Int.not_lt.2 l2)
  ·by_cases h2:b<b'
   ·exact absurd (hb''.first b.toNat (by omega) hc.1) (Int.not_lt.2 l1)
   ·omega
 rw[ebb]
 rw[gr _ _ _ _ (by simp;omega)]
 have hne:¬i.toNat=(brT (ts2.getD i.toNat (aB .atype)) b.toNat).toNat:=fun e=>by
  unfold rk at hc
  rw[←e] at hc
  exact absurd hc.2 (Int.lt_irrefl _)
 have e5:rk ((w.set i.toNat 1).set i.toNat x) (brT (ts2.getD i.toNat (aB .atype)) b.toNat)=(w.set i.toNat 1).getD (brT (ts2.getD i.toNat (aB .atype)) b.toNat).toNat 0:=eH _ _ _ _ _ hne
 rw[e5]
 omega
end Go.Proofs.Ytdpajabhmmmjoaa
end
