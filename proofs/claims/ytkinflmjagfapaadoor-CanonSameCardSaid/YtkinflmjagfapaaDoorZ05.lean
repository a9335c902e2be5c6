import Derived.KernelRfl
import Derived.Test.YtkinflmjagfapaaDoorChecked
import Derived.ChangeArms
import Derived.ChangeSlices
import Derived.WideShapes
import Derived.WideKeyArgs
import Derived.Test.YtkinflmjagfapaaDoorZ02
import Derived.Test.YtkinflmjagfapaaDoorZ04
noncomputable section
namespace Go.Proofs.YtkinflmjagfapaaDoor
open Go.AM
set_option autoImplicit false
set_option linter.unusedVariables false
set_option maxRecDepth 100000
noncomputable def bl:ay:=tab (P:=Tryd.prog) [] [oV,jL,md,yK,xE] [] [xA,pJ]
def gL:IR:=Cn 62 (Sq (.reg [Mv 72 2,Nk 73 72,Fo [1] [] (.ld 74 1 false false 73),Mv 75 0,Mv 76 2,Nk 77 76,Fo [1] [] (.ld 78 1 false false 77),Ll 79 78,Fo [] [0] (.call 80 45 [75,79]),Ix 81 .str 74 80,Lq 82 81,Ca 83 48 [82],Fo [] [2] (.st none 5 6 83)] [[],[0],[0,1],[],[],[4],[4,5],[4,5,6],rg 3 7,rg 0 8,rg 0 9,rg 0 10,rg 0 11]) .ret) .skip
def nK:IR:=Rs [Mv 84 2,Nk 85 84,Lo 86 85,Ll 87 86,Bc 88 .rem 87 26,Pp (.bin 89 .add (kI 97) 88),Pp (.cvi 90 .u8 89),Pp (.bsl 91 .u8 [90] true),Pp (.b2s 92 91),Pp (.bin 93 .add (kS [78]) 92),Mv 9 93] (Rs [Mv 94 2,Mv 95 2,Nk 96 95,Pp (.ld 97 1 false true 96),Mv 98 9,Pp (.bsl 99 .str [98] true),Pp (.app 100 .str (.tk 97) 99),Nk 101 94,Sk 1 101 100] (Sq (.block 1 (Rs [Mv 103 7,Bc 104 .eql 103 15,Mv 102 104] (Cn 102 (Rs [Pp (.bsl 105 .str [kS [116,121,112,101],kS [110,97,109,101],kS [115,105,122,101]] true),Ca 106 48 [kS [102,105,120,101,100]],Mv 107 9,Ca 108 48 [107],Mv 109 0,Ca 110 45 [109,kI 4],Pp (.bld 111 [vI 0,vI 0,vS,fu .jnode true,fu .str true] [(0,1,kI 3),(1,1,110)]),Pp (.bsl 112 .jnode [106,108,111] true),Ca 113 47 [105,112],Sv 5 6 113] .ret) (Rs [Mv 115 7,Bc 116 .eql 115 16,Mv 114 116] (Cn 114 (Rs [Ca 117 48 [kS [88]],Ca 118 48 [kS [89]],Ca 119 48 [kS [90]],Pp (.bsl 120 .jnode [117,118,119] true),Mv 121 0,Ca 122 45 [121,kI 3],Pp (.bin 123 .add (kI 1) 122),Pp (.subl 124 .jnode 120 none (some 123)),Mv 10 124] (Rs [Pp (.bsl 125 .str [kS [116,121,112,101],kS [110,97,109,101],kS [115,121,109,98,111,108,115]] true),Ca 126 48 [kS [101,110,117,109]],Mv 127 9,Ca 128 48 [127],Mv 129 10,Pp (.bld 130 [vI 0,vI 0,vS,fu .jnode true,fu .str true] [(0,1,kI 5),(3,1,129)]),Pp (.bsl 131 .jnode [126,128,130] true),Ca 132 47 [125,131],Pp (.new 11 [vI 0,vI 0,vS,nl .jnode,nl .str]),Sv 5 11 132] (Sq (Rs [Mv 133 0,Ca 134 45 [133,kI 2],Bc 135 .eql 134 0] (Cn 135 (.reg [Fa 136 4 11,Fo [3] [] (.ld 137 1 false false 136),Pp (.bsl 138 .str [kS [100,101,102,97,117,108,116]] true),Pp (.app 139 .str (.tk 137) 138),Fa 140 3 11,Fo [3] [] (.ld 141 1 false false 140),Ca 142 48 [kS [88]],Pp (.bsl 143 .jnode [142] true),Pp (.app 144 .jnode (.tk 141) 143),Fa 145 4 11,Fo [] [3] (.st none 1 145 (.tk 139)),Fa 146 3 11,Fo [] [3] (.st none 1 146 (.tk 144))] [[],[0],[],[0,1,2],[],[4],rg 0 3,[0,1,2,3,6],rg 0 7,rg 0 5,rg 0 9,rg 0 10,rg 0 11]) .skip)) (Rs [Pp (.ld 147 5 true false 11),Sv 5 6 147] .ret)))) .skip))))) (Rs [Mv 148 0,Mv 149 9,Mv 150 1,Mv 151 2,Ca 152 24 [148,149,150,151],Sv 5 6 152] .ret)))
def jE:IR:=.cut [0,1,2,6,7,1000001] 3 nK
def gf:IR:=Rs [Pp (.bsl 22 .str [kS [105,110,116],kS [108,111,110,103],kS [115,116,114,105,110,103],kS [98,121,116,101,115],kS [98,111,111,108,101,97,110],kS [110,117,108,108],kS [102,108,111,97,116],kS [100,111,117,98,108,101]] true),Mv 8 22] (Sq (.block 0 (Rs [Mv 24 7,Bc 25 .lss 24 8,Mv 23 25] (Cn 23 (Rs [Mv 26 8,Mv 27 7,Ix 28 .str 26 27,Lq 29 28,Ca 30 48 [29],Sv 5 6 30] .ret) (Rs [Mv 32 7,Bc 33 .lss 32 10,Mv 31 33] (Cn 31 (Rs [Pp (.bsl 34 .str [kS [116,121,112,101],kS [105,116,101,109,115]] true),Ca 35 48 [kS [97,114,114,97,121]],Mv 36 0,Mv 37 1,Bc 38 .add 37 1,Mv 39 2,Ca 40 46 [36,38,39],Pp (.bsl 41 .jnode [35,40] true),Ca 42 47 [34,41],Sv 5 6 42] .ret) (Rs [Mv 44 7,Bc 45 .eql 44 10,Mv 43 45] (Cn 43 (Rs [Pp (.bsl 46 .str [kS [116,121,112,101],kS [118,97,108,117,101,115]] true),Ca 47 48 [kS [109,97,112]],Mv 48 0,Mv 49 1,Bc 50 .add 49 1,Mv 51 2,Ca 52 46 [48,50,51],Pp (.bsl 53 .jnode [47,52] true),Ca 54 47 [46,53],Sv 5 6 54] .ret) (Rs [Mv 56 7,Bc 57 .lss 56 14,Mv 55 57] (Cn 55 (Rs [Mv 58 0,Mv 59 1,Mv 60 2,Ca 61 84 [58,59,60],Sv 5 6 61] .ret) (Rs [Mv 63 7,Bc 64 .eql 63 14,Mv 65 64,Gt 65 (.mov 66 2),Gt 65 (.nck 67 66),Gt 65 (.ld 68 1 false false 67),Gt 65 (.lenl 69 68),Gt 65 (.bin 70 .gtr 69 (kI 0)),Pa 71 65 70,Mv 62 71] (.cut [0,1,2,6,7,62,1000000] 3 gL))))))))))) jE)
def yr:IR:=Rs [Pp (.new 6 [vI 0,vI 0,vS,nl .jnode,nl .str])] (Rs [Mv 12 0,Ca 13 45 [12,kI 20],Mv 7 13] (Sq (Rs [Mv 14 1,Bc 15 .gtr 14 3,Mv 16 15,Gf 16 (.mov 17 0),Gf 16 (.call 18 83 [17]),Po 19 16 18] (Cn 19 (Rg [Mv 20 7,Bc 21 .rem 20 8,Mv 7 21]) .skip)) (.cut [0,1,2,6,7,1000002] 3 gf)))
def cM:List RV:=[.cell 6 5 true]
theorem yt:FnC Tryd.prog bl [24,45,46,83,84,2000024,2000045,2000046,2000083,2000084] 2 qr Tryd.f46 yr cM:=fnC Tryd.func46
abbrev eO:Type:=(Int×Int×Bs×Int×Bss×Int×Int×Bs×List ak×Bss)
def ec:eO→St:=fun(a,b,c,d,e,f,g,h,i,j)=>{env:=(.ptr 0 0::.int .i64 a::.ptr 1 0::(U 3 (.ptr 2 0::.int .i64 b::(U 145 [])))),hp:=[some [.sl .u8 (.may false) c,.int .i64 d],some [.sl .str .own e],some [.int .i64 f,.int .i64 g,.str h,.sl .jnode .own i,.sl .str .own j]]}
abbrev eP:Type:=(Int×Int×Bool×Bs×Int×Bss×Int×Int×Bs×List ak×Bss)
def cT:eP→St:=fun(b,c,d,e,f,g,h,i,j,k,a)=>{env:=(.ptr 0 0::.int .i64 b::.ptr 1 0::(U 3 (.ptr 2 0::.int .i64 c::(U 54 (.bool d::(U 90 [])))))),hp:=[some [.sl .u8 (.may false) e,.int .i64 f],some [.sl .str .own g],some [.int .i64 h,.int .i64 i,.str j,.sl .jnode .own k,.sl .str .own a]]}
def kC(R:IR→(Ex→St→Ro)→St→Ro):Ex→St→Ro:=(aJ 0 (kseq (R jE) (fin cM)))
abbrev kD:Type:=(Int×Int×Bs×Int×Bss×Int×Int×Bs×List ak×Bss)
def gM:kD→St:=fun(a,b,c,d,e,f,g,h,i,j)=>{env:=(.ptr 0 0::.int .i64 a::.ptr 1 0::(U 3 (.ptr 2 0::.int .i64 b::(U 145 [])))),hp:=[some [.sl .u8 (.may false) c,.int .i64 d],some [.sl .str .own e],some [.int .i64 f,.int .i64 g,.str h,.sl .jnode .own i,.sl .str .own j]]}
def kE(N:Nat):St→Ro:=fun s=>run bl N nK (fin cM) s
def eQ(N:Nat):kD→Ro:=fun(v1,x,h,i,j,_,_,_,_,_)=>
 let x7:=(↑(List.length j):Int)
 let y:=(IntKind.wrap .i64 (97+(Int.tmod x7 26)))
 let z:=fun g0 g1 g2 g3 g4 g5 g6 g7 g8 g9=>(some (.agg [.int .i64 g0,.int .i64 g1,.str g2,.sl .jnode (.may g3) g4,.sl .str (.may g5) g6],[some [.sl .u8 (.may false) g7,.int .i64 g8],some [.sl .str .own g9],some [.int .i64 g0,.int .i64 g1,.str g2,.sl .jnode (.may g3) g4,.sl .str (.may g5) g6]]):Ro)
 chk (decide (List.length ([78]:Bs)+List.length ([(UInt8.ofNat (Int.toNat (IntKind.wrap .u8 y)))]:Bs)≤9223372036854775807)) (
 let v:=(([78]:Bs)++([(UInt8.ofNat (Int.toNat (IntKind.wrap .u8 y)))]:Bs))
 chk (decide ((List.length j+List.length ([v]:Bss))*16≤140737488355328)) (
 let p:=(j++([v]:Bss))
 cond (x==15) (
 ao (aM ([102,105,120,101,100]:Bs)) (fun k=>
 ao (aM v) (fun l=>
 ao (aK h i 4) (fun q=>
 ao (cH true ([([116,121,112,101]:Bs),([110,97,109,101]:Bs),([115,105,122,101]:Bs)]:Bss) true ([⟨k.1,k.2.1,k.2.2.1,k.2.2.2.1,k.2.2.2.2⟩,⟨l.1,l.2.1,l.2.2.1,l.2.2.2.1,l.2.2.2.2⟩,⟨3,q.1,([]:Bs),([]:List ak),([]:Bss)⟩]:List ak)) (fun g=>
 z g.1 g.2.1 g.2.2.1 g.2.2.2.1 g.2.2.2.2.1 g.2.2.2.2.2.1 g.2.2.2.2.2.2 q.2.1 q.2.2 p))))) (
 cond (x==16) (
 ao (aM ([88]:Bs)) (fun c=>
 ao (aM ([89]:Bs)) (fun d=>
 ao (aM ([90]:Bs)) (fun e=>
 ao (aK h i 3) (fun r=>
 let s:=(IntKind.wrap .i64 (1+r.1))
 chk (decide (0≤s)&&decide (s≤(↑(List.length ([⟨c.1,c.2.1,c.2.2.1,c.2.2.2.1,c.2.2.2.2⟩,⟨d.1,d.2.1,d.2.2.1,d.2.2.2.1,d.2.2.2.2⟩,⟨e.1,e.2.1,e.2.2.1,e.2.2.2.1,e.2.2.2.2⟩]:List ak)):Int))) (
 let w:=(List.drop 0 (List.take (Int.toNat s) ([⟨c.1,c.2.1,c.2.2.1,c.2.2.2.1,c.2.2.2.2⟩,⟨d.1,d.2.1,d.2.2.1,d.2.2.2.1,d.2.2.2.2⟩,⟨e.1,e.2.1,e.2.2.1,e.2.2.2.1,e.2.2.2.2⟩]:List ak)))
 ao (aM ([101,110,117,109]:Bs)) (fun m=>
 ao (aM v) (fun n=>
 ao (cH true ([([116,121,112,101]:Bs),([110,97,109,101]:Bs),([115,121,109,98,111,108,115]:Bs)]:Bss) true ([⟨m.1,m.2.1,m.2.2.1,m.2.2.2.1,m.2.2.2.2⟩,⟨n.1,n.2.1,n.2.2.1,n.2.2.2.1,n.2.2.2.2⟩,⟨5,0,([]:Bs),w,([]:Bss)⟩]:List ak)) (fun a=>
 ao (aK r.2.1 r.2.2 2) (fun o=>
 cond (o.1==0) (
 chk ((a.2.2.2.2.2.1&&decide (0<List.length ([([100,101,102,97,117,108,116]:Bs)]:Bss)))&&decide ((List.length a.2.2.2.2.2.2+List.length ([([100,101,102,97,117,108,116]:Bs)]:Bss))*16≤140737488355328)) (
 let t:=(a.2.2.2.2.2.2++([([100,101,102,97,117,108,116]:Bs)]:Bss))
 ao (aM ([88]:Bs)) (fun b=>
 chk ((a.2.2.2.1&&decide (0<List.length ([⟨b.1,b.2.1,b.2.2.1,b.2.2.2.1,b.2.2.2.2⟩]:List ak)))&&decide ((List.length a.2.2.2.2.1+List.length ([⟨b.1,b.2.1,b.2.2.1,b.2.2.2.1,b.2.2.2.2⟩]:List ak))*80≤140737488355328)) (
 let u:=(a.2.2.2.2.1++([⟨b.1,b.2.1,b.2.2.1,b.2.2.2.1,b.2.2.2.2⟩]:List ak))
 some (.agg [.int .i64 a.1,.int .i64 a.2.1,.str a.2.2.1,.sl .jnode (.may false) u,.sl .str (.may false) t],[some [.sl .u8 (.may false) o.2.1,.int .i64 o.2.2],some [.sl .str .own p],some [.int .i64 a.1,.int .i64 a.2.1,.str a.2.2.1,.sl .jnode (.may false) u,.sl .str (.may false) t],some [.int .i64 a.1,.int .i64 a.2.1,.str a.2.2.1,.sl .jnode .own u,.sl .str .own t]]))))) (
 some (.agg [.int .i64 a.1,.int .i64 a.2.1,.str a.2.2.1,.sl .jnode (.may a.2.2.2.1) a.2.2.2.2.1,.sl .str (.may a.2.2.2.2.2.1) a.2.2.2.2.2.2],[some [.sl .u8 (.may false) o.2.1,.int .i64 o.2.2],some [.sl .str .own p],some [.int .i64 a.1,.int .i64 a.2.1,.str a.2.2.1,.sl .jnode (.may a.2.2.2.1) a.2.2.2.2.1,.sl .str (.may a.2.2.2.2.2.1) a.2.2.2.2.2.2],some [.int .i64 a.1,.int .i64 a.2.1,.str a.2.2.1,.sl .jnode (.may a.2.2.2.1) a.2.2.2.2.1,.sl .str (.may a.2.2.2.2.2.1) a.2.2.2.2.2.2]])))))))))))) (
 ao (c9 h i p v v1) (fun f=>
 z f.1 f.2.1 f.2.2.1 false f.2.2.2.1 false f.2.2.2.2.1 f.2.2.2.2.2.1 f.2.2.2.2.2.2.1 f.2.2.2.2.2.2.2)))))
theorem vl(N:Nat):LJ (kE N) gM (eQ N):=fun _=>by kernel_rfl
def ij(N:Nat):St→Ro:=fun s=>run bl N gL (kC (run bl N)) s
def gP(N:Nat)(l:kD→Ro):eP→Ro:=fun(m,n,k,d,e,b,f,g,h,i,j)=>
 cond k (
 let o:=(↑(List.length b):Int)
 ao (aK d e o) (fun c=>
 chk (ixl c.1 b) (
 let p:=List.getD b (Int.toNat c.1) (az .str)
 ao (aM p) (fun a=>
 some (.agg [.int .i64 a.1,.int .i64 a.2.1,.str a.2.2.1,.sl .jnode (.may false) a.2.2.2.1,.sl .str (.may false) a.2.2.2.2],[some [.sl .u8 (.may false) c.2.1,.int .i64 c.2.2],some [.sl .str .own b],some [.int .i64 a.1,.int .i64 a.2.1,.str a.2.2.1,.sl .jnode (.may false) a.2.2.2.1,.sl .str (.may false) a.2.2.2.2]]))))) (
 l (m,n,d,e,b,f,g,h,i,j))
def eR(N:Nat)(x:eP):Ro:=gP N (fun z=>eQ N z) x
def kF(N:Nat):List (Nat×(St→Ro)):=(ca bl N gL (kC (run bl N))++(ca bl N jE (fin cM)++[]))
theorem vm(N:Nat):∀(x:eP),ij N (cT x)=eR N x:=by
 intro x
 have hX:∀C:Nat→St→Ro,bW C bl N gL (kC (bW C bl N)) (cT x)=gP N (fun z=>C 1000001 (gM z)) x:=by
  intro C
  kernel_rfl
 have h:ij N (cT x)=gP N (fun z=>kE N (gM z)) x:=(eX (C:=ic (kF N)) (cE (bb (l:=(kF N)) (by kernel_rfl))) (eW (jJ (cE (fL (bb (l:=(kF N)) (by kernel_rfl)))) rfl)) _).trans ((hX _).trans (by kernel_rfl))
 have e2:(fun z=>kE N (gM z))=(fun z=>eQ N z):=funext fun z=>vl N z
 rw[h,e2]
 rfl
def kG(N:Nat):St→Ro:=fun s=>run bl N gf (fin cM) s
def gQ(N:Nat)(q1:eP→Ro):eO→Ro:=fun(r,d,b,c,a,j,k,l,m,n)=>
 let s:=fun t u v w x y z g7 g8 g9=>(some (.agg [.int .i64 t,.int .i64 u,.str v,.sl .jnode (.may w) x,.sl .str (.may y) z],[some [.sl .u8 (.may false) g7,.int .i64 g8],some [.sl .str .own g9],some [.int .i64 t,.int .i64 u,.str v,.sl .jnode (.may w) x,.sl .str (.may y) z]]):Ro)
 let z1:=fun t=>q1 (r,d,t,b,c,a,j,k,l,m,n)
 cond (decide (d<8)) (
 chk (ixl d ([([105,110,116]:Bs),([108,111,110,103]:Bs),([115,116,114,105,110,103]:Bs),([98,121,116,101,115]:Bs),([98,111,111,108,101,97,110]:Bs),([110,117,108,108]:Bs),([102,108,111,97,116]:Bs),([100,111,117,98,108,101]:Bs)]:Bss)) (
 let x1:=List.getD ([([105,110,116]:Bs),([108,111,110,103]:Bs),([115,116,114,105,110,103]:Bs),([98,121,116,101,115]:Bs),([98,111,111,108,101,97,110]:Bs),([110,117,108,108]:Bs),([102,108,111,97,116]:Bs),([100,111,117,98,108,101]:Bs)]:Bss) (Int.toNat d) (az .str)
 ao (aM x1) (fun o=>
 s o.1 o.2.1 o.2.2.1 false o.2.2.2.1 false o.2.2.2.2 b c a))) (
 cond (decide (d<10)) (
 ao (aM ([97,114,114,97,121]:Bs)) (fun p=>
 let x2:=(IntKind.wrap .i64 (r+1))
 ao (bK b c a x2) (fun e=>
 ao (cH true ([([116,121,112,101]:Bs),([105,116,101,109,115]:Bs)]:Bss) true ([⟨p.1,p.2.1,p.2.2.1,p.2.2.2.1,p.2.2.2.2⟩,⟨e.1,e.2.1,e.2.2.1,e.2.2.2.1,e.2.2.2.2.1⟩]:List ak)) (fun h=>
 s h.1 h.2.1 h.2.2.1 h.2.2.2.1 h.2.2.2.2.1 h.2.2.2.2.2.1 h.2.2.2.2.2.2 e.2.2.2.2.2.1 e.2.2.2.2.2.2.1 e.2.2.2.2.2.2.2)))) (
 cond (d==10) (
 ao (aM ([109,97,112]:Bs)) (fun q=>
 let x3:=(IntKind.wrap .i64 (r+1))
 ao (bK b c a x3) (fun f=>
 ao (cH true ([([116,121,112,101]:Bs),([118,97,108,117,101,115]:Bs)]:Bss) true ([⟨q.1,q.2.1,q.2.2.1,q.2.2.2.1,q.2.2.2.2⟩,⟨f.1,f.2.1,f.2.2.1,f.2.2.2.1,f.2.2.2.2.1⟩]:List ak)) (fun i=>
 s i.1 i.2.1 i.2.2.1 i.2.2.2.1 i.2.2.2.2.1 i.2.2.2.2.2.1 i.2.2.2.2.2.2 f.2.2.2.2.2.1 f.2.2.2.2.2.2.1 f.2.2.2.2.2.2.2)))) (
 cond (decide (d<14)) (
 ao (fI b c a r) (fun g=>
 s g.1 g.2.1 g.2.2.1 false g.2.2.2.1 false g.2.2.2.2.1 g.2.2.2.2.2.1 g.2.2.2.2.2.2.1 g.2.2.2.2.2.2.2)) (
 cond (d==14) (
 let x4:=(↑(List.length a):Int)
 z1 (decide (0<x4))) (
 z1 false)))))
def ik(N:Nat)(x:eO):Ro:=gQ N (fun z=>eR N z) x
def pj(N:Nat):List (Nat×(St→Ro)):=(ca bl N gf (fin cM)++[])
theorem vn(N:Nat):∀(x:eO),kG N (ec x)=ik N x:=by
 intro x
 have hX:∀C:Nat→St→Ro,bW C bl N gf (fin cM) (ec x)=gQ N (fun z=>C 1000000 (cT z)) x:=by
  intro C
  kernel_rfl
 have h:kG N (ec x)=gQ N (fun z=>ij N (cT z)) x:=(eX (C:=ic (pj N)) (cE (bb (l:=(pj N)) (by kernel_rfl))) rfl _).trans ((hX _).trans (by kernel_rfl))
 have e1:(fun z=>ij N (cT z))=(fun z=>eR N z):=funext fun z=>vm N z
 rw[h,e1]
 rfl
def fJ(N:Nat)(c:Bs)(d:Int)(e:Bss)(g:Int)(h:eO→Ro):Ro:=
 let f:=fun i j k=>h (g,i,j,k,e,0,0,([]:Bs),([]:List ak),([]:Bss))
 ao (aK c d 20) (fun b=>
 cond (decide (3<g)) (
 f (Int.tmod b.1 8) b.2.1 b.2.2) (
 ao (gr b.2.1 b.2.2) (fun a=>
 cond a.1 (
 f (Int.tmod b.1 8) a.2.1 a.2.2) (
 f b.1 a.2.1 a.2.2))))
def qe(N:Nat)(a:Bs)(b:Int)(c:Bss)(d:Int):Ro:=fJ N a b c d (fun z=>ik N z)
theorem wU(N:Nat)(a:Bs)(c:Int)(d:Bss)(g:Int)(h:Tot (qe N a c d g) (fun z=>∃(i:Int)(j:Int)(k:Bs)(l:List ak)(m:Bss)(n:Bs)(o:Int)(p:Bss)(rest:List aq),z.1.dimR=.agg [.int .i64 i,.int .i64 j,.str k,.sl .jnode (.may false) l,.sl .str (.may false) m]∧z.2=some [.sl .u8 (.may false) n,.int .i64 o]::some [.sl .str .own p]::rest∧cR a c d g (i,j,k,l,m,n,o,p))):∃r,bK a c d g r:=FnC.finO (css:=[[.sl .u8 (.may false) a,.int .i64 c],[.sl .str .own d]]) yt (N:=N) ((cn _ (by kernel_rfl) rfl (fun C=>fJ N a c d g (fun z=>C 1000002 (ec z))) (fun C=>by kernel_rfl)).trans (Eq.trans (b:=fJ N a c d g (fun z=>kG N (ec z))) (by kernel_rfl) (congrArg (fJ N a c d g) (funext fun z=>vn N z)))) h fun _ ⟨i,j,k,l,m,n,o,p,_,e,f,q⟩=>⟨(i,j,k,l,m,n,o,p),e,⟨_,f⟩,q⟩
noncomputable def yu:ay:=tab (P:=Tryd.prog) [] [jL,md] [] [pJ]
def wV:IR:=Rs [Pp (.new 6 [vI 0,vI 0,vS,nl .jnode,nl .str])] (Rs [Ca 9 48 [kS [110,117,108,108]],Pp (.bsl 10 .jnode [9] true),Pp (.bld 11 [vI 0,vI 0,vS,nl .jnode,nl .str] [(0,1,kI 5),(3,1,10)]),Pp (.new 7 [vI 0,vI 0,vS,nl .jnode,nl .str]),Sv 5 7 11] (Sq (Rs [Mv 12 0,Ca 13 45 [12,kI 2],Bc 14 .eql 13 0] (Cn 14 (.reg [Fa 15 3 7,Fo [3] [] (.ld 16 1 false false 15),Pp (.bsl 17 .str [kS [105,110,116],kS [115,116,114,105,110,103]] true),Mv 18 0,Fo [] [0] (.call 19 45 [18,kI 2]),Ix 20 .str 17 19,Lq 21 20,Ca 22 48 [21],Pp (.bsl 23 .jnode [22] true),Pp (.app 24 .jnode (.tk 16) 23),Fa 25 3 7,Fo [] [3] (.st none 1 25 (.tk 24))] [[],[0],[],[],[3],[2,3,4],rg 2 5,rg 2 6,rg 2 7,rg 0 8,rg 0 9,rg 0 10]) .skip)) (Rs [Mv 26 0,Mv 27 1,Bc 28 .add 27 1,Mv 29 2,Ca 30 46 [26,28,29],Pp (.alr 8 5),Fz 8 5 30] (Sq (Rs [Fa 31 0 8,Lq 32 31,Bc 33 .eql 32 6] (Cn 33 (Rg [Fa 34 3 7,Pp (.ld 35 1 false true 34),Ld 36 5 true 8,Pp (.bsl 37 .jnode [36] true),Pp (.app 38 .jnode (.tk 35) 37),Fa 39 3 7,Sk 1 39 38]) .skip)) (Rs [Pp (.ld 40 5 true false 7),Sv 5 6 40] .ret)))))
def wW:List RV:=[.cell 6 5 true]
theorem wX:FnC Tryd.prog yu [45,46,2000045,2000046] 2 pQ Tryd.f84 wV wW:=fnC Tryd.func84
def pk(N:Nat)(f:Bs)(g:Int)(e:Bss)(l:Int):Ro:=
 let i:=fun m n q r s t=>(some (.agg [.int .i64 5,.int .i64 0,.str ([]:Bs),.sl .jnode (.may m) n,.sl .str (.may false) ([]:Bss)],[some [.sl .u8 (.may false) q,.int .i64 r],some [.sl .str .own s],some [.int .i64 5,.int .i64 0,.str ([]:Bs),.sl .jnode (.may m) n,.sl .str (.may false) ([]:Bss)],some [.int .i64 5,.int .i64 0,.str ([]:Bs),t,.sl .str .own ([]:Bss)]]):Ro)
 ao (aM ([110,117,108,108]:Bs)) (fun a=>
 ao (aK f g 2) (fun h=>
 cond (h.1==0) (
 ao (aK h.2.1 h.2.2 2) (fun j=>
 chk (ixl j.1 ([([105,110,116]:Bs),([115,116,114,105,110,103]:Bs)]:Bss)) (
 let u:=List.getD ([([105,110,116]:Bs),([115,116,114,105,110,103]:Bs)]:Bss) (Int.toNat j.1) (az .str)
 ao (aM u) (fun d=>
 chk ((true&&decide (0<List.length ([⟨d.1,d.2.1,d.2.2.1,d.2.2.2.1,d.2.2.2.2⟩]:List ak)))&&decide ((List.length ([⟨a.1,a.2.1,a.2.2.1,a.2.2.2.1,a.2.2.2.2⟩]:List ak)+List.length ([⟨d.1,d.2.1,d.2.2.1,d.2.2.2.1,d.2.2.2.2⟩]:List ak))*80≤140737488355328)) (
 let k:=(([⟨a.1,a.2.1,a.2.2.1,a.2.2.2.1,a.2.2.2.2⟩]:List ak)++([⟨d.1,d.2.1,d.2.2.1,d.2.2.2.1,d.2.2.2.2⟩]:List ak))
 let v:=(IntKind.wrap .i64 (l+1))
 ao (bK j.2.1 j.2.2 e v) (fun c=>
 cond (c.1==6) (
 chk (decide ((List.length k+List.length ([⟨c.1,c.2.1,c.2.2.1,c.2.2.2.1,c.2.2.2.2.1⟩]:List ak))*80≤140737488355328)) (
 let o:=(k++([⟨c.1,c.2.1,c.2.2.1,c.2.2.2.1,c.2.2.2.2.1⟩]:List ak))
 i false o c.2.2.2.2.2.1 c.2.2.2.2.2.2.1 c.2.2.2.2.2.2.2 (.sl .jnode .own o))) (
 i false k c.2.2.2.2.2.1 c.2.2.2.2.2.2.1 c.2.2.2.2.2.2.2 (.sl .jnode .own k)))))))) (
 let w:=(IntKind.wrap .i64 (l+1))
 ao (bK h.2.1 h.2.2 e w) (fun b=>
 cond (b.1==6) (
 chk ((true&&decide (0<List.length ([⟨b.1,b.2.1,b.2.2.1,b.2.2.2.1,b.2.2.2.2.1⟩]:List ak)))&&decide ((List.length ([⟨a.1,a.2.1,a.2.2.1,a.2.2.2.1,a.2.2.2.2⟩]:List ak)+List.length ([⟨b.1,b.2.1,b.2.2.1,b.2.2.2.1,b.2.2.2.2.1⟩]:List ak))*80≤140737488355328)) (
 let p:=(([⟨a.1,a.2.1,a.2.2.1,a.2.2.2.1,a.2.2.2.2⟩]:List ak)++([⟨b.1,b.2.1,b.2.2.1,b.2.2.2.1,b.2.2.2.2.1⟩]:List ak))
 i false p b.2.2.2.2.2.1 b.2.2.2.2.2.2.1 b.2.2.2.2.2.2.2 (.sl .jnode .own p))) (
 i true ([⟨a.1,a.2.1,a.2.2.1,a.2.2.2.1,a.2.2.2.2⟩]:List ak) b.2.2.2.2.2.1 b.2.2.2.2.2.2.1 b.2.2.2.2.2.2.2 (.sl .jnode (.may true) ([⟨a.1,a.2.1,a.2.2.1,a.2.2.2.1,a.2.2.2.2⟩]:List ak)))))))
def pl(N:Nat)(a:Bs)(b:Int)(c:Bss)(d:Int):Ro:=pk N a b c d
theorem vo(N:Nat)(a:Bs)(b:Int)(c:Bss)(o:Int)(h:Tot (pl N a b c o) (fun z=>∃(d:Int)(g:Int)(i:Bs)(j:List ak)(k:Bss)(l:Bs)(m:Int)(n:Bss)(rest:List aq),z.1.dimR=.agg [.int .i64 d,.int .i64 g,.str i,.sl .jnode (.may false) j,.sl .str (.may false) k]∧z.2=some [.sl .u8 (.may false) l,.int .i64 m]::some [.sl .str .own n]::rest∧nv a b c o (d,g,i,j,k,l,m,n))):∃r,fI a b c o r:=FnC.finO (css:=[[.sl .u8 (.may false) a,.int .i64 b],[.sl .str .own c]]) wX (N:=N) (by kernel_rfl) h fun _ ⟨d,g,i,j,k,l,m,n,_,e,f,q⟩=>⟨(d,g,i,j,k,l,m,n),e,⟨_,f⟩,q⟩
noncomputable def kH:ay:=tab (P:=Tryd.prog) [] [jL,md,uC] [] [xA,pJ]
def mM:IR:=Sq (Rs [Mv 17 10,Mv 18 11,Bi 19 .lss 17 18] (Cn 19 .skip (.exit 0))) (Sq (.block 1 (Rs [Mv 22 0,Mv 23 2,Bc 24 .add 23 1,Mv 25 3,Ca 26 46 [22,24,25],Pp (.alr 12 5),Fz 12 5 26] (Sq (.reg [Pp (.bsl 27 .str [kS [110,97,109,101],kS [116,121,112,101]] true),Mv 28 10,Pp (.bin 29 .add (kI 97) 28),Pp (.cvi 30 .u8 29),Pp (.bsl 31 .u8 [30] true),Pp (.b2s 32 31),Pp (.bin 33 .add (kS [102]) 32),Ca 34 48 [33],Ld 35 5 true 12,Pp (.bsl 36 .jnode [34,35] true),Ca 37 47 [27,36],Pp (.new 13 [vI 0,vI 0,vS,nl .jnode,nl .str]),Fo [] [4] (.st none 5 13 37)] [[],[],[1],[1,2],[1,2,3],rg 1 4,rg 1 5,rg 1 6,[],rg 1 8,rg 0 9,[],rg 0 11]) (Sq (Rs [Mv 38 0,Ca 39 45 [38,kI 3],Bc 40 .eql 39 0] (Cn 40 (.reg [Fa 41 4 13,Fo [4] [] (.ld 42 1 false false 41),Pp (.bsl 43 .str [kS [100,101,102,97,117,108,116]] true),Pp (.app 44 .str (.tk 42) 43),Fa 45 3 13,Fo [4] [] (.ld 46 1 false false 45),Mv 47 0,Ld 48 5 true 12,Fo [] [0] (.call 49 49 [47,48]),Pp (.bsl 50 .jnode [49] true),Pp (.app 51 .jnode (.tk 46) 50),Fa 52 4 13,Fo [] [4] (.st none 1 52 (.tk 44)),Fa 53 3 13,Fo [] [4] (.st none 1 53 (.tk 51))] [[],[0],[],[0,1,2],[],[4],[],[],[0,1,2,3,6,7],[0,1,2,3,6,7,8],rg 0 9,rg 0 5,rg 0 11,rg 0 12,rg 0 13]) .skip)) (Rg [Fa 54 3 9,Pp (.ld 55 1 false true 54),Pp (.ld 56 5 true false 13),Pp (.bsl 57 .jnode [56] true),Pp (.app 58 .jnode (.tk 55) 57),Fa 59 3 9,Sk 1 59 58]))))) (Rg [Mv 20 10,Bc 21 .add 20 1,Mv 10 21]))
def mb:IR:=Sq (.reg [Pp (.bsl 60 .str [kS [116,121,112,101],kS [110,97,109,101],kS [110,97,109,101,115,112,97,99,101],kS [102,105,101,108,100,115]] true),Ca 61 48 [kS [114,101,99,111,114,100]],Mv 62 1,Ca 63 48 [62],Ca 64 48 [kS [115]],Fo [3] [] (.ld 65 5 true false 9),Pp (.bsl 66 .jnode [61,63,64,65] true),Ca 67 47 [60,66],Fo [] [2] (.st none 5 8 67)] [[],[],[],[1,2],[1,2,3],[],rg 1 5,rg 0 6,rg 0 7]) .ret
def vp:IR:=Rs [Pp (.new 8 [vI 0,vI 0,vS,nl .jnode,nl .str])] (Rs [Pp (.bld 14 [vI 0,vI 0,vS,nl .jnode,nl .str] [(0,1,kI 5)]),Pp (.new 9 [vI 0,vI 0,vS,nl .jnode,nl .str]),Sv 5 9 14] (Sq (Rs [Mv 15 0,Ca 16 45 [15,kI 5],Mi 10 0,Mv 11 16] (.block 0 (.loop [0,1,2,3,8,9,10,11,1000000] 4 mM))) mb))
def oJ:List RV:=[.cell 8 5 true]
theorem vq:FnC Tryd.prog kH [45,46,49,2000045,2000046,2000049] 2 oQ Tryd.f24 vp oJ:=fnC Tryd.func24
def tY(R:IR→(Ex→St→Ro)→St→Ro)(a:St→Ro):Ex→St→Ro:=(bO a [0,1,2,3,8,9,10,11,1000000] 4 (aJ 0 (kseq (R mb) (fin oJ))))
abbrev gg:Type:=(Bs×Int×Int×Int×Bs×Int×Bss×Int×Int×Bs×List ak×Bss×Int×Int×Bs×List ak×Bss)
def fD:gg→St:=fun(h,i,j,k,l,m,n,o,p,q,a,b,c,d,e,f,g)=>{env:=(.ptr 0 0::.str h::.int .i64 i::.ptr 1 0::(U 4 (.ptr 2 0::.ptr 3 0::.int .i64 j::.int .i64 k::(U 56 [])))),hp:=[some [.sl .u8 (.may false) l,.int .i64 m],some [.sl .str .own n],some [.int .i64 o,.int .i64 p,.str q,.sl .jnode .own a,.sl .str .own b],some [.int .i64 c,.int .i64 d,.str e,.sl .jnode .own f,.sl .str .own g]]}
def jF(N:Nat):(St→Ro)→St→Ro:=fun a s=>run kH N mM (tY (run kH N) a) s
def gi(N:Nat)(j:gg→Ro):gg→Ro:=fun(z,v2,k,o,l,m,n,p,q,r,s,t,f,g,h,c,i)=>
 let z0:=fun g0 g1 g2 g3 g4=>j (z,v2,g0,o,g1,g2,g3,p,q,r,s,t,f,g,h,g4,i)
 cond (decide (k<o)) (
 let x1:=(IntKind.wrap .i64 (v2+1))
 ao (bK l m n x1) (fun e=>
 let x2:=(IntKind.wrap .i64 (97+k))
 chk (decide (List.length ([102]:Bs)+List.length ([(UInt8.ofNat (Int.toNat (IntKind.wrap .u8 x2)))]:Bs)≤9223372036854775807)) (
 let x3:=(([102]:Bs)++([(UInt8.ofNat (Int.toNat (IntKind.wrap .u8 x2)))]:Bs))
 ao (aM x3) (fun u=>
 ao (cH true ([([110,97,109,101]:Bs),([116,121,112,101]:Bs)]:Bss) true ([⟨u.1,u.2.1,u.2.2.1,u.2.2.2.1,u.2.2.2.2⟩,⟨e.1,e.2.1,e.2.2.1,e.2.2.2.1,e.2.2.2.2.1⟩]:List ak)) (fun b=>
 ao (aK e.2.2.2.2.2.1 e.2.2.2.2.2.2.1 3) (fun v=>
 cond (v.1==0) (
 chk ((b.2.2.2.2.2.1&&decide (0<List.length ([([100,101,102,97,117,108,116]:Bs)]:Bss)))&&decide ((List.length b.2.2.2.2.2.2+List.length ([([100,101,102,97,117,108,116]:Bs)]:Bss))*16≤140737488355328)) (
 let x4:=(b.2.2.2.2.2.2++([([100,101,102,97,117,108,116]:Bs)]:Bss))
 ao (dL v.2.1 v.2.2 e.1 e.2.1 e.2.2.1 e.2.2.2.1 e.2.2.2.2.1) (fun d=>
 chk ((b.2.2.2.1&&decide (0<List.length ([⟨d.1,d.2.1,d.2.2.1,d.2.2.2.1,d.2.2.2.2.1⟩]:List ak)))&&decide ((List.length b.2.2.2.2.1+List.length ([⟨d.1,d.2.1,d.2.2.1,d.2.2.2.1,d.2.2.2.2.1⟩]:List ak))*80≤140737488355328)) (
 let x5:=(b.2.2.2.2.1++([⟨d.1,d.2.1,d.2.2.1,d.2.2.2.1,d.2.2.2.2.1⟩]:List ak))
 chk (decide ((List.length c+List.length ([⟨b.1,b.2.1,b.2.2.1,x5,x4⟩]:List ak))*80≤140737488355328)) (
 let x6:=(c++([⟨b.1,b.2.1,b.2.2.1,x5,x4⟩]:List ak))
 let x7:=(IntKind.wrap .i64 (k+1))
 z0 x7 d.2.2.2.2.2.1 d.2.2.2.2.2.2 e.2.2.2.2.2.2.2 x6))))) (
 chk (decide ((List.length c+List.length ([⟨b.1,b.2.1,b.2.2.1,b.2.2.2.2.1,b.2.2.2.2.2.2⟩]:List ak))*80≤140737488355328)) (
 let x8:=(c++([⟨b.1,b.2.1,b.2.2.1,b.2.2.2.2.1,b.2.2.2.2.2.2⟩]:List ak))
 let x9:=(IntKind.wrap .i64 (k+1))
 z0 x9 v.2.1 v.2.2 e.2.2.2.2.2.2.2 x8)))))))) (
 ao (aM ([114,101,99,111,114,100]:Bs)) (fun w=>
 ao (aM z) (fun x=>
 ao (aM ([115]:Bs)) (fun y=>
 ao (cH true ([([116,121,112,101]:Bs),([110,97,109,101]:Bs),([110,97,109,101,115,112,97,99,101]:Bs),([102,105,101,108,100,115]:Bs)]:Bss) true ([⟨w.1,w.2.1,w.2.2.1,w.2.2.2.1,w.2.2.2.2⟩,⟨x.1,x.2.1,x.2.2.1,x.2.2.2.1,x.2.2.2.2⟩,⟨y.1,y.2.1,y.2.2.1,y.2.2.2.1,y.2.2.2.2⟩,⟨f,g,h,c,i⟩]:List ak)) (fun a=>
 some (.agg [.int .i64 a.1,.int .i64 a.2.1,.str a.2.2.1,.sl .jnode (.may a.2.2.2.1) a.2.2.2.2.1,.sl .str (.may a.2.2.2.2.2.1) a.2.2.2.2.2.2],[some [.sl .u8 (.may false) l,.int .i64 m],some [.sl .str .own n],some [.int .i64 a.1,.int .i64 a.2.1,.str a.2.2.1,.sl .jnode (.may a.2.2.2.1) a.2.2.2.2.1,.sl .str (.may a.2.2.2.2.2.1) a.2.2.2.2.2.2],some [.int .i64 f,.int .i64 g,.str h,.sl .jnode .own c,.sl .str .own i]]))))))
theorem sW(N:Nat):LB (jF N) fD (gi N):=fun _ _=>by kernel_rfl
def ee(N:Nat)(a:Bs)(b:Int)(c:Bss)(e:Bs)(f:Int)(g:gg→Ro):Ro:=
 ao (aK a b 5) (fun d=>
 g (e,f,0,d.1,d.2.1,d.2.2,c,0,0,([]:Bs),([]:List ak),([]:Bss),5,0,([]:Bs),([]:List ak),([]:Bss)))
def oK(N:Nat)(a:Bs)(b:Int)(c:Bss)(d:Bs)(e:Int):Ro:=ee N a b c d e (fun z=>aT N (gi N) z)
theorem tZ(N:Nat)(a:Bs)(c:Int)(d:Bss)(g:Bs)(i:Int)(h:Tot (oK N a c d g i) (fun z=>∃(j:Int)(k:Int)(l:Bs)(m:List ak)(n:Bss)(o:Bs)(p:Int)(s:Bss)(rest:List aq),z.1.dimR=.agg [.int .i64 j,.int .i64 k,.str l,.sl .jnode (.may false) m,.sl .str (.may false) n]∧z.2=some [.sl .u8 (.may false) o,.int .i64 p]::some [.sl .str .own s]::rest∧mo a c d g i (j,k,l,m,n,o,p,s))):∃r,c9 a c d g i r:=FnC.finO (css:=[[.sl .u8 (.may false) a,.int .i64 c],[.sl .str .own d]]) vq (N:=N) ((cn _ (by kernel_rfl) rfl (fun C=>ee N a c d g i (fun z=>C 1000000 (fD z))) (fun C=>by kernel_rfl)).trans (Eq.trans (b:=ee N a c d g i (fun z=>bh N (jF N) (fD z))) (by kernel_rfl) (congrArg (ee N a c d g i) (funext fun z=>bj (fD) (jF N) (gi N) (sW N) N z)))) h fun _ ⟨j,k,l,m,n,o,p,s,_,e,f,q⟩=>⟨(j,k,l,m,n,o,p,s),e,⟨_,f⟩,q⟩
noncomputable def bm:ay:=tab (P:=Tryd.prog) [] [jL] [] [pJ,afV]
def ef:IR:=Cn 12 (Rs [Mv 17 0,Ca 18 45 [17,kI 200],Bc 19 .sub 18 50,Pp (.bld 20 [vI 0,vI 0,vS,nl .jnode,nl .str] [(0,1,kI 3),(1,1,19)]),Sv 5 4 20] .ret) (Sq (Rs [Pp (.bin 22 .eql 11 (kS [115,116,114,105,110,103])),Mv 21 22] (Cn 21 .skip (Rg [Pp (.bin 23 .eql 11 (kS [98,121,116,101,115])),Mv 21 23]))) (Cn 21 (Rs [Pp (.bsl 24 .str [kS [],kS [100],kS [195,164]] true),Mv 25 0,Ca 26 45 [25,kI 3],Ix 27 .str 24 26,Lq 28 27,Ca 29 48 [28],Sv 5 4 29] .ret) (Rs [Pp (.bin 31 .eql 11 (kS [98,111,111,108,101,97,110])),Mv 30 31] (Cn 30 (Rs [Mv 32 0,Ca 33 45 [32,kI 2],Pp (.bld 34 [vI 0,vI 0,vS,nl .jnode,nl .str] [(0,1,kI 2),(1,1,33)]),Sv 5 4 34] .ret) (Rs [Pp (.bin 36 .eql 11 (kS [110,117,108,108])),Mv 35 36] (Cn 35 (Rs [Pp (.bld 37 [vI 0,vI 0,vS,nl .jnode,nl .str] [(0,1,kI 1)]),Sv 5 4 37] .ret) .skip))))))
def hZ:IR:=Sq (Rs [Fa 38 0 3,Lq 39 38,Bc 40 .eql 39 5] (Cn 40 (Rs [Pp (.bld 41 [vI 0,vI 0,vS,nl .jnode,nl .str] [(0,1,kI 1)]),Sv 5 4 41] .ret) .skip)) (Rs [Ld 43 5 true 3,Ca 44 85 [43,kS [116,121,112,101]],Mv 42 44,Ex_ 45 0 42,Ex_ 46 1 42,Pp (.alr 5 5),Fz 5 5 45,Mv 6 46] (Sq (Rs [Fa 47 2 5,Lq 48 47] (.block 1 (Rs [Pp (.bin 50 .eql 48 (kS [97,114,114,97,121])),Mv 49 50] (Cn 49 (Rs [Pp (.bld 51 [vI 0,vI 0,vS,nl .jnode,nl .str] [(0,1,kI 5)]),Sv 5 4 51] .ret) (Rs [Pp (.bin 53 .eql 48 (kS [101,110,117,109])),Mv 52 53] (Cn 52 (Rs [Ca 54 48 [kS [88]],Sv 5 4 54] .ret) .skip)))))) (Rs [Pp (.bld 55 [vI 0,vI 0,vS,nl .jnode,nl .str] [(0,1,kI 6)]),Sv 5 4 55] .ret)))
def ia:IR:=.cut [3,4,1000001] 2 hZ
def t6:IR:=Rs [Bx 3 1,Pp (.new 4 [vI 0,vI 0,vS,nl .jnode,nl .str])] (Sq (Rs [Fa 7 0 3,Lq 8 7,Bc 9 .eql 8 4] (Cn 9 (Rs [Fa 10 2 3,Lq 11 10] (.block 0 (Sq (Rs [Pp (.bin 13 .eql 11 (kS [105,110,116])),Mv 12 13] (Cn 12 .skip (Rs [Pp (.bin 14 .eql 11 (kS [108,111,110,103])),Mv 12 14] (Cn 12 .skip (Rs [Pp (.bin 15 .eql 11 (kS [102,108,111,97,116])),Mv 12 15] (Cn 12 .skip (Rg [Pp (.bin 16 .eql 11 (kS [100,111,117,98,108,101])),Mv 12 16]))))))) (.cut [0,3,4,11,12,1000000] 2 ef)))) .skip)) ia)
def dD:List RV:=[.cell 4 5 true]
theorem t7:FnC Tryd.prog bm [45,2000045] 1 n7 Tryd.f49 t6 dD:=fnC Tryd.func49
abbrev dk:Type:=(Int×Int×Bs×List ak×Bss×Bs×Bool×Bs×Int×Int×Int×Bs×List ak×Bss)
def cX:dk→St:=fun(e,f,g,h,i,j,k,l,m,n,a,b,c,d)=>{env:=(.ptr 0 0::.undef::.undef::.ea [.int .i64 e,.int .i64 f,.str g,.sl .jnode (.may false) h,.sl .str (.may false) i]::.ptr 1 0::(U 6 (.str j::.bool k::(U 43 [])))),hp:=[some [.sl .u8 (.may false) l,.int .i64 m],some [.int .i64 n,.int .i64 a,.str b,.sl .jnode .own c,.sl .str .own d]]}
def iW(R:IR→(Ex→St→Ro)→St→Ro):Ex→St→Ro:=(aJ 0 (kseq (R ia) (fin dD)))
abbrev iX:Type:=(Int×Int×Bs×List ak×Bss×Bs×Int×Int×Int×Bs×List ak×Bss)
def eD:iX→St:=fun(c,d,e,f,g,h,i,j,k,l,a,b)=>{env:=(U 3 (.ea [.int .i64 c,.int .i64 d,.str e,.sl .jnode (.may false) f,.sl .str (.may false) g]::.ptr 1 0::(U 51 []))),hp:=[some [.sl .u8 (.may false) h,.int .i64 i],some [.int .i64 j,.int .i64 k,.str l,.sl .jnode .own a,.sl .str .own b]]}
def iY(N:Nat):St→Ro:=fun s=>run bm N hZ (fin dD) s
def dl(N:Nat):iX→Ro:=fun(a,c,d,e,f,g,h,_,_,_,_,_)=>
 let i:=fun k l m o p q r=>(some (.agg [.int .i64 k,.int .i64 l,.str m,.sl .jnode (.may false) o,.sl .str (.may false) p],[some [.sl .u8 (.may false) g,.int .i64 h],some [.int .i64 k,.int .i64 l,.str m,q,r]]):Ro)
 cond (a==5) (
 i 1 0 ([]:Bs) ([]:List ak) ([]:Bss) (.sl .jnode .own ([]:List ak)) (.sl .str .own ([]:Bss))) (
 ao (lJ a c d e f ([116,121,112,101]:Bs)) (fun n=>
 let s:=decide (n.2.2.1=([97,114,114,97,121]:Bs))
 cond s (
 i 5 0 ([]:Bs) ([]:List ak) ([]:Bss) (.sl .jnode .own ([]:List ak)) (.sl .str .own ([]:Bss))) (
 let j:=decide (n.2.2.1=([101,110,117,109]:Bs))
 cond j (
 ao (aM ([88]:Bs)) (fun b=>
 i b.1 b.2.1 b.2.2.1 b.2.2.2.1 b.2.2.2.2 (.sl .jnode (.may false) b.2.2.2.1) (.sl .str (.may false) b.2.2.2.2))) (
 i 6 0 ([]:Bs) ([]:List ak) ([]:Bss) (.sl .jnode .own ([]:List ak)) (.sl .str .own ([]:Bss))))))
theorem rJ(N:Nat):LJ (iY N) eD (dl N):=fun _=>by kernel_rfl
def iZ(N:Nat):St→Ro:=fun s=>run bm N ef (iW (run bm N)) s
def eE(N:Nat)(y:iX→Ro):dk→Ro:=fun(f,g,h,i,j,c,s,a,b,k,l,m,n,o)=>
 let p:=fun v w x z g4 g5 g6 g7 g8=>(some (.agg [.int .i64 v,.int .i64 w,.str x,.sl .jnode (.may false) z,.sl .str (.may false) g4],[some [.sl .u8 (.may false) g5,.int .i64 g6],some [.int .i64 v,.int .i64 w,.str x,g7,g8]]):Ro)
 cond s (
 ao (aK a b 200) (fun t=>
 let x2:=(IntKind.wrap .i64 (t.1-50))
 p 3 x2 ([]:Bs) ([]:List ak) ([]:Bss) t.2.1 t.2.2 (.sl .jnode .own ([]:List ak)) (.sl .str .own ([]:Bss)))) (
 let x3:=decide (c=([115,116,114,105,110,103]:Bs))
 cond x3 (
 ao (aK a b 3) (fun q=>
 chk (ixl q.1 ([([]:Bs),([100]:Bs),([195,164]:Bs)]:Bss)) (
 let x4:=List.getD ([([]:Bs),([100]:Bs),([195,164]:Bs)]:Bss) (Int.toNat q.1) (az .str)
 ao (aM x4) (fun d=>
 p d.1 d.2.1 d.2.2.1 d.2.2.2.1 d.2.2.2.2 q.2.1 q.2.2 (.sl .jnode (.may false) d.2.2.2.1) (.sl .str (.may false) d.2.2.2.2))))) (
 let x5:=decide (c=([98,121,116,101,115]:Bs))
 cond x5 (
 ao (aK a b 3) (fun r=>
 chk (ixl r.1 ([([]:Bs),([100]:Bs),([195,164]:Bs)]:Bss)) (
 let x6:=List.getD ([([]:Bs),([100]:Bs),([195,164]:Bs)]:Bss) (Int.toNat r.1) (az .str)
 ao (aM x6) (fun e=>
 p e.1 e.2.1 e.2.2.1 e.2.2.2.1 e.2.2.2.2 r.2.1 r.2.2 (.sl .jnode (.may false) e.2.2.2.1) (.sl .str (.may false) e.2.2.2.2))))) (
 let x7:=decide (c=([98,111,111,108,101,97,110]:Bs))
 cond x7 (
 ao (aK a b 2) (fun u=>
 p 2 u.1 ([]:Bs) ([]:List ak) ([]:Bss) u.2.1 u.2.2 (.sl .jnode .own ([]:List ak)) (.sl .str .own ([]:Bss)))) (
 let x8:=decide (c=([110,117,108,108]:Bs))
 cond x8 (
 p 1 0 ([]:Bs) ([]:List ak) ([]:Bss) a b (.sl .jnode .own ([]:List ak)) (.sl .str .own ([]:Bss))) (
 y (f,g,h,i,j,a,b,k,l,m,n,o))))))
def fE(N:Nat)(x:dk):Ro:=eE N (fun z=>dl N z) x
def i9(N:Nat):List (Nat×(St→Ro)):=(ca bm N ef (iW (run bm N))++(ca bm N ia (fin dD)++[]))
theorem rK(N:Nat):∀(x:dk),iZ N (cX x)=fE N x:=by
 intro x
 have hX:∀C:Nat→St→Ro,bW C bm N ef (iW (bW C bm N)) (cX x)=eE N (fun z=>C 1000001 (eD z)) x:=by
  intro C
  kernel_rfl
 have h:iZ N (cX x)=eE N (fun z=>iY N (eD z)) x:=(eX (C:=ic (i9 N)) (cE (bb (l:=(i9 N)) (by kernel_rfl))) (eW (jJ (cE (fL (bb (l:=(i9 N)) (by kernel_rfl)))) rfl)) _).trans ((hX _).trans (by kernel_rfl))
 have e1:(fun z=>iY N (eD z))=(fun z=>dl N z):=funext fun z=>rJ N z
 rw[h,e1]
 rfl
abbrev ja:Type:=(Int×Int×Bs×List ak×Bss×Bs×Int×Int×Int×Bs×List ak×Bss)
def iv:ja→St:=fun(c,d,e,f,g,h,i,j,k,l,a,b)=>{env:=(U 3 (.ea [.int .i64 c,.int .i64 d,.str e,.sl .jnode (.may false) f,.sl .str (.may false) g]::.ptr 1 0::(U 51 []))),hp:=[some [.sl .u8 (.may false) h,.int .i64 i],some [.int .i64 j,.int .i64 k,.str l,.sl .jnode .own a,.sl .str .own b]]}
def mN(N:Nat):St→Ro:=fun s=>run bm N hZ (fin dD) s
def fF(N:Nat):ja→Ro:=fun(b,c,d,e,f,g,h,_,_,_,_,_)=>
 let i:=fun l m n p q r s=>(some (.agg [.int .i64 l,.int .i64 m,.str n,.sl .jnode (.may false) p,.sl .str (.may false) q],[some [.sl .u8 (.may false) g,.int .i64 h],some [.int .i64 l,.int .i64 m,.str n,r,s]]):Ro)
 cond (b==5) (
 i 1 0 ([]:Bs) ([]:List ak) ([]:Bss) (.sl .jnode .own ([]:List ak)) (.sl .str .own ([]:Bss))) (
 ao (lJ b c d e f ([116,121,112,101]:Bs)) (fun o=>
 let j:=decide (o.2.2.1=([97,114,114,97,121]:Bs))
 cond j (
 i 5 0 ([]:Bs) ([]:List ak) ([]:Bss) (.sl .jnode .own ([]:List ak)) (.sl .str .own ([]:Bss))) (
 let k:=decide (o.2.2.1=([101,110,117,109]:Bs))
 cond k (
 ao (aM ([88]:Bs)) (fun a=>
 i a.1 a.2.1 a.2.2.1 a.2.2.2.1 a.2.2.2.2 (.sl .jnode (.may false) a.2.2.2.1) (.sl .str (.may false) a.2.2.2.2))) (
 i 6 0 ([]:Bs) ([]:List ak) ([]:Bss) (.sl .jnode .own ([]:List ak)) (.sl .str .own ([]:Bss))))))
theorem rL(N:Nat):LJ (mN N) iv (fF N):=fun _=>by kernel_rfl
def dE(N:Nat)(c:Bs)(d b e:Int)(a:Bs)(f:List ak)(g:Bss)(l:dk→Ro)(m:ja→Ro):Ro:=
 let h:=fun n=>l (b,e,a,f,g,a,n,c,d,0,0,([]:Bs),([]:List ak),([]:Bss))
 cond (b==4) (
 let o:=decide (a=([105,110,116]:Bs))
 cond o (
 h true) (
 let i:=decide (a=([108,111,110,103]:Bs))
 cond i (
 h true) (
 let j:=decide (a=([102,108,111,97,116]:Bs))
 cond j (
 h true) (
 let k:=decide (a=([100,111,117,98,108,101]:Bs))
 h k)))) (
 m (b,e,a,f,g,c,d,0,0,([]:Bs),([]:List ak),([]:Bss)))
def nL(N:Nat)(a:Bs)(b c d:Int)(e:Bs)(f:List ak)(g:Bss):Ro:=dE N a b c d e f g (fun z=>fE N z) (fun z=>fF N z)
theorem sX(N:Nat)(a:Bs)(c d g:Int)(i:Bs)(j:List ak)(k:Bss)(h:Tot (nL N a c d g i j k) (fun z=>∃(l:Int)(m:Int)(n:Bs)(o:List ak)(p:Bss)(s:Bs)(t:Int)(rest:List aq),z.1.dimR=.agg [.int .i64 l,.int .i64 m,.str n,.sl .jnode (.may false) o,.sl .str (.may false) p]∧z.2=some [.sl .u8 (.may false) s,.int .i64 t]::rest∧cU a c d g i j k (l,m,n,o,p,s,t))):∃r,dL a c d g i j k r:=FnC.finO (css:=[[.sl .u8 (.may false) a,.int .i64 c]]) t7 (N:=N) ((cn _ (by kernel_rfl) rfl (fun C=>dE N a c d g i j k (fun z=>C 1000000 (cX z)) (fun z=>C 1000001 (iv z))) (fun C=>by kernel_rfl)).trans (Eq.trans (b:=dE N a c d g i j k (fun z=>iZ N (cX z)) (fun z=>mN N (iv z))) (by kernel_rfl) (congr (congrArg (dE N a c d g i j k) (funext fun z=>rK N z)) (funext fun z=>rL N z)))) h fun _ ⟨l,m,n,o,p,s,t,_,e,f,q⟩=>⟨(l,m,n,o,p,s,t),e,⟨_,f⟩,q⟩
end Go.Proofs.YtkinflmjagfapaaDoor
end
noncomputable section
namespace Go.Proofs.YtkinflmjagfapaaDoor
open Go.AM
set_option autoImplicit false
set_option linter.unusedVariables false
set_option linter.unusedSimpArgs false
set_option maxRecDepth 100000
def qP(deep:Int):Prop:=∀(ts:List am)(e c0 c1:Int)(c2:List UInt8)(c3:List ak)(c4:List (List UInt8))(space:List UInt8),
 ts.length≤60→bF (.mk c0 c1 c2 c3 c4)→szJ (.mk c0 c1 c2 c3 c4)≤io→(space.length:Int)≤202*deep→∃r,bq ts e c0 c1 c2 c3 c4 space deep r
theorem aP.stuck{ts ts':List am}{e e':Int}(h1:ts.length≤ts'.length)(h2:ts'.length≤60)(he:e'≠0):aP ts e ts' e':=
 ⟨h1,h2,fun h=>absurd h he,fun h=>absurd h he,fun h=>absurd h he,fun h=>absurd h he⟩
structure cY(ts:List am)(e:Int)(t0:am)(at_:Int)(ts2:List am)(e2:Int):Prop where
 len:ts.length≤ts2.length
 cap:ts2.length≤60
 grow:e2=0→at_=ts.length∧aP (ts++[t0]) e ts2 e2
theorem cY.add{ts:List am}{e:Int}{t0:am}(h:ts.length≤60){r:Int×List am×Int}(hr:r=if 60≤ts.length then (0,ts,if e=0 then 3 else e) else ((ts.length:Int),ts++[t0],e)):cY ts e t0 r.1 r.2.1 r.2.2:=by
 by_cases hl:60≤ts.length
 ·rw[if_pos hl] at hr
  subst hr
  exact⟨Nat.le_refl _,h,fun h=>absurd h (nz (by decide))⟩
 ·rw[if_neg hl] at hr
  subst hr
  exact⟨by simp,by simp;omega,fun h=>⟨rfl,aP.refl (by simp;omega)⟩⟩
theorem cY.more{ts ts2 ts3:List am}{e e2 e3:Int}{t0:am}{a:Int}(h:cY ts e t0 a ts2 e2)(h':aP ts2 e2 ts3 e3):cY ts e t0 a ts3 e3:=
 ⟨Nat.le_trans h.len h'.len,h'.cap,fun he=>⟨(h.grow (h'.err he)).1,(h.grow (h'.err he)).2.trans h'⟩⟩
theorem cY.bad{ts ts2:List am}{e e2 e3:Int}{t0:am}{a:Int}(h:cY ts e t0 a ts2 e2)(he:e3≠0):cY ts e t0 a ts2 e3:=
 ⟨h.len,h.cap,fun h'=>absurd h' he⟩
theorem cY.stuck{ts ts2:List am}{e e2:Int}{t0:am}{a:Int}(h:cY ts e t0 a ts2 e2)(he:e2≠0):aP ts e ts2 e2:=aP.stuck h.len h.cap he
theorem cY.range{ts ts2:List am}{e e2:Int}{t0:am}{a:Int}(h:cY ts e t0 a ts2 e2)(he:e2=0):0≤a∧a<ts2.length:=by
 obtain⟨rfl,g⟩:=h.grow he
 have:=g.len
 simp only[List.length_append,List.length_singleton] at this
 omega
theorem cY.done{ts ts2:List am}{e e2:Int}{t0 t:am}{a:Int}(h:cY ts e t0 a ts2 e2)(he:e2=0)(ht:lh ts2.length t)(hs:ahq t0 t)(hx:q8 (ts2.set a.toNat t) a.toNat t):aP ts e (ts2.set a.toNat t) e2:=by
 obtain⟨rfl,g⟩:=h.grow he
 rw[Int.toNat_natCast] at hx ⊢
 exact g.close ht (fun _=>hs) (fun _=>hx)
theorem cY.get{ts ts2:List am}{e e2:Int}{t0:am}{a:Int}(h:cY ts e t0 a ts2 e2)(he:e2=0):ts2[a.toNat]? =some t0:=by
 obtain⟨rfl,g⟩:=h.grow he
 rw[Int.toNat_natCast]
 exact g.at_open he
theorem cY.kept{ts ts2:List am}{e e2:Int}{t0:am}{a:Int}(h:cY ts e t0 a ts2 e2)(ht:lh (ts.length+1) t0)(hf:t0.fields=[]):aP ts e ts2 e2:=by
 by_cases he:e2=0
 ·obtain⟨rfl,g⟩:=h.grow he
  have:=g.len
  have:=g.cap
  simp only[List.length_append,List.length_singleton] at*
  exact(aP.push (by omega) t0 ht hf).trans g
 ·exact h.stuck he
theorem cY.zero{ts ts2:List am}{e e2:Int}{t0:am}{a:Int}(h:cY ts e t0 a ts2 e2)(he:e2=0):a.toNat=ts.length∧ts.length<ts2.length∧(ts=[]→a=0):=by
 obtain⟨rfl,g⟩:=h.grow he
 have:=g.len
 simp only[List.length_append,List.length_singleton] at this
 exact⟨by simp,by omega,fun h=>by rw[h];rfl⟩
theorem cY.leafAt{ts ts2:List am}{e e2:Int}{t0 t:am}{a:Int}(h:cY ts e t0 a ts2 e2)(he:e2=0)(hk:t.kind≤11):At ts 1 a (ts2.set a.toNat t):=by
 have hr:=h.range he
 exact At.leaf (Nat.le_refl _) hr.1 (List.getElem?_set_self (by omega)) hk (h.zero he).2.2
theorem cY.leafAt'{ts ts2:List am}{e e2:Int}{t0:am}{a:Int}(h:cY ts e t0 a ts2 e2)(he:e2=0)(hk:t0.kind≤11):At ts 1 a ts2:=
 At.leaf (Nat.le_refl _) (h.range he).1 (h.get he) hk (h.zero he).2.2
theorem cY.arrAt{ts ts2:List am}{e e2:Int}{t0 t:am}{a:Int}(h:cY ts e t0 a ts2 e2)(he:e2=0)(hk0:¬t0.kind≤11)(hk:t.kind=12∨t.kind=13){n m:Nat}(hn:ts.length<n)(hx:∃b,b≤m∧bZ ts2 n t.items b):At ts (m+1) a (ts2.set a.toNat t):=by
 have hr:=h.range he
 obtain⟨z1,z2,z3⟩:=h.zero he
 obtain⟨b,b1,b2⟩:=hx
 refine⟨by simpa using hr,⟨b+1,by omega,.arr a t b hr.1 (by omega) (List.getElem?_set_self (by omega)) hk ?_⟩,z3⟩
 exact(b2.set (h.get he) (.inr hk0) (.inl (by omega))).low (by omega)
theorem cY.uniAt{ts ts2:List am}{e e2:Int}{t0 t:am}{a:Int}(h:cY ts e t0 a ts2 e2)(he:e2=0)(hk0:¬t0.kind≤11)(hk:t.kind=14){w:Nat→Nat}{m:Nat}(hm:jd w t.branches.length≤m)(hx:∀(k:Nat) c,t.branches[k]? =some c→bZ ts2 (ts.length+1) c (w k)):At ts (m+1) a (ts2.set a.toNat t):=by
 have hr:=h.range he
 obtain⟨z1,z2,z3⟩:=h.zero he
 refine⟨by simpa using hr,⟨_,Nat.succ_le_succ hm,.uni a t w hr.1 (by omega) (List.getElem?_set_self (by omega)) hk fun k c hc=>?_⟩,z3⟩
 exact((hx k c hc).set (h.get he) (.inr hk0) (.inl (by omega))).low (by omega)
theorem zx{w w':Nat→Nat}:∀n,(∀k,k<n→w k=w' k)→jd w n=jd w' n
 |0,_=>rfl
 |n+1,h=>by rw[jd,jd,zx n fun k hk=>h k (by omega),h n (by omega)]
theorem aci:∀(l:List ak)(i:Nat),i<l.length→ch (l.take (i+1))=ch (l.take i)+szJ (l.getD i (az .jnode))
 | [],i,h=>by simp at h
 |c::l,0,h=>by simp[ch]
 |c::l,i+1,h=>by
  have:=aci l i (by simpa using h)
  simp only[List.take_succ_cons,ch,List.getD_cons_succ] at this ⊢
  omega
def aaf(ts2:List am)(n:Nat)(bs:List Int)(m:Nat):Prop:=∃w:Nat→Nat,jd w bs.length≤m∧∀(k:Nat) c,bs[k]? =some c→bZ ts2 n c (w k)
theorem aaf.nil(ts2:List am)(n:Nat):aaf ts2 n [] 0:=⟨fun _=>0,Nat.le_refl _,by simp⟩
theorem aaf.snoc{ts2 ts3:List am}{e2 e3:Int}{n m m':Nat}{bs:List Int}{c:Int}(h:aaf ts2 n bs m)(g:aP ts2 e2 ts3 e3)(he:e3=0)(hc:∃b,b≤m'∧bZ ts3 n c b):aaf ts3 n (bs++[c]) (m+m'):=by
 obtain⟨w,h1,h2⟩:=h
 obtain⟨b,b1,b2⟩:=hc
 refine⟨fun k=>if k=bs.length then b else w k,?_,fun k d hd=>?_⟩
 ·rw[List.length_append,List.length_singleton,jd,if_pos rfl,zx (w':=w) bs.length fun k hk=>if_neg (by omega)]
  omega
 ·rcases Nat.lt_trichotomy k bs.length with hk|hk|hk
  ·rw[List.getElem?_append_left hk] at hd
   simp only[if_neg (show ¬k=bs.length by omega)]
   exact(h2 k d hd).grow g he
  ·subst hk
   rw[List.getElem?_append_right (Nat.le_refl _)] at hd
   simp at hd
   subst hd
   simpa using b2
  ·rw[List.getElem?_eq_none (by simp;omega)] at hd
   cases hd
theorem agR(deep:Int)(hd:1≤deep∧deep≤20)(hT:qP (deep+1))(ts:List am)(e c0 c1:Int)(c2:List UInt8)(c3:List ak)(c4:List (List UInt8))(space:List UInt8)
  (h:ts.length≤60) (hn:bF (.mk c0 c1 c2 c3 c4)) (hz:szJ (.mk c0 c1 c2 c3 c4)≤io) (hs:(space.length:Int)≤202*deep):∃r,eG ts e c0 c1 c2 c3 c4 space deep r:=by
 obtain⟨k1,k2,k3,k4,k5,k6⟩:=hn.kids
 apply tD 2000
 unfold ov dV
 dsimp only
 refine an (yD _ _ _ _ _ _ _ _ _ _ _ _ h) ?_
 rintro r ⟨-,hr⟩
 have ho:=cY.add h hr
 clear hr
 obtain⟨a,ts1,e1⟩:=r
 dsimp only at ho ⊢
 repeat' (first|(with_reducible refine au ?_ ?_<;>(intro hb;(try simp only[bnl] at hb);(try revert hb;intro _)))|with_reducible refine aA ?_ ?_|with_reducible refine ar ?_|(refine an (br _ _ _) ?_;rintro _ ⟨-,rfl⟩;try dsimp only)|fail)
 ·exact⟨_,_,_,_,rfl,rfl,ho.bad (nz (by decide)) |>.stuck (nz (by decide)),fun h=>absurd h (nz (by decide))⟩
 ·exact⟨_,_,_,_,rfl,rfl,ho.bad (nz (by decide)) |>.stuck (nz (by decide)),fun h=>absurd h (nz (by decide))⟩
 rename_i hl1 hl2
 refine ba (fun x=>match x with|(sp,dp,d0,d1,d2,l,d4,a',bs,i,ts2,e2)=>sp=space∧dp=deep∧l=c3∧a'=a∧(bs.length:Int)=i∧i≤(c3.length:Int)∧(∀b∈bs,0≤b∧b<(ts2.length:Int))∧(e2=0→aaf ts2 (ts.length+1) bs (ch (c3.take i.toNat)))∧cY ts e ⟨14,[],[],0,[],false,[],0,[],[]⟩ a ts2 e2) (fun x=>((c3.length:Int)-x.2.2.2.2.2.2.2.2.2.1).toNat) ?_ _ _
  ⟨rfl,rfl,rfl,rfl,rfl,by simp,by simp,fun _=>aaf.nil _ _,ho⟩ (by simp;omega)
 rintro again ⟨sp,dp,d0,d1,d2,l,d4,a',bs,i,ts2,e2⟩ ⟨rfl,rfl,rfl,rfl,i1,i2,i3,ix,i4⟩ ih
 dsimp only at ih
 have ew:i<l.length→IntKind.i64.wrap (i+1)=i+1:=fun h=>ax (i+1) (by omega)
 have ed:IntKind.i64.wrap (dp+1)=dp+1:=ax (dp+1) (by omega)
 unfold fZ fl
 dsimp only
 have fin:e2=0→i=l.length→lh ts2.length (let e_:=List.getD ts2 (Int.toNat a') (az .atype);⟨(e_).kind,(e_).name,(e_).aliases,(e_).items,(e_).syms,(e_).hasdef,(e_).df,(e_).size,(e_).fields,bs⟩):=by
  intro h0 hi
  rw[jB (i4.get h0)]
  have hr:=i4.range h0
  exact⟨⟨by simp,by simp only;omega⟩,by simp,by simp,i3,by simp only;omega,by simp,by simp,by simp,by simp,by simp,fun _=>rfl⟩
 have hat:e2=0→0≤a'∧a'<ts2.length:=fun h0=>i4.range h0
 repeat' (first|(with_reducible refine au ?_ ?_<;>(intro hb;(try simp only[bnl] at hb);(try revert hb;intro _)))|with_reducible refine aA ?_ ?_|with_reducible refine ar ?_|(refine an (br _ _ _) ?_;rintro _ ⟨-,rfl⟩;try dsimp only)|fail)
 all_goals try simp only[ed]
 ·first|(simp only[bnl,lnl];done)|(simp only[bnl,lnl];omega)
 ·have hkid:=bF.eta.2 (bF.getD k6 i.toNat)
  have hkz:=ael l i.toNat (by omega)
  have hkt:=aci l i.toNat (by omega)
  rw[cd] at hz
  refine an (hT _ _ _ _ _ _ _ _ i4.cap hkid (by rw[yB];omega) (by omega)) ?_
  rintro⟨k,ts3,e3⟩ ⟨-,g1,g2⟩
  dsimp only at g1 g2 ⊢
  have i5:=i4.more g1
  have hl3:=g1.len
  rw[yB] at g2
  repeat' (first|(with_reducible refine au ?_ ?_<;>(intro hb;(try simp only[bnl] at hb);(try revert hb;intro _)))|with_reducible refine aA ?_ ?_|with_reducible refine ar ?_|(refine an (br _ _ _) ?_;rintro _ ⟨-,rfl⟩;try dsimp only)|fail)
  ·rename_i he3
   exact⟨_,_,_,_,rfl,rfl,i5.stuck he3,fun h=>absurd h he3⟩
  ·have:=(g2 (by assumption)).1;first|(simp only[bnl,lnl];done)|(simp only[bnl,lnl];omega)
  ·have:=(g2 (by assumption)).1;first|(simp only[bnl,lnl];done)|(simp only[bnl,lnl];omega)
  ·have:=(g2 (by assumption)).1;first|(simp only[bnl,lnl];done)|(simp only[bnl,lnl];omega)
  ·first|(simp only[bnl,lnl];done)|(simp only[bnl,lnl];omega)
  ·exact⟨_,_,_,_,rfl,rfl,(i5.bad (nz (by decide))).stuck (nz (by decide)),fun h=>absurd h (nz (by decide))⟩
  ·rename_i he3 hk
   have g2':=g2 he3
   refine ba (fun x=>match x with|(sp',dp',d0,d1,d2,l',d4,a2,bs',i',k',m,ts4,e4)=>sp'=sp∧dp'=dp∧l'=l∧a2=a'∧bs'=bs∧i'=i∧k'=k∧0≤m∧m≤(bs.length:Int)∧ts4=ts3∧e4=e3) (fun x=>((bs.length:Int)-x.2.2.2.2.2.2.2.2.2.2.2.1).toNat) ?_ _ _
    ⟨rfl,rfl,rfl,rfl,rfl,rfl,rfl,by simp,by simp,rfl,rfl⟩ (by simp;omega)
   rintro again1 ⟨sp',dp',d0',d1',d2',l',d4',a2,bs',i',k',m,ts4,e4⟩ ⟨rfl,rfl,rfl,rfl,rfl,rfl,rfl,j1,j2,rfl,rfl⟩ ih1
   dsimp only at ih1
   have em:m<bs'.length→IntKind.i64.wrap (m+1)=m+1:=fun h=>ax (m+1) (by omega)
   unfold dy
   dsimp only
   repeat' (first|(with_reducible refine au ?_ ?_<;>(intro hb;(try simp only[bnl] at hb);(try revert hb;intro _)))|with_reducible refine aA ?_ ?_|with_reducible refine ar ?_|(refine an (br _ _ _) ?_;rintro _ ⟨-,rfl⟩;try dsimp only)|(refine s7 ?_ (ah7 _ _) ?_;rotate_left;intro _ _)|fail)
   all_goals first|(first|(simp only[bnl,lnl];done)|(simp only[bnl,lnl];omega))|exact⟨_,_,_,_,rfl,rfl,(i5.bad (nz (by decide))).stuck (nz (by decide)),fun h=>absurd h (nz (by decide))⟩|skip
   ·rename_i hm _ _ _ _ _
    refine ih1 (sp',dp',d0',d1',d2',l',d4',a2,bs',i',k',_,ts4,e4) ?_ ?_
    ·simp only[em hm];exact⟨trivial,trivial,trivial,trivial,trivial,trivial,trivial,by omega,by omega,trivial,trivial⟩
    ·simp only[em hm];omega
   ·have hil:i'<l'.length:=by omega
    refine ih (sp',dp',d0',d1',d2',l',d4',a2,_,_,ts4,e4) ?_ ?_
    ·simp only[ew hil,List.length_append,List.length_cons,List.length_nil]
     refine⟨trivial,trivial,trivial,trivial,by omega,by omega,?_,fun h4=>?_,i5⟩
     rotate_left
     ·rw[show (i'+1).toNat=i'.toNat+1 by omega,hkt]
      obtain⟨b,b1,b2⟩:=g2'.2.1
      have he2:e2=0:=g1.err h4
      exact(ix he2).snoc g1 h4 ⟨b,b1,b2.low (by have:=(i4.zero he2).2.1;omega)⟩
     intro b hb
     rcases List.mem_append.1 hb with hb|hb
     ·have:=i3 b hb;omega
     ·simp only[List.mem_singleton] at hb
      subst hb;exact g2'.1
    ·simp only[ew hil];omega
 all_goals first|(exfalso;omega)|skip
 all_goals have hat2:=fun h0=>hat h0
 all_goals first|(first|(simp only[bnl,lnl];done)|(simp only[bnl,lnl];omega))|skip
 ·rename_i h0
  exact⟨_,_,_,_,rfl,rfl,i4.stuck h0,fun h=>absurd h h0⟩
 ·rename_i h0
  have hil:i=l.length:=by omega
  have hr:=i4.range h0
  obtain⟨w,w1,w2⟩:=ix h0
  rw[show i.toNat=l.length by omega,List.take_length] at w1
  have ht:=fin h0 hil
  rw[jB (i4.get h0)] at ht ⊢
  exact⟨_,_,_,_,rfl,rfl,i4.done h0 ht (.inr (by simp)) (.nil rfl),fun _=>by rw[cd];exact i4.uniAt h0 (by simp) rfl w1 w2⟩
 ·rename_i h0
  exact⟨_,_,_,_,rfl,rfl,i4.stuck h0,fun h=>absurd h h0⟩
end Go.Proofs.YtkinflmjagfapaaDoor
end
noncomputable section
namespace Go.Proofs.YtkinflmjagfapaaDoor
open Go.AM
set_option autoImplicit false
set_option linter.unusedVariables false
set_option linter.unusedSimpArgs false
set_option maxRecDepth 100000
theorem vr{l:List (List UInt8)}(h:bk l)(i:Nat):(l.getD i (az .str)).length≤100:=by
 rw[List.getD_eq_getElem?_getD]
 cases hq:l[i]? with
 |none=>exact Nat.zero_le _
 |some y=>exact h y (List.mem_of_getElem? hq)
theorem nh.grow{ts ts':List am}{e e':Int}{i:Nat}{l:List aN}(h:nh ts i l)(g:aP ts e ts' e')(he:e'=0):nh ts' i l:=
 ⟨h.1,fun f hf=>⟨⟨(h.2.1 f hf).1.1,by have:=(h.2.1 f hf).1.2.1;have:=g.len;omega,(h.2.1 f hf).1.2.2⟩,(h.2.1 f hf).2⟩,fun f hf=>by
  obtain⟨b,b1,b2⟩:=h.2.2 f hf
  exact⟨b,b1,b2.grow g he⟩⟩
theorem aga(deep:Int)(hd:1≤deep∧deep≤20)(hT:qP (deep+1))(ts:List am)(e c0 c1:Int)(c2:List UInt8)(c3:List ak)(c4:List (List UInt8))(at_:Int)(space:List UInt8)
  (h:ts.length≤60) (hn:bF (.mk c0 c1 c2 c3 c4)) (hz:szJ (.mk c0 c1 c2 c3 c4)≤io) (hs:(space.length:Int)≤202*deep+201) (hat:e=0→0≤at_∧at_<ts.length):∃r,dM ts e c0 c1 c2 c3 c4 at_ space deep r:=by
 obtain⟨k1,k2,k3,k4,k5,k6⟩:=hn.kids
 apply sQ 2000
 unfold nF dz
 dsimp only
 refine an (kq _ _ _ _ _ _ (by omega)) ?_
 rintro r ⟨-,hr⟩
 have hg:=nJ (k:=c0) (names:=c4) (name:=[102,105,101,108,100,115]) k6
 simp only[bC] at hr
 have hgz:=(yC (k:=c0) (names:=c4) (l:=c3) (name:=[102,105,101,108,100,115])).1
 rw[←hr] at hg hgz
 obtain⟨b0,b1,b2,l,b4,b5⟩:=r
 obtain⟨g1,g2,g3,g4,g5,g6⟩:=hg.kids
 dsimp only at g2 g6 hgz ⊢
 rw[cd] at hz
 rw[cd] at hgz
 have bad:∀c:Int,c≠0→ce ts e c0 c1 c2 c3 c4 at_ space deep (ts,if e=0 then c else e):=fun c hc=>⟨ts,aP.stuck (Nat.le_refl _) h (nz hc),.inl rfl⟩
 repeat' (first|(with_reducible refine au ?_ ?_<;>(intro hb;(try simp only[bnl] at hb);(try revert hb;intro _)))|with_reducible refine aA ?_ ?_|with_reducible refine ar ?_|(refine an (br _ _ _) ?_;rintro _ ⟨-,rfl⟩;try dsimp only)|fail)
 ·exact⟨_,_,_,rfl,rfl,bad 2 (by decide)⟩
 ·exact⟨_,_,_,rfl,rfl,bad 2 (by decide)⟩
 ·exact⟨_,_,_,rfl,rfl,bad 3 (by decide)⟩
 rename_i hl
 refine ba (fun x=>match x with|(a,sp,dp,d0,d1,d2,l',d4,out,i,ts2,e2)=>a=at_∧sp=space∧dp=deep∧l'=l∧(out.length:Int)=i∧i≤(l.length:Int)∧aP ts e ts2 e2∧(e2=0→nh ts2 at_.toNat out)) (fun x=>((l.length:Int)-x.2.2.2.2.2.2.2.2.2.1).toNat) ?_ _ _
  ⟨rfl,rfl,rfl,rfl,rfl,by simp,aP.refl h,fun _=>⟨by simp,by simp,by simp⟩⟩ (by simp;omega)
 rintro again ⟨a,sp,dp,d0,d1,d2,l,d4,out,i,ts2,e2⟩ ⟨rfl,rfl,rfl,rfl,i1,i2,i3,i4⟩ ih
 dsimp only at ih
 have ew:i<l.length→IntKind.i64.wrap (i+1)=i+1:=fun h=>ax (i+1) (by omega)
 have ed:IntKind.i64.wrap (dp+1)=dp+1:=ax (dp+1) (by omega)
 have hat2:e2=0→0≤a∧a<ts2.length:=fun h0=>by
  have:=hat (i3.err h0)
  have:=i3.len
  omega
 unfold fq eB
 dsimp only
 have hkid:=bF.eta.2 (bF.getD g6 i.toNat)
 have hkk:=hkid.kids
 have hkz:i<l.length→szJ (.mk (l.getD i.toNat (az .jnode)).kind (l.getD i.toNat (az .jnode)).n (l.getD i.toNat (az .jnode)).s (l.getD i.toNat (az .jnode)).l (l.getD i.toNat (az .jnode)).names)≤io:=fun hi=>by
  have:=ael l i.toNat (by omega)
  rw[yB];omega
 have inner2:∀(ts3:List am)(e3:Int)(nm:List UInt8)(al:List (List UInt8))(ty:Int)(hd':Bool)(f0 f1:Int)(f2:List UInt8)(f3:List ak)(f4:List (List UInt8)),i<l.length→(nm.length≤100∧im nm)→aP ts e ts3 e3→bk al→al.length≤100→(e3=0→nh ts3 a.toNat out∧(0≤ty∧ty<ts3.length)∧∃b,b≤io∧bZ ts3 a.toNat ty b)→bF (.mk f0 f1 f2 f3 f4)→
   Tot (aT 2000 (bS 2000 again) (a,sp,dp,d0,d1,d2,l,d4,out,i,0,ts3,e3,nm,al,ty,hd',f0,f1,f2,f3,f4)) (fun z=>∃(y0:List am)(y1:Int)(rest:List aq),z.1.dimR=.tup []∧z.2=some [.ul .atype y0,.int .i64 y1]::rest∧ce ts e c0 c1 c2 c3 c4 a sp dp (y0,y1)):=by
  intro ts3 e3 nm al ty hd' f0 f1 f2 f3 f4 hil hnm hgr hal hal2 hty hnd
  refine ba (fun x=>match x with|(a',sp',dp',d0',d1',d2',l',d4',out',i',m,ts4,e4,nm',al',ty',hd2,f0',f1',f2',f3',f4')=>a'=a∧sp'=sp∧dp'=dp∧l'=l∧out'=out∧i'=i∧0≤m∧m≤(al.length:Int)∧aP ts e ts4 e4∧al'=al∧ty'=ty∧(e4=0→nh ts4 a.toNat out∧(0≤ty∧ty<ts4.length)∧∃b,b≤io∧bZ ts4 a.toNat ty b)∧bF (.mk f0' f1' f2' f3' f4')∧nm'=nm) (fun x=>((al.length:Int)-x.2.2.2.2.2.2.2.2.2.2.1).toNat) ?_ _ _
   ⟨rfl,rfl,rfl,rfl,rfl,rfl,by simp,by simp,hgr,rfl,rfl,hty,hnd,rfl⟩ (by simp;omega)
  rintro again2 ⟨a',sp',dp',d0',d1',d2',l',d4',out',i',m,ts4,e4,nm',al',ty',hd2,f0',f1',f2',f3',f4'⟩ ⟨rfl,rfl,rfl,rfl,rfl,rfl,j1,j2,j3,rfl,rfl,j4,j5,rfl⟩ ih2
  dsimp only at ih2
  have em:m<al'.length→IntKind.i64.wrap (m+1)=m+1:=fun h=>ax (m+1) (by omega)
  have out1:Tot (again (a',sp',dp',d0',d1',d2',l',d4',out'++[⟨nm',al',ty',hd2,⟨f0',f1',f2',f3',f4'⟩⟩],IntKind.i64.wrap (i'+1),ts4,e4)) _:=ih (a',sp',dp',d0',d1',d2',l',d4',out'++[⟨nm',al',ty',hd2,⟨f0',f1',f2',f3',f4'⟩⟩],IntKind.i64.wrap (i'+1),ts4,e4)
   (by
    simp only[ew hil,List.length_append,List.length_cons,List.length_nil]
    refine⟨trivial,trivial,trivial,trivial,by omega,by omega,j3,fun h0=>?_⟩
    obtain⟨q1,q2⟩:=j4 h0
    refine⟨by simp;omega,fun f hf=>?_,fun f hf=>?_⟩
    ·rcases List.mem_append.1 hf with hf|hf
     ·exact q1.2.1 f hf
     ·simp only[List.mem_singleton] at hf
      subst hf
      exact⟨⟨q2.1.1,q2.1.2,j5⟩,hnm⟩
    ·rcases List.mem_append.1 hf with hf|hf
     ·exact q1.2.2 f hf
     ·simp only[List.mem_singleton] at hf
      subst hf
      exact q2.2) (by simp only[ew hil];omega)
  have next:∀e5:Int,m<al'.length→aP ts e ts4 e5→(e5=0→e4=0)→Tot (again2 (a',sp',dp',d0',d1',d2',l',d4',out',i',IntKind.i64.wrap (m+1),ts4,e5,nm',al',ty',hd2,f0',f1',f2',f3',f4')) _:=fun e5 hm hg5 he5=>ih2 (a',sp',dp',d0',d1',d2',l',d4',out',i',IntKind.i64.wrap (m+1),ts4,e5,nm',al',ty',hd2,f0',f1',f2',f3',f4')
   (by
    simp only[em hm]
    exact⟨trivial,trivial,trivial,trivial,trivial,trivial,by omega,by omega,hg5,trivial,trivial,fun h0=>j4 (he5 h0),j5,trivial⟩) (by simp only[em hm];omega)
  unfold bS
  dsimp only
  repeat' (first|(with_reducible refine au ?_ ?_<;>(intro hb;(try simp only[bnl] at hb);(try revert hb;intro _)))|with_reducible refine aA ?_ ?_|with_reducible refine ar ?_|(refine an (br _ _ _) ?_;rintro _ ⟨-,rfl⟩;try dsimp only)|(refine an (vh _ ?_) ?_;rotate_left;intro _ _)|fail)
  all_goals first|(first|(simp only[bnl,lnl];done)|(simp only[bnl,lnl];omega))|exact out1|exact next _ (by omega) j3 (fun h=>h)|exact next _ (by omega) (aP.stuck j3.len j3.cap (nz (by decide))) (fun h=>absurd h (nz (by decide)))|skip
  ·have:=vr hal m.toNat;omega
 have inner1:∀(ts3:List am)(e3:Int)(nm:List UInt8),i<l.length→(nm.length≤100∧im nm)→aP ts2 e2 ts3 e3→
   Tot (aT 2000 (cq 2000 again) (a,sp,dp,d0,d1,d2,l,d4,out,i,(List.getD l (Int.toNat i) (az .jnode)).kind,(List.getD l (Int.toNat i) (az .jnode)).n,(List.getD l (Int.toNat i) (az .jnode)).s,(List.getD l (Int.toNat i) (az .jnode)).l,(List.getD l (Int.toNat i) (az .jnode)).names,0,ts3,e3,nm,([]:List (List UInt8)),0,false,0,0,([]:List UInt8),([]:List ak),([]:List (List UInt8)))) (fun z=>∃(y0:List am)(y1:Int)(rest:List aq),z.1.dimR=.tup []∧z.2=some [.ul .atype y0,.int .i64 y1]::rest∧ce ts e c0 c1 c2 c3 c4 a sp dp (y0,y1)):=by
  intro ts3 e3 nm hil hnm hgr
  refine ba (fun x=>match x with|(a',sp',dp',d0',d1',d2',l',d4',out',i',v0,v1,v2,v3,v4,m,ts4,e4,nm',al',ty',hd2,f0',f1',f2',f3',f4')=>a'=a∧sp'=sp∧dp'=dp∧d0'=d0∧d1'=d1∧d2'=d2∧l'=l∧d4'=d4∧out'=out∧i'=i∧(bF (.mk v0 v1 v2 v3 v4)∧szJ (.mk v0 v1 v2 v3 v4)≤io)∧0≤m∧m≤(out.length:Int)∧aP ts2 e2 ts4 e4∧nm'=nm) (fun x=>((out.length:Int)-x.2.2.2.2.2.2.2.2.2.2.2.2.2.2.2.1).toNat) ?_ _ _
   ⟨rfl,rfl,rfl,rfl,rfl,rfl,rfl,rfl,rfl,rfl,⟨hkid,hkz hil⟩,by simp,by simp,hgr,rfl⟩ (by simp;omega)
  rintro again1 ⟨a',sp',dp',d0',d1',d2',l',d4',out',i',v0,v1,v2,v3,v4,m,ts4,e4,nm',al',ty',hd2,f0',f1',f2',f3',f4'⟩ ⟨rfl,rfl,rfl,rfl,rfl,rfl,rfl,rfl,rfl,rfl,⟨hv,hvz⟩,j1,j2,j3,rfl⟩ ih1
  dsimp only at ih1
  have em:m<out'.length→IntKind.i64.wrap (m+1)=m+1:=fun h=>ax (m+1) (by omega)
  have next:∀e5:Int,m<out'.length→aP ts2 e2 ts4 e5→Tot (again1 (a',sp',dp',d0',d1',d2',l',d4',out',i',v0,v1,v2,v3,v4,IntKind.i64.wrap (m+1),ts4,e5,nm',al',ty',hd2,f0',f1',f2',f3',f4')) _:=fun e5 hm hg5=>ih1 (a',sp',dp',d0',d1',d2',l',d4',out',i',v0,v1,v2,v3,v4,IntKind.i64.wrap (m+1),ts4,e5,nm',al',ty',hd2,f0',f1',f2',f3',f4')
   (by
    simp only[em hm]
    exact⟨trivial,trivial,trivial,trivial,trivial,trivial,trivial,trivial,trivial,trivial,⟨hv,hvz⟩,by omega,by omega,hg5,trivial⟩) (by simp only[em hm];omega)
  obtain⟨q1,q2,q3,q4,q5,q6⟩:=hv.kids
  have behind:∀(e5 w0 w1:Int)(w2:List UInt8)(w3:List ak)(w4:List (List UInt8)),bF (.mk w0 w1 w2 w3 w4)→szJ (.mk w0 w1 w2 w3 w4)≤io→aP ts2 e2 ts4 e5→Tot (ao (bq ts4 e5 w0 w1 w2 w3 w4 sp' (dp'+1)) (fun r12=>
      ao (bP v0 v1 v2 v3 v4 ([100,101,102,97,117,108,116]:List UInt8)) (fun r13=>
       ao (bI r12.2.1 r12.2.2 v0 v1 v2 v3 v4 ([97,108,105,97,115,101,115]:List UInt8)) (fun r14=>
        (fun z=>aT 2000 (bS 2000 again) z) (a',sp',dp',d0',d1',d2',l',d4',out',i',0,r14.2.2.1,r14.2.2.2,nm',r14.1,r12.1,r13.2.2.2.2.2,r13.1,r13.2.1,r13.2.2.1,r13.2.2.2.1,r13.2.2.2.2.1))))) (fun z=>∃(y0:List am)(y1:Int)(rest:List aq),z.1.dimR=.tup []∧z.2=some [.ul .atype y0,.int .i64 y1]::rest∧ce ts e c0 c1 c2 c3 c4 a' sp' dp' (y0,y1)):=by
   intro e5 w0 w1 w2 w3 w4 hw hwz hg5
   refine an (hT _ _ _ _ _ _ _ _ j3.cap hw hwz (by omega)) ?_
   rintro⟨k,ts5,e6⟩ ⟨-,x1,x2⟩
   dsimp only at x1 x2 ⊢
   refine an (kq _ _ _ _ _ _ (by omega)) ?_
   rintro r ⟨-,hr⟩
   have hg:=nJ (k:=v0) (names:=v4) (name:=[100,101,102,97,117,108,116]) q6
   simp only[bC] at hr
   rw[←hr] at hg
   refine an (yl _ _ _ _ _ _ _ _ hv) ?_
   rintro⟨al,is,ts6,e7⟩ ⟨-,t1,t2,rfl,t3⟩
   dsimp only at t1 t2 t3 ⊢
   have hgg:=hg5.trans x1
   have g7:aP ts2 e2 ts6 e7:=by
    by_cases h7:e7=0
    ·have h6:=t3 h7
     rw[h6] at hgg
     rw[h7];exact hgg
    ·exact aP.stuck hgg.len hgg.cap h7
   refine inner2 ts6 e7 _ _ _ _ _ _ _ _ _ hil hnm (i3.trans g7) t2 t1 (fun h0=>⟨(i4 (g7.err h0)).grow g7 h0,(x2 (t3 h0)).1,?_⟩) hg
   obtain⟨b,b1,b2⟩:=(x2 (t3 h0)).2.1
   refine⟨b,by omega,b2.low ?_⟩
   have:=hat (i3.err (g7.err h0))
   have:=i3.len
   have:=j3.len
   omega
  unfold cq eA
  dsimp only
  repeat' (first|(with_reducible refine au ?_ ?_<;>(intro hb;(try simp only[bnl] at hb);(try revert hb;intro _)))|with_reducible refine aA ?_ ?_|with_reducible refine ar ?_|(refine an (br _ _ _) ?_;rintro _ ⟨-,rfl⟩;try dsimp only)|fail)
  all_goals first|(first|(simp only[bnl,lnl];done)|(simp only[bnl,lnl];omega))|exact next _ (by omega) j3|exact next _ (by omega) (aP.stuck j3.len j3.cap (nz (by decide)))|skip
  refine an (kq _ _ _ _ _ _ (by omega)) ?_
  rintro r ⟨-,hr⟩
  have hg:=nJ (k:=v0) (names:=v4) (name:=[116,121,112,101]) q6
  simp only[bC] at hr
  have hgz:=(yC (k:=v0) (names:=v4) (l:=v3) (name:=[116,121,112,101])).1
  rw[←hr] at hg hgz
  have hvz2:=hvz
  rw[cd] at hvz2
  repeat' (first|(with_reducible refine au ?_ ?_<;>(intro hb;(try simp only[bnl] at hb);(try revert hb;intro _)))|with_reducible refine aA ?_ ?_|with_reducible refine ar ?_|(refine an (br _ _ _) ?_;rintro _ ⟨-,rfl⟩;try dsimp only)|fail)
  all_goals simp only[ed]
  ·exact behind _ _ _ _ _ _ hg (Nat.le_trans hgz hvz2) (aP.stuck j3.len j3.cap (nz (by decide)))
  ·exact behind _ _ _ _ _ _ hg (Nat.le_trans hgz hvz2) j3
 repeat' (first|(with_reducible refine au ?_ ?_<;>(intro hb;(try simp only[bnl] at hb);(try revert hb;intro _)))|with_reducible refine aA ?_ ?_|with_reducible refine ar ?_|(refine an (br _ _ _) ?_;rintro _ ⟨-,rfl⟩;try dsimp only)|(refine an (z8 _ _ _ _ _ _ _ _ _ hkid) ?_;rintro⟨w,ts3,e3⟩ ⟨-,w1,rfl,w2⟩;dsimp only at w1 w2 ⊢)|fail)
 all_goals first|(first|(simp only[bnl,lnl];done)|(simp only[bnl,lnl];omega))|skip
 ·exact⟨_,_,_,rfl,rfl,_,aP.stuck i3.len i3.cap (nz (by decide)),.inl rfl⟩
 ·rename_i he3
  have g0:aP ts3 e2 ts3 e3:=by
   have:=w2 he3
   subst this;rw[he3];exact aP.refl i3.cap
  repeat' (first|(with_reducible refine au ?_ ?_<;>(intro hb;(try simp only[bnl] at hb);(try revert hb;intro _)))|with_reducible refine aA ?_ ?_|with_reducible refine ar ?_|(refine an (vh _ (by have:=w1.1;omega)) ?_;intro _ _)|(refine an (br _ _ _) ?_;rintro _ ⟨-,rfl⟩;try dsimp only)|fail)
  ·exact inner1 _ _ _ (by omega) ⟨w1.1,w1.2 rfl⟩ (aP.stuck (Nat.le_refl _) i3.cap (nz (by decide)))
  ·exact inner1 _ _ _ (by omega) ⟨w1.1,w1.2 rfl⟩ g0
 ·rename_i he3
  exact inner1 _ _ _ (by omega) ⟨w1.1,w1.2 rfl⟩ (aP.stuck (Nat.le_refl _) i3.cap he3)
 all_goals first|(exfalso;omega)|skip
 all_goals first|(have:=hat2 (by assumption);first|(simp only[bnl,lnl];done)|(simp only[bnl,lnl];omega))|skip
 ·rename_i he
  exact⟨_,_,_,rfl,rfl,_,i3,.inl rfl⟩
 ·rename_i he
  have hr:=hat2 he
  have hl:a.toNat<ts2.length:=by omega
  refine⟨_,_,_,rfl,rfl,ts2,i3,.inr ⟨out,i4 he,_,List.getElem?_eq_getElem hl,?_⟩⟩
  rw[jB (List.getElem?_eq_getElem hl)]
 ·exact⟨_,_,_,rfl,rfl,_,i3,.inl rfl⟩
end Go.Proofs.YtkinflmjagfapaaDoor
end
noncomputable section
namespace Go.Proofs.YtkinflmjagfapaaDoor
open Go.AM
set_option autoImplicit false
set_option linter.unusedVariables false
set_option linter.unusedSimpArgs false
set_option maxRecDepth 100000
theorem ahC{k:Int}{s:List UInt8}(h1:1≤k)(h2:k≤14)(h3:iD.getD (k-1).toNat []=s)(hs:s=[97,114,114,97,121]∨s=[109,97,112]):k=12∨k=13:=by
 have h:∀n:Nat,n<14→(iD.getD n []=[97,114,114,97,121]∨iD.getD n []=[109,97,112])→n=11∨n=12:=by decide
 subst h3
 have:=h _ (by omega) hs
 omega
theorem ahD{k:Int}{s:List UInt8}(h1:1≤k)(h2:k≤14)(h3:iD.getD (k-1).toNat []=s)(hs:s=[114,101,99,111,114,100]∨s=[101,110,117,109]∨s=[102,105,120,101,100]):9≤k∧k≤11:=by
 have h:∀n:Nat,n<14→(iD.getD n []=[114,101,99,111,114,100]∨iD.getD n []=[101,110,117,109]∨iD.getD n []=[102,105,120,101,100])→8≤n∧n≤10:=by decide
 subst h3
 have:=h _ (by omega) hs
 omega
theorem agS(deep:Int)(hd:1≤deep∧deep≤20)(hT:qP (deep+1))(ts:List am)(e c0 c1:Int)(c2:List UInt8)(c3:List ak)(c4:List (List UInt8))(k:Int)(space:List UInt8)
  (h:ts.length≤60) (hn:bF (.mk c0 c1 c2 c3 c4)) (hz:szJ (.mk c0 c1 c2 c3 c4)≤io) (hs:(space.length:Int)≤202*deep) (hk:9≤k∧k≤11):∃r,eH ts e c0 c1 c2 c3 c4 k space deep r:=by
 obtain⟨k1,k2,k3,k4,k5,k6⟩:=hn.kids
 apply tG 2000
 unfold oz dZ
 have last:∀(sp:List UInt8)(e2 o0:Int)(o1:List UInt8)(o2:List (List UInt8)),(sp.length:Int)≤202*deep+201→(e2=0→e=0)→o0=k→o1.length≤5000→Tot (cB 2000 (k,sp,deep,c0,c1,c2,c3,c4,ts,e2,o0,o1,o2,0,[],false,[],0,[],[])) (fun z=>∃(y0:Int)(y1:List am)(y2:Int)(rest:List aq),z.1.dimR=.int .i64 y0∧z.2=some [.ul .atype y1,.int .i64 y2]::rest∧db ts e c0 c1 c2 c3 c4 k space deep (y0,y1,y2)):=by
  intro sp e2 o0 o1 o2 hsp he ho hna
  unfold cB
  dsimp only
  subst ho
  have tk:lh (ts.length+1) ⟨o0,o1,o2,0,[],false,[],0,[],[]⟩:=⟨by simp only;omega,by simp,by simp,by simp,by simp,by simp,by simp,by simp only;omega,hna,by simp,fun _=>rfl⟩
  have h11:o0≤11:=hk.2
  repeat' (first|(with_reducible refine au ?_ ?_<;>(intro hb;(try simp only[bnl] at hb);(try revert hb;intro _)))|with_reducible refine aA ?_ ?_|with_reducible refine ar ?_|fail)
  ·rename_i h2
   exact⟨_,_,_,_,rfl,rfl,aP.stuck (Nat.le_refl _) h h2,fun h=>absurd h h2⟩
  rename_i h2
  refine an (yD _ _ _ _ _ _ _ _ _ _ _ _ h) ?_
  rintro r ⟨-,hr⟩
  have ho:=cY.add h hr
  clear hr
  obtain⟨a,ts1,e1⟩:=r
  dsimp only at ho ⊢
  have hr1:e1=0→0≤a∧a<ts1.length:=fun h0=>ho.range h0
  have wk:∀{ts':List am}{e':Int},aP ts e2 ts' e'→aP ts e ts' e':=fun g=>g.weak he
  have wstuck:∀{c:Int},c≠0→aP ts e ts1 (if e1=0 then c else e1):=fun hc=>aP.stuck ho.len ho.cap (nz hc)
  repeat' (first|(with_reducible refine au ?_ ?_<;>(intro hb;(try simp only[bnl] at hb);(try revert hb;intro _)))|with_reducible refine aA ?_ ?_|with_reducible refine ar ?_|(refine an (aga deep hd hT _ _ _ _ _ _ _ _ _ ho.cap hn hz hsp hr1) ?_;rintro⟨ts3,e3⟩ ⟨-,ts2,g1,g2⟩;dsimp only at g1 g2 ⊢)|(refine an (afb _ _ _ _ _ _ _ _ hn hr1) ?_;rintro⟨ts3,e3⟩ ⟨-,g1,g2⟩;dsimp only at g1 g2 ⊢)|fail)
  ·rename_i h9
   have ho2:=ho.more g1
   have gk:=ho2.kept tk rfl
   refine⟨_,_,_,_,rfl,rfl,?_⟩
   rcases g2 with rfl|⟨l,l1,t,t1,rfl⟩
   ·exact⟨wk gk,fun h0=>ho2.leafAt' h0 h11⟩
   ·by_cases h0:e3=0
    ·rw[ho2.get h0] at t1
     obtain rfl:=Option.some.inj t1
     have hr:=ho2.range h0
     refine⟨wk (ho2.done h0 ⟨by simp only;omega,l1.2.1,l1.1,by simp,by simp,by simp,by simp,tk.kind,hna,by simp,fun h=>absurd h9 h⟩ (.inl ⟨h11,h11⟩) fun f hf=>?_),fun _=>ho2.leafAt h0 h11⟩
     obtain⟨b,b1,b2⟩:=l1.2.2 f hf
     exact⟨b,b1,b2.set (ho2.get h0) (.inl ⟨h11,h11⟩) (.inr h11)⟩
    ·exact⟨aP.stuck (by simpa using gk.len) (by simpa using gk.cap) h0,fun h=>absurd h h0⟩
  ·refine⟨_,_,_,_,rfl,rfl,?_⟩
   by_cases h0:e3=0
   ·obtain⟨l,h',d,l0,l1,t,t1,rfl⟩:=g2.2 h0
    have h1:=g1 h0
    rw[ho.get h1] at t1
    obtain rfl:=Option.some.inj t1
    have hr:=ho.range h1
    have:=ho.done h1 (t:=⟨o0,o1,o2,0,l,h',d,0,[],[]⟩) ⟨by simp only;omega,by simp,by simp,by simp,by simp,l0,by simp,tk.kind,hna,l1,fun _=>rfl⟩ (.inl ⟨h11,h11⟩) (.nil rfl)
    refine⟨wk (by rw[h0];rw[h1] at this;exact this),fun _=>ho.leafAt h1 h11⟩
   ·have:=g2.1 h0
    subst this
    exact⟨aP.stuck ho.len ho.cap h0,fun h=>absurd h h0⟩
  ·refine an (kq _ _ _ _ _ _ (by omega)) ?_
   rintro r ⟨-,hr⟩
   have hsz:r.2.1≤zO:=by
    rw[hr]
    split
    ·cases hq:bc c4 c3 [115,105,122,101] with
     |none=>simp[dH]
     |some c=>exact hn.sized hq
    ·simp[dH]
   clear hr
   repeat' (first|(with_reducible refine au ?_ ?_<;>(intro hb;(try simp only[bnl] at hb);(try revert hb;intro _)))|with_reducible refine aA ?_ ?_|with_reducible refine ar ?_|(refine an (br _ _ _) ?_;rintro _ ⟨-,rfl⟩;try dsimp only)|fail)
   all_goals first|exact⟨_,_,_,_,rfl,rfl,wstuck (by decide),fun h=>absurd h (nz (by decide))⟩|(have:=hr1 (by assumption);first|(simp only[bnl,lnl];done)|(simp only[bnl,lnl];omega))|(first|(simp only[bnl,lnl];done)|(simp only[bnl,lnl];omega))|skip
   ·rename_i hz0 hz1 h0
    have hr:=ho.range h0
    rw[jB (ho.get h0)]
    exact⟨_,_,_,_,rfl,rfl,wk (ho.done h0 ⟨by simp only;omega,by simp,by simp,by simp,by simp,by simp,by simp only;omega,tk.kind,hna,by simp,fun _=>rfl⟩ (.inl ⟨h11,h11⟩) (.nil rfl)),fun _=>ho.leafAt h0 h11⟩
   ·rename_i h0
    exact⟨_,_,_,_,rfl,rfl,wk (ho.kept tk rfl),fun h=>absurd h h0⟩
 have mid:∀(sp:List UInt8)(e2:Int)(nm:List UInt8)(al:List (List UInt8)),(sp.length:Int)≤202*deep+201→(e2=0→e=0)→bk al→al.length≤100→nm.length≤5000→Tot (aT 2000 (cC 2000) (k,sp,deep,c0,c1,c2,c3,c4,al,0,ts,e2,k,nm,[],0,[],false,[],0,[],[])) (fun z=>∃(y0:Int)(y1:List am)(y2:Int)(rest:List aq),z.1.dimR=.int .i64 y0∧z.2=some [.ul .atype y1,.int .i64 y2]::rest∧db ts e c0 c1 c2 c3 c4 k space deep (y0,y1,y2)):=by
  intro sp e2 nm al hsp he hal hal2 hnl
  refine ba (fun x=>match x with|(k',sp',dp,d0,d1,d2,d3,d4,al',i,ts',e3,o0,o1,o2,o3,o4,o5,o6,o7,o8,o9)=>k'=k∧sp'=sp∧dp=deep∧d0=c0∧d1=c1∧d2=c2∧d3=c3∧d4=c4∧al'=al∧0≤i∧i≤(al.length:Int)∧ts'=ts∧(e3=0→e=0)∧o0=k∧(o2.length:Int)=i∧o3=0∧o4=[]∧o5=false∧o6=[]∧o7=0∧o8=[]∧o9=[]∧o1=nm) (fun x=>((al.length:Int)-x.2.2.2.2.2.2.2.2.2.1).toNat) ?_ _ _
   ⟨rfl,rfl,rfl,rfl,rfl,rfl,rfl,rfl,rfl,by simp,by simp,rfl,he,rfl,rfl,rfl,rfl,rfl,rfl,rfl,rfl,rfl,rfl⟩ (by simp;omega)
  rintro again ⟨k',sp',dp,d0,d1,d2,d3,d4,al',i,ts',e3,o0,o1,o2,o3,o4,o5,o6,o7,o8,o9⟩ ⟨rfl,rfl,rfl,rfl,rfl,rfl,rfl,rfl,rfl,i1,i2,rfl,i3,rfl,i4,rfl,rfl,rfl,rfl,rfl,rfl,rfl,rfl⟩ ih
  dsimp only at ih
  have ew:i<al'.length→IntKind.i64.wrap (i+1)=i+1:=fun h=>ax (i+1) (by omega)
  have next:∀(e5:Int)(w:List UInt8),i<al'.length→(e5=0→e=0)→Tot (again (o0,sp',dp,d0,d1,d2,d3,d4,al',IntKind.i64.wrap (i+1),ts',e5,o0,o1,o2++[w],0,[],false,[],0,[],[])) _:=fun e5 w hi he5=>ih (o0,sp',dp,d0,d1,d2,d3,d4,al',IntKind.i64.wrap (i+1),ts',e5,o0,o1,o2++[w],0,[],false,[],0,[],[])
   (by
    simp only[ew hi,List.length_append,List.length_cons,List.length_nil]
    exact⟨trivial,trivial,trivial,trivial,trivial,trivial,trivial,trivial,trivial,by omega,by omega,trivial,he5,trivial,by omega,trivial,trivial,trivial,trivial,trivial,trivial,trivial,trivial⟩) (by simp only[ew hi];omega)
  have lst:∀e4:Int,(e4=0→e=0)→Tot (cB 2000 (o0,sp',dp,d0,d1,d2,d3,d4,ts',e4,o0,o1,o2,0,[],false,[],0,[],[])) _:=fun e4 h4=>last sp' e4 o0 o1 o2 hsp h4 rfl hnl
  unfold cC fw
  dsimp only
  have wn:=vr hal i.toNat
  repeat' (first|(with_reducible refine au ?_ ?_<;>(intro hb;(try simp only[bnl] at hb);(try revert hb;intro _)))|with_reducible refine aA ?_ ?_|with_reducible refine ar ?_|(refine an (br _ _ _) ?_;rintro _ ⟨-,rfl⟩;try dsimp only)|(refine an (ab8 _ _ _ _ wn (by omega)) ?_;rintro⟨w,ts4,e4⟩ ⟨-,w1,rfl,w2⟩;dsimp only at w1 w2 ⊢)|(refine an (aem _ _ _ h) ?_;rintro⟨b,c,ts4,e4⟩ ⟨-,hq,hf⟩;simp only[Prod.mk.injEq] at hq;obtain⟨rfl,rfl⟩:=hq;dsimp only at hf ⊢)|fail)
  all_goals first|(first|(simp only[bnl,lnl];done)|(simp only[bnl,lnl];omega))|exact next _ _ (by omega) (fun h=>i3 (w2 h))|exact lst _ i3|exact lst _ (fun h=>absurd h (nz (by decide)))|skip
 refine an (z8 _ _ _ _ _ _ _ _ _ hn) ?_
 rintro⟨nm,ts',e1⟩ ⟨-,w1,rfl,w2⟩
 dsimp only at w1 w2 ⊢
 refine an (kq _ _ _ _ _ _ (by omega)) ?_
 rintro r ⟨-,hr⟩
 have hg:=nJ (k:=c0) (names:=c4) (name:=[110,97,109,101,115,112,97,99,101]) k6
 simp only[bC] at hr
 rw[←hr] at hg
 have g1:=hg.kids.1
 have first:∀(sp:List UInt8)(e2:Int),(sp.length:Int)≤202*deep→(e2=0→e=0)→Tot (f7 2000 (k,sp,deep,c0,c1,c2,c3,c4,nm,ts',e2)) (fun z=>∃(y0:Int)(y1:List am)(y2:Int)(rest:List aq),z.1.dimR=.int .i64 y0∧z.2=some [.ul .atype y1,.int .i64 y2]::rest∧db ts' e c0 c1 c2 c3 c4 k space deep (y0,y1,y2)):=by
  intro sp e2 hsp he
  unfold f7 fx
  dsimp only
  repeat' (first|(with_reducible refine au ?_ ?_<;>(intro hb;(try simp only[bnl] at hb);(try revert hb;intro _)))|with_reducible refine aA ?_ ?_|with_reducible refine ar ?_|fail)
  ·rename_i h2
   exact⟨_,_,_,_,rfl,rfl,aP.stuck (Nat.le_refl _) h h2,fun h=>absurd h h2⟩
  refine an (ab8 _ _ _ _ w1.1 (by omega)) ?_
  rintro⟨w,ts4,e4⟩ ⟨-,x1,rfl,x2⟩
  have w11:=w1.1
  dsimp only at x1 x2 ⊢
  refine an (af2 _ (by omega)) ?_
  rintro b ⟨-,hb⟩
  dsimp only[gp] at hb ⊢
  refine an (yl _ _ _ _ _ _ _ _ hn) ?_
  rintro⟨al,is,ts6,e7⟩ ⟨-,t1,t2,rfl,t3⟩
  dsimp only at t1 t2 t3 ⊢
  exact mid _ _ _ _ (by omega) (fun h=>he (x2 (t3 h))) t2 t1 (by omega)
 repeat' (first|(with_reducible refine au ?_ ?_<;>(intro hb;(try simp only[bnl] at hb);(try revert hb;intro _)))|with_reducible refine aA ?_ ?_|with_reducible refine ar ?_|(refine an (br _ _ _) ?_;rintro _ ⟨-,rfl⟩;try dsimp only)|fail)
 ·exact first _ _ (by omega) (fun h=>absurd h (nz (by decide)))
 ·exact first _ _ (by omega) w2
 ·exact first _ _ hs w2
theorem acj(deep:Int)(hd:1≤deep∧deep≤21)(hT:deep≤20→qP (deep+1)):qP deep:=by
 intro ts e c0 c1 c2 c3 c4 space h hn hz hs
 obtain⟨k1,k2,k3,k4,k5,k6⟩:=hn.kids
 apply u7 2000
 unfold pe eM
 dsimp only
 have stuck:∀{c:Int},c≠0→aP ts e ts (if e=0 then c else e):=fun hc=>aP.stuck (Nat.le_refl _) h (nz hc)
 repeat' (first|(with_reducible refine au ?_ ?_<;>(intro hb;(try simp only[bnl] at hb);(try revert hb;intro _)))|with_reducible refine aA ?_ ?_|with_reducible refine ar ?_|(refine an (br _ _ _) ?_;rintro _ ⟨-,rfl⟩;try dsimp only)|(refine an (ab9 _ _ _ _ h k1 (by omega)) ?_;rintro⟨a,ts',e'⟩ ⟨-,g1,g2⟩;dsimp only at g1 g2 ⊢)|(refine an (agR deep (by omega) (hT (by omega)) _ _ _ _ _ _ _ _ h hn hz hs) ?_;rintro⟨a,ts',e'⟩ ⟨-,g1,g2⟩;dsimp only at g1 g2 ⊢)|fail)
 all_goals first|exact⟨_,_,_,_,rfl,rfl,stuck (by decide),fun h=>absurd h (nz (by decide))⟩|exact⟨_,_,_,_,rfl,rfl,g1,g2⟩|exact⟨_,_,_,_,rfl,rfl,g1,fun h0=>(g2 h0).up (by rw[cd];omega)⟩|skip
 ·rename_i he
  exact⟨_,_,_,_,rfl,rfl,aP.refl h,fun h=>absurd h he⟩
 rename_i he hdd _ _ _
 have hT:=hT (by omega)
 have ed:IntKind.i64.wrap (deep+1)=deep+1:=ax (deep+1) (by omega)
 refine an (kq _ _ _ _ _ _ (by omega)) ?_
 rintro r ⟨-,hr⟩
 have hg:=nJ (k:=c0) (names:=c4) (name:=[116,121,112,101]) k6
 simp only[bC] at hr
 have hgz:=(yC (k:=c0) (names:=c4) (l:=c3) (name:=[116,121,112,101])).1
 rw[←hr] at hg hgz
 have hgk:=hg.kids
 clear hr
 obtain⟨d0,d1,d2,d3,d4,d5⟩:=r
 dsimp only at hg hgk hgz ⊢
 have hzm:=cd c0 c1 c2 c3 c4
 have part:∀(word:List UInt8)(k a:Int)(ts1:List am)(e1:Int),(k=12∨k=13)→cY ts e ⟨k,[],[],0,[],false,[],0,[],[]⟩ a ts1 e1→Tot (d8 2000 (space,deep,c0,c1,c2,c3,c4,a,word,ts1,e1)) (fun z=>∃(y0:Int)(y1:List am)(y2:Int)(rest:List aq),z.1.dimR=.int .i64 y0∧z.2=some [.ul .atype y1,.int .i64 y2]::rest∧cA ts e c0 c1 c2 c3 c4 space deep (y0,y1,y2)):=by
  intro word k a ts1 e1 hk ho
  unfold d8
  dsimp only
  refine an (kq _ _ _ _ _ _ (by omega)) ?_
  rintro r ⟨-,hr⟩
  have hg:=nJ (k:=c0) (names:=c4) (name:=word) k6
  simp only[bC] at hr
  have hgz:=yC (k:=c0) (names:=c4) (l:=c3) (name:=word)
  rw[←hr] at hg hgz
  clear hr
  repeat' (first|(with_reducible refine au ?_ ?_<;>(intro hb;(try simp only[bnl] at hb);(try revert hb;intro _)))|with_reducible refine aA ?_ ?_|with_reducible refine ar ?_|(refine an (br _ _ _) ?_;rintro _ ⟨-,rfl⟩;try dsimp only)|fail)
  ·exact⟨_,_,_,_,rfl,rfl,aP.stuck ho.len ho.cap (nz (by decide)),fun h=>absurd h (nz (by decide))⟩
  simp only[ed]
  refine an (hT _ _ _ _ _ _ _ _ ho.cap hg (by omega) (by omega)) ?_
  rintro⟨i,ts2,e2⟩ ⟨-,x1,x2⟩
  dsimp only at x1 x2 ⊢
  have ho2:=ho.more x1
  have hr2:e2=0→0≤a∧a<ts2.length:=fun h0=>ho2.range h0
  repeat' (first|(with_reducible refine au ?_ ?_<;>(intro hb;(try simp only[bnl] at hb);(try revert hb;intro _)))|with_reducible refine aA ?_ ?_|with_reducible refine ar ?_|fail)
  all_goals first|(have:=hr2 (by assumption);first|(simp only[bnl,lnl];done)|(simp only[bnl,lnl];omega))|(first|(simp only[bnl,lnl];done)|(simp only[bnl,lnl];omega))|skip
  ·rename_i hfound h0
   have hr:=ho2.range h0
   have h10:=x1.err h0
   rw[jB (ho2.get h0)]
   obtain⟨b,b1,b2⟩:=(x2 h0).2.1
   refine⟨_,_,_,_,rfl,rfl,ho2.done h0 ⟨(x2 h0).1,by simp,by simp,by simp,by simp,by simp,by simp,by simp only;omega,by simp,by simp,fun _=>rfl⟩ (.inr (by simp only;omega)) (.nil rfl),fun _=>?_⟩
   rw[hzm]
   exact ho2.arrAt h0 (by simp only;omega) hk (ho.zero h10).2.1 ⟨b,Nat.le_trans b1 (hgz.2 (by assumption)),b2⟩
  ·rename_i h0
   exact⟨_,_,_,_,rfl,rfl,ho2.stuck h0,fun h=>absurd h h0⟩
 have txt:Tot (d9 2000 (space,d0,d1,d2,d3,d4,ts,e)) (fun z=>∃(y0:Int)(y1:List am)(y2:Int)(rest:List aq),z.1.dimR=.int .i64 y0∧z.2=some [.ul .atype y1,.int .i64 y2]::rest∧cA ts e c0 c1 c2 c3 c4 space deep (y0,y1,y2)):=by
  unfold d9
  dsimp only
  refine an (ab9 _ _ _ _ h hgk.1 (by omega)) ?_
  rintro⟨a,ts',e'⟩ ⟨-,g1,g2⟩
  exact ar ⟨_,_,_,_,rfl,rfl,g1,fun h0=>(g2 h0).up (by omega)⟩
 have one:∀b:Bool,(b=true→d2=[97,114,114,97,121]∨d2=[109,97,112])→Tot (eb 2000 (space,deep,c0,c1,c2,c3,c4,d0,d1,d2,d3,d4,b,ts,e)) (fun z=>∃(y0:Int)(y1:List am)(y2:Int)(rest:List aq),z.1.dimR=.int .i64 y0∧z.2=some [.ul .atype y1,.int .i64 y2]::rest∧cA ts e c0 c1 c2 c3 c4 space deep (y0,y1,y2)):=by
  intro b hb
  unfold eb gb
  dsimp only
  refine au (fun h1=>?_) (fun h1=>txt)
  refine an (z7 _) ?_
  rintro(k:Int) ⟨-,hk1,hk2,hk3,hk4⟩
  have hb:=hb h1
  have hk0:k≠0:=fun h=>by
   rcases hb with hb|hb
   ·exact hk4 h 11 (by decide) hb.symm
   ·exact hk4 h 12 (by decide) hb.symm
  have hk:=ahC (by omega) hk2 (hk3 (by omega)) hb
  refine an (yD _ _ _ _ _ _ _ _ _ _ _ _ h) ?_
  rintro r ⟨-,hr⟩
  have ho:=cY.add h hr
  clear hr
  obtain⟨a,ts1,e1⟩:=r
  dsimp only at ho ⊢
  repeat' (first|(with_reducible refine au ?_ ?_<;>(intro hb;(try simp only[bnl] at hb);(try revert hb;intro _)))|with_reducible refine aA ?_ ?_|with_reducible refine ar ?_|fail)
  all_goals exact part _ k _ _ _ hk ho
 have zero:∀b:Bool,(b=true→d2=[114,101,99,111,114,100]∨d2=[101,110,117,109]∨d2=[102,105,120,101,100])→Tot (gH 2000 (space,deep,c0,c1,c2,c3,c4,d0,d1,d2,d3,d4,d2,b,ts,e)) (fun z=>∃(y0:Int)(y1:List am)(y2:Int)(rest:List aq),z.1.dimR=.int .i64 y0∧z.2=some [.ul .atype y1,.int .i64 y2]::rest∧cA ts e c0 c1 c2 c3 c4 space deep (y0,y1,y2)):=by
  intro b hb
  unfold gH gc
  dsimp only
  refine au (fun h1=>?_) (fun h1=>au (fun h2=>one _ fun _=>?_) (fun h2=>one _ fun h3=>?_))
  ·refine an (z7 _) ?_
   rintro(k:Int) ⟨-,hk1,hk2,hk3,hk4⟩
   have hb:=hb h1
   have hk0:k≠0:=fun h=>by
    rcases hb with hb|hb|hb
    ·exact hk4 h 8 (by decide) hb.symm
    ·exact hk4 h 9 (by decide) hb.symm
    ·exact hk4 h 10 (by decide) hb.symm
   refine an (agS deep (by omega) hT _ _ _ _ _ _ _ _ _ h hn hz hs (ahD (by omega) hk2 (hk3 (by omega)) hb)) ?_
   rintro⟨a,ts',e'⟩ ⟨-,g1,g2⟩
   exact ar ⟨_,_,_,_,rfl,rfl,g1,fun h0=>(g2 h0).up (by omega)⟩
  ·exact .inl (of_decide_eq_true h2)
  ·exact .inr (of_decide_eq_true h3)
 repeat' (first|(with_reducible refine au ?_ ?_<;>(intro hb;(try simp only[bnl] at hb);(try revert hb;intro _)))|with_reducible refine aA ?_ ?_|with_reducible refine ar ?_|(refine an (br _ _ _) ?_;rintro _ ⟨-,rfl⟩;try dsimp only)|fail)
 ·exact⟨_,_,_,_,rfl,rfl,stuck (by decide),fun h=>absurd h (nz (by decide))⟩
 ·simp only[ed]
  refine an (hT _ _ _ _ _ _ _ _ h hg (by omega) (by omega)) ?_
  rintro⟨a,ts',e'⟩ ⟨-,g1,g2⟩
  exact ar ⟨_,_,_,_,rfl,rfl,g1,fun h0=>(g2 h0).up (by omega)⟩
 all_goals refine zero _ fun hb=>?_
 ·exact .inl (by first|assumption|exact of_decide_eq_true hb)
 ·exact .inr (.inl (by first|assumption|exact of_decide_eq_true hb))
 ·exact .inr (.inr (by first|assumption|exact of_decide_eq_true hb))
theorem aeD:∀(n:Nat)(deep:Int),deep+n=21→1≤deep→qP deep
 |0,deep,h,h1=>acj deep (by omega) (fun h'=>by omega)
 |n+1,deep,h,h1=>acj deep (by omega) (fun _=>aeD n (deep+1) (by omega) (by omega))
theorem ahE(c0 c1:Int)(c2:List UInt8)(c3:List ak)(c4:List (List UInt8))(hn:bF (.mk c0 c1 c2 c3 c4))(hz:szJ (.mk c0 c1 c2 c3 c4)≤io):∃r,lj c0 c1 c2 c3 c4 r:=by
 apply abn 1
 unfold vL vK
 dsimp only
 refine an (aeD 20 1 (by omega) (by omega) _ _ _ _ _ _ _ _ (by simp) hn hz (by simp)) ?_
 rintro⟨a,ts',e'⟩ ⟨-,g1,g2⟩
 dsimp only at g1 g2 ⊢
 repeat' (first|(with_reducible refine au ?_ ?_<;>(intro hb;(try simp only[bnl] at hb);(try revert hb;intro _)))|with_reducible refine aA ?_ ?_|with_reducible refine ar ?_|fail)
 ·rename_i h0
  exact⟨_,_,_,rfl,rfl,fun h=>absurd h h0⟩
 ·rename_i h0
  refine⟨_,_,_,rfl,rfl,fun _=>?_⟩
  obtain⟨q1,⟨b,b1,b2⟩,q3⟩:=g2 h0
  have q3:=q3 rfl
  subst q3
  rw[h0] at g1
  obtain⟨s1,s2⟩:=g1.sch (by omega)
  exact⟨s1,s2,b,by omega,b2⟩
end Go.Proofs.YtkinflmjagfapaaDoor
end
noncomputable section
namespace Go.Proofs.YtkinflmjagfapaaDoor
open Go.AM
set_option autoImplicit false
set_option linter.unusedVariables false
set_option linter.unusedSimpArgs false
set_option maxRecDepth 100000
theorem co(k n:Int)(s:List UInt8)(h:s.length≤100):kJ (.mk k n s [] []):=.mk _ _ _ _ _ h (by simp) (by simp) (by simp) (by simp) (by simp) (by simp[bc]) (by simp[bc])
theorem ua(k n:Int)(l:List ak)(h:l.length≤7)(hl:∀c∈l,kJ c)(hk:k≠6):kJ (.mk k n [] l []):=.mk _ _ _ _ _ (by simp) h (by simp) (by simp) (fun h=>absurd h hk) hl (by simp[bc]) (by simp[bc])
theorem vt(k n:Int)(l:List ak)(names:List (List UInt8))(hn:names.length=l.length)(h:l.length≤7)(hs:bk names)(hl:∀c∈l,kJ c)
  (h7:∀c,bc names l [115,105,122,101]=some c→c.n≤zO) (h8:∀c,bc names l [110,97,109,101]=some c→im c.s):kJ (.mk k n [] l names):=.mk _ _ _ _ _ (by simp) h (by omega) hs (fun _=>hn) hl h7 h8
theorem cZ:∀l m:List ak,ch (l++m)=ch l+ch m
 | [],m=>by simp[ch]
 |c::l,m=>by simp only[List.cons_append,ch,cZ l m];omega
theorem agb(l:List ak)(n:Nat):ch (List.drop 0 (List.take n l))≤ch l:=by
 rw[List.drop_zero]
 have:=cZ (l.take n) (l.drop n)
 rw[List.take_append_drop] at this
 omega
theorem yF{l:List (List UInt8)}(h:bk l)(i:Nat):(l.getD i (az .str)).length≤100:=vr h i
theorem afd(a:List UInt8)(n c0 c1:Int)(c2:List UInt8)(c3:List ak)(c4:List (List UInt8))(hp:kr a n)(hn:kJ (.mk c0 c1 c2 c3 c4)):∃r,dL a n c0 c1 c2 c3 c4 r:=by
 obtain⟨k1,k2,k3,k4,k5,k6⟩:=hn.kids
 apply sX 1
 unfold nL dE
 dsimp only
 have one:∀(n' x0 x1:Int)(x2:List UInt8)(x3:List ak)(x4:List (List UInt8)),kr a n'→Tot (dl 1 (c0,c1,c2,c3,c4,a,n',x0,x1,x2,x3,x4)) (fun z=>∃(y0 y1:Int)(y2:List UInt8)(y3:List ak)(y4:List (List UInt8))(y5:List UInt8)(y6:Int)(rest:List aq),z.1.dimR=.agg [.int .i64 y0,.int .i64 y1,.str y2,.sl .jnode (.may false) y3,.sl .str (.may false) y4]∧z.2=some [.sl .u8 (.may false) y5,.int .i64 y6]::rest∧cU a n c0 c1 c2 c3 c4 (y0,y1,y2,y3,y4,y5,y6)):=by
  intro n' x0 x1 x2 x3 x4 hp'
  unfold dl
  dsimp only
  repeat' (first|(with_reducible refine au ?_ ?_<;>(intro hb;(try simp only[bnl] at hb);(try revert hb;intro _)))|with_reducible refine aA ?_ ?_|with_reducible refine ar ?_|(refine an (afs _ _ _ _ _ _ k3 (by omega)) ?_;rintro r ⟨-,hr⟩;clear hr)|(refine an (b9 _) ?_;rintro _ ⟨-,rfl⟩;dsimp only)|fail)
  all_goals exact⟨_,_,_,_,_,_,_,_,rfl,rfl,co _ _ _ (by simp),rfl,rfl,hp'⟩
 have two:∀(n' x0 x1:Int)(x2:List UInt8)(x3:List ak)(x4:List (List UInt8)),kr a n'→Tot (fF 1 (c0,c1,c2,c3,c4,a,n',x0,x1,x2,x3,x4)) (fun z=>∃(y0 y1:Int)(y2:List UInt8)(y3:List ak)(y4:List (List UInt8))(y5:List UInt8)(y6:Int)(rest:List aq),z.1.dimR=.agg [.int .i64 y0,.int .i64 y1,.str y2,.sl .jnode (.may false) y3,.sl .str (.may false) y4]∧z.2=some [.sl .u8 (.may false) y5,.int .i64 y6]::rest∧cU a n c0 c1 c2 c3 c4 (y0,y1,y2,y3,y4,y5,y6)):=by
  intro n' x0 x1 x2 x3 x4 hp'
  unfold fF
  dsimp only
  repeat' (first|(with_reducible refine au ?_ ?_<;>(intro hb;(try simp only[bnl] at hb);(try revert hb;intro _)))|with_reducible refine aA ?_ ?_|with_reducible refine ar ?_|(refine an (afs _ _ _ _ _ _ k3 (by omega)) ?_;rintro r ⟨-,hr⟩;clear hr)|(refine an (b9 _) ?_;rintro _ ⟨-,rfl⟩;dsimp only)|fail)
  all_goals exact⟨_,_,_,_,_,_,_,_,rfl,rfl,co _ _ _ (by simp),rfl,rfl,hp'⟩
 have zero:∀(b:Bool),Tot (fE 1 (c0,c1,c2,c3,c4,c2,b,a,n,0,0,[],[],[])) (fun z=>∃(y0 y1:Int)(y2:List UInt8)(y3:List ak)(y4:List (List UInt8))(y5:List UInt8)(y6:Int)(rest:List aq),z.1.dimR=.agg [.int .i64 y0,.int .i64 y1,.str y2,.sl .jnode (.may false) y3,.sl .str (.may false) y4]∧z.2=some [.sl .u8 (.may false) y5,.int .i64 y6]::rest∧cU a n c0 c1 c2 c3 c4 (y0,y1,y2,y3,y4,y5,y6)):=by
  intro b
  unfold fE eE
  dsimp only
  have w3:bk ([([]:List UInt8),([100]:List UInt8),([195,164]:List UInt8)]:List (List UInt8)):=by simp[bk]
  repeat' (first|(with_reducible refine au ?_ ?_<;>(intro hb;(try simp only[bnl] at hb);(try revert hb;intro _)))|with_reducible refine aA ?_ ?_|with_reducible refine ar ?_|(refine an (lR _ _ _ hp (by omega) (by omega)) ?_;rintro⟨m,a',n'⟩ ⟨-,m1,m2,rfl,m3⟩;dsimp only at m1 m2 m3 ⊢)|(refine an (b9 _) ?_;rintro _ ⟨-,rfl⟩;dsimp only)|fail)
  all_goals first|exact⟨_,_,_,_,_,_,_,_,rfl,rfl,co _ _ _ (Nat.zero_le _),rfl,rfl,hp⟩|exact⟨_,_,_,_,_,_,_,_,rfl,rfl,co _ _ _ (Nat.zero_le _),rfl,rfl,m3⟩|exact⟨_,_,_,_,_,_,_,_,rfl,rfl,co _ _ _ (yF w3 _),rfl,rfl,m3⟩|exact one _ _ _ _ _ _ hp|exact two _ _ _ _ _ _ hp|(first|(simp only[bnl,lnl];done)|(simp only[bnl,lnl];omega))|skip
 repeat' (first|(with_reducible refine au ?_ ?_<;>(intro hb;(try simp only[bnl] at hb);(try revert hb;intro _)))|with_reducible refine aA ?_ ?_|with_reducible refine ar ?_|fail)
 all_goals first|exact zero _|exact two _ _ _ _ _ _ hp
def aaZ(deep:Int):Prop:=∀(a:List UInt8)(n:Int)(ns:List (List UInt8)),kr a n→bk ns→ns.length+li (5-deep.toNat)≤100000→∃r,bK a n ns deep r
theorem sY{deep:Int}(h:0≤deep∧deep≤4):li (5-deep.toNat)=1+4*li (5-(deep+1).toNat):=by
 have:5-deep.toNat=(5-(deep+1).toNat)+1:=by omega
 rw[this];rfl
theorem sZ{deep:Int}(h:0≤deep∧deep≤4):nX (5-deep.toNat)=50+4*nX (5-(deep+1).toNat):=by
 have:5-deep.toNat=(5-(deep+1).toNat)+1:=by omega
 rw[this];rfl
theorem si:∀n,20≤nX n
 |0=>Nat.le_refl _
 |n+1=>by have:=si n;simp only[nX];omega
theorem agc(deep:Int)(hd:0≤deep∧deep≤3)(hT:aaZ (deep+1))(a:List UInt8)(n:Int)(ns:List (List UInt8))(hp:kr a n)(hns:bk ns)(hl:ns.length+li (5-deep.toNat)≤100000):∃r,fI a n ns deep r:=by
 have hN:=sY (deep:=deep) (by omega)
 have hM:=sZ (deep:=deep) (by omega)
 have hM1:=si (5-(deep+1).toNat)
 have ed:IntKind.i64.wrap (deep+1)=deep+1:=ax (deep+1) (by omega)
 apply vo 1
 unfold pl pk
 dsimp only
 have w2:bk ([([105,110,116]:List UInt8),([115,116,114,105,110,103]:List UInt8)]:List (List UInt8)):=by simp[bk]
 refine an (b9 _) ?_
 rintro _ ⟨-,rfl⟩
 refine an (lR _ _ _ hp (by omega) (by omega)) ?_
 rintro⟨m,a',n'⟩ ⟨-,m1,m2,rfl,m3⟩
 dsimp only at m1 m2 m3 ⊢
 refine au (fun _=>?_) (fun _=>?_)
 ·refine an (lR _ _ _ m3 (by omega) (by omega)) ?_
  rintro⟨m',a',n''⟩ ⟨-,m1',m2',rfl,m3'⟩
  dsimp only at m1' m2' m3' ⊢
  refine vck ?_
  refine an (b9 _) ?_
  rintro _ ⟨-,rfl⟩
  dsimp only
  refine vck ?_
  rw[ed]
  refine an (hT _ _ _ m3' hns (by omega)) ?_
  rintro⟨t0,t1,t2,t3,t4,a'',n3,ns'⟩ ⟨-,⟨h1,hz1⟩,rfl,h3,h4,h5⟩
  dsimp only at h1 hz1 h3 h4 h5 ⊢
  rw[cd] at hz1
  have kids2:∀c∈([ak.mk 4 0 [110,117,108,108] [] []]++[ak.mk 4 0 (List.getD ([([105,110,116]:List UInt8),([115,116,114,105,110,103]:List UInt8)]:List (List UInt8)) (Int.toNat m') (az .str)) [] []]),kJ c:=by
   intro c hc
   simp only[List.cons_append,List.nil_append,List.mem_cons,List.not_mem_nil,or_false] at hc
   rcases hc with rfl|rfl
   ·exact co _ _ _ (by simp)
   ·exact co _ _ _ (yF w2 _)
  repeat' (first|(with_reducible refine au ?_ ?_<;>(intro hb;(try simp only[bnl] at hb);(try revert hb;intro _)))|with_reducible refine aA ?_ ?_|with_reducible refine ar ?_|fail)
  ·first|(simp only[bnl,lnl];done)|(simp only[bnl,lnl];omega)
  ·refine⟨_,_,_,_,_,_,_,_,_,rfl,rfl,⟨ua _ _ _ (by simp) ?_ (by simp),by simp only[cd,cZ,ch];omega⟩,rfl,h3,h4,by simp only;omega⟩
   intro c hc
   rcases List.mem_append.1 hc with hc|hc
   ·exact kids2 c hc
   ·simp only[List.mem_singleton] at hc
    subst hc;exact h1
  ·exact⟨_,_,_,_,_,_,_,_,_,rfl,rfl,⟨ua _ _ _ (by simp) kids2 (by simp),by simp only[cd,cZ,ch];omega⟩,rfl,h3,h4,by simp only;omega⟩
 ·rw[ed]
  refine an (hT _ _ _ m3 hns (by omega)) ?_
  rintro⟨t0,t1,t2,t3,t4,a'',n3,ns'⟩ ⟨-,⟨h1,hz1⟩,rfl,h3,h4,h5⟩
  dsimp only at h1 hz1 h3 h4 h5 ⊢
  rw[cd] at hz1
  repeat' (first|(with_reducible refine au ?_ ?_<;>(intro hb;(try simp only[bnl] at hb);(try revert hb;intro _)))|with_reducible refine aA ?_ ?_|with_reducible refine ar ?_|fail)
  ·first|(simp only[bnl,lnl];done)|(simp only[bnl,lnl];omega)
  ·refine⟨_,_,_,_,_,_,_,_,_,rfl,rfl,⟨ua _ _ _ (by simp) ?_ (by simp),by simp only[cd,cZ,ch];omega⟩,rfl,h3,h4,by simp only;omega⟩
   intro c hc
   simp only[List.cons_append,List.nil_append,List.mem_cons,List.not_mem_nil,or_false] at hc
   rcases hc with rfl|rfl
   ·exact co _ _ _ (by simp)
   ·exact h1
  ·refine⟨_,_,_,_,_,_,_,_,_,rfl,rfl,⟨ua _ _ _ (by simp) ?_ (by simp),by simp only[cd,cZ,ch];omega⟩,rfl,h3,h4,by simp only;omega⟩
   intro c hc
   simp only[List.mem_singleton] at hc
   subst hc;exact co _ _ _ (by simp)
theorem zy(deep:Int)(hd:0≤deep∧deep≤3)(hT:aaZ (deep+1))(a:List UInt8)(n:Int)(ns:List (List UInt8))(name:List UInt8)(hp:kr a n)(hns:bk ns)(hnm:name.length≤100∧im name)(hl:ns.length+li (5-deep.toNat)≤100001):∃r,c9 a n ns name deep r:=by
 have hN:=sY (deep:=deep) (by omega)
 have hM:=sZ (deep:=deep) (by omega)
 have hM1:=si (5-(deep+1).toNat)
 have ed:IntKind.i64.wrap (deep+1)=deep+1:=ax (deep+1) (by omega)
 apply tZ 100
 unfold oK ee
 refine an (lR _ _ _ hp (by omega) (by omega)) ?_
 rintro⟨m,a',n'⟩ ⟨-,m1,m2,rfl,m3⟩
 dsimp only at m1 m2 m3 ⊢
 refine ba (fun x=>match x with|(nm,dp,i,m',a2,n2,ns2,x0,x1,x2,x3,x4,k0,k1,k2,l,k4)=>nm=name∧dp=deep∧0≤i∧i≤m∧m'=m∧a2=a'∧kr a' n2∧bk ns2∧(ns2.length:Int)≤ns.length+i*li (5-(deep+1).toNat)∧k0=5∧k1=0∧k2=[]∧k4=[]∧(l.length:Int)=i∧(∀c∈l,kJ c)∧(ch l:Int)≤i*(nX (5-(deep+1).toNat)+3:Nat)) (fun x=>(m-x.2.2.1).toNat) ?_ _ _
  ⟨rfl,rfl,by simp,m1,rfl,rfl,m3,hns,by simp,rfl,rfl,rfl,rfl,rfl,by simp,by simp[ch]⟩ (by simp only;omega)
 rintro again ⟨nm,dp,i,m',a2,n2,ns2,x0,x1,x2,x3,x4,k0,k1,k2,l,k4⟩ ⟨rfl,rfl,i1,i2,rfl,rfl,i3,i4,i5,rfl,rfl,rfl,rfl,i6,i7,i8⟩ ih
 dsimp only at ih
 have ei:i<m'→IntKind.i64.wrap (i+1)=i+1:=fun h=>ax (i+1) (by omega)
 generalize hq:li (5-(dp+1).toNat)=q at*
 generalize hq3:nX (5-(dp+1).toNat)=q3 at*
 have hi8:i*((q3+3:Nat):Int)≤4*((q3+3:Nat):Int):=Int.mul_le_mul_of_nonneg_right (by omega) (by omega)
 have hi5:i*(q:Int)≤4*q:=Int.mul_le_mul_of_nonneg_right (by omega) (by omega)
 have nnil:bk ([]:List (List UInt8)):=by simp[bk]
 unfold gi
 dsimp only
 refine au (fun h=>?_) (fun h=>?_)
 ·have h:=of_decide_eq_true h
  rw[ed]
  have hi4:(i+1)*(q:Int)≤4*q:=Int.mul_le_mul_of_nonneg_right (by omega) (by omega)
  have hi6:(i+1)*(q:Int)=i*q+q:=by rw[Int.add_mul,Int.one_mul]
  have hi9:(i+1)*((q3+3:Nat):Int)=i*((q3+3:Nat):Int)+((q3+3:Nat):Int):=by rw[Int.add_mul,Int.one_mul]
  refine an (hT _ _ _ i3 i4 (by rw[hq];omega)) ?_
  rintro⟨t0,t1,t2,t3,t4,a'',n3,ns'⟩ ⟨-,⟨h1,hz1⟩,rfl,h3,h4,h5⟩
  dsimp only at h1 hz1 h3 h4 h5 ⊢
  rw[cd] at hz1
  rw[hq] at h5
  rw[hq3] at hz1
  refine vck ?_
  refine an (b9 _) ?_
  rintro _ ⟨-,rfl⟩
  refine an (qa _ _ _ _) ?_
  rintro _ ⟨-,rfl⟩
  dsimp only
  refine an (lR _ _ _ h3 (by omega) (by omega)) ?_
  rintro⟨mm,a3,n4⟩ ⟨-,mm1,mm2,rfl,mm3⟩
  dsimp only at mm1 mm2 mm3 ⊢
  have next:∀(n5:Int)(c:ak),kr a3 n5→kJ c→szJ c≤q3+3→Tot (again (nm,dp,IntKind.i64.wrap (i+1),m',a3,n5,ns',x0,x1,x2,x3,x4,5,0,[],l++[c],[])) _:=fun n5 c hp5 hc hcz=>ih (nm,dp,IntKind.i64.wrap (i+1),m',a3,n5,ns',x0,x1,x2,x3,x4,5,0,[],l++[c],[])
   (by
    simp only[ei h,List.length_append,List.length_cons,List.length_nil]
    refine⟨trivial,trivial,by omega,by omega,trivial,trivial,hp5,h4,by omega,trivial,trivial,trivial,trivial,by omega,?_,by rw[cZ,hi9];simp only[ch];omega⟩
    intro d hd
    rcases List.mem_append.1 hd with hd|hd
    ·exact i7 d hd
    ·simp only[List.mem_singleton] at hd
     subst hd;exact hc) (by simp only[ei h];omega)
  have f1:kJ (.mk 4 0 ([102]++[UInt8.ofNat (Int.toNat (IntKind.wrap .u8 (IntKind.wrap .i64 (97+i))))]) [] []):=co _ _ _ (by simp)
  refine au (fun _=>?_) (fun _=>?_)
  ·refine vck ?_
   refine an (afd _ _ _ _ _ _ _ mm3 h1) ?_
   rintro⟨d0,d1,d2,d3,d4,a4,n5⟩ ⟨-,q1,qz,rfl,q5⟩
   dsimp only at q1 qz q5 ⊢
   rw[cd] at qz
   refine vck ?_
   refine vck ?_
   refine next _ _ q5 (vt _ _ _ _ (by simp) (by simp) (by simp[bk]) ?_ (by simp[bc]) (by intro c hc;simp[bc] at hc;subst hc;simp[im,ak.s])) (by simp only[cd,cZ,ch];omega)
   intro c hc
   simp only[List.cons_append,List.nil_append,List.mem_cons,List.not_mem_nil,or_false] at hc
   rcases hc with rfl|rfl|rfl
   ·exact f1
   ·exact h1
   ·exact q1
  ·refine vck ?_
   refine next _ _ mm3 (vt _ _ _ _ (by simp) (by simp) (by simp[bk]) ?_ (by simp[bc]) (by intro c hc;simp[bc] at hc;subst hc;simp[im,ak.s])) (by simp only[cd,cZ,ch];omega)
   intro c hc
   simp only[List.mem_cons,List.not_mem_nil,or_false] at hc
   rcases hc with rfl|rfl
   ·exact f1
   ·exact h1
 ·refine an (b9 _) ?_
  rintro _ ⟨-,rfl⟩
  refine an (b9 _) ?_
  rintro _ ⟨-,rfl⟩
  refine an (b9 _) ?_
  rintro _ ⟨-,rfl⟩
  refine an (qa _ _ _ _) ?_
  rintro _ ⟨-,rfl⟩
  dsimp only
  refine ar ⟨_,_,_,_,_,_,_,_,_,rfl,rfl,⟨⟨vt _ _ _ _ (by simp) (by simp) (by simp[bk]) ?_ (by simp[bc]) (by intro c hc;simp[bc] at hc;subst hc;exact hnm.2),by simp only[cd,cZ,ch];omega⟩,rfl,i3,i4,by simp only;omega⟩,by simp only;omega⟩
  intro c hc
  simp only[List.mem_cons,List.not_mem_nil,or_false] at hc
  rcases hc with rfl|rfl|rfl|rfl
  ·exact co _ _ _ (by simp)
  ·exact co _ _ _ hnm.1
  ·exact co _ _ _ (by simp)
  ·exact ua _ _ _ (by omega) i7 (by decide)
theorem aa0(deep:Int)(hd:0≤deep∧deep≤4)(hT:deep≤3→aaZ (deep+1)):aaZ deep:=by
 intro a n ns hp hns hl
 have hN:=sY (deep:=deep) (by omega)
 have hM:=sZ (deep:=deep) (by omega)
 have hM1:=si (5-(deep+1).toNat)
 have ed:IntKind.i64.wrap (deep+1)=deep+1:=ax (deep+1) (by omega)
 apply wU 1
 unfold qe fJ
 dsimp only
 have w8:bk ([([105,110,116]:List UInt8),([108,111,110,103]:List UInt8),([115,116,114,105,110,103]:List UInt8),([98,121,116,101,115]:List UInt8),([98,111,111,108,101,97,110]:List UInt8),([110,117,108,108]:List UInt8),([102,108,111,97,116]:List UInt8),([100,111,117,98,108,101]:List UInt8)]:List (List UInt8)):=by simp[bk]
 have two:∀(k n':Int),deep≤3→kr a n'→Tot (eQ 1 (deep,k,a,n',ns,0,0,[],[],[])) (fun z=>∃(y0 y1:Int)(y2:List UInt8)(y3:List ak)(y4:List (List UInt8))(y5:List UInt8)(y6:Int)(y7:List (List UInt8))(rest:List aq),z.1.dimR=.agg [.int .i64 y0,.int .i64 y1,.str y2,.sl .jnode (.may false) y3,.sl .str (.may false) y4]∧z.2=some [.sl .u8 (.may false) y5,.int .i64 y6]::some [.sl .str .own y7]::rest∧cR a n ns deep (y0,y1,y2,y3,y4,y5,y6,y7)):=by
  intro k n' hd3 hp'
  have hT:=hT hd3
  unfold eQ
  dsimp only
  refine vck ?_
  refine vck ?_
  generalize hnm:([78]:List UInt8)++[(UInt8.ofNat (Int.toNat (IntKind.wrap .u8 (IntKind.wrap .i64 (97+(Int.tmod (↑(List.length ns):Int) 26))))))]=nm
  have hnl:nm.length≤100:=by subst hnm;simp
  have hnk:im nm:=by subst hnm;simp[im]
  have hns2:bk (ns++[nm]):=by
   intro x hx
   rcases List.mem_append.1 hx with hx|hx
   ·exact hns x hx
   ·simp only[List.mem_singleton] at hx
    subst hx;exact hnl
  have hlen:(ns++[nm]).length=ns.length+1:=by simp
  refine au (fun _=>?_) (fun _=>au (fun _=>?_) (fun _=>?_))
  ·refine an (b9 _) ?_
   rintro _ ⟨-,rfl⟩
   refine an (b9 _) ?_
   rintro _ ⟨-,rfl⟩
   refine an (lR _ _ _ hp' (by omega) (by omega)) ?_
   rintro⟨mm,a3,n4⟩ ⟨-,mm1,mm2,rfl,mm3⟩
   dsimp only at mm1 mm2 mm3 ⊢
   refine an (qa _ _ _ _) ?_
   rintro _ ⟨-,rfl⟩
   dsimp only
   refine ar ⟨_,_,_,_,_,_,_,_,_,rfl,rfl,⟨vt _ _ _ _ (by simp) (by simp) (by simp[bk]) ?_ (by intro c hc;simp[bc] at hc;subst hc;simp only[ak.n,zO];omega) (by intro c hc;simp[bc] at hc;subst hc;exact hnk),by simp only[cd,cZ,ch];omega⟩,rfl,mm3,hns2,by simp only[hlen];omega⟩
   intro c hc
   simp only[List.mem_cons,List.not_mem_nil,or_false] at hc
   rcases hc with rfl|rfl|rfl
   ·exact co _ _ _ (by simp)
   ·exact co _ _ _ hnl
   ·exact co _ _ _ (by simp)
  ·refine an (b9 _) ?_
   rintro _ ⟨-,rfl⟩
   refine an (b9 _) ?_
   rintro _ ⟨-,rfl⟩
   refine an (b9 _) ?_
   rintro _ ⟨-,rfl⟩
   refine an (lR _ _ _ hp' (by omega) (by omega)) ?_
   rintro⟨mm,a3,n4⟩ ⟨-,mm1,mm2,rfl,mm3⟩
   dsimp only at mm1 mm2 mm3 ⊢
   have em:IntKind.i64.wrap (1+mm)=1+mm:=ax (1+mm) (by omega)
   rw[em]
   refine vck ?_
   refine an (b9 _) ?_
   rintro _ ⟨-,rfl⟩
   refine an (b9 _) ?_
   rintro _ ⟨-,rfl⟩
   refine an (qa _ _ _ _) ?_
   rintro _ ⟨-,rfl⟩
   dsimp only
   refine an (lR _ _ _ mm3 (by omega) (by omega)) ?_
   rintro⟨m5,a5,n5⟩ ⟨-,m51,m52,rfl,m53⟩
   dsimp only at m51 m52 m53 ⊢
   have hsub:∀c∈(List.drop 0 (List.take (Int.toNat (1+mm)) ([ak.mk 4 0 [88] [] [],ak.mk 4 0 [89] [] [],ak.mk 4 0 [90] [] []]:List ak))),kJ c:=by
    intro c hc
    rw[List.drop_zero] at hc
    have hc:=List.mem_of_mem_take hc
    simp only[List.mem_cons,List.not_mem_nil,or_false] at hc
    rcases hc with rfl|rfl|rfl<;>exact co _ _ _ (by simp)
   have hsl:(List.drop 0 (List.take (Int.toNat (1+mm)) ([ak.mk 4 0 [88] [] [],ak.mk 4 0 [89] [] [],ak.mk 4 0 [90] [] []]:List ak))).length≤7:=by
    simp only[List.length_drop,List.length_take,List.length_cons,List.length_nil];omega
   have hsy:=ua 5 0 _ hsl hsub (by decide)
   have hsz:=agb ([ak.mk 4 0 [88] [] [],ak.mk 4 0 [89] [] [],ak.mk 4 0 [90] [] []]:List ak) (Int.toNat (1+mm))
   simp only[ch,cd] at hsz
   refine au (fun _=>?_) (fun _=>?_)
   ·refine vck ?_
    refine an (b9 _) ?_
    rintro _ ⟨-,rfl⟩
    dsimp only
    refine vck ?_
    refine ar ⟨_,_,_,_,_,_,_,_,_,rfl,rfl,⟨vt _ _ _ _ (by simp) (by simp) (by simp[bk]) ?_ (by simp[bc]) (by intro c hc;simp[bc] at hc;subst hc;exact hnk),by simp only[cd,cZ,ch];have:=hsz;omega⟩,rfl,m53,hns2,by simp only[hlen];omega⟩
    intro c hc
    simp only[List.cons_append,List.nil_append,List.mem_cons,List.not_mem_nil,or_false] at hc
    rcases hc with rfl|rfl|rfl|rfl
    ·exact co _ _ _ (by simp)
    ·exact co _ _ _ hnl
    ·exact hsy
    ·exact co _ _ _ (by simp)
   ·refine ar ⟨_,_,_,_,_,_,_,_,_,rfl,rfl,⟨vt _ _ _ _ (by simp) (by simp) (by simp[bk]) ?_ (by simp[bc]) (by intro c hc;simp[bc] at hc;subst hc;exact hnk),by simp only[cd,cZ,ch];have:=hsz;omega⟩,rfl,m53,hns2,by simp only[hlen];omega⟩
    intro c hc
    simp only[List.mem_cons,List.not_mem_nil,or_false] at hc
    rcases hc with rfl|rfl|rfl
    ·exact co _ _ _ (by simp)
    ·exact co _ _ _ hnl
    ·exact hsy
  ·refine an (zy deep (by omega) hT _ _ _ _ hp' hns2 ⟨hnl,hnk⟩ ?_) ?_
   ·rw[hlen];omega
   rintro⟨t0,t1,t2,t3,t4,a'',n3,ns'⟩ ⟨-,⟨⟨h1,hz1⟩,rfl,h3,h4,h5⟩,h6⟩
   dsimp only at h1 hz1 h3 h4 h5 h6 ⊢
   rw[hlen] at h6
   exact ar ⟨_,_,_,_,_,_,_,_,_,rfl,rfl,⟨h1,hz1⟩,rfl,h3,h4,by simp only;omega⟩
 have one:∀(k n':Int)(b:Bool),deep≤3→kr a n'→(b=true→0<ns.length)→Tot (eR 1 (deep,k,b,a,n',ns,0,0,[],[],[])) (fun z=>∃(y0 y1:Int)(y2:List UInt8)(y3:List ak)(y4:List (List UInt8))(y5:List UInt8)(y6:Int)(y7:List (List UInt8))(rest:List aq),z.1.dimR=.agg [.int .i64 y0,.int .i64 y1,.str y2,.sl .jnode (.may false) y3,.sl .str (.may false) y4]∧z.2=some [.sl .u8 (.may false) y5,.int .i64 y6]::some [.sl .str .own y7]::rest∧cR a n ns deep (y0,y1,y2,y3,y4,y5,y6,y7)):=by
  intro k n' b hd3 hp' hb
  unfold eR gP
  dsimp only
  refine au (fun h1=>?_) (fun h1=>two _ _ hd3 hp')
  have hb:=hb h1
  have numTot:∃r,aK a n' (ns.length:Int) r:=aej _ _ _ hp' (by omega)
  refine an numTot ?_
  rintro⟨mm,a3,n4⟩ ⟨-,mm1,mm2,rfl,mm3⟩
  dsimp only at mm1 mm2 mm3 ⊢
  refine vck ?_
  refine an (b9 _) ?_
  rintro _ ⟨-,rfl⟩
  exact ar ⟨_,_,_,_,_,_,_,_,_,rfl,rfl,⟨co _ _ _ (yF hns _),by simp only[cd,cZ,ch];omega⟩,rfl,mm3,hns,by simp only;omega⟩
 have zero:∀(k n':Int),0≤k→(8≤k→deep≤3)→kr a n'→Tot (ik 1 (deep,k,a,n',ns,0,0,[],[],[])) (fun z=>∃(y0 y1:Int)(y2:List UInt8)(y3:List ak)(y4:List (List UInt8))(y5:List UInt8)(y6:Int)(y7:List (List UInt8))(rest:List aq),z.1.dimR=.agg [.int .i64 y0,.int .i64 y1,.str y2,.sl .jnode (.may false) y3,.sl .str (.may false) y4]∧z.2=some [.sl .u8 (.may false) y5,.int .i64 y6]::some [.sl .str .own y7]::rest∧cR a n ns deep (y0,y1,y2,y3,y4,y5,y6,y7)):=by
  intro k n' hk hk2 hp'
  unfold ik gQ
  dsimp only
  refine au (fun h1=>?_) (fun h1=>?_)
  ·have h1:=of_decide_eq_true h1
   refine vck ?_
   refine an (b9 _) ?_
   rintro _ ⟨-,rfl⟩
   exact ar ⟨_,_,_,_,_,_,_,_,_,rfl,rfl,⟨co _ _ _ (yF w8 _),by simp only[cd,cZ,ch];omega⟩,rfl,hp',hns,by simp only;omega⟩
  have hd3:=hk2 (by have:=of_decide_eq_false h1;omega)
  have hT:=hT hd3
  rw[ed]
  have tab:∀(word w2:List UInt8),word.length≤100→w2.length≤100→¬w2=[115,105,122,101]→¬w2=[110,97,109,101]→∀(nm:List UInt8),nm.length≤100→¬nm=[115,105,122,101]→¬nm=[110,97,109,101]→Tot (ao (aM word) (fun r3=>ao (bK a n' ns (deep+1)) (fun r4=>
     ao (cH true ([nm,w2]:List (List UInt8)) true ([⟨r3.1,r3.2.1,r3.2.2.1,r3.2.2.2.1,r3.2.2.2.2⟩,⟨r4.1,r4.2.1,r4.2.2.1,r4.2.2.2.1,r4.2.2.2.2.1⟩]:List ak)) (fun r5=>
      some (V.agg [.int .i64 r5.1,.int .i64 r5.2.1,.str r5.2.2.1,.sl .jnode (.may r5.2.2.2.1) r5.2.2.2.2.1,.sl .str (.may r5.2.2.2.2.2.1) r5.2.2.2.2.2.2],([some [.sl .u8 (.may false) r4.2.2.2.2.2.1,.int .i64 r4.2.2.2.2.2.2.1],some [.sl .str .own r4.2.2.2.2.2.2.2],some [.int .i64 r5.1,.int .i64 r5.2.1,.str r5.2.2.1,.sl .jnode (.may r5.2.2.2.1) r5.2.2.2.2.1,.sl .str (.may r5.2.2.2.2.2.1) r5.2.2.2.2.2.2]]:List aq)))))) (fun z=>∃(y0 y1:Int)(y2:List UInt8)(y3:List ak)(y4:List (List UInt8))(y5:List UInt8)(y6:Int)(y7:List (List UInt8))(rest:List aq),z.1.dimR=.agg [.int .i64 y0,.int .i64 y1,.str y2,.sl .jnode (.may false) y3,.sl .str (.may false) y4]∧z.2=some [.sl .u8 (.may false) y5,.int .i64 y6]::some [.sl .str .own y7]::rest∧cR a n ns deep (y0,y1,y2,y3,y4,y5,y6,y7)):=by
   intro word w2 hw hw2 hw3 hw4 nm hnm hnm3 hnm4
   refine an (b9 _) ?_
   rintro _ ⟨-,rfl⟩
   refine an (hT _ _ _ hp' hns (by omega)) ?_
   rintro⟨t0,t1,t2,t3,t4,a'',n3,ns'⟩ ⟨-,⟨h1,hz1⟩,rfl,h3,h4,h5⟩
   dsimp only at h1 hz1 h3 h4 h5 ⊢
   rw[cd] at hz1
   refine an (qa _ _ _ _) ?_
   rintro _ ⟨-,rfl⟩
   dsimp only
   refine ar ⟨_,_,_,_,_,_,_,_,_,rfl,rfl,⟨vt _ _ _ _ (by simp) (by simp) ?_ ?_ (by simp[bc,hw3,hnm3]) (by simp[bc,hw4,hnm4]),by simp only[cd,cZ,ch];omega⟩,rfl,h3,h4,by simp only;omega⟩
   ·intro x hx
    simp only[List.mem_cons,List.not_mem_nil,or_false] at hx
    rcases hx with rfl|rfl<;>assumption
   ·intro c hc
    simp only[List.mem_cons,List.not_mem_nil,or_false] at hc
    rcases hc with rfl|rfl
    ·exact co _ _ _ hw
    ·exact h1
  refine au (fun _=>?_) (fun _=>au (fun _=>?_) (fun _=>au (fun _=>?_) (fun _=>au (fun _=>one _ _ _ hd3 hp' fun hb=>?_) (fun _=>one _ _ _ hd3 hp' fun hb=>by cases hb))))
  ·exact tab _ _ (by simp) (by simp) (by simp) (by simp) _ (by simp) (by simp) (by simp)
  ·exact tab _ _ (by simp) (by simp) (by simp) (by simp) _ (by simp) (by simp) (by simp)
  ·refine an (agc deep (by omega) hT _ _ _ hp' hns hl) ?_
   rintro⟨t0,t1,t2,t3,t4,a'',n3,ns'⟩ ⟨-,h1,rfl,h3,h4,h5⟩
   exact ar ⟨_,_,_,_,_,_,_,_,_,rfl,rfl,h1,rfl,h3,h4,h5⟩
  ·have:=of_decide_eq_true hb
   omega
 refine an (lR _ _ _ hp (by omega) (by omega)) ?_
 rintro⟨m,a',n'⟩ ⟨-,m1,m2,rfl,m3⟩
 dsimp only at m1 m2 m3 ⊢
 have t8:0≤Int.tmod m 8∧Int.tmod m 8<8:=⟨Int.tmod_nonneg _ m1,Int.tmod_lt_of_pos _ (by omega)⟩
 refine au (fun h1=>zero _ _ t8.1 (fun h=>by omega) m3) (fun h1=>?_)
 have h1:=of_decide_eq_false h1
 refine an (aho _ _) ?_
 rintro⟨b,a2,n2⟩ ⟨-,rfl,rfl⟩
 dsimp only
 exact au (fun _=>zero _ _ t8.1 (fun h=>by omega) m3) (fun _=>zero _ _ m1 (fun _=>by omega) m3)
theorem ack:∀(k:Nat)(deep:Int),deep+k=4→0≤deep→aaZ deep
 |0,deep,h,h1=>aa0 deep (by omega) (fun h'=>by omega)
 |k+1,deep,h,h1=>aa0 deep (by omega) (fun _=>ack k (deep+1) (by omega) (by omega))
theorem agd(a:List UInt8)(n:Int)(hp:kr a n):∃r,eF a n r:=by
 apply tM 1
 unfold oD oC
 refine an (zy 0 (by omega) (ack 3 1 (by omega) (by omega)) _ _ _ _ hp (by simp[bk]) ⟨by simp,by simp[im]⟩ (by simp[li])) ?_
 rintro⟨t0,t1,t2,t3,t4,a'',n3,ns'⟩ ⟨-,⟨h1,rfl,h3,h4,h5⟩,h6⟩
 exact ar ⟨_,_,_,_,_,_,_,_,rfl,rfl,h1,rfl,h3⟩
end Go.Proofs.YtkinflmjagfapaaDoor
end
noncomputable section
namespace Go.Proofs.YtkinflmjagfapaaDoor
open Go.AM
set_option autoImplicit false
set_option linter.unusedVariables false
set_option linter.unusedSimpArgs false
set_option maxRecDepth 100000
abbrev pC:List UInt8:=[117,110,108,105,107,101]
theorem aeE(s:List UInt8)(j:ak):aV (fH [dF,cp] [bp s,j])=(123::aZ dF++[58,34])++(s.flatMap gq++(34::44::(aZ cp++58::(aV j++[125])))):=by
 simp[aV,aR,dr,Go.Lib.join_cons,Go.Lib.joinTail,aZ]
theorem afe{s:List UInt8}(h:im s)(j j2:ak):vj (aV (fH [dF,cp] [bp s,j])) (aV (fH [dF,cp] [bp pC,j2])):=by
 rw[aeE,aeE]
 cases s with
 |nil=>exact⟨_,34,117,_,_,by decide,rfl,rfl⟩
 |cons c s=>
  have hc:c≠117:=by simpa [im] using h
  obtain⟨x,r,hq,hx⟩:=afc c hc
  rw[List.flatMap_cons,hq]
  exact⟨_,x,117,_,_,hx,rfl,rfl⟩
theorem TR.split{ts:List am}{f:aN}{q:List aN}:∀{p:List aN}{L L':List Int}{js:List ak},TR ts (.flds (p++f::q)) L js L'→
  ∃js1 M j js3,js=js1++fH [dF,cp] [bp f.name,j]::js3∧TR ts (.flds p) L js1 M
 | [],L,L',js,h=>by
   cases h with
   |fcons _ _ _ j M js _ h1 h2=>exact⟨[],L,j,js,rfl,.fnil L⟩
 |g::p,L,L',js,h=>by
  cases h with
  |fcons _ _ _ j M js _ h1 h2=>
   obtain⟨js1,M',j',js3,rfl,h3⟩:=TR.split h2
   exact⟨_,M',j',js3,rfl,.fcons _ _ _ _ _ _ _ h1 h3⟩
theorem aeF(a b:List ak):aR (a++b)=aR a++aR b:=by simp[fC]
theorem age{ts us:List am}(hS:Sim (·=0) ts us)(h9:(tyA ts 0).kind=9){p q q':List aN}{f f':aN}(e1:(tyA ts 0).fields=p++f::q)(e2:(tyA us 0).fields=p++f'::q')
  (hf:im f.name) (hf':f'.name=pC) {x y:List UInt8} (hx:lH ts x) (hy:lH us y) (n1:ts≠[]) (n2:us≠[]):x≠y:=by
 obtain⟨j,L,t1,rfl⟩:=hx.2 n1
 obtain⟨j2,L2,t2,rfl⟩:=hy.2 n2
 have h9':(tyA us 0).kind=9:=by rw[←(hS 0).1.kind];exact h9
 have hn:=(hS 0).1.name
 cases t1 with
 |rcd _ _ js _ _ _ t1=>
  cases t2 with
  |rcd _ _ js2 _ _ _ t2=>
   rw[e1] at t1
   rw[e2] at t2
   obtain⟨a1,M,j,a3,rfl,g1⟩:=t1.split
   obtain⟨b1,M2,j2,b3,rfl,g2⟩:=t2.split
   obtain⟨rfl, -⟩:=g1.same hS (fun a ha=>by subst ha;simp) _ _ _ (show nr (.flds p) (.flds p) from rfl) g2
   rw[hf',←hn]
   have hP:=afe hf j j2
   have hl:vj (aV (ni (a1++fH [dF,cp] [bp f.name,j]::a3))) (aV (ni (a1++fH [dF,cp] [bp pC,j2]::b3))):=by
    obtain⟨p0,hp0⟩:=ahA [44] [] [] (aR a1)
    have e:∀(t:ak)(r:List ak),aV (ni (a1++t::r))=(91::p0)++(aV t++(Go.Lib.joinTail [44] (aR r)++[93])):=by
     intro t r
     have:aV (ni (a1++t::r))=91::(dr [44] (aR (a1++t::r))++[93]):=by simp[aV]
     rw[this,aeF,show aR (t::r)=aV t::aR r from by simp[aR],hp0]
     simp
    rw[e,e]
    exact hP.mid _ _ _
   have e:∀t:ak,aV (fH [dF,cp,[102,105,101,108,100,115]] [bp (tyA ts 0).name,bp (dJ 9),t])=(123::(aZ dF++58::(aZ (tyA ts 0).name++44::(aZ cp++58::(aZ (dJ 9)++44::(aZ [102,105,101,108,100,115]++[58]))))))++(aV t++[125]):=by
    intro t
    simp[aV,aR,dr,Go.Lib.join_cons,Go.Lib.joinTail]
   rw[e,e]
   exact(hl.mid _ _ _).ne
  |told _ _ _ hm=>simp at hm
  |_=>exfalso;omega
 |told _ _ _ hm=>simp at hm
 |_=>exfalso;omega
theorem abS{ts:List am}{t':am}(h:0<ts.length)(i:Int):tyA (ts.set 0 t') i=if i.toNat=0 then t' else tyA ts i:=by
 unfold tyA
 simp only[List.getD_eq_getElem?_getD,List.getElem?_set]
 by_cases hi:i.toNat=0
 ·rw[if_pos hi,if_pos (by omega),if_pos (by omega)];rfl
 ·rw[if_neg hi,if_neg (by omega)]
theorem bZ.sim{ts us:List am}{n:Nat}(hs:∀(i:Nat) t,ts[i]? =some t→∃t',us[i]? =some t'∧abG t t'){i:Int}{b:Nat}(h:bZ ts n i b):bZ us n i b:=by
 induction h with
 |leaf i t h0 h hk=>
  obtain⟨t',h',s⟩:=hs _ t h
  exact .leaf i t' h0 h' (by rw[←s.kind];exact hk)
 |arr i t b h0 hn h hk hr ih=>
  obtain⟨t',h',s⟩:=hs _ t h
  exact .arr i t' b h0 hn h' (by rw[←s.kind];exact hk) (by rw[←s.items];exact ih)
 |uni i t w h0 hn h hk hr ih=>
  obtain⟨t',h',s⟩:=hs _ t h
  have:=bZ.uni (ts:=us) (n:=n) i t' w h0 hn h' (by rw[←s.kind];exact hk) (by rw[←s.branches];exact ih)
  rw[←s.branches] at this
  exact this
theorem nq.swap{ts:List am}(hX:nq ts){t':am}(hs:abG (tyA ts 0) t')(hf:t'.fields.map (·.typ)=(tyA ts 0).fields.map (·.typ))(hn:∀f∈t'.fields,f.name.length≤100):nq (ts.set 0 t'):=by
 obtain⟨⟨h1,h2⟩,h3,b,h4,h5⟩:=hX
 have hl:=h1.1
 have h0:ts[0]? =some (tyA ts 0):=by
  simp[tyA,List.getElem?_eq_getElem hl]
 have hk:=h2 _ (List.mem_of_getElem? h0)
 have sim:∀(i:Nat) t,ts[i]? =some t→∃u,(ts.set 0 t')[i]? =some u∧abG t u:=by
  intro i t h
  rw[List.getElem?_set]
  by_cases hi:0=i
  ·subst hi
   rw[if_pos rfl,if_pos hl]
   rw[h0] at h
   cases h
   exact⟨_,rfl,hs⟩
  ·rw[if_neg hi]
   exact⟨t,h,rfl,rfl,rfl,rfl,rfl,rfl⟩
 have hfl:t'.fields.length=(tyA ts 0).fields.length:=by simpa using congrArg List.length hf
 refine⟨⟨by simpa using h1,fun t ht=>?_⟩,fun i t h=>?_,b,h4,h5.sim sim⟩
 ·rcases List.mem_or_eq_of_mem_set ht with ht|rfl
  ·exact h2 t ht
  ·exact⟨by rw[hfl];exact hk.nf,hn,by rw[←hs.branches];exact hk.nb,by rw[←hs.syms];exact hk.ns,by rw[←hs.size];exact hk.size,by rw[←hs.name];exact hk.nl,by rw[←hs.syms];exact hk.sl⟩
 ·rw[List.getElem?_set] at h
  by_cases hi:0=i
  ·subst hi
   rw[if_pos rfl,if_pos hl] at h
   cases h
   intro f hf'
   have:f.typ∈(tyA ts 0).fields.map (·.typ):=by rw[←hf];exact List.mem_map_of_mem hf'
   obtain⟨g,hg,e⟩:=List.mem_map.1 this
   obtain⟨b,b1,b2⟩:=h3 0 _ h0 g hg
   rw[e] at b2
   exact⟨b,b1,b2.sim sim⟩
  ·rw[if_neg hi] at h
   intro f hf'
   obtain⟨b,b1,b2⟩:=h3 i t h f hf'
   exact⟨b,b1,b2.sim sim⟩
theorem agT{α:Type}{l:List α}{n:Nat}(h:n<l.length)(x:α):∃p q,l=p++l[n]::q∧l.set n x=p++x::q:=by
 refine⟨l.take n,l.drop (n+1),?_,?_⟩
 ·rw[←List.drop_eq_getElem_cons h,List.take_append_drop]
 ·rw[List.set_eq_take_append_cons_drop,if_pos h]
theorem adf(p:List UInt8)(w:Int)(hw:0≤w∧w≤255):∃r,qw p w r:=by
 apply wT 1
 unfold qd qc
 dsimp only
 refine an agQ ?_
 rintro _ ⟨-,rfl⟩
 refine au (fun h=>absurd h (by simp)) (fun _=>?_)
 refine au (fun _=>ar ⟨_,_,rfl,rfl,rfl⟩) (fun hlen=>?_)
 have hlen:=of_decide_eq_false hlen
 refine an (ahp p) ?_
 rintro _ ⟨-,rfl⟩
 refine an (agd p 0 ⟨by omega,by omega,by omega⟩) ?_
 rintro⟨t0,t1,t2,t3,t4,a',n'⟩ ⟨-,⟨hn,hz⟩, -, -⟩
 dsimp only at hn hz ⊢
 refine an (ahE _ _ _ _ _ (hn.up (by omega)) (Nat.le_trans hz (by decide))) ?_
 rintro⟨ts,e⟩ ⟨-,hX⟩
 dsimp only
 refine au (fun _=>ar ⟨_,_,rfl,rfl,rfl⟩) (fun he=>?_)
 have hX:afP ts:=hX (by simpa using he)
 have hl:=hX.1.1
 have etA:ts.getD 0 (az .atype)=tyA ts 0:=rfl
 simp only[List.nil_append,List.length_nil,Nat.zero_add,Int.toNat_zero,etA]
 refine vck ?_
 refine au (fun _=>ar ⟨_,_,rfl,rfl,rfl⟩) (fun hf=>?_)
 have hf:((tyA ts 0).fields.length:Int)≠0:=by simpa using hf
 rw[ax w (by omega)]
 obtain⟨m,hm⟩:∃m,Int.tmod w ((tyA ts 0).fields.length:Int)=m:=⟨_,rfl⟩
 have hm0:0≤m∧m<((tyA ts 0).fields.length:Int):=by
  rw[Int.tmod_eq_emod_of_nonneg hw.1] at hm
  exact⟨hm▸Int.emod_nonneg _ hf,hm▸Int.emod_lt_of_pos _ (by omega)⟩
 rw[hm]
 have hmn:m.toNat<(tyA ts 0).fields.length:=by omega
 simp only[sV hmn,sV hl.1,List.set_set,List.length_set]
 have ht:=hX.1.2 (tyA ts 0) (by rw[←etA];rw[List.getD_eq_getElem?_getD,List.getElem?_eq_getElem hl.1];exact List.getElem_mem _)
 have hfl:=ht.nf
 have hfe:(tyA ts 0).fields.getD m.toNat (az .afield)=(tyA ts 0).fields[m.toNat]:=by
  rw[List.getD_eq_getElem?_getD,List.getElem?_eq_getElem hmn];rfl
 rw[hfe]
 have hff:=ht.fields _ (List.getElem_mem hmn)
 obtain⟨q1,q2,qe1,qe2⟩:=agT hmn (⟨pC,((tyA ts 0).fields[m.toNat]).aliases,((tyA ts 0).fields[m.toNat]).typ,((tyA ts 0).fields[m.toNat]).hasdef,((tyA ts 0).fields[m.toNat]).df⟩:aN)
 generalize hfd:(tyA ts 0).fields[m.toNat]=f at hff qe1 qe2 ⊢
 have h9:(tyA ts 0).kind=9:=by
  by_cases h:(tyA ts 0).kind=9
  ·exact h
  ·exfalso
   rw[ht.fk h] at hf
   simp at hf
 have eJ:∀c:ak,ak.mk c.kind c.n c.s c.l c.names=c:=fun c=>by cases c;rfl
 simp only[eJ]
 have mset:∀(g:aN)(k:aN→List UInt8×Int),k g=k f→((tyA ts 0).fields.set m.toNat g).map k=(tyA ts 0).fields.map k:=by
  intro g k hk
  rw[List.map_set,hk,←hfd,←List.map_set,List.set_getElem_self]
 have tset:∀(g:aN),g.typ=f.typ→((tyA ts 0).fields.set m.toNat g).map (·.typ)=(tyA ts 0).fields.map (·.typ):=by
  intro g hk
  rw[List.map_set,hk,←hfd,←List.map_set,List.set_getElem_self]
 have nset:∀(g:aN),g.name.length≤100→∀x∈(tyA ts 0).fields.set m.toNat g,x.name.length≤100:=by
  intro g hg x hx
  rcases List.mem_or_eq_of_mem_set hx with hx|rfl
  ·exact(ht.fields x hx).2.1
  ·exact hg
 have hW:=hX.w
 obtain⟨tA,htA⟩:∃tA:am,tA=⟨(tyA ts 0).kind,(tyA ts 0).name,[[113]],(tyA ts 0).items,(tyA ts 0).syms,(tyA ts 0).hasdef,(tyA ts 0).df,(tyA ts 0).size,(tyA ts 0).fields.set m.toNat ⟨f.name,[[111,116,104,101,114]],f.typ,false,.mk 0 0 [] [] []⟩,(tyA ts 0).branches⟩:=⟨_,rfl⟩
 have sA:abG (tyA ts 0) tA:=by subst htA;exact⟨rfl,rfl,rfl,rfl,rfl,rfl⟩
 have wA:nq (ts.set 0 tA):=hW.swap sA (by subst htA;exact tset _ rfl) (by subst htA;exact nset _ hff.2.1)
 have simA:Sim (fun _=>False) (ts.set 0 tA) ts:=by
  intro i
  rw[abS hl.1]
  by_cases hi:i.toNat=0
  ·rw[if_pos hi]
   have:tyA ts i=tyA ts 0:=by unfold tyA;rw[hi];rfl
   rw[this]
   subst htA
   exact⟨⟨rfl,rfl,rfl,rfl,rfl,rfl⟩,fun _ _=>mset _ _ rfl⟩
  ·rw[if_neg hi]
   exact⟨⟨rfl,rfl,rfl,rfl,rfl,rfl⟩,fun _ _=>rfl⟩
 obtain⟨tB,htB⟩:∃tB:am,tB=⟨(tyA ts 0).kind,(tyA ts 0).name,(tyA ts 0).aliases,(tyA ts 0).items,(tyA ts 0).syms,(tyA ts 0).hasdef,(tyA ts 0).df,(tyA ts 0).size,(tyA ts 0).fields.set m.toNat ⟨pC,f.aliases,f.typ,f.hasdef,f.df⟩,(tyA ts 0).branches⟩:=⟨_,rfl⟩
 have sB:abG (tyA ts 0) tB:=by subst htB;exact⟨rfl,rfl,rfl,rfl,rfl,rfl⟩
 have wB:nq (ts.set 0 tB):=hW.swap sB (by subst htB;exact tset _ rfl) (by subst htB;exact nset _ (show pC.length≤100 by decide))
 have simB:Sim (·=0) ts (ts.set 0 tB):=by
  intro i
  rw[abS hl.1]
  by_cases hi:i.toNat=0
  ·rw[if_pos hi]
   have:tyA ts i=tyA ts 0:=by unfold tyA;rw[hi];rfl
   rw[this]
   exact⟨sB,fun h0 hni=>absurd (show i=0 by omega) hni⟩
  ·rw[if_neg hi]
   exact⟨⟨rfl,rfl,rfl,rfl,rfl,rfl⟩,fun _ _=>rfl⟩
 rw[←htA,←htB]
 have hne:ts≠[]:=fun e=>by subst e;simp at hl
 iterate 32 refine vck ?_
 refine s7 (by simp) (pB wA) ?_
 rintro x ⟨-,hx⟩
 refine an (pB hW) ?_
 rintro y ⟨-,hy⟩
 obtain rfl:x=y:=lH.same simA (by simp) hx hy
 refine au (fun _=>?_) (fun h=>absurd h (by simp))
 refine s7 (by simp) (vk wA) ?_
 rintro _ ⟨-,x1,hx1,rfl⟩
 refine an (vk hW) ?_
 rintro _ ⟨-,y1,hy1,rfl⟩
 obtain rfl:x1=y1:=lH.same simA (by simp) hx1 hy1
 refine au (fun _=>?_) (fun h=>absurd h (by simp))
 refine s7 (by simp) (pB wB) ?_
 rintro z ⟨-,hz⟩
 refine an (pB hW) ?_
 rintro y2 ⟨-,hy2⟩
 have hzy:y2≠z:=by
  refine age simB h9 (f':=⟨pC,f.aliases,f.typ,f.hasdef,f.df⟩) qe1 (q':=q2) ?_ hff.2.2 rfl hy2 hz hne (by simpa using hne)
  rw[abS hl.1]
  subst htB
  exact qe2
 refine vck ?_
 refine vck ?_
 exact ar ⟨_,_,rfl,rfl,by simp[jK,Ne.symm hzy]⟩
theorem abT(p:List UInt8)(w:Int):aH Tryd.prog me [.sl .u8 (.may false) p,.int .u8 w] (.bool true):=by
 by_cases h:0≤w∧w≤255
 ·obtain⟨r,hr,rfl⟩:=adf p w h
  exact hr
 ·refine⟨[],cm.ranged fun hr=>absurd ?_ h⟩
  have:=hr (.int .u8 w) (by simp)
  simpa [V.inRange,IntKind.min,IntKind.max,IntKind.signed,IntKind.bits] using this
end Go.Proofs.YtkinflmjagfapaaDoor
end
noncomputable section
namespace Go.Proofs.YtkinflmjagfapaaDoor
open Go.ChangeShapes Go.WideShapes Go.AM
set_option autoImplicit false
set_option linter.unusedVariables false
set_option maxRecDepth 100000
theorem afu{α:Type}{p:Nat→α→Prop}:∀n,(∀i,i<n→∃x,p i x)→∃l:List α,l.length=n∧∀i x,l[i]? =some x→p i x
 |0,_=>⟨[],rfl,by simp⟩
 |n+1,h=>by
  obtain⟨l,h1,h2⟩:=afu n fun i hi=>h i (by omega)
  obtain⟨x,hx⟩:=h n (by omega)
  refine⟨l++[x],by simp[h1],fun i y hy=>?_⟩
  rcases Nat.lt_or_ge i l.length with hi|hi
  ·rw[List.getElem?_append_left hi] at hy
   exact h2 i y hy
  ·rw[List.getElem?_append_right hi] at hy
   have h3:i=n:=by
    have:=(List.getElem?_eq_some_iff.1 hy).1
    simp at this
    omega
   subst h3
   have:x=y:=by simpa [h1] using hy
   exact this▸hx
section
variable{H:Type}{enc:TypeId×Value→H}{w:World}{base:Nat}{held:Bool}
theorem aia(k:EK){t e:TypeId}(ht:Tryd.prog.underlying t=some (.slice e))(hc:Tryd.prog.cellsOf e=k.sz){n:Nat}{cs:List Value}{x:DataW H×List MemPlace}
  (elem:∀m,m+1=n→∀es y,DataW.trod enc Tryd.prog w base (fun _=>true) held m e es=some y→∃x:Ty k,∀(j:Nat) v u,(AM.enc k x)[j]? =some v→es[j]? =some u→VRel (ko w).I id 0 w v u)
  (h:DataW.trod enc Tryd.prog w base (fun _=>true) held n t cs=some x):∃(xs:List (Ty k))(cv:Value),cs=[cv]∧VRel (ko w).I id 0 w (.sl k (.may false) xs) cv:=by
 have hk0:0<k.sz:=by cases k<;>simp[EK.sz]
 rcases DataW.trod_slice ht h with⟨rfl, -⟩|⟨a,len,cap,elems,rest,m,rfl,rfl, -,hb,hl,hm,hlen,hel,hsp, -⟩
 ·exact⟨[],_,rfl,.sln _ _⟩
 obtain⟨hrl,hr⟩:=hsp rfl
 rw[hc] at hel hr
 by_cases h0:cap=0
 ·subst h0
  obtain rfl:len=0:=by omega
  exact⟨[],_,rfl,.sle _ _ a (by simp)⟩
 have first:∃es y,w.cells? base (a.add (0*k.sz)) k.sz=some es∧DataW.trod enc Tryd.prog w base (fun _=>true) held m e es=some y:=by
  by_cases hl0:len=0
  ·have h1:=hr 0 (by omega)
   rw[hl0] at h1
   have h2:0<rest.length:=by omega
   rw[List.getElem?_eq_getElem h2,Option.bind_eq_some_iff] at h1
   obtain⟨es,h3,h4⟩:=h1
   exact⟨es,_,h3,h4⟩
  ·have h1:=hel 0 (by omega)
   have h2:0<elems.length:=by omega
   rw[List.getElem?_eq_getElem h2,Option.bind_eq_some_iff] at h1
   obtain⟨es,h3,h4⟩:=h1
   exact⟨es,_,h3,h4⟩
 have hspot:a.spot=none:=by
  obtain⟨es,y,h1, -⟩:=first
  obtain⟨h2,h3,h4⟩:=World.cells?_some h1
  have h5:=h4 0 hk0
  rw[List.getElem?_eq_getElem (by omega)] at h5
  simp only[Nat.zero_mul,Addr.add,if_true,World.cell?] at h5
  split at h5
  ·cases hs:a.spot with
   |none=>rfl
   |some s=>simp[hs] at h5
  ·cases h5
 obtain⟨b,off,spot⟩:=a
 simp only at hspot
 subst hspot
 obtain⟨xs,hxl,hxs⟩:=afu (α:=Ty k) (p:=fun i x=>∀j v,(AM.enc k x)[j]? =some v→∃u,w.cell? ⟨b,off+i*k.sz+j,none⟩=some u∧VRel (ko w).I id 0 w v u) len (by
  intro i hi
  have h1:=hel i hi
  rw[List.getElem?_eq_getElem (by omega),Option.bind_eq_some_iff] at h1
  obtain⟨es,h2,h3⟩:=h1
  obtain⟨x,hx⟩:=elem m rfl es _ h3
  obtain⟨h4,h5,h6⟩:=World.cells?_some h2
  refine⟨x,fun j v hv=>?_⟩
  have hj:j<k.sz:=by
   have:=(List.getElem?_eq_some_iff.1 hv).1
   rwa [bH] at this
  have h7:=h6 j hj
  rw[List.getElem?_eq_getElem (by omega),add_plain,add_plain] at h7
  exact⟨_,h7,hx j v _ hv (List.getElem?_eq_getElem (by omega))⟩)
 refine⟨xs,_,rfl,.sl k (.may false) xs b off len cap hxl (by omega) (by unfold maxLen at hm;unfold bN;exact hm) (by simp) (fun i j=>(w.cell? ⟨b,off+i*k.sz+j,none⟩).getD undef) ?_ ?_ ?_⟩
 ·intro i x j h1 h2
  obtain⟨u,h3, -⟩:=hxs i x h1 j _ (List.getElem?_eq_getElem h2)
  show (w.cell? _).isSome=true
  rw[h3];rfl
 ·intro i x j h1 h2
  obtain⟨u,h3, -⟩:=hxs i x h1 j _ (List.getElem?_eq_getElem h2)
  rw[h3];rfl
 ·intro i x j v h1 h2
  obtain⟨u,h3,h4⟩:=hxs i x h1 j v h2
  rw[h3];exact h4
theorem agf{n:Nat}{cs:List Value}{x:DataW H×List MemPlace}(h:DataW.trod enc Tryd.prog w base (fun _=>true) held n 22 cs=some x):
  ∃(xs:List UInt8)(cv:Value),cs=[cv]∧VRel (ko w).I id 0 w (.sl .u8 (.may false) xs) cv:=
 aia .u8 Tryd.underlying22 (by kernel_rfl) (fun m hm es y hy=>by
  obtain⟨c,rfl, -,hw⟩:=DataW.trod_int Tryd.underlying5 hy
  have hr:0≤c∧c≤255:=by simpa [Lit.wf,IntKind.min,IntKind.max,IntKind.signed,IntKind.bits] using hw
  refine⟨UInt8.ofNat c.toNat,fun j v u h1 h2=>?_⟩
  obtain rfl:j=0:=by
   have:=(List.getElem?_eq_some_iff.1 h2).1
   simpa using this
  simp only[AM.enc,List.getElem?_cons_zero,Option.some.injEq] at h1 h2
  subst h1 h2
  have:((UInt8.ofNat c.toNat).toNat:Int)=c:=by
   rw[UInt8.toNat_ofNat']
   omega
  rw[this]
  exact .int _ _ (by simpa [Lit.wf] using hw)) h
theorem agh{r:Reach}{b0:Nat}{v:Value}{d:DataW H}{p:List MemPlace}(hv:Value.okWide Tryd.prog w r b0 22 v)(h:DataW.Trod enc Tryd.prog w base (fun _=>true) held 22 v d p):
  ∃xs:List UInt8,VRel (ko w).I id 0 w (.sl .u8 (.may false) xs) v:=by
 obtain⟨a,len,cap,rfl⟩:=okWide_slice Tryd.underlying22 hv
 obtain⟨fuel,hf⟩:=h
 obtain⟨xs,cv,e,hr⟩:=agf hf
 have e:[Value.slice a len cap]=[cv]:=e
 cases e
 exact⟨xs,hr⟩
end
end Go.Proofs.YtkinflmjagfapaaDoor
end
