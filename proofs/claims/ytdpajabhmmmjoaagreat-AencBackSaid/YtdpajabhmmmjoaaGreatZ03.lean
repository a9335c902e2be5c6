import Derived.KernelRfl
import Derived.Test.YtdpajabhmmmjoaaGreatZ02
noncomputable section
namespace Go.Proofs.YtdpajabhmmmjoaaGreat
open Go.AM
set_option autoImplicit false
set_option linter.unusedSimpArgs false
set_option linter.unusedVariables false
theorem acX(a:UInt8)(n:Nat)(h:n<256):(UInt8.ofNat n=a)↔(n=a.toNat):=by
 constructor
 ·rintro rfl;simp;omega
 ·intro h;subst h;simp
theorem aEs(a b:UInt8)(v:Nat)(hv:v<32)(ha:a.toNat=192+v):
  gly (v*64+b.toNat%64)=[a,b]↔(128≤b.toNat∧b.toNat≤191∧128≤v*64+b.toNat%64):=by
 have hb:=UInt8.toNat_lt b
 unfold gly
 by_cases h1:v*64+b.toNat%64<128
 ·rw[if_pos h1]
  constructor
  ·intro h;simp at h
  ·omega
 ·rw[if_neg h1,if_pos (by omega)]
  simp only[List.cons.injEq,and_true]
  rw[acX _ _ (by omega),acX _ _ (by omega)]
  omega
theorem aEt(a b c:UInt8)(v:Nat)(hv:v<16)(ha:a.toNat=224+v)(r:Nat)(hr:r=(v*64+b.toNat%64)*64+c.toNat%64):
  gly r=[a,b,c]↔(128≤b.toNat∧b.toNat≤191∧128≤c.toNat∧c.toNat≤191∧2048≤r∧¬(55296≤r∧r≤57343)):=by
 have hb:=UInt8.toNat_lt b
 have hc:=UInt8.toNat_lt c
 unfold gly
 by_cases h1:r<128
 ·rw[if_pos h1]
  constructor
  ·intro h;simp at h
  ·omega
 by_cases h2:r<2048
 ·rw[if_neg h1,if_pos h2]
  constructor
  ·intro h;simp at h
  ·omega
 by_cases h3:(55296≤r∧r<57344)∨1114111<r
 ·rw[if_neg h1,if_neg h2,if_pos h3]
  constructor
  ·intro h
   simp only[List.cons.injEq,and_true] at h
   obtain⟨rfl,rfl,rfl⟩:=h
   simp at ha hr
   omega
  ·omega
 ·rw[if_neg h1,if_neg h2,if_neg h3,if_pos (by omega)]
  simp only[List.cons.injEq,and_true]
  rw[acX _ _ (by omega),acX _ _ (by omega),acX _ _ (by omega)]
  omega
theorem aEu(a b c d:UInt8)(v:Nat)(hv:v<8)(ha:a.toNat=240+v)(r:Nat)(hr:r=((v*64+b.toNat%64)*64+c.toNat%64)*64+d.toNat%64):
  gly r=[a,b,c,d]↔(128≤b.toNat∧b.toNat≤191∧128≤c.toNat∧c.toNat≤191∧128≤d.toNat∧d.toNat≤191∧65536≤r∧r≤1114111):=by
 have hb:=UInt8.toNat_lt b
 have hc:=UInt8.toNat_lt c
 have hd:=UInt8.toNat_lt d
 unfold gly
 by_cases h1:r<128
 ·rw[if_pos h1]
  constructor
  ·intro h;simp at h
  ·omega
 by_cases h2:r<2048
 ·rw[if_neg h1,if_pos h2]
  constructor
  ·intro h;simp at h
  ·omega
 by_cases h3:(55296≤r∧r<57344)∨1114111<r
 ·rw[if_neg h1,if_neg h2,if_pos h3]
  constructor
  ·intro h;simp at h
  ·omega
 by_cases h4:r<65536
 ·rw[if_neg h1,if_neg h2,if_neg h3,if_pos h4]
  constructor
  ·intro h;simp at h
  ·omega
 ·rw[if_neg h1,if_neg h2,if_neg h3,if_neg h4]
  simp only[List.cons.injEq,and_true]
  rw[acX _ _ (by omega),acX _ _ (by omega),acX _ _ (by omega),acX _ _ (by omega)]
  omega
theorem apa(n v:Nat)(s:List UInt8):(ey n v s).2 ≤s.length:=by
 unfold ey
 split
 ·simp
 ·dsimp only
  split
  ·dsimp only;omega
  ·simp
theorem aw9(s:List UInt8):(gp s).2 ≤s.length:=by
 unfold gp
 split
 ·simp
 ·rename_i c t
  split
  ·simp
  ·split
   ·exact apa _ _ _
   ·split
    ·exact apa _ _ _
    ·split
     ·exact apa _ _ _
     ·simp
theorem aa4:∀(k:Nat)(s:List UInt8),s.length≤k→adk k s=adk s.length s
 |k,[],h=>by cases k<;>rfl
 |0,_::_,h=>by simp at h
 |k+1,c::s,h=>by
  have h1:s.length+1≤k+1:=h
  show (if (gp (c::s)).2 =0 then false else adk k ((c::s).drop (gp (c::s)).2))=(if (gp (c::s)).2 =0 then false else adk s.length ((c::s).drop (gp (c::s)).2))
  split
  ·rfl
  ·rename_i hp
   have hl:((c::s).drop (gp (c::s)).2).length≤s.length:=by simp;omega
   rw[aa4 k _ (by omega)]
   by_cases hk:s.length=k
   ·rw[hk];exact(aa4 k _ (by omega)).symm
   ·exact(aa4 s.length _ hl).symm
termination_by k=>k
decreasing_by all_goals (try simp_wf);all_goals omega
theorem aob(c:UInt8)(s:List UInt8):cJ (c::s)=if (gp (c::s)).2 =0 then false else cJ ((c::s).drop (gp (c::s)).2):=by
 show (if (gp (c::s)).2 =0 then false else adk s.length ((c::s).drop (gp (c::s)).2))=_
 split
 ·rfl
 ·exact aa4 _ _ (by simp;omega)
end Go.Proofs.YtdpajabhmmmjoaaGreat
end
noncomputable section
namespace Go.Proofs.YtdpajabhmmmjoaaGreat
open Go.AM
set_option autoImplicit false
set_option linter.unusedVariables false
set_option maxRecDepth 100000
def aoc(N:Nat):Nat→List V→Option (Bool×V):=fun f vs=>match f,vs with
 |19,[.agg [.sl .atype (.may _) a],.int .i64 g,.agg [.int .u64 l,.str m,.sl .aval (.may _) h,.sl .str (.may _) n,.int .i64 o]]=>some (decide (1000000≤N-(szL h+1)),.bool (aX a g (.mk l m h n o)))
 |31,[.agg [.sl .atype (.may _) a],.int .i64 g]=>some (true,.bool (isT a g))
 |32,[.agg [.int .i64 a,.str c,.sl .str (.may _) d,.int .i64 e,.sl .str (.may _) b,.bool p,.str q,.int .i64 i,.sl .afield (.may _) r,.sl (.num .i64) (.may _) s],.int .u64 g]=>some (true,.bool (mT a b g))
 |33,[.agg [.int .i64 a,.str c,.sl .str (.may _) d,.int .i64 e,.sl .str (.may _) b,.bool p,.str q,.int .i64 i,.sl .afield (.may _) r,.sl (.num .i64) (.may _) s],.str g]=>some (true,.bool (uN a i g))
 |34,[.agg [.sl .atype (.may _) a],.int .i64 g,.sl .aval (.may _) k]=>some (decide (1000000≤N-szL k),.bool (bA a g k))
 |35,[.sl .str (.may _) a0]=>some (true,.bool (dl a0))
 |36,[.agg [.sl .atype (.may _) a],.agg [.int .i64 t,.str u,.sl .str (.may _) v,.int .i64 w,.sl .str (.may _) x,.bool y,.str z,.int .i64 aa,.sl .afield (.may _) j,.sl (.num .i64) (.may _) ab],.sl .aval (.may _) k]=>some (decide (1000000≤N-szL k),.bool (decide (List.length k=List.length j)&&gP a j k))
 |37,[.agg [.int .u64 a,.str c,.sl .aval (.may _) d,.sl .str (.may _) e,.int .i64 b]]=>some (true,.bool (cA a c d e b))
 |_,_=>none
def bq(N:Nat):aN:=(jO (aoc N))
theorem aqK(N:Nat):dU (bq N) []:=(eI _ _)
theorem asy(N:Nat)(h_aval_Fits:∀(a:List aA)(g:Int)(p:Int)(q:Bs)(j:List aB)(r:Bss)(s:Int),(decide (1000000≤N-(szL j+1)))=true→aL Tryz.prog pd [.agg [.sl .atype (.may false) a],.int .i64 g,.agg [.int .u64 p,.str q,.sl .aval (.may false) j,.sl .str (.may false) r,.int .i64 s]] (.bool (aX a g (.mk p q j r s))))(h_aval_is:∀(a:List aA)(g:Int),aL Tryz.prog alw [.agg [.sl .atype (.may false) a],.int .i64 g] (.bool (isT a g)))(h_aval_number:∀(a:Int)(c:Bs)(d:Bss)(e:Int)(b:Bss)(k:Bool)(l:Bs)(i:Int)(m:List aO)(n:List Int)(g:Int),aL Tryz.prog abR [.agg [.int .i64 a,.str c,.sl .str (.may false) d,.int .i64 e,.sl .str (.may false) b,.bool k,.str l,.int .i64 i,.sl .afield (.may false) m,.sl (.num .i64) (.may false) n],.int .u64 g] (.bool (mT a b g)))(h_aval_text:∀(a:Int)(c:Bs)(d:Bss)(e:Int)(b:Bss)(k:Bool)(l:Bs)(i:Int)(m:List aO)(n:List Int)(g:Bs),aL Tryz.prog afx [.agg [.int .i64 a,.str c,.sl .str (.may false) d,.int .i64 e,.sl .str (.may false) b,.bool k,.str l,.int .i64 i,.sl .afield (.may false) m,.sl (.num .i64) (.may false) n],.str g] (.bool (uN a i g)))(h_aval_each:∀(a:List aA)(g:Int)(t:List aB),(decide (1000000≤N-szL t))=true→aL Tryz.prog afv [.agg [.sl .atype (.may false) a],.int .i64 g,.sl .aval (.may false) t] (.bool (bA a g t)))(h_aval_keys:∀(a0:Bss),aL Tryz.prog afw [.sl .str (.may false) a0] (.bool (dl a0)))(h_aval_record:∀(a:List aA)(u:Int)(w:Bs)(x:Bss)(y:Int)(z:Bss)(aa:Bool)(ab:Bs)(ac:Int)(o:List aO)(ad:List Int)(t:List aB),(decide (1000000≤N-szL t))=true→aL Tryz.prog abS [.agg [.sl .atype (.may false) a],.agg [.int .i64 u,.str w,.sl .str (.may false) x,.int .i64 y,.sl .str (.may false) z,.bool aa,.str ab,.int .i64 ac,.sl .afield (.may false) o,.sl (.num .i64) (.may false) ad],.sl .aval (.may false) t] (.bool (decide (List.length t=List.length o)&&gP a o t)))(h_aval_bare:∀(a:Int)(c:Bs)(d:List aB)(e:Bss)(b:Int),aL Tryz.prog afu [.agg [.int .u64 a,.str c,.sl .aval (.may false) d,.sl .str (.may false) e,.int .i64 b]] (.bool (cA a c d e b))):cC Tryz.prog (bq N):=by
 intro f vs hp v hp' h0
 obtain⟨h,he⟩:=fE h0
 subst he
 unfold aoc at h
 split at h
 ·simp only[Option.some.injEq,Prod.mk.injEq] at h
  obtain⟨hc,rfl⟩:=h
  exact((h_aval_Fits _ _ _ _ _ _ _ hc).dim rfl).frame rfl rfl _
 ·simp only[Option.some.injEq,Prod.mk.injEq] at h
  obtain⟨hc,rfl⟩:=h
  exact((h_aval_is _ _).dim rfl).frame rfl rfl _
 ·simp only[Option.some.injEq,Prod.mk.injEq] at h
  obtain⟨hc,rfl⟩:=h
  exact((h_aval_number _ _ _ _ _ _ _ _ _ _ _).dim rfl).frame rfl rfl _
 ·simp only[Option.some.injEq,Prod.mk.injEq] at h
  obtain⟨hc,rfl⟩:=h
  exact((h_aval_text _ _ _ _ _ _ _ _ _ _ _).dim rfl).frame rfl rfl _
 ·simp only[Option.some.injEq,Prod.mk.injEq] at h
  obtain⟨hc,rfl⟩:=h
  exact((h_aval_each _ _ _ hc).dim rfl).frame rfl rfl _
 ·simp only[Option.some.injEq,Prod.mk.injEq] at h
  obtain⟨hc,rfl⟩:=h
  exact((h_aval_keys _).dim rfl).frame rfl rfl _
 ·simp only[Option.some.injEq,Prod.mk.injEq] at h
  obtain⟨hc,rfl⟩:=h
  exact((h_aval_record _ _ _ _ _ _ _ _ _ _ _ _ hc).dim rfl).frame rfl rfl _
 ·simp only[Option.some.injEq,Prod.mk.injEq] at h
  obtain⟨hc,rfl⟩:=h
  exact((h_aval_bare _ _ _ _ _).dim rfl).frame rfl rfl _
 ·simp at h
def u0:IR:=Rg [Fa 76 2 8,Pp (.st none 1 76 (.c (nl .aval))),Fa 77 3 8,Pp (.st none 1 77 (.c (nl .str)))]
def s7:IR:=Rg [Fa 119 2 8,Pp (.st none 1 119 (.c (nl .aval))),Fa 120 4 8,Pp (.st none 1 120 (kI 0))]
def s8:IR:=Cn 36 (Rg [Ld 40 10 true 7,Fa 41 1 5,Lq 42 41,Ca 43 33 [40,42],Mv 9 43,Fa 44 1 8,Pp (.st none 1 44 (kS []))]) (Rs [Bc 46 .eql 21 12,Mv 45 46] (Cn 45 (Rg [Ld 47 1 true 3,Fa 48 3 7,Lq 49 48,Fa 50 2 5,Lq 51 50,Ca 52 34 [47,49,51],Mv 9 52,Fa 53 2 8,Pp (.st none 1 53 (.c (nl .aval)))]) (Rs [Bc 55 .eql 21 13,Mv 54 55] (Cn 54 (Rs [Fa 56 3 5,Lq 57 56,Ll 58 57,Fa 59 2 5,Lq 60 59,Ll 61 60,Bi 62 .eql 58 61,Mv 63 62,Gt 63 (.fad 64 3 5),Gt 63 (.lde 65 1 false 64),Gt 63 (.call 66 35 [65]),Pa 67 63 66,Mv 68 67,Gt 68 (.lde 69 1 true 3),Gt 68 (.fad 70 3 7),Gt 68 (.lde 71 1 false 70),Gt 68 (.fad 72 2 5),Gt 68 (.lde 73 1 false 72),Gt 68 (.call 74 34 [69,71,73]),Pa 75 68 74,Mv 9 75] (.cut [8,9,1000000] 1 u0)) (Rs [Bc 79 .eql 21 9,Mv 78 79] (Cn 78 (Rg [Ld 80 1 true 3,Ld 81 10 true 7,Fa 82 2 5,Lq 83 82,Ca 84 36 [80,81,83],Mv 9 84,Fa 85 2 8,Pp (.st none 1 85 (.c (nl .aval)))]) (Rs [Bc 87 .eql 21 14,Mv 86 87] (Cn 86 (Sq (.reg [Fa 88 4 5,Lq 89 88,Bc 90 .geq 89 0,Mv 91 90,Gt 91 (.fad 92 4 5),Gt 91 (.lde 93 1 false 92),Gt 91 (.fad 94 9 7),Gt 91 (.lde 95 1 false 94),Gt 91 (.lenl 96 95),Gt 91 (.bin 97 .lss 93 96),Pa 98 91 97,Mv 99 98,Gt 99 (.fad 100 2 5),Gt 99 (.lde 101 1 false 100),Gt 99 (.lenl 102 101),Gt 99 (.bin 103 .eql 102 (kI 1)),Pa 104 99 103,Mv 105 104,Gt 105 (.lde 106 1 true 3),Gt 105 (.fad 107 9 7),Gt 105 (.lde 108 1 false 107),Gt 105 (.fad 109 4 5),Gt 105 (.lde 110 1 false 109),Gt 105 (.ixa 111 (.num .i64) 108 110),Gt 105 (.lde 112 1 false 111),Gt 105 (.fad 113 2 5),Gt 105 (.lde 114 1 false 113),Gt 105 (.ixa 115 .aval 114 (kI 0)),Gt 105 (.lde 116 5 true 115),Gt 105 (.call 117 19 [106,112,116]),Pa 118 105 117,Mv 9 118] [[],[0],[0,1],[0,1,2],rg 0 3,rg 0 4,rg 0 3,[0,1,2,3,6],[0,1,2,3,6,7],rg 0 8,rg 0 9,rg 0 10,rg 0 11,rg 0 12,rg 0 13,rg 0 14,rg 0 15,rg 0 16,rg 0 17,rg 0 17,rg 0 17++[19],rg 0 17,rg 0 17++[21],rg 0 17++rg 19 22,rg 0 17++rg 19 23,rg 0 17,rg 0 17++[25],rg 0 17++[25,26],rg 0 17++[25,26,27],rg 0 28,rg 0 29,rg 0 30]) (.cut [8,9,1000001] 1 s7)) .skip))))))))
def s9:IR:=Cn 24 (Rg [Ld 31 10 true 7,Fa 32 0 5,Lq 33 32,Ca 34 32 [31,33],Mv 9 34,Fa 35 0 8,Pp (.st none 1 35 (kU 0))]) (Sq (Rs [Bc 37 .eql 21 7,Mv 36 37] (Cn 36 .skip (Rs [Bc 38 .eql 21 8,Mv 36 38] (Cn 36 .skip (Rg [Bc 39 .eql 21 11,Mv 36 39]))))) (.cut [3,5,7,8,9,21,36,1000002] 1 s8))
def iX:IR:=Rs [Mv 121 9,Mv 122 121,Gt 122 (.ld 123 5 true false 8),Gt 122 (.call 124 37 [123]),Pa 125 122 124,Mv 6 125] .ret
def lR:IR:=.cut [8,9,1000004] 1 iX
def adz:IR:=Rs [Bx 3 0,Bx 5 2,Mb 6 false] (Sq (Rs [Ld 10 1 true 3,Mv 11 1,Ca 12 31 [10,11],Un 13 12] (Cn 13 (Rs [Mb 6 false] .ret) .skip)) (Sq (.reg [Fa 14 0 3,Lq 15 14,Mv 16 1,Ix 17 .atype 15 16,Ld 18 10 true 17,Ld 19 5 true 5,Pp (.alr 7 10),Pp (.new 8 [vU 0,vS,nl .aval,nl .str,vI 0]),Fz 7 10 18,Fo [] [0] (.st none 5 8 19)] [[],[0],[],[0,1,2],rg 0 3,[],[],[],rg 0 4++[6,7],rg 0 8]) (Rs [Mb 9 false] (Sq (Rs [Fa 20 0 7,Lq 21 20] (.block 0 (Rs [Bc 23 .eql 21 1,Mv 22 23] (Cn 22 (Rg [Mb 9 true]) (Sq (Rs [Bc 25 .eql 21 2,Mv 24 25] (Cn 24 .skip (Rs [Bc 26 .eql 21 3,Mv 24 26] (Cn 24 .skip (Rs [Bc 27 .eql 21 4,Mv 24 27] (Cn 24 .skip (Rs [Bc 28 .eql 21 5,Mv 24 28] (Cn 24 .skip (Rs [Bc 29 .eql 21 6,Mv 24 29] (Cn 24 .skip (Rg [Bc 30 .eql 21 10,Mv 24 30]))))))))))) (.cut [3,5,7,8,9,21,24,1000003] 1 s9)))))) lR))))
def eA:List RV:=[.t 6]
theorem au8:(cB Tryz.prog [] 0 adz (Tryz.f19.body.getD .skip)&&fW Tryz.prog eA Tryz.f19.results.toList)=true:=by kernel_rfl
theorem asz:Tryz.f19.body=some (Tryz.f19.body.getD .skip):=by kernel_rfl
abbrev abV:Type:=(Bool×Int×Bs×List aB×Bss×Int)
def aav:abV→St:=fun(a,b,c,d,e,f)=>{env:=(U 8 (.ptr 0 0::.bool a::(U 116 []))),hp:=[some [.int .u64 b,.str c,.sl .aval (.may false) d,.sl .str (.may false) e,.int .i64 f]]}
def ajv(N:Nat):St→Ro:=fun s=>run (bq N) N iX (fin eA) s
def abW(N:Nat):abV→Ro:=fun(g,a,b,c,d,e)=>
 let f:=fun h=>(some (.bool h,[some [.int .u64 a,.str b,.sl .aval (.may false) c,.sl .str (.may false) d,.int .i64 e]]):Ro)
 cond g (
 let i:=(cA a b c d e)
 f i) (
 f false)
theorem asA(N:Nat):LJ (ajv N) aav (abW N):=fun _=>by kernel_rfl
abbrev sa:Type:=(List aA×Int×Bs×List aB×Bss×Int×Int×Bs×Bss×Int×Bss×Bool×Bs×Int×List aO×List Int×Bool×Int×Bool×Int×Bs×List aB×Bss×Int)
def qd:sa→St:=fun(o,p,q,r,s,t,u,v,w,x,a,b,c,d,e,f,g,h,i,j,k,l,m,n)=>{env:=(U 3 (.ea [.sl .atype (.may false) o]::.undef::.ea [.int .u64 p,.str q,.sl .aval (.may false) r,.sl .str (.may false) s,.int .i64 t]::.undef::.ea [.int .i64 u,.str v,.sl .str (.may false) w,.int .i64 x,.sl .str (.may false) a,.bool b,.str c,.int .i64 d,.sl .afield (.may false) e,.sl (.num .i64) (.may false) f]::.ptr 0 0::.bool g::(U 11 (.int .i64 h::.undef::.undef::.bool i::(U 101 []))))),hp:=[some [.int .u64 j,.str k,.sl .aval (.may false) l,.sl .str (.may false) m,.int .i64 n]]}
def eK(R:IR→(Ex→St→Ro)→St→Ro):Ex→St→Ro:=(aQ 0 (bv (R lR) (fin eA)))
abbrev abX:Type:=(Bool×Int×Bs×List aB×Bss×Int)
def u5:abX→St:=fun(a,b,c,d,e,f)=>{env:=(U 8 (.ptr 0 0::.bool a::(U 116 []))),hp:=[some [.int .u64 b,.str c,.sl .aval (.may false) d,.sl .str (.may false) e,.int .i64 f]]}
def abY(N:Nat):St→Ro:=fun s=>run (bq N) N iX (fin eA) s
def xd(N:Nat):abX→Ro:=fun(g,a,b,c,d,e)=>
 let f:=fun h=>(some (.bool h,[some [.int .u64 a,.str b,.sl .aval (.may false) c,.sl .str (.may false) d,.int .i64 e]]):Ro)
 cond g (
 let i:=(cA a b c d e)
 f i) (
 f false)
theorem asB(N:Nat):LJ (abY N) u5 (xd N):=fun _=>by kernel_rfl
abbrev sb:Type:=(List aA×Int×Bs×List aB×Bss×Int×Int×Bs×Bss×Int×Bss×Bool×Bs×Int×List aO×List Int×Bool×Int×Bool×Int×Bs×List aB×Bss×Int)
def nC:sb→St:=fun(o,p,q,r,s,t,u,v,w,x,a,b,c,d,e,f,g,h,i,j,k,l,m,n)=>{env:=(U 3 (.ea [.sl .atype (.may false) o]::.undef::.ea [.int .u64 p,.str q,.sl .aval (.may false) r,.sl .str (.may false) s,.int .i64 t]::.undef::.ea [.int .i64 u,.str v,.sl .str (.may false) w,.int .i64 x,.sl .str (.may false) a,.bool b,.str c,.int .i64 d,.sl .afield (.may false) e,.sl (.num .i64) (.may false) f]::.ptr 0 0::.bool g::(U 11 (.int .i64 h::(U 14 (.bool i::(U 89 []))))))),hp:=[some [.int .u64 j,.str k,.sl .aval (.may false) l,.sl .str (.may false) m,.int .i64 n]]}
abbrev abZ:Type:=(Bool×Int×Bs×List aB×Bss×Int)
def u6:abZ→St:=fun(a,b,c,d,e,f)=>{env:=(U 8 (.ptr 0 0::.bool a::(U 116 []))),hp:=[some [.int .u64 b,.str c,.sl .aval (.may false) d,.sl .str (.may false) e,.int .i64 f]]}
def ab0(N:Nat):St→Ro:=fun s=>run (bq N) N iX (fin eA) s
def xe(N:Nat):abZ→Ro:=fun(g,a,b,c,d,e)=>
 let f:=fun h=>(some (.bool h,[some [.int .u64 a,.str b,.sl .aval (.may false) c,.sl .str (.may false) d,.int .i64 e]]):Ro)
 cond g (
 let i:=(cA a b c d e)
 f i) (
 f false)
theorem asC(N:Nat):LJ (ab0 N) u6 (xe N):=fun _=>by kernel_rfl
abbrev ab1:Type:=(Bool×Int×Bs×List aB×Bss×Int)
def u7:ab1→St:=fun(a,b,c,d,e,f)=>{env:=(U 8 (.ptr 0 0::.bool a::(U 116 []))),hp:=[some [.int .u64 b,.str c,.sl .aval .own d,.sl .str (.may false) e,.int .i64 f]]}
def ab2(N:Nat):St→Ro:=fun s=>run (bq N) N iX (fin eA) s
def xf(N:Nat):ab1→Ro:=fun(g,a,b,c,d,e)=>
 let f:=fun h=>(some (.bool h,[some [.int .u64 a,.str b,.sl .aval .own c,.sl .str (.may false) d,.int .i64 e]]):Ro)
 cond g (
 let i:=(cA a b c d e)
 f i) (
 f false)
theorem asD(N:Nat):LJ (ab2 N) u7 (xf N):=fun _=>by kernel_rfl
abbrev sc:Type:=(Bool×Int×Bs×List aB×Bss×Int)
def nD:sc→St:=fun(a,b,c,d,e,f)=>{env:=(U 8 (.ptr 0 0::.bool a::(U 116 []))),hp:=[some [.int .u64 b,.str c,.sl .aval (.may false) d,.sl .str (.may false) e,.int .i64 f]]}
abbrev ab3:Type:=(Bool×Int×Bs×List aB×Bss×Int)
def u9:ab3→St:=fun(a,b,c,d,e,f)=>{env:=(U 8 (.ptr 0 0::.bool a::(U 116 []))),hp:=[some [.int .u64 b,.str c,.sl .aval .own d,.sl .str .own e,.int .i64 f]]}
def ab4(N:Nat):St→Ro:=fun s=>run (bq N) N iX (fin eA) s
def ab5(N:Nat):ab3→Ro:=fun(g,a,b,c,d,e)=>
 let f:=fun h=>(some (.bool h,[some [.int .u64 a,.str b,.sl .aval .own c,.sl .str .own d,.int .i64 e]]):Ro)
 cond g (
 let i:=(cA a b c d e)
 f i) (
 f false)
theorem asE(N:Nat):LJ (ab4 N) u9 (ab5 N):=fun _=>by kernel_rfl
def xg(N:Nat):St→Ro:=fun s=>run (bq N) N u0 (eK (run (bq N) N)) s
def aaw(N:Nat)(d:ab3→Ro):sc→Ro:=fun(e,a,b,_,_,c)=>
 d (e,a,b,([]:List aB),([]:Bss),c)
def xh(N:Nat)(x:sc):Ro:=aaw N (fun z=>ab5 N z) x
def ab6(N:Nat):List (Nat×(St→Ro)):=(bP (bq N) N u0 (eK (run (bq N) N))++(bP (bq N) N lR (fin eA)++[]))
theorem asF(N:Nat):∀(x:sc),xg N (nD x)=xh N x:=by
 intro x
 have hX:∀C:Nat→St→Ro,cE C (bq N) N u0 (eK (cE C (bq N) N)) (nD x)=aaw N (fun z=>C 1000004 (u9 z)) x:=by
  intro C
  kernel_rfl
 have h:xg N (nD x)=aaw N (fun z=>ab4 N (u9 z)) x:=(dh (C:=eJ (ab6 N)) (bU (aY (l:=(ab6 N)) (by kernel_rfl))) (de (eR (bU (dF (aY (l:=(ab6 N)) (by kernel_rfl)))) rfl)) _).trans ((hX _).trans (by kernel_rfl))
 have e7:(fun z=>ab4 N (u9 z))=(fun z=>ab5 N z):=funext fun z=>asE N z
 rw[h,e7]
 rfl
abbrev sd:Type:=(Bool×Int×Bs×List aB×Bss×Int)
def nE:sd→St:=fun(a,b,c,d,e,f)=>{env:=(U 8 (.ptr 0 0::.bool a::(U 116 []))),hp:=[some [.int .u64 b,.str c,.sl .aval (.may false) d,.sl .str (.may false) e,.int .i64 f]]}
abbrev ab7:Type:=(Bool×Int×Bs×List aB×Bss×Int)
def va:ab7→St:=fun(a,b,c,d,e,f)=>{env:=(U 8 (.ptr 0 0::.bool a::(U 116 []))),hp:=[some [.int .u64 b,.str c,.sl .aval .own d,.sl .str (.may false) e,.int .i64 f]]}
def ab8(N:Nat):St→Ro:=fun s=>run (bq N) N iX (fin eA) s
def ab9(N:Nat):ab7→Ro:=fun(h,a,b,c,d,e)=>
 let g:=fun i=>(some (.bool i,[some [.int .u64 a,.str b,.sl .aval .own c,.sl .str (.may false) d,.int .i64 e]]):Ro)
 cond h (
 let f:=(cA a b c d e)
 g f) (
 g false)
theorem asG(N:Nat):LJ (ab8 N) va (ab9 N):=fun _=>by kernel_rfl
def xi(N:Nat):St→Ro:=fun s=>run (bq N) N s7 (eK (run (bq N) N)) s
def aax(N:Nat)(d:ab7→Ro):sd→Ro:=fun(e,a,b,_,c,_)=>
 d (e,a,b,([]:List aB),c,0)
def xj(N:Nat)(x:sd):Ro:=aax N (fun z=>ab9 N z) x
def aca(N:Nat):List (Nat×(St→Ro)):=(bP (bq N) N s7 (eK (run (bq N) N))++(bP (bq N) N lR (fin eA)++[]))
theorem asH(N:Nat):∀(x:sd),xi N (nE x)=xj N x:=by
 intro x
 have hX:∀C:Nat→St→Ro,cE C (bq N) N s7 (eK (cE C (bq N) N)) (nE x)=aax N (fun z=>C 1000004 (va z)) x:=by
  intro C
  kernel_rfl
 have h:xi N (nE x)=aax N (fun z=>ab8 N (va z)) x:=(dh (C:=eJ (aca N)) (bU (aY (l:=(aca N)) (by kernel_rfl))) (de (eR (bU (dF (aY (l:=(aca N)) (by kernel_rfl)))) rfl)) _).trans ((hX _).trans (by kernel_rfl))
 have e9:(fun z=>ab8 N (va z))=(fun z=>ab9 N z):=funext fun z=>asG N z
 rw[h,e9]
 rfl
def xk(N:Nat):St→Ro:=fun s=>run (bq N) N s8 (eK (run (bq N) N)) s
def qe(N:Nat)(q4:abZ→Ro)(q5:ab1→Ro)(q6:sc→Ro)(q8:sd→Ro):sb→Ro:=fun(g,_,q,a,m,h,r,_,_,o,_,_,_,t,p,j,v9,k,u,b,e,f,c,d)=>
 let z0:=q6 (false,b,e,f,c,d)
 let v:=q8 (false,b,e,f,c,d)
 cond u (
 q4 ((uN r t q),b,([]:Bs),f,c,d)) (
 cond (k==12) (
 chk (decide (1000000≤N-szL a)) (
 q5 ((bA g o a),b,e,([]:List aB),c,d))) (
 cond (k==13) (
 let x6:=(↑(List.length m):Int)
 let x7:=(↑(List.length a):Int)
 cond (x6==x7) (
 cond (dl m) (
 chk (decide (1000000≤N-szL a)) (
 q6 ((bA g o a),b,e,f,c,d))) (
 z0)) (
 z0)) (
 cond (k==9) (
 chk (decide (1000000≤N-szL a)) (
 let x9:=(decide (List.length a=List.length p)&&gP g p a)
 q5 (x9,b,e,([]:List aB),c,d))) (
 cond (k==14) (
 cond (decide (0≤h)) (
 let w:=(↑(List.length j):Int)
 cond (decide (h<w)) (
 let x:=(↑(List.length a):Int)
 cond (x==1) (
 chk (ixl h j) (
 let y:=List.getD j (Int.toNat h) (aC (.num .i64))
 chk (decide ((0:Int)<↑(List.length a))) (
 let i:=(List.getD a (Int.toNat 0) (aC .aval))
 chk (decide (1000000≤N-(szL i.l+1))) (
 let z:=(aX g y (.mk i.n i.s i.l i.keys i.branch))
 q8 (z,b,e,f,c,d))))) (
 v)) (
 v)) (
 v)) (
 q4 (v9,b,e,f,c,d))))))
def se(N:Nat)(x:sb):Ro:=qe N (fun z=>xe N z) (fun z=>xf N z) (fun z=>xh N z) (fun z=>xj N z) x
def acb(N:Nat):List (Nat×(St→Ro)):=(bP (bq N) N s8 (eK (run (bq N) N))++(bP (bq N) N lR (fin eA)++[]))
theorem asI(N:Nat):∀(x:sb),xk N (nC x)=se N x:=by
 intro x
 have hX:∀C:Nat→St→Ro,cE C (bq N) N s8 (eK (cE C (bq N) N)) (nC x)=qe N (fun z=>C 1000004 (u6 z)) (fun z=>C 1000004 (u7 z)) (fun z=>C 1000000 (nD z)) (fun z=>C 1000001 (nE z)) x:=by
  intro C
  kernel_rfl
 have h:xk N (nC x)=qe N (fun z=>ab0 N (u6 z)) (fun z=>ab2 N (u7 z)) (fun z=>xg N (nD z)) (fun z=>xi N (nE z)) x:=(dh (C:=eJ (acb N)) (bU (aY (l:=(acb N)) (by kernel_rfl))) (de (eR (bU (dF (aY (l:=(acb N)) (by kernel_rfl)))) rfl)) _).trans ((hX _).trans (by kernel_rfl))
 have e4:(fun z=>ab0 N (u6 z))=(fun z=>xe N z):=funext fun z=>asC N z
 have e5:(fun z=>ab2 N (u7 z))=(fun z=>xf N z):=funext fun z=>asD N z
 have e6:(fun z=>xg N (nD z))=(fun z=>xh N z):=funext fun z=>asF N z
 have e8:(fun z=>xi N (nE z))=(fun z=>xj N z):=funext fun z=>asH N z
 rw[h,e4,e5,e6,e8]
 rfl
def acd(N:Nat):St→Ro:=fun s=>run (bq N) N s9 (eK (run (bq N) N)) s
def qf(N:Nat)(y:abX→Ro)(z:sb→Ro):sa→Ro:=fun(i,b,j,k,l,m,c,n,o,p,d,q,r,s,t,u,v9,a,w,v,e,f,g,h)=>
 let x:=fun g0=>z (i,b,j,k,l,m,c,n,o,p,d,q,r,s,t,u,v9,a,g0,v,e,f,g,h)
 cond w (
 y ((mT c d b),0,e,f,g,h)) (
 cond (a==7) (
 x true) (
 cond (a==8) (
 x true) (
 x (a==11))))
def xl(N:Nat)(x:sa):Ro:=qf N (fun z=>xd N z) (fun z=>se N z) x
def ace(N:Nat):List (Nat×(St→Ro)):=(bP (bq N) N s9 (eK (run (bq N) N))++(bP (bq N) N lR (fin eA)++[]))
theorem asJ(N:Nat):∀(x:sa),acd N (qd x)=xl N x:=by
 intro x
 have hX:∀C:Nat→St→Ro,cE C (bq N) N s9 (eK (cE C (bq N) N)) (qd x)=qf N (fun z=>C 1000004 (u5 z)) (fun z=>C 1000002 (nC z)) x:=by
  intro C
  kernel_rfl
 have h:acd N (qd x)=qf N (fun z=>abY N (u5 z)) (fun z=>xk N (nC z)) x:=(dh (C:=eJ (ace N)) (bU (aY (l:=(ace N)) (by kernel_rfl))) (de (eR (bU (dF (aY (l:=(ace N)) (by kernel_rfl)))) rfl)) _).trans ((hX _).trans (by kernel_rfl))
 have e2:(fun z=>abY N (u5 z))=(fun z=>xd N z):=funext fun z=>asB N z
 have e3:(fun z=>xk N (nC z))=(fun z=>se N z):=funext fun z=>asI N z
 rw[h,e2,e3]
 rfl
def ug(N:Nat)(g:List aA)(i b:Int)(c:Bs)(d:List aB)(e:Bss)(f:Int)(j:abV→Ro)(h:sa→Ro):Ro:=
 cond (!(isT g i)) (
 some (.bool false,[])) (
 chk (ixl i g) (
 let a:=(List.getD g (Int.toNat i) (aC .atype))
 cond (a.kind==1) (
 j (true,b,c,d,e,f)) (
 cond (a.kind==2) (
 h (g,b,c,d,e,f,a.kind,a.name,a.aliases,a.items,a.syms,a.hasdef,a.df,a.size,a.fields,a.branches,false,a.kind,true,b,c,d,e,f)) (
 cond (a.kind==3) (
 h (g,b,c,d,e,f,a.kind,a.name,a.aliases,a.items,a.syms,a.hasdef,a.df,a.size,a.fields,a.branches,false,a.kind,true,b,c,d,e,f)) (
 cond (a.kind==4) (
 h (g,b,c,d,e,f,a.kind,a.name,a.aliases,a.items,a.syms,a.hasdef,a.df,a.size,a.fields,a.branches,false,a.kind,true,b,c,d,e,f)) (
 cond (a.kind==5) (
 h (g,b,c,d,e,f,a.kind,a.name,a.aliases,a.items,a.syms,a.hasdef,a.df,a.size,a.fields,a.branches,false,a.kind,true,b,c,d,e,f)) (
 cond (a.kind==6) (
 h (g,b,c,d,e,f,a.kind,a.name,a.aliases,a.items,a.syms,a.hasdef,a.df,a.size,a.fields,a.branches,false,a.kind,true,b,c,d,e,f)) (
 h (g,b,c,d,e,f,a.kind,a.name,a.aliases,a.items,a.syms,a.hasdef,a.df,a.size,a.fields,a.branches,false,a.kind,(a.kind==10),b,c,d,e,f)))))))))
def zi(N:Nat)(a:List aA)(g b:Int)(c:Bs)(d:List aB)(e:Bss)(f:Int):Ro:=ug N a g b c d e f (fun z=>abW N z) (fun z=>xl N z)
def ayR(N:Nat):List (Nat×(St→Ro)):=bP (bq N) N adz (fin eA)++[]
theorem au9(N:Nat)(a:List aA)(h c:Int)(d:Bs)(e:List aB)(f:Bss)(g:Int):fT (bq N) N 126 eA adz [.agg [.sl .atype (.may false) a],.int .i64 h,.agg [.int .u64 c,.str d,.sl .aval (.may false) e,.sl .str (.may false) f,.int .i64 g]] []=zi N a h c d e f g:=
 ((bM (ayR N) (by kernel_rfl) rfl (fun C=>ug N a h c d e f g (fun z=>C 1000004 (aav z)) (fun z=>C 1000003 (qd z))) (fun C=>by kernel_rfl)).trans (Eq.trans (b:=ug N a h c d e f g (fun z=>ajv N (aav z)) (fun z=>acd N (qd z))) (by kernel_rfl) (congr (congrArg (ug N a h c d e f g) (funext fun z=>asA N z)) (funext fun z=>asJ N z))))
theorem axa(N:Nat)(hΓ:cC Tryz.prog (bq N))(a:List aA)(g b:Int)(c:Bs)(d:List aB)(e:Bss)(f:Int){v:V}{hp:List aJ}(h:zi N a g b c d e f=some (v,hp)):aL Tryz.prog pd [.agg [.sl .atype (.may false) a],.int .i64 g,.agg [.int .u64 b,.str c,.sl .aval (.may false) d,.sl .str (.may false) e,.int .i64 f]] v:=by
 have hc:=au8
 simp only[Bool.and_eq_true] at hc
 exact⟨hp,jG hΓ (aqK N) Tryz.func19 asz hc.1 hc.2 (by decide) ((au9 N a g b c d e f).trans h)⟩
end Go.Proofs.YtdpajabhmmmjoaaGreat
end
noncomputable section
namespace Go.Proofs.YtdpajabhmmmjoaaGreat
open Go.AM
set_option autoImplicit false
set_option linter.unusedSimpArgs false
set_option linter.unusedVariables false
theorem anp(N:Nat)(s:List UInt8)(hs:s.length≤9223372036854775807)(hN:s.length<N):aat N s=some (.bool (cJ s),[]):=by
 show aS N (oJ N) s=_
 refine oC (fun x:List UInt8=>x.length≤9223372036854775807) (fun x=>x.length) (fun x=>(V.bool (cJ x),([]:List aJ))) ?_ N s hs hN
 rintro rec x hx hrec
 match x with
 | []=>rfl
 |c::t=>
  have hle:=aw9 (c::t)
  have hg:(fm (c::t)).2 =((gp (c::t)).2 :Int):=rfl
  have h0:decide (c::t=[])=false:=by simp
  have hcl:(c::t).length=t.length+1:=rfl
  have hx':(c::t).length≤9223372036854775807:=hx
  simp only[oJ,aob]
  generalize (fm (c::t)).2 =p at hg
  by_cases hp:(gp (c::t)).2 =0
  ·rw[if_pos hp]
   simp(disch:=omega) only[bC,h0]
  ·rw[if_neg hp]
   have e:p.toNat=(gp (c::t)).2 :=by omega
   simp(disch:=omega) only[bC,h0,e]
   exact hrec ((c::t).drop (gp (c::t)).2) (by simp only[List.length_drop];omega) (by simp only[List.length_drop];omega)
theorem aB.eta(v:aB):aB.mk v.n v.s v.l v.keys v.branch=v:=by cases v;rfl
theorem eg{α:Type}(l:List α)(i:Nat)(d:α)(h:i<l.length):l.drop i=l.getD i d::l.drop (i+1):=by
 rw[List.drop_eq_getElem_cons h,List.getD_eq_getElem?_getD,List.getElem?_eq_getElem h]
 rfl
theorem axb:∀(l:List aB)(i:Nat),szL (l.drop i)≤szL l
 | [],i=>by simp
 |v::l,0=>by simp
 |v::l,i+1=>by
  have:=axb l i
  simp only[List.drop_succ_cons,szL]
  omega
theorem am5(l:List aB)(i:Nat)(h:i<l.length):szV (l.getD i (aC .aval))≤szL l:=by
 have h1:=axb l i
 rw[eg l i (aC .aval) h,szL] at h1
 omega
theorem adA(v:aB):szV v=szL v.l+1:=by cases v;rfl
theorem ava(N:Nat)(ts:List aA)(t:Int):acW N ts t=some (.bool (isT ts t),[]):=by
 simp only[acW,aqy,isT]
 by_cases h:0≤t
 ·simp(disch:=omega) only[bC,]
 ·simp(disch:=omega) only[bC,]
theorem aqL(N:Nat)(n:Int)(s:List UInt8)(l:List aB)(ks:List (List UInt8))(b:Int):zc N n s l ks b=some (.bool (cA n s l ks b),[]):=by
 simp only[zc,alE,cA]
 cases n==0<;>cases decide (s=([]:List UInt8))<;>cases (l.length:Int)==0<;>cases (ks.length:Int)==0<;>rfl
theorem anq(N:Nat)(a0:Int)(a1:List UInt8)(a2:List (List UInt8))(a3:Int)(a4:List (List UInt8))(a5:Bool)(a6:List UInt8)(a7:Int)(a8:List aO)(a9:List Int)(n:Int)(hn:0≤n∧n≤18446744073709551615):
  uV N a0 a1 a2 a3 a4 a5 a6 a7 a8 a9 n=some (.bool (mT a0 a4 n),[]):=by
 simp only[uV,agE,mT,decide_eq_true hn.1,decide_eq_true hn.2,Bool.true_and]
 cases a0==2<;>cases a0==3<;>cases a0==5<;>cases a0==10<;>rfl
theorem aqM(N:Nat)(a0:Int)(a1:List UInt8)(a2:List (List UInt8))(a3:Int)(a4:List (List UInt8))(a5:Bool)(a6:List UInt8)(a7:Int)(a8:List aO)(a9:List Int)(s:List UInt8):
  zd N a0 a1 a2 a3 a4 a5 a6 a7 a8 a9 s=some (.bool (uN a0 a7 s),[]):=by
 simp only[zd,alH,uN]
 cases a0==8<;>cases a0==11<;>rfl
def pf(l:List (List UInt8))(i:Nat):Bool:=match i with|0=>dl l|i+1=>lN (l.getD i []) (l.drop (i+1))
theorem alO(l:List (List UInt8)):pf l l.length=true:=by
 unfold pf
 split
 ·rename_i h
  rw[List.length_eq_zero_iff.1 h];rfl
 ·rename_i i h
  rw[show l.drop (i+1)=[] from List.drop_eq_nil_of_le (by omega)]
  rfl
theorem ajw(l:List (List UInt8))(i:Nat)(h:i<l.length):
  pf l i=(cJ (l.getD i [])&&((decide (i=0)||Op.bytesLess (l.getD (i-1) []) (l.getD i []))&&pf l (i+1))):=by
 cases i with
 |zero=>
  have:=eg l 0 [] h
  rw[List.drop_zero] at this
  simp only[pf]
  conv=>lhs;rw[this]
  simp[dl]
 |succ i=>
  simp only[pf]
  rw[eg l (i+1) [] h]
  simp[lN]
theorem aqN(N:Nat)(l:List (List UInt8))(hl:l.length≤9223372036854775807)(hN:l.length<N):adx N l=some (.bool (dl l),[]):=by
 show aS N (rZ N) (l,l,(l.length:Int),0)=some (.bool (pf l 0),[])
 refine oC (fun x:List (List UInt8)×List (List UInt8)×Int×Int=>l=x.1∧l=x.2.1∧x.2.2.1=(l.length:Int)∧∃i:Nat,x.2.2.2=(i:Int)∧i≤l.length) (fun x=>l.length-x.2.2.2.toNat)
  (fun x=>(V.bool (pf l x.2.2.2.toNat),([]:List aJ))) ?_ N _ ⟨rfl,rfl,rfl,0,rfl,by omega⟩ (by simp;omega)
 rintro rec ⟨x1,x2,x3,x4⟩ ⟨e1,e2,e3,i,e4,hi⟩ hrec
 simp only at e1 e2 e3 e4
 subst e1 e2 e3 e4
 simp only[rZ,Int.toNat_natCast]
 rcases Nat.lt_or_ge i l.length with hlt|hge
 ·rw[ajw l i hlt]
  have hr:=hrec (l,l,(l.length:Int),((i+1:Nat):Int)) ⟨rfl,rfl,rfl,i+1,rfl,by omega⟩ (by simp only[Int.toNat_natCast];omega)
  simp only[Int.toNat_natCast] at hr
  have e5:IntKind.wrap .i64 ((i:Int)+1)=((i+1:Nat):Int):=by rw[aI _ (by omega)];rfl
  show cond _ _ _=_
  simp only[aC]
  cases hv:cJ (l.getD i [])
  ·simp(disch:=omega) only[bC,]
  ·rcases Nat.eq_zero_or_pos i with h0|h0
   ·subst h0
    simp(disch:=omega) only[bC,e5,hr,decide_true]
   ·have e6:IntKind.wrap .i64 ((i:Int)-1)=((i-1:Nat):Int):=by rw[aI _ (by omega)];omega
    cases hb:Op.bytesLess (l.getD (i-1) []) (l.getD i [])
    ·simp(disch:=omega) only[bC,e6,hb]
    ·simp(disch:=omega) only[bC,e5,e6,hb,hr]
 ·have:i=l.length:=by omega
  subst this
  rw[alO]
  simp(disch:=omega) only[bC,]
theorem at8(ts:List aA)(t:Int):∀(l:List aB)(i:Nat),(0≤aap ts t l i)↔bA ts t l=false
 | [],i=>by simp[aap,bA]
 |v::l,i=>by
  have:=at8 ts t l (i+1)
  simp only[aap,bA]
  cases h:aX ts t v<;>simp[h,this]
theorem aqO(N:Nat)(ts:List aA)(t:Int)(l:List aB)(h:szL l+1000000≤N):zg N ts t l=some (.bool (bA ts t l),[]):=by
 simp only[zg,alK]
 simp(disch:=omega) only[bC,Bool.not_not]
theorem aCn(N:Nat)(ts:List aA)(t:Int)(l:List aB)(h:szL l+1000000≤N):cM N l ts t=some (.bool (!bA ts t l),[]):=by
 simp only[cM,fl]
 have:=at8 ts t l 0
 cases hb:bA ts t l
 ·rw[hb] at this
  have:=this.2 rfl
  simp(disch:=omega) only[bC,]
 ·rw[hb] at this
  have:¬0≤aap ts t l 0:=fun h=>by simpa using this.1 h
  simp(disch:=omega) only[bC,]
theorem ayS(N:Nat)(ts:List aA)(t n:Int)(s:List UInt8)(l:List aB)(ks:List (List UInt8))(b:Int)(h:szL l+1+1000000≤N):
  sZ N n s l ks b ts t=some (.bool (!aX ts t (.mk n s l ks b)),[]):=by
 simp only[sZ,aeS]
 simp(disch:=omega) only[bC,]
theorem aCo(N:Nat)(ts:List aA)(t:Int)(l:List aB)(hl:l.length≤9223372036854775807)(h:szL l+1000000≤N)(hN:l.length<N):
  dM N l ts t=some (.int .i64 (aap ts t l 0),[]):=by
 show aS N (bT N) (l,ts,t,(l.length:Int),0)=_
 refine oC (fun x:List aB×List aA×Int×Int×Int=>l=x.1∧ts=x.2.1∧t=x.2.2.1∧x.2.2.2.1=(l.length:Int)∧∃i:Nat,x.2.2.2.2=(i:Int)∧i≤l.length) (fun x=>l.length-x.2.2.2.2.toNat)
  (fun x=>(V.int .i64 (aap ts t (l.drop x.2.2.2.2.toNat) x.2.2.2.2.toNat),([]:List aJ))) ?_ N _ ⟨rfl,rfl,rfl,rfl,0,rfl,by omega⟩ (by simp;omega)
 rintro rec ⟨x1,x2,x3,x4,x5⟩ ⟨e1,e2,e3,e4,i,e5,hi⟩ hrec
 simp only at e1 e2 e3 e4 e5
 subst e1 e2 e3 e4 e5
 simp only[bT,Int.toNat_natCast]
 rcases Nat.lt_or_ge i l.length with hlt|hge
 ·have hr:=hrec (l,ts,t,(l.length:Int),((i+1:Nat):Int)) ⟨rfl,rfl,rfl,rfl,i+1,rfl,by omega⟩ (by simp only[Int.toNat_natCast];omega)
  simp only[Int.toNat_natCast] at hr
  have e6:IntKind.wrap .i64 ((i:Int)+1)=((i+1:Nat):Int):=by rw[aI _ (by omega)];rfl
  have hz:=am5 l i hlt
  rw[adA] at hz
  rw[eg l i (aC .aval) hlt,aap]
  simp only[aB.eta]
  cases hv:aX ts t (l.getD i (aC .aval))
  ·simp(disch:=omega) only[bC,hv,Bool.false_eq_true]
  ·simp(disch:=omega) only[bC,hv,e6,hr]
 ·have:i=l.length:=by omega
  subst this
  rw[List.drop_length,aap]
  simp(disch:=omega) only[bC,]
theorem axc(N:Nat)(ts:List aA)(a0:Int)(a1:List UInt8)(a2:List (List UInt8))(a3:Int)(a4:List (List UInt8))(a5:Bool)(a6:List UInt8)(a7:Int)(fs:List aO)(a9:List Int)(l:List aB)
  (hl:fs.length≤9223372036854775807) (h:szL l+1000000≤N) (hN:l.length<N):
  uY N ts a0 a1 a2 a3 a4 a5 a6 a7 fs a9 l=some (.bool (decide (List.length l=List.length fs)&&gP ts fs l),[]):=by
 simp only[uY,qc]
 by_cases he:l.length=fs.length
 rotate_left
 ·have e1:decide (l.length=fs.length)=false:=decide_eq_false he
  simp(disch:=omega) only[bC,e1]
 have e1:decide (l.length=fs.length)=true:=decide_eq_true he
 simp(disch:=omega) only[bC,e1]
 refine oC (fun x:List aB×List aA×List aO×Int×Int=>l=x.1∧ts=x.2.1∧fs=x.2.2.1∧x.2.2.2.1=(fs.length:Int)∧∃i:Nat,x.2.2.2.2=(i:Int)∧i≤fs.length) (fun x=>fs.length-x.2.2.2.2.toNat)
  (fun x=>(V.bool (gP ts (fs.drop x.2.2.2.2.toNat) (l.drop x.2.2.2.2.toNat)),([]:List aJ))) ?_ N _ ⟨rfl,rfl,rfl,rfl,0,rfl,by omega⟩ (by simp;omega)
 rintro rec ⟨x1,x2,x3,x4,x5⟩ ⟨e1,e2,e3,e4,i,e5,hi⟩ hrec
 simp only at e1 e2 e3 e4 e5
 subst e1 e2 e3 e4 e5
 simp only[sY,Int.toNat_natCast]
 rcases Nat.lt_or_ge i fs.length with hlt|hge
 ·have hr:=hrec (l,ts,fs,(fs.length:Int),((i+1:Nat):Int)) ⟨rfl,rfl,rfl,rfl,i+1,rfl,by omega⟩ (by simp only[Int.toNat_natCast];omega)
  simp only[Int.toNat_natCast] at hr
  have e6:IntKind.wrap .i64 ((i:Int)+1)=((i+1:Nat):Int):=by rw[aI _ (by omega)];rfl
  have hlt':i<l.length:=by omega
  have hz:=am5 l i hlt'
  rw[adA] at hz
  rw[eg l i (aC .aval) hlt',eg fs i (aC .afield) hlt,gP]
  simp only[aB.eta,List.headD_cons,List.tail_cons]
  cases hv:aX ts (fs.getD i (aC .afield)).typ (l.getD i (aC .aval))
  ·simp(disch:=omega) only[bC,hv]
  ·simp(disch:=omega) only[bC,hv,e6,hr]
 ·have:i=fs.length:=by omega
  subst this
  rw[List.drop_length,←he,List.drop_length,gP]
  simp(disch:=omega) only[bC,]
def alP(a b:List (List UInt8)):Bool:=decide (a=b)
theorem aBe(a b:List (List UInt8))(i:Nat)(h:i<a.length)(h':i<b.length):alP (a.drop i) (b.drop i)=(decide (a.getD i (aC .str)=b.getD i (aC .str))&&alP (a.drop (i+1)) (b.drop (i+1))):=by
 unfold alP
 rw[←Bool.decide_and,decide_eq_decide,eg a i (aC .str) h,eg b i (aC .str) h',List.cons.injEq]
theorem at9:∀(l m:List aB),l.length≠m.length→oF l m=false
 | [],m,h=>by
   have:¬m.length=0:=fun e=>h (by simp[e])
   simp only[oF,decide_eq_false this]
 |v::l,[],h=>by simp[oF]
 |v::l,w::m,h=>by
  simp only[oF,List.tail_cons,at9 l m (by simpa using h),Bool.and_false]
end Go.Proofs.YtdpajabhmmmjoaaGreat
end
noncomputable section
namespace Go.Proofs.YtdpajabhmmmjoaaGreat
open Go.AM
set_option autoImplicit false
set_option linter.unusedSimpArgs false
set_option linter.unusedVariables false
set_option maxRecDepth 100000
theorem aEi(N:Nat)(v:Bool)(n:Int)(s:List UInt8)(l:List aB)(ks:List (List UInt8))(b:Int):(abW N (v,n,s,l,ks,b)).map (·.1)=some (.bool (v&&cA n s l ks b)):=by
 cases v<;>rfl
theorem aEj(N:Nat)(v:Bool)(n:Int)(s:List UInt8)(l:List aB)(ks:List (List UInt8))(b:Int):(xd N (v,n,s,l,ks,b)).map (·.1)=some (.bool (v&&cA n s l ks b)):=by
 cases v<;>rfl
theorem aCV(N:Nat)(v:Bool)(n:Int)(s:List UInt8)(l:List aB)(ks:List (List UInt8))(b:Int):(xe N (v,n,s,l,ks,b)).map (·.1)=some (.bool (v&&cA n s l ks b)):=by
 cases v<;>rfl
theorem aCW(N:Nat)(v:Bool)(n:Int)(s:List UInt8)(l:List aB)(ks:List (List UInt8))(b:Int):(xf N (v,n,s,l,ks,b)).map (·.1)=some (.bool (v&&cA n s l ks b)):=by
 cases v<;>rfl
theorem aEk(N:Nat)(v:Bool)(n:Int)(s:List UInt8)(l:List aB)(ks:List (List UInt8))(b:Int):(xh N (v,n,s,l,ks,b)).map (·.1)=some (.bool (v&&cA n s [] [] b)):=by
 cases v<;>rfl
theorem aqP(N:Nat)(v:Bool)(n:Int)(s:List UInt8)(l:List aB)(ks:List (List UInt8))(b:Int):(xj N (v,n,s,l,ks,b)).map (·.1)=some (.bool (v&&cA n s [] ks 0)):=by
 cases v<;>rfl
theorem aAm(N:Nat)(ts:List aA)(t n:Int)(s:List UInt8)(l:List aB)(ks:List (List UInt8))(b:Int)(h:szL l+1000000≤N):
  (zi N ts t n s l ks b).map (·.1)=some (.bool (aX ts t (.mk n s l ks b))):=by
 simp only[zi,ug,aX]
 by_cases ht:isT ts t=true
 rotate_left
 ·simp only[Bool.not_eq_true] at ht
  simp only[ht,Bool.not_false,cond_true,Bool.false_and,Option.map_some]
 have ht':=ht
 simp only[isT,Bool.and_eq_true,decide_eq_true_eq] at ht'
 have e0:ixl t ts=true:=ht
 simp only[ht,e0,Bool.not_true,cond_false,aeH,Bool.true_and]
 generalize ts.getD t.toNat (aC .atype)=k
 have c1:decide (1000000≤N-szL l)=true:=decide_eq_true (by omega)
 by_cases h1:k.kind=1
 ·simp(disch:=omega) only[bC,h1,aEi]
 have h1':(k.kind==1)=false:=by simpa using h1
 simp only[h1',cond_false]
 by_cases hn:k.kind=2∨k.kind=3∨k.kind=4∨k.kind=5∨k.kind=6∨k.kind=10
 ·rcases hn with e|e|e|e|e|e<;>
   (simp only[e]
    simp(disch:=omega) only[bC,xl,qf,aEj])
 have d2:(k.kind==2)=false:=by simp;omega
 have d3:(k.kind==3)=false:=by simp;omega
 have d4:(k.kind==4)=false:=by simp;omega
 have d5:(k.kind==5)=false:=by simp;omega
 have d6:(k.kind==6)=false:=by simp;omega
 have d10:(k.kind==10)=false:=by simp;omega
 simp only[d2,d3,d4,d5,d6,d10,cond_false,xl,qf,Bool.or_false,Bool.false_or]
 by_cases hx:k.kind=7∨k.kind=8∨k.kind=11
 ·rcases hx with e|e|e<;>
   (simp only[e]
    simp(disch:=omega) only[bC,se,qe,aCV])
 have d7:(k.kind==7)=false:=by simp;omega
 have d8:(k.kind==8)=false:=by simp;omega
 have d11:(k.kind==11)=false:=by simp;omega
 simp only[d7,d8,d11,cond_false,se,qe,Bool.or_false,Bool.false_or]
 by_cases h12:k.kind=12
 ·simp only[h12]
  simp(disch:=omega) only[bC,c1,aCW]
 have d12:(k.kind==12)=false:=by simp;omega
 simp only[d12,cond_false]
 by_cases h13:k.kind=13
 ·simp only[h13]
  simp(disch:=omega) only[bC,c1]
  cases (ks.length:Int)==(l.length:Int)<;>cases dl ks<;>simp only[cond_true,cond_false,aEk,Bool.false_and,Bool.true_and]
 have d13:(k.kind==13)=false:=by simp;omega
 simp only[d13,cond_false]
 by_cases h9:k.kind=9
 ·simp only[h9]
  simp(disch:=omega) only[bC,c1,aCW]
 have d9:(k.kind==9)=false:=by simp;omega
 simp only[d9,cond_false]
 by_cases h14:k.kind=14
 ·simp only[h14]
  simp(disch:=omega) only[bC,]
  by_cases b0:0≤b
  rotate_left
  ·simp(disch:=omega) only[bC,aqP]
  by_cases b1:b<(k.branches.length:Int)
  rotate_left
  ·simp(disch:=omega) only[bC,aqP]
  match l,h,c1 with
  | [],h,c1=>
    have e1:((List.length ([]:List aB):Int)==1)=false:=rfl
    have e2:decide (0≤b)=true:=decide_eq_true b0
    have e3:decide (b<(k.branches.length:Int))=true:=decide_eq_true b1
    simp only[e1,e2,e3,cond_true,cond_false,aqP,Bool.false_and,Bool.and_false,Bool.true_and]
  | [v],h,c1=>
    have hz:szV v=szL v.l+1:=adA v
    simp only[szL] at h
    have e1:(decide ((0:Int)≤b)&&decide (b<(k.branches.length:Int)))=true:=by simp[b0,b1]
    have e2:decide (1000000≤N-(szL v.l+1))=true:=decide_eq_true (by omega)
    have e3:([v]:List aB).getD (Int.toNat 0) (aC .aval)=v:=rfl
    simp only[e1,e3,aB.eta,aeH,e2]
    simp(disch:=omega) only[bC,aqP,List.length_singleton,bA]
    rfl
  |v::w::l,h,c1=>
   have e1:(((v::w::l).length:Int)==1)=false:=by simp;omega
   simp(disch:=omega) only[bC,aqP,e1]
 have d14:(k.kind==14)=false:=by simp;omega
 simp only[d14,cond_false,aCV,Bool.false_and]
theorem aeU(a0 a1:Int)(hc:(decide (0≤(a1:Int))&&decide ((a1:Int)≤32))=true):aL Tryz.prog adt [.int .u32 a0,.int .i64 a1] (.int .u8 (oE a0 a1)):=by
 refine aL.fits fun hf=>?_
 have r0:=awH (hf (.int .u32 a0) (by simp))
 have hc1:0≤a1∧a1≤32:=by simpa using hc
 exact auS aqn 1000 a0 a1 (ao9 1000 a0 a1 r0 hc1)
theorem akp:aL Tryz.prog wz [.int .u32 65533] (.str (adj 65533)):=
 alB 0 (agB 0 (by intro a0 h;simp at h) aeU) 65533 (aeT 0 65533 (by omega) (.inl (by omega)))
theorem asK(a0:Int):aL Tryz.prog wz [.int .u32 a0] (.str (adj a0)):=by
 refine aL.fits fun hf=>?_
 have r0:=awH (hf (.int .u32 a0) (by simp))
 refine alB 1 (agB 1 (fun b h=>?_) aeU) a0 (aeT 1 a0 r0 (.inr (by omega)))
 have hb:b=65533:=by simpa using h
 subst hb
 exact akp
theorem apb(a0:List UInt8)(hc:(!decide (a0=[]))=true):aL Tryz.prog abT [.str a0] (.tup [.int .u32 ((fm a0).1),.int .i64 ((fm a0).2)]):=by
 refine aL.fits fun hf=>?_
 have r0:=awI (hf (.str a0) (by simp))
 have hc1:a0≠[]:=by simpa using hc
 exact asl (aoW asK) 1000 a0 (ano 995 a0 hc1 r0)
theorem adB(a0:List UInt8):aL Tryz.prog w9 [.str a0] (.bool (cJ a0)):=by
 refine aL.fits fun hf=>?_
 have r0:=awI (hf (.str a0) (by simp))
 exact asm (aoZ apb) (a0.length+1) a0 (anp (a0.length+1) a0 r0 (by omega))
theorem aDc(ts:List aA)(t:Int):aL Tryz.prog alw [.agg [.sl .atype (.may false) ts],.int .i64 t] (.bool (isT ts t)):=
 aAl aw3 0 _ _ (ava 0 ts t)
theorem aBf(n:Int)(s:List UInt8)(l:List aB)(ks:List (List UInt8))(b:Int):aL Tryz.prog afu [.agg [.int .u64 n,.str s,.sl .aval (.may false) l,.sl .str (.may false) ks,.int .i64 b]] (.bool (cA n s l ks b)):=
 aw5 asn 0 _ _ _ _ _ (aqL 0 n s l ks b)
theorem ayT(a0:Int)(a1:List UInt8)(a2:List (List UInt8))(a3:Int)(a4:List (List UInt8))(a5:Bool)(a6:List UInt8)(a7:Int)(a8:List aO)(a9:List Int)(n:Int):
  aL Tryz.prog abR [.agg [.int .i64 a0,.str a1,.sl .str (.may false) a2,.int .i64 a3,.sl .str (.may false) a4,.bool a5,.str a6,.int .i64 a7,.sl .afield (.may false) a8,.sl (.num .i64) (.may false) a9],.int .u64 n] (.bool (mT a0 a4 n)):=
 aL.fits fun hf=>asp ao2 0 _ _ _ _ _ _ _ _ _ _ _ (anq 0 a0 a1 a2 a3 a4 a5 a6 a7 a8 a9 n (aCh (hf (.int .u64 n) (by simp))))
theorem aBg(a0:Int)(a1:List UInt8)(a2:List (List UInt8))(a3:Int)(a4:List (List UInt8))(a5:Bool)(a6:List UInt8)(a7:Int)(a8:List aO)(a9:List Int)(s:List UInt8):
  aL Tryz.prog afx [.agg [.int .i64 a0,.str a1,.sl .str (.may false) a2,.int .i64 a3,.sl .str (.may false) a4,.bool a5,.str a6,.int .i64 a7,.sl .afield (.may false) a8,.sl (.num .i64) (.may false) a9],.str s] (.bool (uN a0 a7 s)):=
 aw6 (asq adB) 0 _ _ _ _ _ _ _ _ _ _ _ (aqM 0 a0 a1 a2 a3 a4 a5 a6 a7 a8 a9 s)
theorem aBh(l:List (List UInt8)):aL Tryz.prog afw [.sl .str (.may false) l] (.bool (dl l)):=by
 refine aL.fits fun hf=>?_
 have r0:=azE (hf (.sl .str (.may false) l) (by simp))
 exact aw7 (ass adB) (l.length+1) l (aqN _ l r0 (by omega))
def axd(n:Nat):Prop:=∀(ts:List aA)(t m:Int)(s:List UInt8)(l:List aB)(ks:List (List UInt8))(b:Int),szL l+1≤n→
 aL Tryz.prog pd [.agg [.sl .atype (.may false) ts],.int .i64 t,.agg [.int .u64 m,.str s,.sl .aval (.may false) l,.sl .str (.may false) ks,.int .i64 b]] (.bool (aX ts t (.mk m s l ks b)))
def aD6(n:Nat):Prop:=∀(ts:List aA)(t:Int)(l:List aB),szL l≤n→aL Tryz.prog afv [.agg [.sl .atype (.may false) ts],.int .i64 t,.sl .aval (.may false) l] (.bool (bA ts t l))
def aEl(n:Nat):Prop:=∀(ts:List aA)(a0:Int)(a1:List UInt8)(a2:List (List UInt8))(a3:Int)(a4:List (List UInt8))(a5:Bool)(a6:List UInt8)(a7:Int)(a8:List aO)(a9:List Int)(l:List aB),szL l≤n→
 aL Tryz.prog abS [.agg [.sl .atype (.may false) ts],.agg [.int .i64 a0,.str a1,.sl .str (.may false) a2,.int .i64 a3,.sl .str (.may false) a4,.bool a5,.str a6,.int .i64 a7,.sl .afield (.may false) a8,.sl (.num .i64) (.may false) a9],.sl .aval (.may false) l] (.bool (decide (List.length l=List.length a8)&&gP ts a8 l))
theorem asL:∀l:List aB,l.length≤szL l
 | []=>by simp
 |v::l=>by simp only[List.length_cons,szL];have:=adA v;have:=asL l;omega
theorem aDd(n:Nat)(hF:axd n):aD6 n:=by
 have h1:∀(m:Int)(s:List UInt8)(l:List aB)(ks:List (List UInt8))(b:Int)(ts:List aA)(t:Int),szL l+1≤n→
   aL Tryz.prog qa [.agg [.int .u64 m,.str s,.sl .aval (.may false) l,.sl .str (.may false) ks,.int .i64 b],.ea [.sl .atype (.may false) ts],.ea [.int .i64 t]] (.bool (!aX ts t (.mk m s l ks b))):=by
  intro m s l ks b ts t hs
  refine aqI (n+1000000) (anm _ ?_) m s l ks b ts t (ayS _ ts t m s l ks b (by omega))
  intro ts t m s l ks b hd
  have:=of_decide_eq_true hd
  exact hF ts t m s l ks b (by omega)
 have h2:∀(l:List aB)(ts:List aA)(t:Int),szL l≤n→aL Tryz.prog dS [.sl .aval (.may false) l,.fn qa [.ea [.sl .atype (.may false) ts],.ea [.int .i64 t]]] (.int .i64 (aap ts t l 0)):=by
  intro l ts t hs
  refine aL.fits fun hf=>?_
  have r0:=azE (hf (.sl .aval (.may false) l) (by simp))
  have hlen:l.length≤szL l:=asL l
  refine mY (n+1000000) (mD _ ?_) l ts t (aCo _ ts t l r0 (by omega) (by omega))
  intro m s l ks b ts t hd
  have:=of_decide_eq_true hd
  exact h1 m s l ks b ts t (by omega)
 have h3:∀(l:List aB)(ts:List aA)(t:Int),szL l≤n→aL Tryz.prog dB [.sl .aval (.may false) l,.fn qa [.ea [.sl .atype (.may false) ts],.ea [.int .i64 t]]] (.bool (!bA ts t l)):=by
  intro l ts t hs
  refine lK (n+1000000) (kQ _ ?_) l ts t (aCn _ ts t l (by omega))
  intro l ts t hd
  have:=of_decide_eq_true hd
  exact h2 l ts t (by omega)
 intro ts t l hs
 refine aw8 (n+1000000) (asv _ ?_) ts t l (aqO _ ts t l (by omega))
 intro l ts t hd
 have:=of_decide_eq_true hd
 exact h3 l ts t (by omega)
theorem aD7(n:Nat)(hF:axd n):aEl n:=by
 intro ts a0 a1 a2 a3 a4 a5 a6 a7 a8 a9 l hs
 refine aL.fits fun hf=>?_
 have r0:=hf (.agg [.int .i64 a0,.str a1,.sl .str (.may false) a2,.int .i64 a3,.sl .str (.may false) a4,.bool a5,.str a6,.int .i64 a7,.sl .afield (.may false) a8,.sl (.num .i64) (.may false) a9]) (by simp)
 have r1:a8.length≤9223372036854775807:=r0 (.sl .afield (.may false) a8) (by simp)
 have hlen:l.length≤szL l:=asL l
 refine asx (n+1000000) (ao4 _ ?_) ts a0 a1 a2 a3 a4 a5 a6 a7 a8 a9 l (axc _ ts a0 a1 a2 a3 a4 a5 a6 a7 a8 a9 l r1 (by omega) (by omega))
 intro ts t m s l ks b hd
 have:=of_decide_eq_true hd
 exact hF ts t m s l ks b (by omega)
theorem azI:∀n,axd n
 |0=>fun ts t m s l ks b h=>by omega
 |n+1=>by
  have hF:=azI n
  intro ts t m s l ks b hs
  obtain⟨hp,h⟩:=aD2 (aAm (n+1000000) ts t m s l ks b (by omega))
  refine axa (n+1000000) (asy _ ?_ aDc ayT aBg ?_ aBh ?_ aBf) ts t m s l ks b h
  ·intro ts t m s l ks b hd
   have:=of_decide_eq_true hd
   exact hF ts t m s l ks b (by omega)
  ·intro ts t l hd
   have:=of_decide_eq_true hd
   exact aDd n hF ts t l (by omega)
  ·intro ts a0 a1 a2 a3 a4 a5 a6 a7 a8 a9 l hd
   have:=of_decide_eq_true hd
   exact aD7 n hF ts a0 a1 a2 a3 a4 a5 a6 a7 a8 a9 l (by omega)
theorem aBi(ts:List aA)(t m:Int)(s:List UInt8)(l:List aB)(ks:List (List UInt8))(b:Int):
  aL Tryz.prog pd [.agg [.sl .atype (.may false) ts],.int .i64 t,.agg [.int .u64 m,.str s,.sl .aval (.may false) l,.sl .str (.may false) ks,.int .i64 b]] (.bool (aX ts t (.mk m s l ks b))):=
 azI (szL l+1) ts t m s l ks b (Nat.le_refl _)
end Go.Proofs.YtdpajabhmmmjoaaGreat
end
noncomputable section
namespace Go.Proofs.YtdpajabhmmmjoaaGreat
open Go.AM
set_option autoImplicit false
set_option linter.unusedVariables false
set_option maxRecDepth 100000
abbrev ayU:=Bool
noncomputable def aa5(a:List aA)(b:Int)(c:aB)(r:ayU):Prop:=aL Tryz.prog pd [.agg [.sl .atype (.may false) a],.int .i64 b,.agg (enc .aval c)] (.bool r)∧asf a b c r
noncomputable def ayV:cS Tryz.prog:=.mk 19 fun us=>match us with
 | [.agg [.sl .atype (.may _) a],.int .i64 g,.agg [.int .u64 b,.str c,.sl .aval (.may _) d,.sl .str (.may _) e,.int .i64 f]]=>let r:=pick (aa5 a g (⟨b,c,d,e,f⟩));some (can (aa5 a g (⟨b,c,d,e,f⟩)),.bool r)
 |_=>none
end Go.Proofs.YtdpajabhmmmjoaaGreat
end
noncomputable section
namespace Go.Proofs.YtdpajabhmmmjoaaGreat
open Go.AM
set_option autoImplicit false
set_option linter.unusedVariables false
set_option maxRecDepth 100000
abbrev ajx:FuncId:=8
abbrev alQ:FuncId:=38
abbrev alR:FuncId:=41
abbrev aod:FuncId:=39
abbrev aoe:FuncId:=40
abbrev alS:FuncId:=20
abbrev aua:FuncId:=72
abbrev ajy:FuncId:=4
abbrev aqQ:FuncId:=79
abbrev adC:FuncId:=50
abbrev aub:FuncId:=51
abbrev avb:FuncId:=76
abbrev aqR:FuncId:=77
abbrev agI:FuncId:=24
abbrev alT:FuncId:=23
abbrev agJ:FuncId:=53
abbrev aeV:FuncId:=71
abbrev avc:=Bool
noncomputable def sf(r:avc):Prop:=aL Tryz.prog ajy [] (.bool r)∧adq  r
noncomputable def avd:cS Tryz.prog:=.mk 4 fun us=>match us with
 | []=>let r:=pick sf;some (can sf,.bool r)
 |_=>none
abbrev ave:=Bs×Int
noncomputable def jL(a:List aA)(b:Int)(c:aB)(r:ave):Prop:=aL Tryz.prog ajx [.agg [.sl .atype (.may false) a],.int .i64 b,.agg (enc .aval c)] (.tup [.sl .u8 (.may false) r.1,.int .i64 r.2])∧xF a b c r
noncomputable def ajz:cS Tryz.prog:=.mk 8 fun us=>match us with
 | [.agg [.sl .atype (.may _) a],.int .i64 g,.agg [.int .u64 b,.str c,.sl .aval (.may _) d,.sl .str (.may _) e,.int .i64 f]]=>let r:=pick (jL a g (⟨b,c,d,e,f⟩));some (can (jL a g (⟨b,c,d,e,f⟩)),.tup [.sl .u8 (.may false) r.1,.int .i64 r.2])
 |_=>none
abbrev axe:=Bs
noncomputable def iY(a:List aA)(b:Int)(c:aB)(r:axe):Prop:=aL Tryz.prog alS [.agg [.sl .atype (.may false) a],.int .i64 b,.agg (enc .aval c)] (.str r)∧aeO a b c r
noncomputable def adD:cS Tryz.prog:=.mk 20 fun us=>match us with
 | [.agg [.sl .atype (.may _) a],.int .i64 g,.agg [.int .u64 b,.str c,.sl .aval (.may _) d,.sl .str (.may _) e,.int .i64 f]]=>let r:=pick (iY a g (⟨b,c,d,e,f⟩));some (can (iY a g (⟨b,c,d,e,f⟩)),.str r)
 |_=>none
abbrev axf:=Bs
noncomputable def cV(a:Int)(r:axf):Prop:=aL Tryz.prog alT [.int .i64 a] (.str r)∧yT a r
noncomputable def alU:cS Tryz.prog:=.mk 23 fun us=>match us with
 | [.int .i64 a]=>let r:=pick (cV a);some (can (cV a),.str r)
 |_=>none
abbrev asM:=Bs×Int
noncomputable def qg(a:List aA)(b:Int)(c:aB)(r:asM):Prop:=aL Tryz.prog agI [.agg [.sl .atype (.may false) a],.int .i64 b,.agg (enc .aval c)] (.tup [.sl .u8 (.may false) r.1,.int .i64 r.2])∧vY a b c r
noncomputable def asN:cS Tryz.prog:=.mk 24 fun us=>match us with
 | [.agg [.sl .atype (.may _) a],.int .i64 g,.agg [.int .u64 b,.str c,.sl .aval (.may _) d,.sl .str (.may _) e,.int .i64 f]]=>let r:=pick (qg a g (⟨b,c,d,e,f⟩));some (can (qg a g (⟨b,c,d,e,f⟩)),.tup [.sl .u8 (.may false) r.1,.int .i64 r.2])
 |_=>none
abbrev axg:=Bs
noncomputable def nN(a b:Int)(r:axg):Prop:=aL Tryz.prog alQ [.int .u64 a,.int .i64 b] (.str r)∧aeN a b r
noncomputable def axh:cS Tryz.prog:=.mk 38 fun us=>match us with
 | [.int .u64 a,.int .i64 b]=>let r:=pick (nN a b);some (can (nN a b),.str r)
 |_=>none
abbrev ayW:=Bs
noncomputable def gR(a:Int)(r:ayW):Prop:=aL Tryz.prog aod [.int .i64 a] (.str r)∧aaq a r
noncomputable def afy:cS Tryz.prog:=.mk 39 fun us=>match us with
 | [.int .i64 a]=>let r:=pick (gR a);some (can (gR a),.str r)
 |_=>none
abbrev ayX:=Bs
noncomputable def pg(a:Bs)(r:ayX):Prop:=aL Tryz.prog aoe [.str a] (.str r)∧agv a r
noncomputable def aof:cS Tryz.prog:=.mk 40 fun us=>match us with
 | [.str a]=>let r:=pick (pg a);some (can (pg a),.str r)
 |_=>none
abbrev axi:=Bs
noncomputable def qh(a:List aA)(b:aA)(c:aB)(r:axi):Prop:=aL Tryz.prog alR [.agg [.sl .atype (.may false) a],.agg (enc .atype b),.agg (enc .aval c)] (.str r)∧yU a b c r
noncomputable def axj:cS Tryz.prog:=.mk 41 fun us=>match us with
 | [.agg [.sl .atype (.may _) a],.agg [.int .i64 b,.str c,.sl .str (.may _) d,.int .i64 e,.sl .str (.may _) f,.bool g,.str h,.int .i64 i,.sl .afield (.may _) j,.sl (.num .i64) (.may _) k],.agg [.int .u64 l,.str m,.sl .aval (.may _) n,.sl .str (.may _) o,.int .i64 p]]=>let r:=pick (qh a (⟨b,c,d,e,f,g,h,i,j,k⟩) (⟨l,m,n,o,p⟩));some (can (qh a (⟨b,c,d,e,f,g,h,i,j,k⟩) (⟨l,m,n,o,p⟩)),.str r)
 |_=>none
abbrev apc:=Bs
noncomputable def iq(a:Int)(r:apc):Prop:=aL Tryz.prog adC [.int .u64 a] (.str r)∧z5 a r
noncomputable def adE:cS Tryz.prog:=.mk 50 fun us=>match us with
 | [.int .u64 a]=>let r:=pick (iq a);some (can (iq a),.str r)
 |_=>none
abbrev aBj:=Int
noncomputable def abj(a b:Int)(r:aBj):Prop:=aL Tryz.prog aub [.int .i64 a,.int .u64 b] (.int .u64 r)∧alu a b r
noncomputable def aBk:cS Tryz.prog:=.mk 51 fun us=>match us with
 | [.int .i64 a,.int .u64 b]=>let r:=pick (abj a b);some (can (abj a b),.int .u64 r)
 |_=>none
abbrev asO:=Bs
noncomputable def gl(a:List aA)(b:Int)(c:aB)(r:asO):Prop:=aL Tryz.prog agJ [.agg [.sl .atype (.may false) a],.int .i64 b,.agg (enc .aval c)] (.str r)∧vX a b c r
noncomputable def agK:cS Tryz.prog:=.mk 53 fun us=>match us with
 | [.agg [.sl .atype (.may _) a],.int .i64 g,.agg [.int .u64 b,.str c,.sl .aval (.may _) d,.sl .str (.may _) e,.int .i64 f]]=>let r:=pick (gl a g (⟨b,c,d,e,f⟩));some (can (gl a g (⟨b,c,d,e,f⟩)),.str r)
 |_=>none
abbrev aqS:=Bs
noncomputable def oK(a:Int)(r:aqS):Prop:=aL Tryz.prog aeV [.int .u64 a] (.str r)∧abi a r
noncomputable def aqT:cS Tryz.prog:=.mk 71 fun us=>match us with
 | [.int .u64 a]=>let r:=pick (oK a);some (can (oK a),.str r)
 |_=>none
abbrev aBl:=Int
noncomputable def abk(a b:Int)(r:aBl):Prop:=aL Tryz.prog aua [.int .i64 a,.int .u64 b] (.int .u64 r)∧alv a b r
noncomputable def aBm:cS Tryz.prog:=.mk 72 fun us=>match us with
 | [.int .i64 a,.int .u64 b]=>let r:=pick (abk a b);some (can (abk a b),.int .u64 r)
 |_=>none
abbrev avf:=Int
noncomputable def im(a:Int)(r:avf):Prop:=aL Tryz.prog avb [.int .u64 a] (.int .u64 r)
noncomputable def ajA:cS Tryz.prog:=.mk 76 fun us=>match us with
 | [.int .u64 a]=>let r:=pick (im a);some (can (im a),.int .u64 r)
 |_=>none
abbrev aAn:=Int
noncomputable def vb(a:Int)(r:aAn):Prop:=aL Tryz.prog aqR [.int .u64 a] (.int .u64 r)∧w7 a r
noncomputable def aAo:cS Tryz.prog:=.mk 77 fun us=>match us with
 | [.int .u64 a]=>let r:=pick (vb a);some (can (vb a),.int .u64 r)
 |_=>none
abbrev aAp:=Bs
noncomputable def re(a b:Int)(r:aAp):Prop:=aL Tryz.prog aqQ [.int .u64 a,.int .i64 b] (.str r)∧abQ a b r
noncomputable def aAq:cS Tryz.prog:=.mk 79 fun us=>match us with
 | [.int .u64 a,.int .i64 b]=>let r:=pick (re a b);some (can (re a b),.str r)
 |_=>none
end Go.Proofs.YtdpajabhmmmjoaaGreat
end
noncomputable section
namespace Go.Proofs.YtdpajabhmmmjoaaGreat
open Go.AM
set_option autoImplicit false
set_option linter.unusedVariables false
set_option maxRecDepth 100000
noncomputable def apd:aN:=tab (P:=Tryz.prog) [ayB] [anc,acw,z9] [] [avd,ajz,ash,alf]
def anr:IR:=Rs [Mb 6 false] (Sq (Rs [Ca 21 4 [],Un 22 21] (Cn 22 (Rs [Mb 6 false] .ret) .skip)) (Sq (Rs [Mv 23 0,Ll 24 23,Bc 25 .gtr 24 120,Mv 26 25,Gf 26 (.mov 27 1),Gf 26 (.lenl 28 27),Gf 26 (.bin 29 .gtr 28 (kI 60)),Po 30 26 29,Mv 31 30,Gf 31 (.mov 32 2),Gf 31 (.lenl 33 32),Gf 31 (.bin 34 .gtr 33 (kI 20)),Po 35 31 34] (Cn 35 (Rs [Mb 6 true] .ret) .skip)) (Rs [Mv 37 0,Ca 38 5 [37],Ca 39 6 [38],Mv 36 39,Ex_ 40 0 36,Ex_ 41 1 36,Pp (.alr 7 1),Fz 7 1 40,Mv 8 41] (Sq (Rs [Mv 42 8,Un 43 42] (Cn 43 (Rs [Mb 6 true] .ret) .skip)) (Sq (.reg [Mv 45 1,Ca 46 5 [45],Ld 47 1 true 7,Fo [] [1] (.call 48 7 [46,47,kI 0,kI 0]),Mv 44 48,Ex_ 49 0 44,Ex_ 50 1 44,Pp (.alr 9 5),Fz 9 5 49,Mv 10 50] [[],[0],[],[0,1,2],rg 0 3,rg 0 4,rg 0 4,[],rg 0 5++[7],rg 0 8]) (Sq (Rs [Mv 51 10,Un 52 51] (Cn 52 (Rs [Mb 6 true] .ret) .skip)) (Rs [Ld 54 1 true 7,Ld 55 5 true 9,Ca 56 8 [54,kI 0,55],Mv 53 56,Ex_ 57 0 53,Ex_ 58 1 53,Mv 11 57,Mv 12 58] (Sq (Rs [Mv 59 12,Bc 60 .neq 59 0] (Cn 60 (Rs [Mv 61 12,Bc 62 .eql 61 3,Mv 6 62] .ret) .skip)) (Rs [Ld 64 1 true 7,Mv 65 11,Ca 66 9 [64,kI 0,65],Mv 63 66,Ex_ 67 0 63,Ex_ 68 1 63,Ex_ 69 2 63,Pp (.alr 13 5),Fz 13 5 67,Mv 14 68,Mv 15 69] (Sq (.reg [Ld 71 1 true 7,Mv 72 2,Ca 73 5 [72],Ld 74 1 true 7,Ld 75 5 true 9,Fo [] [2] (.call 76 10 [73,74,kI 0,75]),Pp (.s2b 77 76),Ca 78 9 [71,kI 0,77],Mv 70 78,Ex_ 79 0 70,Ex_ 80 1 70,Ex_ 81 2 70,Pp (.alr 16 5),Fz 16 5 79,Mv 17 80,Mv 18 81] [[],[],[1],[],[],rg 1 4,rg 1 5,rg 0 6,rg 0 7,rg 0 8,rg 0 8,rg 0 8,[],rg 0 9++[12],rg 0 10++[12,13],rg 0 14]) (Sq (Rs [Mv 82 15,Bc 83 .eql 82 3,Mv 84 83,Gf 84 (.mov 85 18),Gf 84 (.bin 86 .eql 85 (kI 3)),Po 87 84 86] (Cn 87 (Rs [Mb 6 true] .ret) .skip)) (Rs [Ld 89 1 true 7,Ld 90 5 true 16,Ca 91 8 [89,kI 0,90],Mv 88 91,Ex_ 92 0 88,Ex_ 93 1 88,Mv 19 92,Mv 20 93] (Rs [Mv 94 15,Bc 95 .eql 94 0,Mv 96 95,Gt 96 (.mov 97 14),Gt 96 (.mov 98 11),Gt 96 (.lenl 99 98),Gt 96 (.bin 100 .eql 97 99),Pa 101 96 100,Mv 102 101,Gt 102 (.lde 103 5 true 9),Gt 102 (.lde 104 5 true 13),Gt 102 (.call 105 11 [103,104]),Pa 106 102 105,Mv 107 106,Gt 107 (.mov 108 18),Gt 107 (.bin 109 .eql 108 (kI 0)),Pa 110 107 109,Mv 111 110,Gt 111 (.mov 112 20),Gt 111 (.bin 113 .eql 112 (kI 0)),Pa 114 111 113,Mv 115 114,Gt 115 (.mov 116 19),Gt 115 (.b2s 117 116),Gt 115 (.mov 118 11),Gt 115 (.b2s 119 118),Gt 115 (.bin 120 .eql 117 119),Pa 121 115 120,Mv 6 121] .ret)))))))))))))
def ans:List RV:=[.t 6]
theorem ant:FnC Tryz.prog apd [5,6,7,10,2000006,2000007,2000010] 0 xG Tryz.f3 anr ans:=fnC Tryz.func3
def acA(N:Nat)(q r t:Bs):Ro:=
 let u:=fun i j k m o=>(some (.bool i,[some [.sl .u8 (.may false) j,.int .i64 k],some [.sl .u8 (.may false) m,.int .i64 o]]):Ro)
 let d:=fun i j k m o y z=>(some (.bool i,[some [.sl .u8 (.may false) j,.int .i64 k],some [.sl .u8 (.may false) m,.int .i64 o],some [.sl .u8 (.may false) y,.int .i64 z]]):Ro)
 aE (sf) (fun(r1:Bool)=>
 cond (!r1) (
 some (.bool false,[])) (
 let x1:=(↑(List.length q):Int)
 cond (decide (120<x1)) (
 some (.bool true,[])) (
 let x2:=(↑(List.length r):Int)
 cond (decide (60<x2)) (
 some (.bool true,[])) (
 let x3:=(↑(List.length t):Int)
 cond (decide (20<x3)) (
 some (.bool true,[])) (
 aE (pc q) (fun v=>
 aE (mJ v.1 v.2) (fun a=>
 cond (!a.2.1) (
 some (.bool true,[some [.sl .u8 (.may false) a.2.2.1,.int .i64 a.2.2.2]])) (
 aE (pc r) (fun w=>
 aE (dG w.1 w.2 a.1 0 0) (fun b=>
 cond (!b.2.1) (
 u true a.2.2.1 a.2.2.2 b.2.2.1 b.2.2.2) (
 aE (jL a.1 0 (reA b.1)) (fun g=>
 cond (!(g.2==0)) (
 u (g.2==3) a.2.2.1 a.2.2.2 b.2.2.1 b.2.2.2) (
 aE (nA a.1 0 g.1) (fun e=>
 aE (pc t) (fun x=>
 aE (ef x.1 x.2 a.1 0 (reA b.1)) (fun c=>
 aE (nA a.1 0 c.1) (fun f=>
 cond (e.2.2==3) (
 d true a.2.2.1 a.2.2.2 b.2.2.1 b.2.2.2 c.2.1 c.2.2) (
 cond (f.2.2==3) (
 d true a.2.2.1 a.2.2.2 b.2.2.1 b.2.2.2 c.2.1 c.2.2) (
 aE (jL a.1 0 (reA f.1)) (fun h=>
 cond (e.2.2==0) (
 let x4:=(↑(List.length g.1):Int)
 cond (e.2.1==x4) (
 aE (nH b.1.n b.1.s b.1.l b.1.keys b.1.branch e.1.n e.1.s e.1.l e.1.keys e.1.branch) (fun(p:Bool)=>
 cond p (
 cond (f.2.2==0) (
 cond (h.2==0) (
 d (decide (h.1=g.1)) a.2.2.1 a.2.2.2 b.2.2.1 b.2.2.2 c.2.1 c.2.2) (
 d false a.2.2.1 a.2.2.2 b.2.2.1 b.2.2.2 c.2.1 c.2.2)) (
 d false a.2.2.1 a.2.2.2 b.2.2.1 b.2.2.2 c.2.1 c.2.2)) (
 d false a.2.2.1 a.2.2.2 b.2.2.1 b.2.2.2 c.2.1 c.2.2))) (
 d false a.2.2.1 a.2.2.2 b.2.2.1 b.2.2.2 c.2.1 c.2.2)) (
 d false a.2.2.1 a.2.2.2 b.2.2.1 b.2.2.2 c.2.1 c.2.2)))))))))))))))))))))
def acB(N:Nat)(a b c:Bs):Ro:=acA N a b c
theorem alV(N:Nat)(b c d:Bs)(h:Tot (acB N b c d) (fun z=>∃(a:Bool)(rest:List aJ),z.1.dimR=.bool a∧z.2=rest∧z6 b c d (a))):∃r,ads b c d r:=ant.finP (N:=N) (by kernel_rfl) h fun _ ⟨a,_,e,_,q⟩=>⟨(a),e,q⟩
end Go.Proofs.YtdpajabhmmmjoaaGreat
end
noncomputable section
namespace Go.Proofs.YtdpajabhmmmjoaaGreat
open Go.AM
set_option autoImplicit false
set_option linter.unusedVariables false
set_option maxRecDepth 100000
noncomputable def cI:aN:=tab (P:=Tryz.prog) [] [z9,kE] [] [alU,asN]
def wA:IR:=Sq (Rs [Mv 46 11,Fa 47 2 7,Lq 48 47,Ll 49 48,Bi 50 .lss 46 49] (Cn 50 .skip (.exit 1))) (Sq (.block 2 (.reg [Mv 53 10,Mv 54 0,Ld 55 1 true 5,Fa 56 8 9,Lq 57 56,Mv 58 11,Ix 59 .afield 57 58,Fa 60 2 59,Fo [] [] (.ld 61 1 false false 60),Fa 62 2 7,Lq 63 62,Mv 64 11,Ix 65 .aval 63 64,Ld 66 5 true 65,Fo [] [0] (.call 67 10 [54,55,61,66]),Bi 68 .add 53 67,Mv 10 68] [[],[],[],[],[3],[],[3,4,5],rg 3 6,rg 3 7,[],[9],[],[9,10,11],rg 9 12,rg 1 13,rg 0 14,rg 0 15])) (Rg [Mv 51 11,Bc 52 .add 51 1,Mv 11 52]))
def wB:IR:=Rs [Mv 69 10,Mv 8 69] .ret
def vG:IR:=Sq (Rs [Mv 87 15,Mv 88 12,Mv 89 13,Bi 90 .add 88 89,Bi 91 .lss 87 90] (Cn 91 .skip (.exit 5))) (Sq (.block 6 (Sq (Rs [Fa 94 0 9,Lq 95 94,Bc 96 .eql 95 13] (Cn 96 (.reg [Mv 97 14,Fa 98 3 7,Lq 99 98,Mv 100 15,Ix 101 .str 99 100,Lq 102 101,Pp (.lens 103 102),Ca 104 23 [103],Bi 105 .add 97 104,Fa 106 3 7,Lq 107 106,Mv 108 15,Ix 109 .str 107 108,Lq 110 109,Bi 111 .add 105 110,Mv 14 111] [[],[],[1],[],[1,2,3],rg 1 4,rg 1 5,rg 1 6,rg 0 7,[],[9],[],[9,10,11],rg 9 12,rg 0 13,rg 0 14]) .skip)) (.reg [Mv 112 14,Mv 113 0,Ld 114 1 true 5,Fa 115 3 9,Lq 116 115,Fa 117 2 7,Lq 118 117,Mv 119 15,Ix 120 .aval 118 119,Ld 121 5 true 120,Fo [] [0] (.call 122 10 [113,114,116,121]),Bi 123 .add 112 122,Mv 14 123] [[],[],[],[],[3],[],[5],[],[5,6,7],rg 5 8,rg 1 9,rg 0 10,rg 0 11]))) (Rg [Mv 92 15,Bc 93 .add 92 1,Mv 15 93]))
def vH:IR:=Sq (Rs [Mv 124 0,Ca 125 17 [124,kI 2],Bc 126 .eql 125 0] (Cn 126 (Rg [Mv 127 10,Mv 128 13,Pp (.un 129 .neg 128),Ca 130 23 [129],Bi 131 .add 127 130,Mv 132 14,Pp (.lens 133 132),Ca 134 23 [133],Bi 135 .add 131 134,Mv 136 14,Bi 137 .add 135 136,Mv 10 137]) (Rg [Mv 138 10,Mv 139 13,Ca 140 23 [139],Bi 141 .add 138 140,Mv 142 14,Bi 143 .add 141 142,Mv 10 143]))) (Rg [Mv 144 12,Mv 145 13,Bi 146 .add 144 145,Mv 12 146])
def jP:IR:=Sq (Rs [Mv 73 12,Fa 74 2 7,Lq 75 74,Ll 76 75,Bi 77 .lss 73 76] (Cn 77 .skip (.exit 3))) (.block 4 (Rs [Mv 78 0,Fa 79 2 7,Lq 80 79,Ll 81 80,Mv 82 12,Bi 83 .sub 81 82,Ca 84 17 [78,83],Pp (.bin 85 .add (kI 1) 84),Mv 13 85] (Rs [Ms 14 []] (Sq (Rs [Mv 86 12,Mv 15 86] (.block 5 (.loop [0,5,7,9,10,12,13,14,15,1000001] 1 vG))) vH))))
def og:IR:=Rs [Mv 147 10,Ca 148 23 [kI 0],Bi 149 .add 147 148,Mv 8 149] .ret
def gr:IR:=Rs [Ld 151 1 true 5,Mv 152 2,Ld 153 5 true 7,Ca 154 24 [151,152,153],Mv 150 154,Ex_ 155 0 150,Ex_ 156 1 150,Mv 16 155,Mv 17 156] (Rs [Mv 157 16,Pp (.b2s 158 157),Mv 8 158] .ret)
def aim:IR:=Rs [Bx 5 1,Bx 7 3,Ms 8 []] (Rs [Fa 18 0 5,Lq 19 18,Mv 20 2,Ix 21 .atype 19 20,Ld 22 10 true 21,Pp (.alr 9 10),Fz 9 10 22] (Rs [Ms 10 []] (Sq (Rs [Fa 23 0 9,Lq 24 23] (.block 0 (Rs [Bc 26 .eql 24 14,Mv 25 26] (Cn 25 (Sq (.reg [Fa 27 4 7,Lq 28 27,Ca 29 23 [28],Mv 30 0,Ld 31 1 true 5,Fa 32 9 9,Lq 33 32,Fa 34 4 7,Lq 35 34,Ix 36 (.num .i64) 33 35,Lq 37 36,Fa 38 2 7,Lq 39 38,Pp (.ixa 40 .aval 39 (kI 0)),Ld 41 5 true 40,Fo [] [0] (.call 42 10 [30,31,37,41]),Bi 43 .add 29 42,Mv 8 43] [[],[0],[0,1],[],[],[],[5],[],[7],rg 5 8,rg 5 9,[],[11],[11,12],[11,12,13],rg 0 14,rg 0 15,rg 0 16]) .ret) (Rs [Bc 45 .eql 24 9,Mv 44 45] (Cn 44 (Sq (Rs [Mi 11 0] (.block 1 (.loop [0,5,7,9,10,11,1000000] 1 wA))) wB) (Sq (Rs [Bc 71 .eql 24 12,Mv 70 71] (Cn 70 .skip (Rg [Bc 72 .eql 24 13,Mv 70 72]))) (Cn 70 (Sq (Rs [Mi 12 0] (.block 3 (.loop [0,5,7,9,10,12,1000002] 1 jP))) og) .skip)))))))) gr)))
def iZ:List RV:=[.t 8]
theorem ain:FnC Tryz.prog cI [10,17,2000010,2000017] 1 z7 Tryz.f10 aim iZ:=fnC Tryz.func10
def agL(R:IR→(Ex→St→Ro)→St→Ro)(a:St→Ro):Ex→St→Ro:=(bF a [0,5,7,9,10,11,1000000] 1 (aQ 1 (bv (R wB) (aQ 0 (bv (R gr) (fin iZ))))))
abbrev ix:Type:=(List aA×aB×aA×Bs×Int×Bs×Int)
def kT:ix→St:=fun(a,b,c,d,e,f,g)=>{env:=(.ptr 0 0::(U 4 (.ea [.sl .atype (.may false) a]::.undef::.ea (enc .aval b)::.undef::.ea (enc .atype c)::.str d::.int .i64 e::(U 147 [])))),hp:=[some [.sl .u8 (.may false) f,.int .i64 g]]}
def qi(N:Nat):(St→Ro)→St→Ro:=fun a s=>run cI N wA (agL (run cI N) a) s
def lS(N:Nat)(b:ix→Ro):ix→Ro:=fun(c,g,i,f,a,d,e)=>
 let j:=(↑(List.length g.l):Int)
 cond (decide (a<j)) (
 chk (ixl a i.fields) (
 let k:=(List.getD i.fields (Int.toNat a) (aC .afield))
 chk (ixl a g.l) (
 let m:=(List.getD g.l (Int.toNat a) (aC .aval))
 aE (ef d e c k.typ (reA m)) (fun h=>
 chk (decide (List.length f+List.length h.1≤9223372036854775807)) (
 let n:=(IntKind.wrap .i64 (a+1))
 b (c,g,i,(f++h.1),n,h.2.1,h.2.2)))))) (
 some (.str f,[some [.sl .u8 (.may false) d,.int .i64 e]]))
theorem afz(N:Nat):LB (qi N) kT (lS N):=fun _ _=>by kernel_rfl
def lT(R:IR→(Ex→St→Ro)→St→Ro)(a:St→Ro):Ex→St→Ro:=(bF a [0,5,7,9,10,12,1000002] 1 (aQ 3 (bv (R og) (aQ 0 (bv (R gr) (fin iZ))))))
abbrev dj:Type:=(List aA×aB×aA×Bs×Int×Bs×Int)
def cG:dj→St:=fun(a,b,c,d,e,f,g)=>{env:=(.ptr 0 0::(U 4 (.ea [.sl .atype (.may false) a]::.undef::.ea (enc .aval b)::.undef::.ea (enc .atype c)::.str d::.undef::.int .i64 e::(U 146 [])))),hp:=[some [.sl .u8 (.may false) f,.int .i64 g]]}
def agM(R:IR→(Ex→St→Ro)→St→Ro)(a b:St→Ro):Ex→St→Ro:=(bF b [0,5,7,9,10,12,13,14,15,1000001] 1 (aQ 5 (bv (R vH) (aQ 4 (lT R a)))))
abbrev fP:Type:=(List aA×aB×aA×Bs×Int×Int×Bs×Int×Bs×Int)
def gS:fP→St:=fun(a,b,c,d,e,f,g,h,i,j)=>{env:=(.ptr 0 0::(U 4 (.ea [.sl .atype (.may false) a]::.undef::.ea (enc .aval b)::.undef::.ea (enc .atype c)::.str d::.undef::.int .i64 e::.int .i64 f::.str g::.int .i64 h::(U 143 [])))),hp:=[some [.sl .u8 (.may false) i,.int .i64 j]]}
def lU(N:Nat)(a:St→Ro):(St→Ro)→St→Ro:=fun b s=>run cI N vG (agM (run cI N) a b) s
def eh(N:Nat)(f:dj→Ro)(g:fP→Ro):fP→Ro:=fun(c,h,m,d,i,e,a,b,j,k)=>
 let v:=(IntKind.wrap .i64 (i+e))
 cond (decide (b<v)) (
 cond (m.kind==13) (
 chk (ixl b h.keys) (
 let w:=List.getD h.keys (Int.toNat b) (aC .str)
 let x:=(↑(List.length w):Int)
 aE (cV x) (fun(r:Bs)=>
 chk (decide (List.length a+List.length r≤9223372036854775807)) (
 chk (ixl b h.keys) (
 let n:=List.getD h.keys (Int.toNat b) (aC .str)
 chk (decide (List.length (a++r)+List.length n≤9223372036854775807)) (
 chk (ixl b h.l) (
 let y:=(List.getD h.l (Int.toNat b) (aC .aval))
 aE (ef j k c m.items (reA y)) (fun s=>
 chk (decide (List.length ((a++r)++n)+List.length s.1≤9223372036854775807)) (
 let z:=(((a++r)++n)++s.1)
 let aa:=(IntKind.wrap .i64 (b+1))
 g (c,h,m,d,i,e,z,aa,s.2.1,s.2.2)))))))))) (
 chk (ixl b h.l) (
 let ab:=(List.getD h.l (Int.toNat b) (aC .aval))
 aE (ef j k c m.items (reA ab)) (fun t=>
 chk (decide (List.length a+List.length t.1≤9223372036854775807)) (
 let ac:=(IntKind.wrap .i64 (b+1))
 g (c,h,m,d,i,e,(a++t.1),ac,t.2.1,t.2.2)))))) (
 aE (aU j k 2) (fun q=>
 cond (q.1==0) (
 let ad:=(IntKind.wrap .i64 (0-e))
 aE (cV ad) (fun(u:Bs)=>
 chk (decide (List.length d+List.length u≤9223372036854775807)) (
 let ae:=(↑(List.length a):Int)
 aE (cV ae) (fun(o:Bs)=>
 chk (decide (List.length (d++u)+List.length o≤9223372036854775807)) (
 chk (decide (List.length ((d++u)++o)+List.length a≤9223372036854775807)) (
 let af:=(((d++u)++o)++a)
 let ag:=(IntKind.wrap .i64 (i+e))
 f (c,h,m,af,ag,q.2.1,q.2.2))))))) (
 aE (cV e) (fun(p:Bs)=>
 chk (decide (List.length d+List.length p≤9223372036854775807)) (
 chk (decide (List.length (d++p)+List.length a≤9223372036854775807)) (
 let ah:=(IntKind.wrap .i64 (i+e))
 f (c,h,m,((d++p)++a),ah,q.2.1,q.2.2)))))))
theorem afA(N:Nat)(a:St→Ro):LB (lU N a) gS (eh N (fun y=>a (cG y))):=fun _ _=>by kernel_rfl
def lV(N:Nat):(St→Ro)→St→Ro:=fun a s=>run cI N jP (lT (run cI N) a) s
def kV(N:Nat)(g:dj→Ro)(m:fP→Ro):dj→Ro:=fun(e,h,n,d,a,b,c)=>
 let o:=(↑(List.length h.l):Int)
 cond (decide (a<o)) (
 let p:=(↑(List.length h.l):Int)
 let i:=(IntKind.wrap .i64 (p-a))
 aE (aU b c i) (fun j=>
 let k:=(IntKind.wrap .i64 (1+j.1))
 m (e,h,n,d,a,k,([]:Bs),a,j.2.1,j.2.2))) (
 aE (cV 0) (fun(f:Bs)=>
 chk (decide (List.length d+List.length f≤9223372036854775807)) (
 some (.str (d++f),[some [.sl .u8 (.may false) b,.int .i64 c]]))))
def iy(N:Nat)(a:dj→Ro)(x:dj):Ro:=kV N a (fun z=>aS N (eh N a) z) x
def lW(N:Nat)(a:St→Ro):List (Nat×(St→Ro)):=(bP cI N jP (lT (run cI N) a)++(bP cI N og (aQ 0 (bv (run cI N gr) (fin iZ)))++(bP cI N gr (fin iZ)++[])))
theorem afB(N:Nat):∀(a:St→Ro)(x:dj),lV N a (cG x)=iy N (fun y=>a (cG y)) x:=by
 intro a x
 have hX:∀C:Nat→St→Ro,cE C cI N jP (lT (cE C cI N) a) (cG x)=kV N (fun y=>a (cG y)) (fun z=>C 1000001 (gS z)) x:=by
  intro C
  kernel_rfl
 have h:lV N a (cG x)=kV N (fun y=>a (cG y)) (fun z=>bo N (lU N a) (gS z)) x:=(dh (C:=eJ (lW N a)) (bU (aY (l:=(lW N a)) (by kernel_rfl))) (mH (de (eR (bU (dF (aY (l:=(lW N a)) (by kernel_rfl)))) (de (eR (bU (dF (dF (aY (l:=(lW N a)) (by kernel_rfl))))) rfl))))) _).trans ((hX _).trans (by kernel_rfl))
 have e2:(fun z=>bo N (lU N a) (gS z))=(fun z=>aS N (eh N (fun y=>a (cG y))) z):=funext fun z=>bk (gS) (lU N a) (eh N (fun y=>a (cG y))) (afA N a) N z
 rw[h,e2]
 rfl
def ja(N:Nat)(b:Bs)(c:Int)(a:List aA)(g:Int)(e:aB)(k:ix→Ro)(m:dj→Ro):Ro:=
 let i:=fun n=>m (a,e,n,([]:Bs),0,b,c)
 chk (ixl g a) (
 let d:=(List.getD a (Int.toNat g) (aC .atype))
 cond (d.kind==14) (
 aE (cV e.branch) (fun(j:Bs)=>
 chk (ixl e.branch d.branches) (
 let o:=List.getD d.branches (Int.toNat e.branch) (aC (.num .i64))
 chk (decide ((0:Int)<↑(List.length e.l))) (
 let p:=(List.getD e.l (Int.toNat 0) (aC .aval))
 aE (ef b c a o (reA p)) (fun f=>
 chk (decide (List.length j+List.length f.1≤9223372036854775807)) (
 some (.str (j++f.1),[some [.sl .u8 (.may false) f.2.1,.int .i64 f.2.2]]))))))) (
 cond (d.kind==9) (
 k (a,e,d,([]:Bs),0,b,c)) (
 cond (d.kind==12) (
 i d) (
 cond (d.kind==13) (
 i d) (
 aE (qg a g (reA e)) (fun h=>
 some (.str h.1,[some [.sl .u8 (.may false) b,.int .i64 c]])))))))
def zj(N:Nat)(a:Bs)(b:Int)(c:List aA)(d:Int)(e:aB):Ro:=ja N a b c d e (fun z=>aS N (lS N) z) (fun z=>aS N (iy N) z)
theorem agN(N:Nat)(a:Bs)(c:Int)(d:List aA)(g:Int)(i:aB)(h:Tot (zj N a c d g i) (fun z=>∃(j:Bs)(k:Bs)(l:Int)(rest:List aJ),z.1.dimR=.str j∧z.2=some [.sl .u8 (.may false) k,.int .i64 l]::rest∧kP a c d g i (j,k,l))):∃r,ef a c d g i r:=FnC.finO (css:=[[.sl .u8 (.may false) a,.int .i64 c]]) ain (N:=N) ((bM _ (by kernel_rfl) rfl (fun C=>ja N a c d g i (fun z=>C 1000000 (kT z)) (fun z=>C 1000002 (cG z))) (fun C=>by kernel_rfl)).trans (Eq.trans (b:=ja N a c d g i (fun z=>bo N (qi N) (kT z)) (fun z=>bo N (lV N) (cG z))) (by kernel_rfl) (congr (congrArg (ja N a c d g i) (funext fun z=>bk (kT) (qi N) (lS N) (afz N) N z)) (funext fun z=>bk (cG) (lV N) (iy N) (afB N) N z)))) h fun _ ⟨j,k,l,_,e,f,q⟩=>⟨(j,k,l),e,⟨_,f⟩,q⟩
end Go.Proofs.YtdpajabhmmmjoaaGreat
end
noncomputable section
namespace Go.Proofs.YtdpajabhmmmjoaaGreat
open Go.AM
set_option autoImplicit false
set_option linter.unusedVariables false
set_option maxRecDepth 100000
noncomputable def ape:aN:=tab (P:=Tryz.prog) [] [] [] [adE]
def anu:IR:=Rs [Ms 2 []] (Sq (Rs [Mv 3 0,Pp (.bin 4 .lss 3 (kU 128))] (Cn 4 (Rs [Mv 5 0,Pp (.cvi 6 .u8 5),Pp (.bsl 7 .u8 [6] true),Pp (.b2s 8 7),Mv 2 8] .ret) .skip)) (Sq (.reg [Mv 9 0,Pp (.bin 10 .rem 9 (kU 128)),Pp (.cvi 11 .u8 10),Pp (.bin 12 .add 11 (.c (.int .u8 128))),Pp (.bsl 13 .u8 [12] true),Pp (.b2s 14 13),Mv 15 0,Pp (.bin 16 .quo 15 (kU 128)),Ca 17 50 [16],Bi 18 .add 14 17,Mv 2 18] [[],[0],[0,1],[0,1,2],rg 0 3,rg 0 4,[],[6],[6,7],rg 0 8,rg 0 9]) .ret))
def anv:List RV:=[.t 2]
theorem anw:FnC Tryz.prog ape [] 0 adC Tryz.f50 anu anv:=fnC Tryz.func50
def acC(N:Nat)(a:Int):Ro:=
 cond (decide (a<128)) (
 some (.str ([(UInt8.ofNat (Int.toNat (IntKind.wrap .u8 a)))]:Bs),[])) (
 let d:=(IntKind.wrap .u8 (Int.tmod a 128))
 let b:=(IntKind.wrap .u8 (d+128))
 let e:=(IntKind.wrap .u64 (Int.tdiv a 128))
 aE (iq e) (fun(c:Bs)=>
 chk (decide (List.length ([(UInt8.ofNat (Int.toNat b))]:Bs)+List.length c≤9223372036854775807)) (
 let f:=(([(UInt8.ofNat (Int.toNat b))]:Bs)++c)
 some (.str f,[]))))
def acD(N:Nat)(a:Int):Ro:=acC N a
theorem alW(N:Nat)(b:Int)(h:Tot (acD N b) (fun z=>∃(a:Bs)(rest:List aJ),z.1.dimR=.str a∧z.2=rest∧z5 b (a))):∃r,iq b r:=anw.finP (N:=N) (by kernel_rfl) h fun _ ⟨a,_,e,_,q⟩=>⟨(a),e,q⟩
noncomputable def aAr:aN:=tab (P:=Tryz.prog) [] [] [] []
def ayY:IR:=Rs [Pp (.mov 2 (kU 0))] (Sq (Rs [Mv 3 0,Pp (.bin 4 .geq 3 (kU 9223372036854775808))] (Cn 4 (Rs [Mv 5 0,Pp (.un 6 .xor 5),Pp (.bin 7 .mul 6 (kU 2)),Pp (.bin 8 .add 7 (kU 1)),Mv 2 8] .ret) .skip)) (Rs [Mv 9 0,Pp (.bin 10 .mul 9 (kU 2)),Mv 2 10] .ret))
def ayZ:List RV:=[.t 2]
theorem ay0:FnC Tryz.prog aAr [] 0 aqR Tryz.f77 ayY ayZ:=fnC Tryz.func77
def aog(N:Nat)(a:Int):Ro:=
 let b:=decide (9223372036854775808≤a)
 cond b (
 let c:=(bJ .xor .u64 (if IntKind.signed .u64 then -1 else IntKind.max .u64) a)
 let d:=(IntKind.wrap .u64 (c*2))
 let e:=(IntKind.wrap .u64 (d+1))
 some (.int .u64 e,[])) (
 let f:=(IntKind.wrap .u64 (a*2))
 some (.int .u64 f,[]))
def aoh(N:Nat)(a:Int):Ro:=aog N a
theorem axk(N:Nat)(b:Int)(h:Tot (aoh N b) (fun z=>∃(a:Int)(rest:List aJ),z.1.dimR=.int .u64 a∧z.2=rest∧w7 b (a))):∃r,vb b r:=ay0.finP (N:=N) (by kernel_rfl) h fun _ ⟨a,_,e,_,q⟩=>⟨(a),e,q⟩
noncomputable def aBn:aN:=tab (P:=Tryz.prog) [] [] [] [ajA,aAo]
def aAs:IR:=Rs [Pp (.mov 4 (kU 0))] (Sq (Rs [Mv 5 0] (.block 0 (Sq (Rs [Bc 7 .eql 5 3,Mv 6 7] (Cn 6 .skip (Rg [Bc 8 .eql 5 17,Mv 6 8]))) (Cn 6 (Rs [Mv 9 1,Ca 10 76 [9],Mv 4 10] .ret) (Sq (Rs [Bc 12 .eql 5 5,Mv 11 12] (Cn 11 .skip (Rs [Bc 13 .eql 5 9,Mv 11 13] (Cn 11 .skip (Rs [Bc 14 .eql 5 2,Mv 11 14] (Cn 11 .skip (Rg [Bc 15 .eql 5 11,Mv 11 15]))))))) (Cn 11 (Rs [Mv 16 1,Pp (.bin 17 .rem 16 (kU 4294967296)),Mv 4 17] .ret) (Rs [Bc 19 .eql 5 13,Mv 18 19] (Cn 18 (Rs [Mv 20 1,Pp (.mx 21 true 20 (kU 1)),Mv 4 21] .ret) (Rs [Bc 23 .eql 5 7,Mv 22 23] (Cn 22 (Rs [Mv 24 1,Ca 25 76 [24],Ca 26 77 [25],Pp (.bin 27 .rem 26 (kU 4294967296)),Mv 4 27] .ret) (Rs [Bc 29 .eql 5 8,Mv 28 29] (Cn 28 (Rs [Mv 30 1,Ca 31 77 [30],Mv 4 31] .ret) .skip)))))))))))) (Rs [Mv 32 1,Mv 4 32] .ret))
def aAt:List RV:=[.t 4]
theorem aAu:FnC Tryz.prog aBn [] 0 aub Tryz.f51 aAs aAt:=fnC Tryz.func51
def aqU(N:Nat)(b a:Int):Ro:=
 let c:=fun d=>(some (.int .u64 (Int.tmod d 4294967296),[]):Ro)
 cond (b==3) (
 aE (im a) (fun(e:Int)=>
 some (.int .u64 e,[]))) (
 cond (b==17) (
 aE (im a) (fun(f:Int)=>
 some (.int .u64 f,[]))) (
 cond (b==5) (
 c a) (
 cond (b==9) (
 c a) (
 cond (b==2) (
 c a) (
 cond (b==11) (
 c a) (
 cond (b==13) (
 let g:=(if 1<a then 1 else a)
 some (.int .u64 g,[])) (
 cond (b==7) (
 aE (im a) (fun(h:Int)=>
 aE (vb h) (fun(i:Int)=>
 c i))) (
 cond (b==8) (
 aE (vb a) (fun(j:Int)=>
 some (.int .u64 j,[]))) (
 some (.int .u64 a,[]))))))))))
def aqV(N:Nat)(a b:Int):Ro:=aqU N a b
theorem ay1(N:Nat)(b c:Int)(h:Tot (aqV N b c) (fun z=>∃(a:Int)(rest:List aJ),z.1.dimR=.int .u64 a∧z.2=rest∧alu b c (a))):∃r,abj b c r:=aAu.finP (N:=N) (by kernel_rfl) h fun _ ⟨a,_,e,_,q⟩=>⟨(a),e,q⟩
noncomputable def aio:aN:=tab (P:=Tryz.prog) [] [] [] []
def ajB:IR:=Sq (Rs [Mv 7 6,Mv 8 1,Bi 9 .lss 7 8] (Cn 9 .skip (.exit 0))) (Sq (.block 1 (Rs [Mv 12 5,Mv 13 0,Pp (.bin 14 .rem 13 (kU 256)),Pp (.cvi 15 .u8 14),Pp (.bsl 16 .u8 [15] true),Pp (.b2s 17 16),Bi 18 .add 12 17,Mv 5 18] (Rg [Mv 19 0,Pp (.bin 20 .quo 19 (kU 256)),Mv 0 20]))) (Rg [Mv 10 6,Bc 11 .add 10 1,Mv 6 11]))
def ajC:IR:=Rs [Mv 21 5,Mv 4 21] .ret
def ay2:IR:=Rs [Ms 4 []] (Rs [Ms 5 []] (Sq (Rs [Mi 6 0] (.block 0 (.loop [0,1,5,6,1000000] 0 ajB))) ajC))
def aoi:List RV:=[.t 4]
theorem ay3:FnC Tryz.prog aio [] 0 aqQ Tryz.f79 ay2 aoi:=fnC Tryz.func79
def axl(R:IR→(Ex→St→Ro)→St→Ro)(a:St→Ro):Ex→St→Ro:=(bF a [0,1,5,6,1000000] 0 (aQ 0 (bv (R ajC) (fin aoi))))
abbrev zk:Type:=(Int×Int×Bs×Int)
def xm:zk→St:=fun(a,b,c,d)=>{env:=(.int .u64 a::.int .i64 b::(U 3 (.str c::.int .i64 d::(U 15 [])))),hp:=[]}
def adF(N:Nat):(St→Ro)→St→Ro:=fun a s=>run aio N ajB (axl (run aio N) a) s
def zl(N:Nat)(a:zk→Ro):zk→Ro:=fun(c,d,b,e)=>
 cond (decide (e<d)) (
 let f:=(IntKind.wrap .u8 (Int.tmod c 256))
 chk (decide (List.length b+List.length ([(UInt8.ofNat (Int.toNat f))]:Bs)≤9223372036854775807)) (
 let g:=(b++([(UInt8.ofNat (Int.toNat f))]:Bs))
 let h:=(IntKind.wrap .u64 (Int.tdiv c 256))
 let i:=(IntKind.wrap .i64 (e+1))
 a (h,d,g,i))) (
 some (.str b,[]))
theorem avg(N:Nat):LB (adF N) xm (zl N):=fun _ _=>by kernel_rfl
def wC(N:Nat)(a b:Int)(c:zk→Ro):Ro:=
 c (a,b,([]:Bs),0)
def aoj(N:Nat)(a b:Int):Ro:=wC N a b (fun z=>aS N (zl N) z)
theorem axm(N:Nat)(a c:Int)(h:Tot (aoj N a c) (fun z=>∃(d:Bs)(rest:List aJ),z.1.dimR=.str d∧z.2=rest∧abQ a c (d))):∃r,re a c r:=ay3.finP (N:=N) ((bM _ (by kernel_rfl) rfl (fun C=>wC N a c (fun z=>C 1000000 (xm z))) (fun C=>by kernel_rfl)).trans (Eq.trans (b:=wC N a c (fun z=>bo N (adF N) (xm z))) (by kernel_rfl) (congrArg (wC N a c) (funext fun z=>bk (xm) (adF N) (zl N) (avg N) N z)))) h fun _ ⟨d,_,e,_,q⟩=>⟨(d),e,q⟩
noncomputable def axn:aN:=tab (P:=Tryz.prog) [] [] [] [adE,aBk]
def avh:IR:=Rs [Ms 2 []] (Rs [Mv 3 0,Pp (.cvi 4 .u64 3),Ca 5 51 [kI 8,4],Ca 6 50 [5],Mv 2 6] .ret)
def avi:List RV:=[.t 2]
theorem avj:FnC Tryz.prog axn [] 0 alT Tryz.f23 avh avi:=fnC Tryz.func23
def ajD(N:Nat)(a:Int):Ro:=
 aE (abj 8 (IntKind.wrap .u64 a)) (fun(b:Int)=>
 aE (iq b) (fun(c:Bs)=>
 some (.str c,[])))
def ajE(N:Nat)(a:Int):Ro:=ajD N a
theorem asP(N:Nat)(b:Int)(h:Tot (ajE N b) (fun z=>∃(a:Bs)(rest:List aJ),z.1.dimR=.str a∧z.2=rest∧yT b (a))):∃r,cV b r:=avj.finP (N:=N) (by kernel_rfl) h fun _ ⟨a,_,e,_,q⟩=>⟨(a),e,q⟩
noncomputable def qj:aN:=tab (P:=Tryz.prog) [] [] [] [alU,agK,aAq]
def abl:IR:=Sq (Rs [Mv 76 9,Fa 77 2 5,Lq 78 77,Ll 79 78,Bi 80 .lss 76 79] (Cn 80 .skip (.exit 1))) (Sq (.block 2 (.reg [Mv 83 8,Ld 84 1 true 3,Fa 85 8 7,Lq 86 85,Mv 87 9,Ix 88 .afield 86 87,Fa 89 2 88,Fo [] [] (.ld 90 1 false false 89),Fa 91 2 5,Lq 92 91,Mv 93 9,Ix 94 .aval 92 93,Ld 95 5 true 94,Ca 96 53 [84,90,95],Bi 97 .add 83 96,Mv 8 97] [[],[],[],[2],[],[2,3,4],rg 2 5,rg 2 6,[],[8],[],[8,9,10],rg 8 11,rg 1 12,rg 0 13,rg 0 14])) (Rg [Mv 81 9,Bc 82 .add 81 1,Mv 9 82]))
def abm:IR:=Rs [Mv 98 8,Mv 6 98] .ret
def abn:IR:=Sq (Rs [Mv 110 11,Fa 111 2 5,Lq 112 111,Ll 113 112,Bi 114 .lss 110 113] (Cn 114 .skip (.exit 3))) (Sq (.block 4 (Sq (Rs [Fa 117 0 7,Lq 118 117,Bc 119 .eql 118 13] (Cn 119 (.reg [Mv 120 10,Fa 121 3 5,Lq 122 121,Mv 123 11,Ix 124 .str 122 123,Lq 125 124,Pp (.lens 126 125),Ca 127 23 [126],Bi 128 .add 120 127,Fa 129 3 5,Lq 130 129,Mv 131 11,Ix 132 .str 130 131,Lq 133 132,Bi 134 .add 128 133,Mv 10 134] [[],[],[1],[],[1,2,3],rg 1 4,rg 1 5,rg 1 6,rg 0 7,[],[9],[],[9,10,11],rg 9 12,rg 0 13,rg 0 14]) .skip)) (.reg [Mv 135 10,Ld 136 1 true 3,Fa 137 3 7,Lq 138 137,Fa 139 2 5,Lq 140 139,Mv 141 11,Ix 142 .aval 140 141,Ld 143 5 true 142,Ca 144 53 [136,138,143],Bi 145 .add 135 144,Mv 10 145] [[],[],[],[2],[],[4],[],[4,5,6],rg 4 7,rg 1 8,rg 0 9,rg 0 10]))) (Rg [Mv 115 11,Bc 116 .add 115 1,Mv 11 116]))
def abo:IR:=Rs [Mv 146 10,Ca 147 23 [kI 0],Bi 148 .add 146 147,Mv 6 148] .ret
def uh:IR:=Rs [Ms 6 []] .ret
def aqW:IR:=Rs [Bx 3 0,Bx 5 2,Ms 6 []] (Rs [Fa 12 0 3,Lq 13 12,Mv 14 1,Ix 15 .atype 13 14,Ld 16 10 true 15,Pp (.alr 7 10),Fz 7 10 16] (Sq (Rs [Fa 17 0 7,Lq 18 17] (.block 0 (Rs [Bc 20 .eql 18 2,Mv 19 20] (Cn 19 (Rs [Fa 21 0 5,Lq 22 21,Ca 23 79 [22,kI 1],Mv 6 23] .ret) (Sq (Rs [Bc 25 .eql 18 3,Mv 24 25] (Cn 24 .skip (Rs [Bc 26 .eql 18 4,Mv 24 26] (Cn 24 .skip (Rg [Bc 27 .eql 18 10,Mv 24 27]))))) (Cn 24 (Rs [Fa 28 0 5,Lq 29 28,Pp (.cvi 30 .i64 29),Ca 31 23 [30],Mv 6 31] .ret) (Rs [Bc 33 .eql 18 5,Mv 32 33] (Cn 32 (Rs [Fa 34 0 5,Lq 35 34,Ca 36 79 [35,kI 4],Mv 6 36] .ret) (Rs [Bc 38 .eql 18 6,Mv 37 38] (Cn 37 (Rs [Fa 39 0 5,Lq 40 39,Ca 41 79 [40,kI 8],Mv 6 41] .ret) (Sq (Rs [Bc 43 .eql 18 7,Mv 42 43] (Cn 42 .skip (Rg [Bc 44 .eql 18 8,Mv 42 44]))) (Cn 42 (Sq (.reg [Fa 45 1 5,Lq 46 45,Pp (.lens 47 46),Ca 48 23 [47],Fa 49 1 5,Lq 50 49,Bi 51 .add 48 50,Mv 6 51] [[],[0],[0,1],[0,1,2],[],[4],rg 0 5,rg 0 6]) .ret) (Rs [Bc 53 .eql 18 11,Mv 52 53] (Cn 52 (Rs [Fa 54 1 5,Lq 55 54,Mv 6 55] .ret) (Rs [Bc 57 .eql 18 14,Mv 56 57] (Cn 56 (Sq (.reg [Fa 58 4 5,Lq 59 58,Ca 60 23 [59],Ld 61 1 true 3,Fa 62 9 7,Lq 63 62,Fa 64 4 5,Lq 65 64,Ix 66 (.num .i64) 63 65,Lq 67 66,Fa 68 2 5,Lq 69 68,Pp (.ixa 70 .aval 69 (kI 0)),Ld 71 5 true 70,Ca 72 53 [61,67,71],Bi 73 .add 60 72,Mv 6 73] [[],[0],[0,1],[],[],[4],[],[6],rg 4 7,rg 4 8,[],[10],[10,11],[10,11,12],rg 0 13,rg 0 14,rg 0 15]) .ret) (Rs [Bc 75 .eql 18 9,Mv 74 75] (Cn 74 (Rs [Ms 8 []] (Sq (Rs [Mi 9 0] (.block 1 (.loop [3,5,7,8,9,1000000] 0 abl))) abm)) (Sq (Rs [Bc 100 .eql 18 12,Mv 99 100] (Cn 99 .skip (Rg [Bc 101 .eql 18 13,Mv 99 101]))) (Cn 99 (Rs [Ms 10 []] (Sq (Rs [Fa 102 2 5,Lq 103 102,Ll 104 103,Bc 105 .gtr 104 0] (Cn 105 (Rg [Fa 106 2 5,Lq 107 106,Ll 108 107,Ca 109 23 [108],Mv 10 109]) .skip)) (Sq (Rs [Mi 11 0] (.block 3 (.loop [3,5,7,10,11,1000001] 0 abn))) abo))) .skip)))))))))))))))))))) uh))
def zm:List RV:=[.t 6]
theorem aqX:FnC Tryz.prog qj [] 0 agJ Tryz.f53 aqW zm:=fnC Tryz.func53
def apf(R:IR→(Ex→St→Ro)→St→Ro)(a:St→Ro):Ex→St→Ro:=(bF a [3,5,7,8,9,1000000] 0 (aQ 1 (bv (R abm) (aQ 0 (bv (R uh) (fin zm))))))
abbrev rf:Type:=(List aA×aB×aA×Bs×Int)
def pD:rf→St:=fun(a,b,c,d,e)=>{env:=(U 3 (.ea [.sl .atype (.may false) a]::.undef::.ea (enc .aval b)::.undef::.ea (enc .atype c)::.str d::.int .i64 e::(U 139 []))),hp:=[]}
def xH(N:Nat):(St→Ro)→St→Ro:=fun a s=>run qj N abl (apf (run qj N) a) s
def rh(N:Nat)(a:rf→Ro):rf→Ro:=fun(b,e,f,g,c)=>
 let h:=(↑(List.length e.l):Int)
 cond (decide (c<h)) (
 chk (ixl c f.fields) (
 let i:=(List.getD f.fields (Int.toNat c) (aC .afield))
 chk (ixl c e.l) (
 let j:=(List.getD e.l (Int.toNat c) (aC .aval))
 aE (gl b i.typ (reA j)) (fun(d:Bs)=>
 chk (decide (List.length g+List.length d≤9223372036854775807)) (
 let k:=(IntKind.wrap .i64 (c+1))
 a (b,e,f,(g++d),k)))))) (
 some (.str g,[]))
theorem anx(N:Nat):LB (xH N) pD (rh N):=fun _ _=>by kernel_rfl
def apg(R:IR→(Ex→St→Ro)→St→Ro)(a:St→Ro):Ex→St→Ro:=(bF a [3,5,7,10,11,1000001] 0 (aQ 3 (bv (R abo) (aQ 0 (bv (R uh) (fin zm))))))
abbrev ri:Type:=(List aA×aB×aA×Bs×Int)
def pE:ri→St:=fun(a,b,c,d,e)=>{env:=(U 3 (.ea [.sl .atype (.may false) a]::.undef::.ea (enc .aval b)::.undef::.ea (enc .atype c)::.undef::.undef::.str d::.int .i64 e::(U 137 []))),hp:=[]}
def xI(N:Nat):(St→Ro)→St→Ro:=fun a s=>run qj N abn (apg (run qj N) a) s
def nO(N:Nat)(c:ri→Ro):ri→Ro:=fun(d,e,h,b,a)=>
 let m:=(↑(List.length e.l):Int)
 cond (decide (a<m)) (
 cond (h.kind==13) (
 chk (ixl a e.keys) (
 let n:=List.getD e.keys (Int.toNat a) (aC .str)
 let o:=(↑(List.length n):Int)
 aE (cV o) (fun(f:Bs)=>
 chk (decide (List.length b+List.length f≤9223372036854775807)) (
 chk (ixl a e.keys) (
 let g:=List.getD e.keys (Int.toNat a) (aC .str)
 chk (decide (List.length (b++f)+List.length g≤9223372036854775807)) (
 chk (ixl a e.l) (
 let p:=(List.getD e.l (Int.toNat a) (aC .aval))
 aE (gl d h.items (reA p)) (fun(i:Bs)=>
 chk (decide (List.length ((b++f)++g)+List.length i≤9223372036854775807)) (
 let q:=(((b++f)++g)++i)
 let r:=(IntKind.wrap .i64 (a+1))
 c (d,e,h,q,r)))))))))) (
 chk (ixl a e.l) (
 let s:=(List.getD e.l (Int.toNat a) (aC .aval))
 aE (gl d h.items (reA s)) (fun(j:Bs)=>
 chk (decide (List.length b+List.length j≤9223372036854775807)) (
 let t:=(IntKind.wrap .i64 (a+1))
 c (d,e,h,(b++j),t)))))) (
 aE (cV 0) (fun(k:Bs)=>
 chk (decide (List.length b+List.length k≤9223372036854775807)) (
 some (.str (b++k),[]))))
theorem anz(N:Nat):LB (xI N) pE (nO N):=fun _ _=>by kernel_rfl
def oL(N:Nat)(b:List aA)(m:Int)(a:aB)(r:rf→Ro)(e:ri→Ro):Ro:=
 chk (ixl m b) (
 let c:=(List.getD b (Int.toNat m) (aC .atype))
 cond (c.kind==2) (
 aE (re a.n 1) (fun(t:Bs)=>
 some (.str t,[]))) (
 cond (c.kind==3) (
 aE (cV (IntKind.wrap .i64 a.n)) (fun(u:Bs)=>
 some (.str u,[]))) (
 cond (c.kind==4) (
 aE (cV (IntKind.wrap .i64 a.n)) (fun(v:Bs)=>
 some (.str v,[]))) (
 cond (c.kind==10) (
 aE (cV (IntKind.wrap .i64 a.n)) (fun(w:Bs)=>
 some (.str w,[]))) (
 cond (c.kind==5) (
 aE (re a.n 4) (fun(x:Bs)=>
 some (.str x,[]))) (
 cond (c.kind==6) (
 aE (re a.n 8) (fun(y:Bs)=>
 some (.str y,[]))) (
 cond (c.kind==7) (
 let z:=(↑(List.length a.s):Int)
 aE (cV z) (fun(o:Bs)=>
 chk (decide (List.length o+List.length a.s≤9223372036854775807)) (
 some (.str (o++a.s),[])))) (
 cond (c.kind==8) (
 let x3:=(↑(List.length a.s):Int)
 aE (cV x3) (fun(p:Bs)=>
 chk (decide (List.length p+List.length a.s≤9223372036854775807)) (
 some (.str (p++a.s),[])))) (
 cond (c.kind==11) (
 some (.str a.s,[])) (
 cond (c.kind==14) (
 aE (cV a.branch) (fun(q:Bs)=>
 chk (ixl a.branch c.branches) (
 let x4:=List.getD c.branches (Int.toNat a.branch) (aC (.num .i64))
 chk (decide ((0:Int)<↑(List.length a.l))) (
 let x5:=(List.getD a.l (Int.toNat 0) (aC .aval))
 aE (gl b x4 (reA x5)) (fun(d:Bs)=>
 chk (decide (List.length q+List.length d≤9223372036854775807)) (
 some (.str (q++d),[]))))))) (
 cond (c.kind==9) (
 r (b,a,c,([]:Bs),0)) (
 cond (c.kind==12) (
 let f:=(↑(List.length a.l):Int)
 cond (decide (0<f)) (
 let g:=(↑(List.length a.l):Int)
 aE (cV g) (fun(h:Bs)=>
 e (b,a,c,h,0))) (
 e (b,a,c,([]:Bs),0))) (
 cond (c.kind==13) (
 let i:=(↑(List.length a.l):Int)
 cond (decide (0<i)) (
 let j:=(↑(List.length a.l):Int)
 aE (cV j) (fun(k:Bs)=>
 e (b,a,c,k,0))) (
 e (b,a,c,([]:Bs),0))) (
 some (.str ([]:Bs),[])))))))))))))))
def aeW(N:Nat)(a:List aA)(b:Int)(c:aB):Ro:=oL N a b c (fun z=>aS N (rh N) z) (fun z=>aS N (nO N) z)
theorem aph(N:Nat)(a:List aA)(c:Int)(d:aB)(h:Tot (aeW N a c d) (fun z=>∃(f:Bs)(rest:List aJ),z.1.dimR=.str f∧z.2=rest∧vX a c d (f))):∃r,gl a c d r:=aqX.finP (N:=N) ((bM _ (by kernel_rfl) rfl (fun C=>oL N a c d (fun z=>C 1000000 (pD z)) (fun z=>C 1000001 (pE z))) (fun C=>by kernel_rfl)).trans (Eq.trans (b:=oL N a c d (fun z=>bo N (xH N) (pD z)) (fun z=>bo N (xI N) (pE z))) (by kernel_rfl) (congr (congrArg (oL N a c d) (funext fun z=>bk (pD) (xH N) (rh N) (anx N) N z)) (funext fun z=>bk (pE) (xI N) (nO N) (anz N) N z)))) h fun _ ⟨f,_,e,_,q⟩=>⟨(f),e,q⟩
noncomputable def asQ:aN:=tab (P:=Tryz.prog) [] [] [] [yQ,alh,agK]
def aqY:IR:=Rs [Bx 3 0,Bx 5 2,Pp (.mov 6 (.c (nl .u8))),Mi 7 0] (Sq (Rs [Ld 9 1 true 3,Mv 10 1,Ca 11 21 [9,10],Un 12 11] (Cn 12 (Rs [Pp (.mov 6 (.c (nl .u8))),Mi 7 1] .ret) .skip)) (Sq (Rs [Ld 13 1 true 3,Mv 14 1,Ld 15 5 true 5,Ca 16 52 [13,14,15],Un 17 16] (Cn 17 (Rs [Pp (.mov 6 (.c (nl .u8))),Mi 7 7] .ret) .skip)) (Rs [Ld 18 1 true 3,Mv 19 1,Ld 20 5 true 5,Ca 21 53 [18,19,20],Mv 8 21] (Sq (Rs [Mv 22 8,Pp (.lens 23 22),Bc 24 .gtr 23 5000] (Cn 24 (Rs [Pp (.mov 6 (.c (nl .u8))),Mi 7 3] .ret) .skip)) (Rs [Mv 25 8,Pp (.s2b 26 25),Mv 6 26,Mi 7 0] .ret)))))
def aqZ:List RV:=[.t 6,.t 7]
theorem aq0:FnC Tryz.prog asQ [] 0 agI Tryz.f24 aqY aqZ:=fnC Tryz.func24
def aeX(N:Nat)(a:List aA)(d:Int)(b:aB):Ro:=
 let c:=fun f g=>(some (.tup [.sl .u8 (.may false) f,.int .i64 g],[]):Ro)
 aE (kL a d) (fun(h:Bool)=>
 cond (!h) (
 c ([]:Bs) 1) (
 aE (fX a d b.n b.s b.l b.keys b.branch) (fun(i:Bool)=>
 cond (!i) (
 c ([]:Bs) 7) (
 aE (gl a d (reA b)) (fun(e:Bs)=>
 let j:=(↑(List.length e):Int)
 cond (decide (5000<j)) (
 c ([]:Bs) 3) (
 c e 0))))))
def aeY(N:Nat)(a:List aA)(b:Int)(c:aB):Ro:=aeX N a b c
theorem api(N:Nat)(a:List aA)(d:Int)(f:aB)(h:Tot (aeY N a d f) (fun z=>∃(b:Bs)(c:Int)(rest:List aJ),z.1.dimR=.tup [.sl .u8 (.may false) b,.int .i64 c]∧z.2=rest∧vY a d f (b,c))):∃r,qg a d f r:=aq0.finP (N:=N) (by kernel_rfl) h fun _ ⟨b,c,_,e,_,q⟩=>⟨(b,c),e,q⟩
end Go.Proofs.YtdpajabhmmmjoaaGreat
end
noncomputable section
namespace Go.Proofs.YtdpajabhmmmjoaaGreat
open Go.AM
set_option autoImplicit false
set_option linter.unusedVariables false
set_option maxRecDepth 100000
noncomputable def avk:aN:=tab (P:=Tryz.prog) [] [] [] [ajz]
def asR:IR:=Rs [Mb 0 false] (Rs [Pp (.bld 6 [vI 0,vS,fu .str true,vI 0,fu .str true,.bool false,vS,vI 0,fu .afield true,fu (.num .i64) true] [(0,1,kI 4)]),Pp (.bsl 7 .atype [6] true),Pp (.bld 8 [nl .atype] [(0,1,7)]),Pp (.alr 1 1),Fz 1 1 8] (Rs [Ld 10 1 true 1,Pp (.bld 11 [vU 0,vS,fu .aval true,fu .str true,vI 0] [(0,1,kU 18446744073709551615)]),Ca 12 8 [10,kI 0,11],Mv 9 12,Ex_ 13 0 9,Ex_ 14 1 9,Mv 2 13,Mv 3 14] (Rs [Ld 16 1 true 1,Pp (.bld 17 [vU 0,vS,fu .aval true,fu .str true,vI 0] []),Ca 18 8 [16,kI 1,17],Mv 15 18,Ex_ 19 0 15,Ex_ 20 1 15,Mv 4 19,Mv 5 20] (Rs [Mv 21 3,Bc 22 .eql 21 0,Mv 23 22,Gt 23 (.mov 24 2),Gt 23 (.b2s 25 24),Gt 23 (.bin 26 .eql 25 (kS [1])),Pa 27 23 26,Mv 28 27,Gt 28 (.mov 29 5),Gt 28 (.bin 30 .eql 29 (kI 1)),Pa 31 28 30,Mv 0 31] .ret))))
def asS:List RV:=[.t 0]
theorem asT:FnC Tryz.prog avk [] 0 ajy Tryz.f4 asR asS:=fnC Tryz.func4
def agO(N:Nat):Ro:=
 aE (jL ([⟨4,([]:Bs),([]:Bss),0,([]:Bss),false,([]:Bs),0,([]:List aO),([]:List Int)⟩]:List aA) 0 ⟨18446744073709551615,([]:Bs),([]:List aB),([]:Bss),0⟩) (fun a=>
 aE (jL ([⟨4,([]:Bs),([]:Bss),0,([]:Bss),false,([]:Bs),0,([]:List aO),([]:List Int)⟩]:List aA) 1 ⟨0,([]:Bs),([]:List aB),([]:Bss),0⟩) (fun b=>
 cond (a.2==0) (
 let c:=decide (a.1=([1]:Bs))
 cond c (
 some (.bool (b.2==1),[])) (
 some (.bool false,[]))) (
 some (.bool false,[]))))
def agP(N:Nat):Ro:=agO N
theorem aq1(N:Nat)(h:Tot (agP N ) (fun z=>∃(a:Bool)(rest:List aJ),z.1.dimR=.bool a∧z.2=rest∧adq  (a))):∃r,sf  r:=asT.finP (N:=N) (by kernel_rfl) h fun _ ⟨a,_,e,_,q⟩=>⟨(a),e,q⟩
end Go.Proofs.YtdpajabhmmmjoaaGreat
end
noncomputable section
namespace Go.Proofs.YtdpajabhmmmjoaaGreat
open Go.AM
set_option autoImplicit false
set_option linter.unusedVariables false
set_option maxRecDepth 100000
noncomputable def zn:aN:=tab (P:=Tryz.prog) [] [] [] []
def abp:IR:=Sq (Rs [Mv 4 0,Pp (.bin 5 .geq 4 (kU 128))] (Cn 5 .skip (.exit 0))) (.block 1 (Rs [Pp (.mov 6 (.tk 3)),Mv 7 0,Pp (.bin 8 .rem 7 (kU 128)),Pp (.bin 9 .add 8 (kU 128)),Pp (.cvi 10 .u8 9),Pp (.bsl 11 .u8 [10] true),Pp (.app 12 .u8 (.tk 6) 11),Pp (.mov 3 (.tk 12))] (Rg [Mv 13 0,Pp (.bin 14 .shr 13 (kU 7)),Mv 0 14])))
def abq:IR:=Rs [Pp (.mov 15 (.tk 3)),Mv 16 0,Pp (.cvi 17 .u8 16),Pp (.bsl 18 .u8 [17] true),Pp (.app 19 .u8 (.tk 15) 18),Pp (.b2s 20 19),Mv 2 20] .ret
def apj:IR:=Rs [Ms 2 []] (Rs [Pp (.mov 3 (.c (nl .u8)))] (Sq (.block 0 (.loop [0,3,1000000] 0 abp)) abq))
def adG:List RV:=[.t 2]
theorem apk:FnC Tryz.prog zn [] 0 aeV Tryz.f71 apj adG:=fnC Tryz.func71
def anA(R:IR→(Ex→St→Ro)→St→Ro)(a:St→Ro):Ex→St→Ro:=(bF a [0,3,1000000] 0 (aQ 0 (bv (R abq) (fin adG))))
abbrev pF:Type:=(Int×Bs)
def oM:pF→St:=fun(a,b)=>{env:=(.int .u64 a::.undef::.undef::.sl .u8 .own b::(U 17 [])),hp:=[]}
def vZ(N:Nat):(St→Ro)→St→Ro:=fun a s=>run zn N abp (anA (run zn N) a) s
def mN(N:Nat)(a:pF→Ro):pF→Ro:=fun(b,c)=>
 cond (decide (128≤b)) (
 let d:=(IntKind.wrap .u64 ((Int.tmod b 128)+128))
 chk (decide ((List.length c+List.length ([(UInt8.ofNat (Int.toNat (IntKind.wrap .u8 d)))]:Bs))*1≤140737488355328)) (
 let e:=(c++([(UInt8.ofNat (Int.toNat (IntKind.wrap .u8 d)))]:Bs))
 a ((dI .u64 b 7),e))) (
 chk (decide ((List.length c+List.length ([(UInt8.ofNat (Int.toNat (IntKind.wrap .u8 b)))]:Bs))*1≤140737488355328)) (
 let f:=(c++([(UInt8.ofNat (Int.toNat (IntKind.wrap .u8 b)))]:Bs))
 some (.str f,[])))
theorem alX(N:Nat):LB (vZ N) oM (mN N):=fun _ _=>by kernel_rfl
def rj(N:Nat)(a:Int)(b:pF→Ro):Ro:=
 b (a,([]:Bs))
def adH(N:Nat)(a:Int):Ro:=rj N a (fun z=>aS N (mN N) z)
theorem anB(N:Nat)(a:Int)(h:Tot (adH N a) (fun z=>∃(c:Bs)(rest:List aJ),z.1.dimR=.str c∧z.2=rest∧abi a (c))):∃r,oK a r:=apk.finP (N:=N) ((bM _ (by kernel_rfl) rfl (fun C=>rj N a (fun z=>C 1000000 (oM z))) (fun C=>by kernel_rfl)).trans (Eq.trans (b:=rj N a (fun z=>bo N (vZ N) (oM z))) (by kernel_rfl) (congrArg (rj N a) (funext fun z=>bk (oM) (vZ N) (mN N) (alX N) N z)))) h fun _ ⟨c,_,e,_,q⟩=>⟨(c),e,q⟩
noncomputable def aBo:aN:=tab (P:=Tryz.prog) [] [] [] []
def aAv:IR:=Rs [Pp (.mov 4 (kU 0))] (Sq (Rs [Mv 7 0] (.block 0 (Sq (Rs [Bc 9 .eql 7 3,Mv 8 9] (Cn 8 .skip (Rg [Bc 10 .eql 7 17,Mv 8 10]))) (Cn 8 (Sq .bad .ret) (Sq (Rs [Bc 14 .eql 7 5,Mv 13 14] (Cn 13 .skip (Rs [Bc 15 .eql 7 9,Mv 13 15] (Cn 13 .skip (Rs [Bc 16 .eql 7 2,Mv 13 16] (Cn 13 .skip (Rg [Bc 17 .eql 7 11,Mv 13 17]))))))) (Cn 13 (Rs [Mv 18 1,Pp (.cvi 19 .u32 18),Pp (.cvi 20 .u64 19),Mv 4 20] .ret) (Rs [Bc 22 .eql 7 13,Mv 21 22] (Cn 21 (Rs [Mv 23 1,Pp (.mx 24 true 23 (kU 1)),Mv 4 24] .ret) (Rs [Bc 26 .eql 7 7,Mv 25 26] (Cn 25 (Rs [Mv 27 1,Pp (.cvi 28 .u32 27),Pp (.cvi 29 .i32 28),Mv 5 29] (Rs [Mv 30 5,Pp (.bin 31 .shl 30 (kU 1)),Mv 32 5,Pp (.bin 33 .shr 32 (kU 31)),Bi 34 .xor 31 33,Pp (.cvi 35 .u32 34),Pp (.cvi 36 .u64 35),Mv 4 36] .ret)) (Rs [Bc 38 .eql 7 8,Mv 37 38] (Cn 37 (Rs [Mv 39 1,Pp (.cvi 40 .i64 39),Mv 6 40] (Rs [Mv 41 6,Pp (.bin 42 .shl 41 (kU 1)),Mv 43 6,Pp (.bin 44 .shr 43 (kU 63)),Bi 45 .xor 42 44,Pp (.cvi 46 .u64 45),Mv 4 46] .ret)) .skip)))))))))))) (Rs [Mv 47 1,Mv 4 47] .ret))
def aAw:List RV:=[.t 4]
theorem aAx:FnC Tryz.prog aBo [] 0 aua Tryz.f72 aAv aAw:=fnC Tryz.func72
def aq2(N:Nat)(b a:Int):Ro:=
 cond (b==3) (
 none) (
 cond (b==17) (
 none) (
 cond (b==5) (
 let f:=(IntKind.wrap .u64 (IntKind.wrap .u32 a))
 some (.int .u64 f,[])) (
 cond (b==9) (
 let g:=(IntKind.wrap .u64 (IntKind.wrap .u32 a))
 some (.int .u64 g,[])) (
 cond (b==2) (
 let h:=(IntKind.wrap .u64 (IntKind.wrap .u32 a))
 some (.int .u64 h,[])) (
 cond (b==11) (
 let i:=(IntKind.wrap .u64 (IntKind.wrap .u32 a))
 some (.int .u64 i,[])) (
 cond (b==13) (
 let j:=(if 1<a then 1 else a)
 some (.int .u64 j,[])) (
 cond (b==7) (
 let e:=(IntKind.wrap .i32 (IntKind.wrap .u32 a))
 let k:=(bJ .xor .i32 (eV .i32 e 1) (dI .i32 e 31))
 let l:=(IntKind.wrap .u64 (IntKind.wrap .u32 k))
 some (.int .u64 l,[])) (
 cond (b==8) (
 let m:=(eV .i64 (IntKind.wrap .i64 a) 1)
 let c:=(dI .i64 (IntKind.wrap .i64 a) 63)
 let d:=(IntKind.wrap .u64 (bJ .xor .i64 m c))
 some (.int .u64 d,[])) (
 some (.int .u64 a,[]))))))))))
def aip(N:Nat)(a b:Int):Ro:=aq2 N a b
theorem ay4(N:Nat)(b c:Int)(h:Tot (aip N b c) (fun z=>∃(a:Int)(rest:List aJ),z.1.dimR=.int .u64 a∧z.2=rest∧alv b c (a))):∃r,abk b c r:=aAx.finP (N:=N) (by kernel_rfl) h fun _ ⟨a,_,e,_,q⟩=>⟨(a),e,q⟩
noncomputable def ay5:aN:=tab (P:=Tryz.prog) [] [] [] [aqT,aBm]
def axo:IR:=Rs [Ms 2 []] (Rs [Mv 3 0,Pp (.cvi 4 .u64 3),Ca 5 72 [kI 8,4],Ca 6 71 [5],Mv 2 6] .ret)
def axp:List RV:=[.t 2]
theorem axq:FnC Tryz.prog ay5 [] 0 aod Tryz.f39 axo axp:=fnC Tryz.func39
def alY(N:Nat)(a:Int):Ro:=
 aE (abk 8 (IntKind.wrap .u64 a)) (fun(b:Int)=>
 aE (oK b) (fun(c:Bs)=>
 some (.str c,[])))
def alZ(N:Nat)(a:Int):Ro:=alY N a
theorem avl(N:Nat)(b:Int)(h:Tot (alZ N b) (fun z=>∃(a:Bs)(rest:List aJ),z.1.dimR=.str a∧z.2=rest∧aaq b (a))):∃r,gR b r:=axq.finP (N:=N) (by kernel_rfl) h fun _ ⟨a,_,e,_,q⟩=>⟨(a),e,q⟩
noncomputable def adI:aN:=tab (P:=Tryz.prog) [] [] [] []
def aeZ:IR:=Rs [Bi 9 .lss 8 7] (Sq (Cn 9 .skip (.exit 0)) (Sq (.block 1 (Rs [Mv 10 8,Mv 6 10] (Rg [Pp (.mov 11 (.tk 5)),Mv 12 0,Mv 13 6,Pp (.bin 14 .mul (kI 8) 13),Bi 15 .shr 12 14,Pp (.cvi 16 .u8 15),Pp (.bsl 17 .u8 [16] true),Pp (.app 18 .u8 (.tk 11) 17),Pp (.mov 5 (.tk 18))]))) (Rg [Bc 19 .add 8 1,Mv 8 19])))
def ae0:IR:=Rs [Mv 20 5,Pp (.b2s 21 20),Mv 4 21] .ret
def avm:IR:=Rs [Ms 4 []] (Rs [Pp (.mov 5 (.c (nl .u8)))] (Sq (Rs [Mv 7 1,Mi 8 0] (.block 0 (.loop [0,5,7,8,1000000] 0 aeZ))) ae0))
def ajF:List RV:=[.t 4]
theorem avn:FnC Tryz.prog adI [] 0 alQ Tryz.f38 avm ajF:=fnC Tryz.func38
def asU(R:IR→(Ex→St→Ro)→St→Ro)(a:St→Ro):Ex→St→Ro:=(bF a [0,5,7,8,1000000] 0 (aQ 0 (bv (R ae0) (fin ajF))))
abbrev vc:Type:=(Int×Bs×Int×Int)
def ta:vc→St:=fun(a,b,c,d)=>{env:=(.int .u64 a::(U 4 (.sl .u8 .own b::.undef::.int .i64 c::.int .i64 d::(U 13 [])))),hp:=[]}
def aay(N:Nat):(St→Ro)→St→Ro:=fun a s=>run adI N aeZ (asU (run adI N) a) s
def qk(N:Nat)(a:vc→Ro):vc→Ro:=fun(d,b,e,c)=>
 cond (decide (c<e)) (
 let f:=(IntKind.wrap .i64 (8*c))
 chk (decide (0≤f)) (
 let g:=(IntKind.wrap .u8 (dI .u64 d f))
 chk (decide ((List.length b+List.length ([(UInt8.ofNat (Int.toNat g))]:Bs))*1≤140737488355328)) (
 let h:=(b++([(UInt8.ofNat (Int.toNat g))]:Bs))
 let i:=(IntKind.wrap .i64 (c+1))
 a (d,h,e,i)))) (
 some (.str b,[]))
theorem aq3(N:Nat):LB (aay N) ta (qk N):=fun _ _=>by kernel_rfl
def xn(N:Nat)(a b:Int)(c:vc→Ro):Ro:=
 c (a,([]:Bs),b,0)
def ajG(N:Nat)(a b:Int):Ro:=xn N a b (fun z=>aS N (qk N) z)
theorem asV(N:Nat)(a c:Int)(h:Tot (ajG N a c) (fun z=>∃(d:Bs)(rest:List aJ),z.1.dimR=.str d∧z.2=rest∧aeN a c (d))):∃r,nN a c r:=avn.finP (N:=N) ((bM _ (by kernel_rfl) rfl (fun C=>xn N a c (fun z=>C 1000000 (ta z))) (fun C=>by kernel_rfl)).trans (Eq.trans (b:=xn N a c (fun z=>bo N (aay N) (ta z))) (by kernel_rfl) (congrArg (xn N a c) (funext fun z=>bk (ta) (aay N) (qk N) (aq3 N) N z)))) h fun _ ⟨d,_,e,_,q⟩=>⟨(d),e,q⟩
noncomputable def ay6:aN:=tab (P:=Tryz.prog) [] [] [] [afy]
def axr:IR:=Rs [Ms 2 []] (Rs [Mv 3 0,Pp (.lens 4 3),Ca 5 39 [4],Mv 6 0,Bi 7 .add 5 6,Mv 2 7] .ret)
def axs:List RV:=[.t 2]
theorem axt:FnC Tryz.prog ay6 [] 0 aoe Tryz.f40 axr axs:=fnC Tryz.func40
def al1(N:Nat)(a:Bs):Ro:=
 let c:=(↑(List.length a):Int)
 aE (gR c) (fun(b:Bs)=>
 chk (decide (List.length b+List.length a≤9223372036854775807)) (
 some (.str (b++a),[])))
def al5(N:Nat)(a:Bs):Ro:=al1 N a
theorem avo(N:Nat)(b:Bs)(h:Tot (al5 N b) (fun z=>∃(a:Bs)(rest:List aJ),z.1.dimR=.str a∧z.2=rest∧agv b (a))):∃r,pg b r:=axt.finP (N:=N) (by kernel_rfl) h fun _ ⟨a,_,e,_,q⟩=>⟨(a),e,q⟩
noncomputable def adJ:aN:=tab (P:=Tryz.prog) [] [] [] [adD,afy,aof]
def ae1:IR:=Rs [Bi 22 .lss 21 20] (Sq (Cn 22 .skip (.exit 0)) (Sq (.block 1 (Rs [Mv 23 21,Ix 24 .aval 19 21,Ld 25 5 true 24,Pp (.alr 9 5),Mv 8 23,Fz 9 5 25] (Sq (Rs [Fa 26 0 4,Lq 27 26,Bc 28 .eql 27 13] (Cn 28 (Rg [Mv 29 7,Fa 30 3 5,Lq 31 30,Mv 32 8,Ix 33 .str 31 32,Lq 34 33,Ca 35 40 [34],Bi 36 .add 29 35,Mv 7 36]) .skip)) (Rg [Mv 37 7,Ld 38 1 true 3,Fa 39 3 4,Lq 40 39,Ld 41 5 true 9,Ca 42 20 [38,40,41],Bi 43 .add 37 42,Mv 7 43])))) (Rg [Bc 44 .add 21 1,Mv 21 44])))
def adK:IR:=Rs [Mv 45 7,Ca 46 39 [kI 0],Bi 47 .add 45 46,Mv 6 47] .ret
def avp:IR:=Rs [Bx 3 0,Bx 4 1,Bx 5 2,Ms 6 []] (Rs [Ms 7 []] (Sq (Rs [Fa 10 2 5,Lq 11 10,Ll 12 11,Bc 13 .gtr 12 0] (Cn 13 (Rg [Fa 14 2 5,Lq 15 14,Ll 16 15,Ca 17 39 [16],Mv 7 17]) .skip)) (Sq (Rs [Fa 18 2 5,Lq 19 18,Ll 20 19,Mi 21 0] (.block 0 (.loop [3,4,5,7,19,20,21,1000000] 0 ae1))) adK)))
def ajH:List RV:=[.t 6]
theorem avq:FnC Tryz.prog adJ [] 0 alR Tryz.f41 avp ajH:=fnC Tryz.func41
def asW(R:IR→(Ex→St→Ro)→St→Ro)(a:St→Ro):Ex→St→Ro:=(bF a [3,4,5,7,19,20,21,1000000] 0 (aQ 0 (bv (R adK) (fin ajH))))
abbrev vd:Type:=(List aA×aA×aB×Bs×List aB×Int×Int)
def tb:vd→St:=fun(a,b,c,d,e,f,g)=>{env:=(U 3 (.ea [.sl .atype (.may false) a]::.ea (enc .atype b)::.ea (enc .aval c)::.undef::.str d::(U 11 (.sl .aval (.may false) e::.int .i64 f::.int .i64 g::(U 26 []))))),hp:=[]}
def aaz(N:Nat):(St→Ro)→St→Ro:=fun a s=>run adJ N ae1 (asW (run adJ N) a) s
def ql(N:Nat)(b:vd→Ro):vd→Ro:=fun(c,g,h,e,d,f,a)=>
 cond (decide (a<f)) (
 chk (ixl a d) (
 let j:=(List.getD d (Int.toNat a) (aC .aval))
 cond (g.kind==13) (
 chk (ixl a h.keys) (
 let n:=List.getD h.keys (Int.toNat a) (aC .str)
 aE (pg n) (fun(i:Bs)=>
 chk (decide (List.length e+List.length i≤9223372036854775807)) (
 aE (iY c g.items (reA j)) (fun(k:Bs)=>
 chk (decide (List.length (e++i)+List.length k≤9223372036854775807)) (
 let o:=(IntKind.wrap .i64 (a+1))
 b (c,g,h,((e++i)++k),d,f,o))))))) (
 aE (iY c g.items (reA j)) (fun(l:Bs)=>
 chk (decide (List.length e+List.length l≤9223372036854775807)) (
 let p:=(IntKind.wrap .i64 (a+1))
 b (c,g,h,(e++l),d,f,p)))))) (
 aE (gR 0) (fun(m:Bs)=>
 chk (decide (List.length e+List.length m≤9223372036854775807)) (
 some (.str (e++m),[]))))
theorem aq4(N:Nat):LB (aaz N) tb (ql N):=fun _ _=>by kernel_rfl
def sg(N:Nat)(a:List aA)(c:aA)(b:aB)(d:vd→Ro):Ro:=
 let e:=(↑(List.length b.l):Int)
 cond (decide (0<e)) (
 let f:=(↑(List.length b.l):Int)
 aE (gR f) (fun(g:Bs)=>
 let h:=(↑(List.length b.l):Int)
 d (a,c,b,g,b.l,h,0))) (
 let i:=(↑(List.length b.l):Int)
 d (a,c,b,([]:Bs),b.l,i,0))
def ajI(N:Nat)(a:List aA)(b:aA)(c:aB):Ro:=sg N a b c (fun z=>aS N (ql N) z)
theorem asX(N:Nat)(a:List aA)(c:aA)(d:aB)(h:Tot (ajI N a c d) (fun z=>∃(f:Bs)(rest:List aJ),z.1.dimR=.str f∧z.2=rest∧yU a c d (f))):∃r,qh a c d r:=avq.finP (N:=N) ((bM _ (by kernel_rfl) rfl (fun C=>sg N a c d (fun z=>C 1000000 (tb z))) (fun C=>by kernel_rfl)).trans (Eq.trans (b:=sg N a c d (fun z=>bo N (aaz N) (tb z))) (by kernel_rfl) (congrArg (sg N a c d) (funext fun z=>bk (tb) (aaz N) (ql N) (aq4 N) N z)))) h fun _ ⟨f,_,e,_,q⟩=>⟨(f),e,q⟩
noncomputable def adL:aN:=tab (P:=Tryz.prog) [] [] [] [adD,axh,afy,aof,axj]
def adM:IR:=Rs [Bi 75 .lss 74 73] (Sq (Cn 75 .skip (.exit 1)) (Sq (.block 2 (Rs [Mv 76 74,Ix 77 .afield 72 74,Ld 78 9 true 77,Pp (.alr 10 9),Mv 9 76,Fz 10 9 78] (.reg [Mv 79 8,Ld 80 1 true 3,Fa 81 2 10,Lq 82 81,Fa 83 2 5,Lq 84 83,Mv 85 9,Ix 86 .aval 84 85,Ld 87 5 true 86,Ca 88 20 [80,82,87],Bi 89 .add 79 88,Mv 8 89] [[],[],[],[2],[],[4],[],[4,5,6],rg 4 7,rg 1 8,rg 0 9,rg 0 10]))) (Rg [Bc 90 .add 74 1,Mv 74 90])))
def adN:IR:=Rs [Mv 91 8,Mv 6 91] .ret
def adO:IR:=Rs [Ms 6 []] .ret
def avr:IR:=Rs [Bx 3 0,Bx 5 2,Ms 6 []] (Rs [Fa 11 0 3,Lq 12 11,Mv 13 1,Ix 14 .atype 12 13,Ld 15 10 true 14,Pp (.alr 7 10),Fz 7 10 15] (Sq (Rs [Fa 16 0 7,Lq 17 16] (.block 0 (Rs [Bc 19 .eql 17 2,Mv 18 19] (Cn 18 (Rs [Fa 20 0 5,Lq 21 20,Ca 22 38 [21,kI 1],Mv 6 22] .ret) (Sq (Rs [Bc 24 .eql 17 3,Mv 23 24] (Cn 23 .skip (Rs [Bc 25 .eql 17 4,Mv 23 25] (Cn 23 .skip (Rg [Bc 26 .eql 17 10,Mv 23 26]))))) (Cn 23 (Rs [Fa 27 0 5,Lq 28 27,Pp (.cvi 29 .i64 28),Ca 30 39 [29],Mv 6 30] .ret) (Rs [Bc 32 .eql 17 5,Mv 31 32] (Cn 31 (Rs [Fa 33 0 5,Lq 34 33,Ca 35 38 [34,kI 4],Mv 6 35] .ret) (Rs [Bc 37 .eql 17 6,Mv 36 37] (Cn 36 (Rs [Fa 38 0 5,Lq 39 38,Ca 40 38 [39,kI 8],Mv 6 40] .ret) (Sq (Rs [Bc 42 .eql 17 7,Mv 41 42] (Cn 41 .skip (Rg [Bc 43 .eql 17 8,Mv 41 43]))) (Cn 41 (Rs [Fa 44 1 5,Lq 45 44,Ca 46 40 [45],Mv 6 46] .ret) (Rs [Bc 48 .eql 17 11,Mv 47 48] (Cn 47 (Rs [Fa 49 1 5,Lq 50 49,Mv 6 50] .ret) (Rs [Bc 52 .eql 17 14,Mv 51 52] (Cn 51 (Sq (.reg [Fa 53 4 5,Lq 54 53,Ca 55 39 [54],Ld 56 1 true 3,Fa 57 9 7,Lq 58 57,Fa 59 4 5,Lq 60 59,Ix 61 (.num .i64) 58 60,Lq 62 61,Fa 63 2 5,Lq 64 63,Pp (.ixa 65 .aval 64 (kI 0)),Ld 66 5 true 65,Ca 67 20 [56,62,66],Bi 68 .add 55 67,Mv 6 68] [[],[0],[0,1],[],[],[4],[],[6],rg 4 7,rg 4 8,[],[10],[10,11],[10,11,12],rg 0 13,rg 0 14,rg 0 15]) .ret) (Rs [Bc 70 .eql 17 9,Mv 69 70] (Cn 69 (Rs [Ms 8 []] (Sq (Rs [Fa 71 8 7,Lq 72 71,Ll 73 72,Mi 74 0] (.block 1 (.loop [3,5,8,72,73,74,1000000] 0 adM))) adN)) (Sq (Rs [Bc 93 .eql 17 12,Mv 92 93] (Cn 92 .skip (Rg [Bc 94 .eql 17 13,Mv 92 94]))) (Cn 92 (Rs [Ld 95 1 true 3,Ld 96 10 true 7,Ld 97 5 true 5,Ca 98 41 [95,96,97],Mv 6 98] .ret) .skip)))))))))))))))))))) adO))
def ajJ:List RV:=[.t 6]
theorem avt:FnC Tryz.prog adL [] 0 alS Tryz.f20 avr ajJ:=fnC Tryz.func20
def asY(R:IR→(Ex→St→Ro)→St→Ro)(a:St→Ro):Ex→St→Ro:=(bF a [3,5,8,72,73,74,1000000] 0 (aQ 1 (bv (R adN) (aQ 0 (bv (R adO) (fin ajJ))))))
abbrev ve:Type:=(List aA×aB×Bs×List aO×Int×Int)
def tc:ve→St:=fun(a,b,c,d,e,f)=>{env:=(U 3 (.ea [.sl .atype (.may false) a]::.undef::.ea (enc .aval b)::.undef::.undef::.str c::(U 63 (.sl .afield (.may false) d::.int .i64 e::.int .i64 f::(U 24 []))))),hp:=[]}
def aaA(N:Nat):(St→Ro)→St→Ro:=fun a s=>run adL N adM (asY (run adL N) a) s
def vh(N:Nat)(b:ve→Ro):ve→Ro:=fun(c,g,h,d,e,a)=>
 cond (decide (a<e)) (
 chk (ixl a d) (
 let i:=(List.getD d (Int.toNat a) (aC .afield))
 chk (ixl a g.l) (
 let j:=(List.getD g.l (Int.toNat a) (aC .aval))
 aE (iY c i.typ (reA j)) (fun(f:Bs)=>
 chk (decide (List.length h+List.length f≤9223372036854775807)) (
 let k:=(IntKind.wrap .i64 (a+1))
 b (c,g,(h++f),d,e,k)))))) (
 some (.str h,[]))
theorem aq5(N:Nat):LB (aaA N) tc (vh N):=fun _ _=>by kernel_rfl
def sh(N:Nat)(a:List aA)(g:Int)(c:aB)(i:ve→Ro):Ro:=
 chk (ixl g a) (
 let b:=(List.getD a (Int.toNat g) (aC .atype))
 cond (b.kind==2) (
 aE (nN c.n 1) (fun(j:Bs)=>
 some (.str j,[]))) (
 cond (b.kind==3) (
 aE (gR (IntKind.wrap .i64 c.n)) (fun(k:Bs)=>
 some (.str k,[]))) (
 cond (b.kind==4) (
 aE (gR (IntKind.wrap .i64 c.n)) (fun(m:Bs)=>
 some (.str m,[]))) (
 cond (b.kind==10) (
 aE (gR (IntKind.wrap .i64 c.n)) (fun(o:Bs)=>
 some (.str o,[]))) (
 cond (b.kind==5) (
 aE (nN c.n 4) (fun(p:Bs)=>
 some (.str p,[]))) (
 cond (b.kind==6) (
 aE (nN c.n 8) (fun(q:Bs)=>
 some (.str q,[]))) (
 cond (b.kind==7) (
 aE (pg c.s) (fun(r:Bs)=>
 some (.str r,[]))) (
 cond (b.kind==8) (
 aE (pg c.s) (fun(t:Bs)=>
 some (.str t,[]))) (
 cond (b.kind==11) (
 some (.str c.s,[])) (
 cond (b.kind==14) (
 aE (gR c.branch) (fun(h:Bs)=>
 chk (ixl c.branch b.branches) (
 let u:=List.getD b.branches (Int.toNat c.branch) (aC (.num .i64))
 chk (decide ((0:Int)<↑(List.length c.l))) (
 let v:=(List.getD c.l (Int.toNat 0) (aC .aval))
 aE (iY a u (reA v)) (fun(d:Bs)=>
 chk (decide (List.length h+List.length d≤9223372036854775807)) (
 some (.str (h++d),[]))))))) (
 cond (b.kind==9) (
 let w:=(↑(List.length b.fields):Int)
 i (a,c,([]:Bs),b.fields,w,0)) (
 cond (b.kind==12) (
 aE (qh a b (reA c)) (fun(e:Bs)=>
 some (.str e,[]))) (
 cond (b.kind==13) (
 aE (qh a b (reA c)) (fun(f:Bs)=>
 some (.str f,[]))) (
 some (.str ([]:Bs),[])))))))))))))))
def ajK(N:Nat)(a:List aA)(b:Int)(c:aB):Ro:=sh N a b c (fun z=>aS N (vh N) z)
theorem asZ(N:Nat)(a:List aA)(c:Int)(d:aB)(h:Tot (ajK N a c d) (fun z=>∃(f:Bs)(rest:List aJ),z.1.dimR=.str f∧z.2=rest∧aeO a c d (f))):∃r,iY a c d r:=avt.finP (N:=N) ((bM _ (by kernel_rfl) rfl (fun C=>sh N a c d (fun z=>C 1000000 (tc z))) (fun C=>by kernel_rfl)).trans (Eq.trans (b:=sh N a c d (fun z=>bo N (aaA N) (tc z))) (by kernel_rfl) (congrArg (sh N a c d) (funext fun z=>bk (tc) (aaA N) (vh N) (aq5 N) N z)))) h fun _ ⟨f,_,e,_,q⟩=>⟨(f),e,q⟩
noncomputable def avu:aN:=tab (P:=Tryz.prog) [] [] [] [ayV,adD]
def as0:IR:=Rs [Bx 3 0,Bx 5 2,Pp (.mov 6 (.c (nl .u8))),Mi 7 0] (Sq (.block 0 (Rs [Mv 10 1,Bc 11 .lss 10 0,Mv 12 11,Gf 12 (.mov 13 1),Gf 12 (.fad 14 0 3),Gf 12 (.lde 15 1 false 14),Gf 12 (.lenl 16 15),Gf 12 (.bin 17 .geq 13 16),Po 18 12 17,Mv 9 18] (Cn 9 (Rs [Pp (.mov 6 (.c (nl .u8))),Mi 7 1] .ret) (Rs [Ld 20 1 true 3,Mv 21 1,Ld 22 5 true 5,Ca 23 19 [20,21,22],Un 24 23,Mv 19 24] (Cn 19 (Rs [Pp (.mov 6 (.c (nl .u8))),Mi 7 7] .ret) .skip))))) (Rs [Ld 25 1 true 3,Mv 26 1,Ld 27 5 true 5,Ca 28 20 [25,26,27],Mv 8 28] (Sq (Rs [Mv 29 8,Pp (.lens 30 29),Bc 31 .gtr 30 5000] (Cn 31 (Rs [Pp (.mov 6 (.c (nl .u8))),Mi 7 3] .ret) .skip)) (Rs [Mv 32 8,Pp (.s2b 33 32),Mv 6 33,Mi 7 0] .ret))))
def as1:List RV:=[.t 6,.t 7]
theorem as2:FnC Tryz.prog avu [] 0 ajx Tryz.f8 as0 as1:=fnC Tryz.func8
def agQ(N:Nat)(a:List aA)(b:Int)(d:aB):Ro:=
 let c:=fun f=>(some (.tup [.sl .u8 (.may false) ([]:Bs),.int .i64 f],[]):Ro)
 cond (decide (b<0)) (
 c 1) (
 let g:=(↑(List.length a):Int)
 cond (decide (g≤b)) (
 c 1) (
 aE (aa5 a b (reA d)) (fun(h:Bool)=>
 cond (!h) (
 c 7) (
 aE (iY a b (reA d)) (fun(e:Bs)=>
 let i:=(↑(List.length e):Int)
 cond (decide (5000<i)) (
 c 3) (
 some (.tup [.sl .u8 (.may false) e,.int .i64 0],[])))))))
def agR(N:Nat)(a:List aA)(b:Int)(c:aB):Ro:=agQ N a b c
theorem aq6(N:Nat)(a:List aA)(d:Int)(f:aB)(h:Tot (agR N a d f) (fun z=>∃(b:Bs)(c:Int)(rest:List aJ),z.1.dimR=.tup [.sl .u8 (.may false) b,.int .i64 c]∧z.2=rest∧xF a d f (b,c))):∃r,jL a d f r:=as2.finP (N:=N) (by kernel_rfl) h fun _ ⟨b,c,_,e,_,q⟩=>⟨(b,c),e,q⟩
end Go.Proofs.YtdpajabhmmmjoaaGreat
end
noncomputable section
namespace Go.Proofs.YtdpajabhmmmjoaaGreat
open Go.AM
set_option autoImplicit false
set_option linter.unusedVariables false
set_option maxRecDepth 100000
end Go.Proofs.YtdpajabhmmmjoaaGreat
end
noncomputable section
namespace Go.Proofs.YtdpajabhmmmjoaaGreat
open Go.AM
set_option autoImplicit false
set_option linter.unusedVariables false
set_option maxRecDepth 100000
noncomputable def mO:aN:=tab (P:=Tryz.prog) [] [acw,acr,kE] [] [auQ,afm]
def zo:IR:=Sq (Rs [Mv 139 16,Fa 140 8 12,Lq 141 140,Ll 142 141,Bi 143 .lss 139 142] (Cn 143 .skip (.exit 1))) (Sq (.block 2 (Sq (.reg [Mv 147 0,Ld 148 1 true 5,Fa 149 8 12,Lq 150 149,Mv 151 16,Ix 152 .afield 150 151,Fa 153 2 152,Fo [] [] (.ld 154 1 false false 153),Mv 155 3,Bc 156 .add 155 1,Fo [] [0] (.call 157 7 [147,148,154,156]),Mv 146 157,Ex_ 158 0 146,Ex_ 159 1 146,Pp (.alr 17 5),Fz 17 5 158,Mv 18 159] [[],[],[],[2],[],[2,3,4],rg 2 5,rg 2 6,[],[8],rg 0 9,rg 0 10,rg 0 11,rg 0 11,[],rg 0 12++[14],rg 0 15]) (Rg [Fa 160 2 10,Pp (.ld 161 1 false true 160),Ld 162 5 true 17,Pp (.bsl 163 .aval [162] true),Pp (.app 164 .aval (.tk 161) 163),Fa 165 2 10,Sk 1 165 164]))) (Rg [Mv 144 16,Bc 145 .add 144 1,Mv 16 145]))
def yd:IR:=Sq (Rs [Mv 171 19,Bc 172 .gtr 171 0] (Cn 172 .skip (.exit 3))) (Sq (.block 4 (Rs [Mv 176 0,Ld 177 1 true 5,Fa 178 3 12,Lq 179 178,Mv 180 3,Bc 181 .add 180 1,Ca 182 7 [176,177,179,181],Mv 175 182,Ex_ 183 0 175,Ex_ 184 1 175,Pp (.alr 20 5),Fz 20 5 183,Mv 21 184] (Sq (Rs [Mv 185 21,Un 186 185] (Cn 186 (.exit 3) .skip)) (Rs [Fa 187 0 12,Lq 188 187,Bc 189 .eql 188 12] (Cn 189 (Rg [Fa 190 2 10,Pp (.ld 191 1 false true 190),Ld 192 5 true 20,Pp (.bsl 193 .aval [192] true),Pp (.app 194 .aval (.tk 191) 193),Fa 195 2 10,Sk 1 195 194]) (.reg [Fo [2] [] (.ld 196 5 true false 10),Mv 197 0,Fo [] [0] (.call 198 17 [197,kI 5]),Pp (.bin 199 .add (kI 97) 198),Pp (.cvi 200 .u8 199),Pp (.bsl 201 .u8 [200] true),Pp (.b2s 202 201),Pp (.bin 203 .add (kS [107]) 202),Ld 204 5 true 20,Ca 205 18 [196,203,204],Fo [] [2] (.st none 5 10 205)] [[],[],[1],[1,2],[1,2,3],rg 1 4,rg 1 5,rg 1 6,[],rg 0 8,rg 0 9])))))) (Rg [Mv 173 19,Bc 174 .sub 173 1,Mv 19 174]))
def qm:IR:=Rs [Pp (.ld 206 5 true false 10),Sv 5 8 206,Mb 9 true] .ret
def al6:IR:=Rs [Bx 5 1,Pp (.new 8 [vU 0,vS,nl .aval,nl .str,vI 0]),Mb 9 false] (Rs [Ld 23 1 true 5,Mv 24 2,Ca 25 15 [23,24],Mv 22 25,Ex_ 26 0 22,Ex_ 27 1 22,Pp (.new 10 [vU 0,vS,nl .aval,nl .str,vI 0]),Sv 5 10 26,Mv 11 27] (Sq (Rs [Mv 28 11,Un 29 28,Mv 30 29,Gf 30 (.mov 31 3),Gf 30 (.bin 32 .gtr 31 (kI 5)),Po 33 30 32,Mv 34 33,Gf 34 (.mov 35 0),Gf 34 (.call 36 16 [35]),Po 37 34 36] (Cn 37 (Rs [Pp (.ld 38 5 true false 10),Mv 39 11,Sv 5 8 38,Mv 9 39] .ret) .skip)) (Rs [Fa 40 0 5,Lq 41 40,Mv 42 2,Ix 43 .atype 41 42,Ld 44 10 true 43,Pp (.alr 12 10),Fz 12 10 44] (Sq (Rs [Fa 45 0 12,Lq 46 45] (.block 0 (Rs [Bc 48 .eql 46 2,Mv 47 48] (Cn 47 (Rg [Mv 49 0,Ca 50 17 [49,kI 2],Pp (.cvi 51 .u64 50),Fa 52 0 10,Sv 1 52 51]) (Rs [Bc 54 .eql 46 3,Mv 53 54] (Cn 53 (Rg [Pp (.bsl 55 (.num .u64) [kU 0,kU 1,kU 18446744073709551615,kU 300,kU 2147483647,kU 18446744071562067968,kU 16777217] true),Mv 56 0,Ca 57 17 [56,kI 7],Ix 58 (.num .u64) 55 57,Lq 59 58,Fa 60 0 10,Sv 1 60 59]) (Rs [Bc 62 .eql 46 4,Mv 61 62] (Cn 61 (Rg [Pp (.bsl 63 (.num .u64) [kU 0,kU 1,kU 18446744073709551615,kU 1099511627776,kU 9223372036854775807,kU 9223372036854775808,kU 9007199254740993] true),Mv 64 0,Ca 65 17 [64,kI 7],Ix 66 (.num .u64) 63 65,Lq 67 66,Fa 68 0 10,Sv 1 68 67]) (Rs [Bc 70 .eql 46 5,Mv 69 70] (Cn 69 (Rg [Pp (.bsl 71 (.num .u64) [kU 0,kU 1065353216,kU 2139095040,kU 1,kU 3212836864,kU 2143289345,kU 2147483648] true),Mv 72 0,Ca 73 17 [72,kI 7],Ix 74 (.num .u64) 71 73,Lq 75 74,Fa 76 0 10,Sv 1 76 75]) (Rs [Bc 78 .eql 46 6,Mv 77 78] (Cn 77 (Rg [Pp (.bsl 79 (.num .u64) [kU 0,kU 4607182418800017408,kU 1,kU 9223372036854775808,kU 9218868437227405312] true),Mv 80 0,Ca 81 17 [80,kI 5],Ix 82 (.num .u64) 79 81,Lq 83 82,Fa 84 0 10,Sv 1 84 83]) (Rs [Bc 86 .eql 46 8,Mv 85 86] (Cn 85 (Rg [Pp (.bsl 87 .str [kS [],kS [97],kS [195,164],kS [116,101,120,116]] true),Mv 88 0,Ca 89 17 [88,kI 4],Ix 90 .str 87 89,Lq 91 90,Fa 92 1 10,Sv 1 92 91]) (Rs [Bc 94 .eql 46 7,Mv 93 94] (Cn 93 (Rg [Pp (.bsl 95 .str [kS [],kS [255],kS [0],kS [98]] true),Mv 96 0,Ca 97 17 [96,kI 4],Ix 98 .str 95 97,Lq 99 98,Fa 100 1 10,Sv 1 100 99]) (Rs [Bc 102 .eql 46 10,Mv 101 102] (Cn 101 (Rg [Mv 103 0,Fa 104 4 12,Lq 105 104,Ll 106 105,Ca 107 17 [103,106],Pp (.cvi 108 .u64 107),Fa 109 0 10,Sv 1 109 108]) (Rs [Bc 111 .eql 46 14,Mv 110 111] (Cn 110 (Rs [Mv 112 0,Fa 113 9 12,Lq 114 113,Ll 115 114,Ca 116 17 [112,115],Mv 13 116] (Sq (.reg [Mv 118 0,Ld 119 1 true 5,Fa 120 9 12,Lq 121 120,Mv 122 13,Ix 123 (.num .i64) 121 122,Lq 124 123,Mv 125 3,Bc 126 .add 125 1,Fo [] [0] (.call 127 7 [118,119,124,126]),Mv 117 127,Ex_ 128 0 117,Ex_ 129 1 117,Pp (.alr 14 5),Fz 14 5 128,Mv 15 129] [[],[],[],[2],[],[2,3,4],rg 2 5,[],[7],rg 0 8,rg 0 9,rg 0 10,rg 0 10,[],rg 0 11++[13],rg 0 14]) (Rs [Mv 130 15] (Cn 130 (.reg [Mv 131 13,Ld 132 5 true 14,Pp (.bsl 133 .aval [132] true),Fa 134 4 10,Fo [] [2] (.st none 1 134 131),Fa 135 2 10,Fo [] [2] (.st none 1 135 (.tk 133))] [[],[],[1],[0],[0,3],rg 0 4,rg 0 5]) .skip)))) (Rs [Bc 137 .eql 46 9,Mv 136 137] (Cn 136 (Rs [Fa 138 2 10,Pp (.st none 1 138 (.c (nl .aval)))] (Rs [Mi 16 0] (.block 1 (.loop [0,3,5,8,10,12,16,1000000] 3 zo)))) (Sq (Rs [Bc 167 .eql 46 12,Mv 166 167] (Cn 166 .skip (Rg [Bc 168 .eql 46 13,Mv 166 168]))) (Cn 166 (Rs [Mv 169 0,Ca 170 17 [169,kI 4],Mv 19 170] (.block 3 (.loop [0,3,5,8,10,12,19,1000001] 3 yd))) .skip)))))))))))))))))))))))) qm))))
def ui:List RV:=[.cell 8 5 true,.t 9]
theorem al7:FnC Tryz.prog mO [7,16,17,2000007,2000016,2000017] 1 acv Tryz.f7 al6 ui:=fnC Tryz.func7
def akq(R:IR→(Ex→St→Ro)→St→Ro)(a:St→Ro):Ex→St→Ro:=(bF a [0,3,5,8,10,12,16,1000000] 3 (aQ 1 (aQ 0 (bv (R qm) (fin ui)))))
abbrev nZ:Type:=(Int×List aA×aA×Int×Bs×Int×Int×Bs×List aB×Bss×Int×Int×Bs×List aB×Bool×Bss×Int)
def na:nZ→St:=fun(h,i,j,k,l,m,n,o,p,q,a,b,c,d,e,f,g)=>{env:=(.ptr 0 0::.undef::.undef::.int .i64 h::.undef::.ea [.sl .atype (.may false) i]::.undef::.undef::.ptr 1 0::.undef::.ptr 2 0::.undef::.ea (enc .atype j)::(U 3 (.int .i64 k::(U 190 [])))),hp:=[some [.sl .u8 (.may false) l,.int .i64 m],some [.int .u64 n,.str o,.sl .aval .own p,.sl .str .own q,.int .i64 a],some [.int .u64 b,.str c,.sl .aval .own d,.sl .str (.may e) f,.int .i64 g]]}
def sI(N:Nat):(St→Ro)→St→Ro:=fun a s=>run mO N zo (akq (run mO N) a) s
def ko(N:Nat)(g:nZ→Ro):nZ→Ro:=fun(x,k,h,i,l,m,n,o,p,q,r,c,d,b,a,e,f)=>
 let s:=(↑(List.length h.fields):Int)
 cond (decide (i<s)) (
 chk (ixl i h.fields) (
 let t:=(List.getD h.fields (Int.toNat i) (aC .afield))
 let u:=(IntKind.wrap .i64 (x+1))
 aE (dG l m k t.typ u) (fun j=>
 chk (decide ((List.length b+List.length ([(reA j.1)]:List aB))*80≤140737488355328)) (
 let v:=(b++([(reA j.1)]:List aB))
 let w:=(IntKind.wrap .i64 (i+1))
 g (x,k,h,w,j.2.2.1,j.2.2.2,n,o,p,q,r,c,d,v,a,e,f))))) (
 some (.tup [.agg [.int .u64 c,.str d,.sl .aval (.may false) b,.sl .str (.may a) e,.int .i64 f],.bool true],[some [.sl .u8 (.may false) l,.int .i64 m],some [.int .u64 c,.str d,.sl .aval (.may false) b,.sl .str (.may a) e,.int .i64 f],some [.int .u64 c,.str d,.sl .aval .own b,.sl .str (.may a) e,.int .i64 f]]))
theorem aiq(N:Nat):LB (sI N) na (ko N):=fun _ _=>by kernel_rfl
def akr(R:IR→(Ex→St→Ro)→St→Ro)(a:St→Ro):Ex→St→Ro:=(bF a [0,3,5,8,10,12,19,1000001] 3 (aQ 3 (aQ 0 (bv (R qm) (fin ui)))))
abbrev kp:Type:=(Int×List aA×aA×Int×Bs×Int×Int×Bs×List aB×Bss×Int×Int×Bs×Bool×List aB×Bool×Bss×Int)⊕(Int×List aA×aA×Int×Bs×Int×Int×Bs×List aB×Bss×Int×Int×Bs×List aB×Bool×Bss×Int)⊕(Int×List aA×aA×Int×Bs×Int×Int×Bs×List aB×Bss×Int×Int×Bs×List aB×Bss×Int)
def afC:(Int×List aA×aA×Int×Bs×Int×Int×Bs×List aB×Bss×Int×Int×Bs×Bool×List aB×Bool×Bss×Int)→St:=fun(i,j,k,l,m,n,o,p,q,r,a,b,c,d,e,f,g,h)=>{env:=(.ptr 0 0::.undef::.undef::.int .i64 i::.undef::.ea [.sl .atype (.may false) j]::.undef::.undef::.ptr 1 0::.undef::.ptr 2 0::.undef::.ea (enc .atype k)::(U 6 (.int .i64 l::(U 187 [])))),hp:=[some [.sl .u8 (.may false) m,.int .i64 n],some [.int .u64 o,.str p,.sl .aval .own q,.sl .str .own r,.int .i64 a],some [.int .u64 b,.str c,.sl .aval (.may d) e,.sl .str (.may f) g,.int .i64 h]]}
def afD:(Int×List aA×aA×Int×Bs×Int×Int×Bs×List aB×Bss×Int×Int×Bs×List aB×Bool×Bss×Int)→St:=fun(h,i,j,k,l,m,n,o,p,q,a,b,c,d,e,f,g)=>{env:=(.ptr 0 0::.undef::.undef::.int .i64 h::.undef::.ea [.sl .atype (.may false) i]::.undef::.undef::.ptr 1 0::.undef::.ptr 2 0::.undef::.ea (enc .atype j)::(U 6 (.int .i64 k::(U 187 [])))),hp:=[some [.sl .u8 (.may false) l,.int .i64 m],some [.int .u64 n,.str o,.sl .aval .own p,.sl .str .own q,.int .i64 a],some [.int .u64 b,.str c,.sl .aval .own d,.sl .str (.may e) f,.int .i64 g]]}
def afE:(Int×List aA×aA×Int×Bs×Int×Int×Bs×List aB×Bss×Int×Int×Bs×List aB×Bss×Int)→St:=fun(g,h,i,j,k,l,m,n,o,p,a,b,c,d,e,f)=>{env:=(.ptr 0 0::.undef::.undef::.int .i64 g::.undef::.ea [.sl .atype (.may false) h]::.undef::.undef::.ptr 1 0::.undef::.ptr 2 0::.undef::.ea (enc .atype i)::(U 6 (.int .i64 j::(U 187 [])))),hp:=[some [.sl .u8 (.may false) k,.int .i64 l],some [.int .u64 m,.str n,.sl .aval .own o,.sl .str .own p,.int .i64 a],some [.int .u64 b,.str c,.sl .aval (.may false) d,.sl .str (.may false) e,.int .i64 f]]}
def jb:kp→St
 |(Sum.inl x)=>afC x
 |(Sum.inr (Sum.inl x))=>afD x
 |(Sum.inr (Sum.inr x))=>afE x
def sJ(N:Nat):(St→Ro)→St→Ro:=fun a s=>run mO N yd (akr (run mO N) a) s
def fI(N:Nat)(i:kp→Ro)(x:kp):Ro:=
 match x with
 |(Sum.inl (v3,g,k,w,m,o,q,r,t,u,v,b,c,p,a,f,d,e))=>
  let z0:=fun g0 g1=>(some (.tup [.agg [.int .u64 b,.str c,.sl .aval (.may p) a,.sl .str (.may f) d,.int .i64 e],.bool true],[some [.sl .u8 (.may false) g0,.int .i64 g1],some [.int .u64 b,.str c,.sl .aval (.may p) a,.sl .str (.may f) d,.int .i64 e],some [.int .u64 b,.str c,.sl .aval (.may p) a,.sl .str (.may f) d,.int .i64 e]]):Ro)
  cond (decide (0<w)) (
   let am:=(IntKind.wrap .i64 (v3+1))
   aE (dG m o g k.items am) (fun h=>
    cond (!h.2.1) (
     z0 h.2.2.1 h.2.2.2) (
     cond (k.kind==12) (
      chk ((p&&decide (0<List.length ([(reA h.1)]:List aB)))&&decide ((List.length a+List.length ([(reA h.1)]:List aB))*80≤140737488355328)) (
       let an:=(a++([(reA h.1)]:List aB))
       let ao:=(IntKind.wrap .i64 (w-1))
       i (Sum.inr (Sum.inl (v3,g,k,ao,h.2.2.1,h.2.2.2,q,r,t,u,v,b,c,an,f,d,e))))) (
      aE (aU h.2.2.1 h.2.2.2 5) (fun ae=>
       let aj:=(IntKind.wrap .i64 (97+ae.1))
       chk (decide (List.length ([107]:Bs)+List.length ([(UInt8.ofNat (Int.toNat (IntKind.wrap .u8 aj)))]:Bs)≤9223372036854775807)) (
        let ap:=(([107]:Bs)++([(UInt8.ofNat (Int.toNat (IntKind.wrap .u8 aj)))]:Bs))
        aE (fy b c a d e ap h.1.n h.1.s h.1.l h.1.keys h.1.branch) (fun z=>
         let aq:=(IntKind.wrap .i64 (w-1))
         i (Sum.inr (Sum.inr (v3,g,k,aq,ae.2.1,ae.2.2,q,r,t,u,v,z.1,z.2.1,z.2.2.1,z.2.2.2.1,z.2.2.2.2)))))))))) (
   z0 m o)
 |(Sum.inr (Sum.inl (v3,g,k,w,m,o,q,r,t,u,v,b,c,a,f,d,e)))=>
  let z0:=fun g0 g1=>(some (.tup [.agg [.int .u64 b,.str c,.sl .aval (.may false) a,.sl .str (.may f) d,.int .i64 e],.bool true],[some [.sl .u8 (.may false) g0,.int .i64 g1],some [.int .u64 b,.str c,.sl .aval (.may false) a,.sl .str (.may f) d,.int .i64 e],some [.int .u64 b,.str c,.sl .aval .own a,.sl .str (.may f) d,.int .i64 e]]):Ro)
  cond (decide (0<w)) (
   let ar:=(IntKind.wrap .i64 (v3+1))
   aE (dG m o g k.items ar) (fun j=>
    cond (!j.2.1) (
     z0 j.2.2.1 j.2.2.2) (
     cond (k.kind==12) (
      chk (decide ((List.length a+List.length ([(reA j.1)]:List aB))*80≤140737488355328)) (
       let au:=(a++([(reA j.1)]:List aB))
       let av:=(IntKind.wrap .i64 (w-1))
       i (Sum.inr (Sum.inl (v3,g,k,av,j.2.2.1,j.2.2.2,q,r,t,u,v,b,c,au,f,d,e))))) (
      aE (aU j.2.2.1 j.2.2.2 5) (fun af=>
       let ak:=(IntKind.wrap .i64 (97+af.1))
       chk (decide (List.length ([107]:Bs)+List.length ([(UInt8.ofNat (Int.toNat (IntKind.wrap .u8 ak)))]:Bs)≤9223372036854775807)) (
        let aw:=(([107]:Bs)++([(UInt8.ofNat (Int.toNat (IntKind.wrap .u8 ak)))]:Bs))
        aE (fy b c a d e aw j.1.n j.1.s j.1.l j.1.keys j.1.branch) (fun aa=>
         let ax:=(IntKind.wrap .i64 (w-1))
         i (Sum.inr (Sum.inr (v3,g,k,ax,af.2.1,af.2.2,q,r,t,u,v,aa.1,aa.2.1,aa.2.2.1,aa.2.2.2.1,aa.2.2.2.2)))))))))) (
   z0 m o)
 |(Sum.inr (Sum.inr (v3,g,k,w,m,o,q,r,t,u,v,b,c,a,d,e)))=>
  let z0:=fun g0 g1=>(some (.tup [.agg [.int .u64 b,.str c,.sl .aval (.may false) a,.sl .str (.may false) d,.int .i64 e],.bool true],[some [.sl .u8 (.may false) g0,.int .i64 g1],some [.int .u64 b,.str c,.sl .aval (.may false) a,.sl .str (.may false) d,.int .i64 e],some [.int .u64 b,.str c,.sl .aval (.may false) a,.sl .str (.may false) d,.int .i64 e]]):Ro)
  cond (decide (0<w)) (
   let ay:=(IntKind.wrap .i64 (v3+1))
   aE (dG m o g k.items ay) (fun y=>
    cond (!y.2.1) (
     z0 y.2.2.1 y.2.2.2) (
     cond (k.kind==12) (
      none) (
      aE (aU y.2.2.1 y.2.2.2 5) (fun ag=>
       let al:=(IntKind.wrap .i64 (97+ag.1))
       chk (decide (List.length ([107]:Bs)+List.length ([(UInt8.ofNat (Int.toNat (IntKind.wrap .u8 al)))]:Bs)≤9223372036854775807)) (
        let az:=(([107]:Bs)++([(UInt8.ofNat (Int.toNat (IntKind.wrap .u8 al)))]:Bs))
        aE (fy b c a d e az y.1.n y.1.s y.1.l y.1.keys y.1.branch) (fun ab=>
         let a0:=(IntKind.wrap .i64 (w-1))
         i (Sum.inr (Sum.inr (v3,g,k,a0,ag.2.1,ag.2.2,q,r,t,u,v,ab.1,ab.2.1,ab.2.2.1,ab.2.2.2.1,ab.2.2.2.2)))))))))) (
   z0 m o)
theorem air(N:Nat):∀(a:St→Ro)(x:kp),sJ N a (jb x)=fI N (fun y=>a (jb y)) x:=by
 intro a x
 rcases x with x|x|x<;>kernel_rfl
def lG(N:Nat)(g:Bs)(h:Int)(c:List aA)(t m:Int)(q0:nZ→Ro)(q1:kp→Ro):Ro:=
 let e:=fun u v w x y z g6 g7 g8 g9=>(some (.tup [.agg [.int .u64 u,.str v,.sl .aval (.may w) x,.sl .str (.may y) z,.int .i64 g6],.bool g7],[some [.sl .u8 (.may false) g8,.int .i64 g9],some [.int .u64 u,.str v,.sl .aval (.may w) x,.sl .str (.may y) z,.int .i64 g6],some [.int .u64 u,.str v,.sl .aval (.may w) x,.sl .str (.may y) z,.int .i64 g6]]):Ro)
 aE (rY c t) (fun a=>
 cond (!a.2.2.2.2.2.2.2) (
 e a.1 a.2.1 a.2.2.1 a.2.2.2.1 a.2.2.2.2.1 a.2.2.2.2.2.1 a.2.2.2.2.2.2.1 a.2.2.2.2.2.2.2 g h) (
 cond (decide (5<m)) (
 e a.1 a.2.1 a.2.2.1 a.2.2.2.1 a.2.2.2.2.1 a.2.2.2.2.2.1 a.2.2.2.2.2.2.1 a.2.2.2.2.2.2.2 g h) (
 aE (jH g h) (fun b=>
 cond b.1 (
 e a.1 a.2.1 a.2.2.1 a.2.2.2.1 a.2.2.2.2.1 a.2.2.2.2.2.1 a.2.2.2.2.2.2.1 a.2.2.2.2.2.2.2 b.2.1 b.2.2) (
 chk (ixl t c) (
 let d:=(List.getD c (Int.toNat t) (aC .atype))
 cond (d.kind==2) (
 aE (aU b.2.1 b.2.2 2) (fun r3=>
 e (IntKind.wrap .u64 r3.1) a.2.1 a.2.2.1 a.2.2.2.1 a.2.2.2.2.1 a.2.2.2.2.2.1 a.2.2.2.2.2.2.1 true r3.2.1 r3.2.2)) (
 cond (d.kind==3) (
 aE (aU b.2.1 b.2.2 7) (fun n=>
 chk (ixl n.1 ([0,1,18446744073709551615,300,2147483647,18446744071562067968,16777217]:List Int)) (
 let x2:=List.getD ([0,1,18446744073709551615,300,2147483647,18446744071562067968,16777217]:List Int) (Int.toNat n.1) (aC (.num .u64))
 e x2 a.2.1 a.2.2.1 a.2.2.2.1 a.2.2.2.2.1 a.2.2.2.2.2.1 a.2.2.2.2.2.2.1 true n.2.1 n.2.2))) (
 cond (d.kind==4) (
 aE (aU b.2.1 b.2.2 7) (fun o=>
 chk (ixl o.1 ([0,1,18446744073709551615,1099511627776,9223372036854775807,9223372036854775808,9007199254740993]:List Int)) (
 let x3:=List.getD ([0,1,18446744073709551615,1099511627776,9223372036854775807,9223372036854775808,9007199254740993]:List Int) (Int.toNat o.1) (aC (.num .u64))
 e x3 a.2.1 a.2.2.1 a.2.2.2.1 a.2.2.2.2.1 a.2.2.2.2.2.1 a.2.2.2.2.2.2.1 true o.2.1 o.2.2))) (
 cond (d.kind==5) (
 aE (aU b.2.1 b.2.2 7) (fun p=>
 chk (ixl p.1 ([0,1065353216,2139095040,1,3212836864,2143289345,2147483648]:List Int)) (
 let x4:=List.getD ([0,1065353216,2139095040,1,3212836864,2143289345,2147483648]:List Int) (Int.toNat p.1) (aC (.num .u64))
 e x4 a.2.1 a.2.2.1 a.2.2.2.1 a.2.2.2.2.1 a.2.2.2.2.2.1 a.2.2.2.2.2.2.1 true p.2.1 p.2.2))) (
 cond (d.kind==6) (
 aE (aU b.2.1 b.2.2 5) (fun q=>
 chk (ixl q.1 ([0,4607182418800017408,1,9223372036854775808,9218868437227405312]:List Int)) (
 let x5:=List.getD ([0,4607182418800017408,1,9223372036854775808,9218868437227405312]:List Int) (Int.toNat q.1) (aC (.num .u64))
 e x5 a.2.1 a.2.2.1 a.2.2.2.1 a.2.2.2.2.1 a.2.2.2.2.2.1 a.2.2.2.2.2.2.1 true q.2.1 q.2.2))) (
 cond (d.kind==8) (
 aE (aU b.2.1 b.2.2 4) (fun r=>
 chk (ixl r.1 ([([]:Bs),([97]:Bs),([195,164]:Bs),([116,101,120,116]:Bs)]:Bss)) (
 let x6:=List.getD ([([]:Bs),([97]:Bs),([195,164]:Bs),([116,101,120,116]:Bs)]:Bss) (Int.toNat r.1) (aC .str)
 e a.1 x6 a.2.2.1 a.2.2.2.1 a.2.2.2.2.1 a.2.2.2.2.2.1 a.2.2.2.2.2.2.1 true r.2.1 r.2.2))) (
 cond (d.kind==7) (
 aE (aU b.2.1 b.2.2 4) (fun s=>
 chk (ixl s.1 ([([]:Bs),([255]:Bs),([0]:Bs),([98]:Bs)]:Bss)) (
 let x7:=List.getD ([([]:Bs),([255]:Bs),([0]:Bs),([98]:Bs)]:Bss) (Int.toNat s.1) (aC .str)
 e a.1 x7 a.2.2.1 a.2.2.2.1 a.2.2.2.2.1 a.2.2.2.2.2.1 a.2.2.2.2.2.2.1 true s.2.1 s.2.2))) (
 cond (d.kind==10) (
 let x8:=(↑(List.length d.syms):Int)
 aE (aU b.2.1 b.2.2 x8) (fun j=>
 let x9:=(IntKind.wrap .u64 j.1)
 e x9 a.2.1 a.2.2.1 a.2.2.2.1 a.2.2.2.2.1 a.2.2.2.2.2.1 a.2.2.2.2.2.2.1 true j.2.1 j.2.2)) (
 cond (d.kind==14) (
 let ac:=(↑(List.length d.branches):Int)
 aE (aU b.2.1 b.2.2 ac) (fun i=>
 chk (ixl i.1 d.branches) (
 let ad:=List.getD d.branches (Int.toNat i.1) (aC (.num .i64))
 let ae:=(IntKind.wrap .i64 (m+1))
 aE (dG i.2.1 i.2.2 c ad ae) (fun f=>
 cond f.2.1 (
 e a.1 a.2.1 true ([(reA f.1)]:List aB) a.2.2.2.2.1 a.2.2.2.2.2.1 i.1 true f.2.2.1 f.2.2.2) (
 e a.1 a.2.1 a.2.2.1 a.2.2.2.1 a.2.2.2.2.1 a.2.2.2.2.2.1 a.2.2.2.2.2.2.1 true f.2.2.1 f.2.2.2))))) (
 cond (d.kind==9) (
 q0 (m,c,d,0,b.2.1,b.2.2,0,([]:Bs),([]:List aB),([]:Bss),0,a.1,a.2.1,([]:List aB),a.2.2.2.2.1,a.2.2.2.2.2.1,a.2.2.2.2.2.2.1)) (
 cond (d.kind==12) (
 aE (aU b.2.1 b.2.2 4) (fun k=>
 q1 (Sum.inl (m,c,d,k.1,k.2.1,k.2.2,0,([]:Bs),([]:List aB),([]:Bss),0,a.1,a.2.1,a.2.2.1,a.2.2.2.1,a.2.2.2.2.1,a.2.2.2.2.2.1,a.2.2.2.2.2.2.1)))) (
 cond (d.kind==13) (
 aE (aU b.2.1 b.2.2 4) (fun l=>
 q1 (Sum.inl (m,c,d,l.1,l.2.1,l.2.2,0,([]:Bs),([]:List aB),([]:Bss),0,a.1,a.2.1,a.2.2.1,a.2.2.2.1,a.2.2.2.2.1,a.2.2.2.2.2.1,a.2.2.2.2.2.2.1)))) (
 e a.1 a.2.1 a.2.2.1 a.2.2.2.1 a.2.2.2.2.1 a.2.2.2.2.2.1 a.2.2.2.2.2.2.1 true b.2.1 b.2.2))))))))))))))))))
def abr(N:Nat)(a:Bs)(b:Int)(c:List aA)(d e:Int):Ro:=lG N a b c d e (fun z=>aS N (ko N) z) (fun z=>aS N (fI N) z)
theorem aks(N:Nat)(a:Bs)(c:Int)(d:List aA)(g i:Int)(h:Tot (abr N a c d g i) (fun z=>∃(j:aB)(k:Bool)(l:Bs)(m:Int)(rest:List aJ),z.1.dimR=.tup [.agg (enc .aval j),.bool k]∧z.2=some [.sl .u8 (.may false) l,.int .i64 m]::rest∧dK a c d g i (j,k,l,m))):∃r,dG a c d g i r:=FnC.finO (css:=[[.sl .u8 (.may false) a,.int .i64 c]]) al7 (N:=N) ((bM _ (by kernel_rfl) rfl (fun C=>lG N a c d g i (fun z=>C 1000000 (na z)) (fun z=>C 1000001 (jb z))) (fun C=>by kernel_rfl)).trans (Eq.trans (b:=lG N a c d g i (fun z=>bo N (sI N) (na z)) (fun z=>bo N (sJ N) (jb z))) (by kernel_rfl) (congr (congrArg (lG N a c d g i) (funext fun z=>bk (na) (sI N) (ko N) (aiq N) N z)) (funext fun z=>bk (jb) (sJ N) (fI N) (air N) N z)))) h fun _ ⟨j,k,l,m,_,e,f,q⟩=>⟨(j,k,l,m),e,⟨_,f⟩,q⟩
end Go.Proofs.YtdpajabhmmmjoaaGreat
end
noncomputable section
namespace Go.Proofs.YtdpajabhmmmjoaaGreat
open Go.AM
set_option autoImplicit false
set_option linter.unusedVariables false
set_option maxRecDepth 100000
noncomputable def si:aN:=tab (P:=Tryz.prog) [] [] [] [ajn,agt]
def adP:IR:=Sq (Rs [Mv 28 9,Fa 29 8 7,Lq 30 29,Ll 31 30,Bi 32 .lss 28 31] (Cn 32 .skip (.exit 1))) (Sq (.block 2 (.reg [Fa 35 2 8,Fo [] [1] (.ld 36 1 false true 35),Ld 37 1 true 3,Fa 38 8 7,Lq 39 38,Mv 40 9,Ix 41 .afield 39 40,Fa 42 2 41,Fo [] [] (.ld 43 1 false false 42),Mv 44 2,Ca 45 30 [37,43,44],Pp (.bsl 46 .aval [45] true),Pp (.app 47 .aval (.tk 36) 46),Fa 48 2 8,Fo [] [1] (.st none 1 48 (.tk 47))] [[],[0],[],[],[3],[],[3,4,5],rg 3 6,rg 3 7,[],rg 2 9,rg 2 10,rg 0 11,rg 0 12,rg 0 13])) (Rg [Mv 33 9,Bc 34 .add 33 1,Mv 9 34]))
def adQ:IR:=Rs [Pp (.ld 49 5 true false 8),Sv 5 6 49] .ret
def acE:IR:=Rs [Pp (.bld 66 [vU 0,vS,fu .aval true,fu .str true,vI 0] []),Sv 5 6 66] .ret
def aaB:IR:=Rs [Bx 3 0,Pp (.new 6 [vU 0,vS,nl .aval,nl .str,vI 0])] (Rs [Fa 11 0 3,Lq 12 11,Mv 13 1,Ix 14 .atype 12 13,Ld 15 10 true 14,Pp (.alr 7 10),Fz 7 10 15] (Sq (Rs [Fa 16 0 7,Lq 17 16] (.block 0 (Rs [Bc 19 .eql 17 11,Mv 18 19] (Cn 18 (Rs [Fa 20 7 7,Lq 21 20,Pp (.mks 22 .u8 21),Pp (.b2s 23 22),Pp (.bld 24 [vU 0,vS,fu .aval true,fu .str true,vI 0] [(1,1,23)]),Sv 5 6 24] .ret) (Rs [Bc 26 .eql 17 9,Mv 25 26] (Cn 25 (Rs [Pp (.bld 27 [vU 0,vS,nl .aval,nl .str,vI 0] []),Pp (.new 8 [vU 0,vS,nl .aval,nl .str,vI 0]),Sv 5 8 27] (Sq (Rs [Mi 9 0] (.block 1 (.loop [2,3,6,7,8,9,1000000] 2 adP))) adQ)) (Rs [Bc 51 .eql 17 14,Mv 50 51] (Cn 50 (Rs [Ld 52 10 true 7,Mv 53 2,Ca 54 67 [52,53],Mv 10 54] (Sq (.reg [Mv 55 10,Ld 56 1 true 3,Fa 57 9 7,Lq 58 57,Mv 59 10,Ix 60 (.num .i64) 58 59,Lq 61 60,Mv 62 2,Ca 63 30 [56,61,62],Pp (.bsl 64 .aval [63] true),Pp (.bld 65 [vU 0,vS,fu .aval true,fu .str true,vI 0] [(4,1,55),(2,1,64)]),Fo [] [0] (.st none 5 6 65)] [[],[],[],[2],[],[2,3,4],rg 2 5,[],rg 1 7,rg 1 8,rg 0 9,rg 0 10]) .ret)) .skip)))))))) acE))
def vi:List RV:=[.cell 6 5 true]
theorem as3:FnC Tryz.prog si [] 0 ajm Tryz.f30 aaB vi:=fnC Tryz.func30
def aq7(R:IR→(Ex→St→Ro)→St→Ro)(a:St→Ro):Ex→St→Ro:=(bF a [2,3,6,7,8,9,1000000] 2 (aQ 1 (bv (R adQ) (aQ 0 (bv (R acE) (fin vi))))))
abbrev td:Type:=(List Int×List aA×aA×Int×Int×Bs×List aB×Bss×Int×Int×Bs×List aB×Bss×Int)
def rl:td→St:=fun(e,f,g,h,i,j,k,l,m,n,a,b,c,d)=>{env:=(.undef::.undef::.sl (.num .i64) (.may false) e::.ea [.sl .atype (.may false) f]::.undef::.undef::.ptr 0 0::.ea (enc .atype g)::.ptr 1 0::.int .i64 h::(U 57 [])),hp:=[some [.int .u64 i,.str j,.sl .aval .own k,.sl .str .own l,.int .i64 m],some [.int .u64 n,.str a,.sl .aval .own b,.sl .str .own c,.int .i64 d]]}
def zp(N:Nat):(St→Ro)→St→Ro:=fun a s=>run si N adP (aq7 (run si N) a) s
def te(N:Nat)(g:td→Ro):td→Ro:=fun(p,h,n,o,i,j,k,l,m,b,c,a,d,e)=>
 let q:=(↑(List.length n.fields):Int)
 cond (decide (o<q)) (
 chk (ixl o n.fields) (
 let r:=(List.getD n.fields (Int.toNat o) (aC .afield))
 aE (jK h r.typ p) (fun f=>
 chk (decide ((List.length a+List.length ([⟨f.1,f.2.1,f.2.2.2.1,f.2.2.2.2.2.1,f.2.2.2.2.2.2⟩]:List aB))*80≤140737488355328)) (
 let s:=(a++([⟨f.1,f.2.1,f.2.2.2.1,f.2.2.2.2.2.1,f.2.2.2.2.2.2⟩]:List aB))
 let t:=(IntKind.wrap .i64 (o+1))
 g (p,h,n,t,i,j,k,l,m,b,c,s,d,e))))) (
 some (.agg [.int .u64 b,.str c,.sl .aval (.may false) a,.sl .str (.may false) d,.int .i64 e],[some [.int .u64 b,.str c,.sl .aval (.may false) a,.sl .str (.may false) d,.int .i64 e],some [.int .u64 b,.str c,.sl .aval .own a,.sl .str .own d,.int .i64 e]]))
theorem apl(N:Nat):LB (zp N) rl (te N):=fun _ _=>by kernel_rfl
def qn(N:Nat)(a:List aA)(g:Int)(d:List Int)(k:td→Ro):Ro:=
 let e:=fun h i j=>(some (.agg [.int .u64 0,.str h,.sl .aval (.may true) i,.sl .str (.may true) ([]:Bss),.int .i64 j],[some [.int .u64 0,.str h,.sl .aval (.may true) i,.sl .str (.may true) ([]:Bss),.int .i64 j]]):Ro)
 chk (ixl g a) (
 let b:=(List.getD a (Int.toNat g) (aC .atype))
 cond (b.kind==11) (
 chk (decide (0≤b.size)&&decide (b.size*1≤140737488355328)) (
 let l:=(List.replicate (Int.toNat b.size) (aC .u8))
 e l ([]:List aB) 0)) (
 cond (b.kind==9) (
 k (d,a,b,0,0,([]:Bs),([]:List aB),([]:Bss),0,0,([]:Bs),([]:List aB),([]:Bss),0)) (
 cond (b.kind==14) (
 aE (ny b d) (fun(f:Int)=>
 chk (ixl f b.branches) (
 let m:=List.getD b.branches (Int.toNat f) (aC (.num .i64))
 aE (jK a m d) (fun c=>
 e ([]:Bs) ([⟨c.1,c.2.1,c.2.2.2.1,c.2.2.2.2.2.1,c.2.2.2.2.2.2⟩]:List aB) f)))) (
 e ([]:Bs) ([]:List aB) 0))))
def aaC(N:Nat)(a:List aA)(b:Int)(c:List Int):Ro:=qn N a b c (fun z=>aS N (te N) z)
def avv(N:Nat):List (Nat×(St→Ro)):=bP si N aaB (fin vi)++[]
theorem aq8(N:Nat)(a:List aA)(c:Int)(d:List Int):fT si N 67 vi aaB [.agg [.sl .atype (.may false) a],.int .i64 c,.sl (.num .i64) (.may false) d] []=aaC N a c d:=
 ((bM (avv N) (by kernel_rfl) rfl (fun C=>qn N a c d (fun z=>C 1000000 (rl z))) (fun C=>by kernel_rfl)).trans (Eq.trans (b:=qn N a c d (fun z=>bo N (zp N) (rl z))) (by kernel_rfl) (congrArg (qn N a c d) (funext fun z=>bk (rl) (zp N) (te N) (apl N) N z))))
theorem aq9(N:Nat)(a:List aA)(b:Int)(c:List Int)(h:Tot (aaC N a b c) (fun z=>∃(d:Int)(e:Bs)(f:Bool)(g:List aB)(i:Bool)(j:Bss)(k:Int)(rest:List aJ),z.1=.agg [.int .u64 d,.str e,.sl .aval (.may f) g,.sl .str (.may i) j,.int .i64 k]∧z.2=rest∧ado a b c (d,e,f,g,i,j,k))):∃r,jK a b c r:=by
 obtain⟨⟨v,hp⟩,hz,d,e,f,g,i,j,k,rest,e1,e2,hq⟩:=h
 simp only at e1 e2
 subst e2
 subst e1
 exact⟨(d,e,f,g,i,j,k),as3.pure (aq8 N a b c) hz,hq⟩
noncomputable def ajL:aN:=tab (P:=Tryz.prog) [] [] [] [yQ,auM,aqk,ajn]
def agS:IR:=Rs [Bx 2 0,Pp (.new 4 [vU 0,vS,nl .aval,nl .str,vI 0]),Mb 5 false] (Rs [Ld 7 1 true 2,Ca 8 28 [7],Mv 6 8] (Sq (Rs [Ld 9 1 true 2,Mv 10 1,Ca 11 21 [9,10],Un 12 11,Mv 13 12,Gf 13 (.mov 14 6),Gf 13 (.mov 15 1),Gf 13 (.ixa 16 (.num .i64) 14 15),Gf 13 (.lde 17 1 false 16),Gf 13 (.bin 18 .lss 17 (kI 0)),Po 19 13 18,Mv 20 19,Gf 20 (.lde 21 1 true 2),Gf 20 (.mov 22 6),Gf 20 (.call 23 29 [21,22]),Gf 20 (.mov 24 1),Gf 20 (.ixa 25 (.num .i64) 23 24),Gf 20 (.lde 26 1 false 25),Gf 20 (.bin 27 .gtr 26 (kI 2000)),Po 28 20 27] (Cn 28 (Rs [Pp (.bld 29 [vU 0,vS,fu .aval true,fu .str true,vI 0] []),Sv 5 4 29,Mb 5 false] .ret) .skip)) (Rs [Ld 30 1 true 2,Mv 31 1,Mv 32 6,Ca 33 30 [30,31,32],Sv 5 4 33,Mb 5 true] .ret)))
def agT:List RV:=[.cell 4 5 true,.t 5]
theorem as4:FnC Tryz.prog ajL [] 0 ajl Tryz.f15 agS agT:=fnC Tryz.func15
def agU(N:Nat)(a:List aA)(c:Int):Ro:=
 let d:=fun f g h i j k l n=>(some (.tup [.agg [.int .u64 f,.str g,.sl .aval (.may h) i,.sl .str (.may j) k,.int .i64 l],.bool n],[some [.int .u64 f,.str g,.sl .aval (.may h) i,.sl .str (.may j) k,.int .i64 l]]):Ro)
 aE (oz a) (fun(e:List Int)=>
 aE (kL a c) (fun(o:Bool)=>
 cond (!o) (
 d 0 ([]:Bs) true ([]:List aB) true ([]:Bss) 0 false) (
 chk (ixl c e) (
 let p:=List.getD e (Int.toNat c) (aC (.num .i64))
 cond (decide (p<0)) (
 d 0 ([]:Bs) true ([]:List aB) true ([]:Bss) 0 false) (
 aE (iV a e) (fun(m:List Int)=>
 chk (ixl c m) (
 let q:=List.getD m (Int.toNat c) (aC (.num .i64))
 cond (decide (2000<q)) (
 d 0 ([]:Bs) true ([]:List aB) true ([]:Bss) 0 false) (
 aE (jK a c e) (fun b=>
 d b.1 b.2.1 b.2.2.1 b.2.2.2.1 b.2.2.2.2.1 b.2.2.2.2.2.1 b.2.2.2.2.2.2 true)))))))))
def aaD(N:Nat)(a:List aA)(b:Int):Ro:=agU N a b
theorem ara(N:Nat)(a:List aA)(b:Int):fT ajL N 34 agT agS [.agg [.sl .atype (.may false) a],.int .i64 b] []=aaD N a b:=by kernel_rfl
theorem arb(N:Nat)(a:List aA)(b:Int)(h:Tot (aaD N a b) (fun z=>∃(c:Int)(d:Bs)(e:Bool)(f:List aB)(g:Bool)(i:Bss)(j:Int)(k:Bool)(rest:List aJ),z.1=.tup [.agg [.int .u64 c,.str d,.sl .aval (.may e) f,.sl .str (.may g) i,.int .i64 j],.bool k]∧z.2=rest∧adp a b (c,d,e,f,g,i,j,k))):∃r,rY a b r:=by
 obtain⟨⟨v,hp⟩,hz,c,d,e,f,g,i,j,k,rest,e1,e2,hq⟩:=h
 simp only at e1 e2
 subst e2
 subst e1
 exact⟨(c,d,e,f,g,i,j,k),as4.pure (ara N a b) hz,hq⟩
end Go.Proofs.YtdpajabhmmmjoaaGreat
end
noncomputable section
namespace Go.Proofs.YtdpajabhmmmjoaaGreat
open Go.AM
set_option autoImplicit false
set_option linter.unusedVariables false
set_option maxRecDepth 100000
noncomputable def qo:aN:=tab (P:=Tryz.prog) [] [] [] []
def acF:IR:=Sq (Rs [Mv 22 9,Fa 23 9 7,Lq 24 23,Ll 25 24,Bi 26 .lss 22 25] (Cn 26 .skip (.exit 0))) (Sq (.block 1 (Rs [Mv 29 2,Fa 30 9 7,Lq 31 30,Mv 32 9,Ix 33 (.num .i64) 31 32,Lq 34 33,Ix 35 (.num .i64) 29 34,Lq 36 35,Mv 10 36] (Rs [Mv 37 10,Bc 38 .geq 37 0,Mv 39 38,Gt 39 (.mov 40 8),Gt 39 (.bin 41 .lss 40 (kI 0)),Gt 39 (.mov 42 41),Gf 42 (.mov 43 10),Gf 42 (.mov 44 8),Gf 42 (.bin 45 .lss 43 44),Gt 39 (.pick 46 42 (kB true) 45),Pa 47 39 46] (Cn 47 (Rg [Mv 48 10,Mv 8 48]) .skip)))) (Rg [Mv 27 9,Bc 28 .add 27 1,Mv 9 28]))
def abt:IR:=Sq (Rs [Mv 49 8,Bc 50 .lss 49 0] (Cn 50 (Rs [Mi 6 (-1)] .ret) .skip)) (Rs [Mv 51 8,Bc 52 .add 51 1,Mv 6 52] .ret)
def abu:IR:=Sq (Rs [Mv 53 12,Fa 54 8 7,Lq 55 54,Ll 56 55,Bi 57 .lss 53 56] (Cn 57 .skip (.exit 2))) (Sq (.block 3 (Rs [Mv 60 2,Fa 61 8 7,Lq 62 61,Mv 63 12,Ix 64 .afield 62 63,Fa 65 2 64,Lo 66 65,Ix 67 (.num .i64) 60 66,Lq 68 67,Mv 13 68] (Sq (Rs [Mv 69 13,Bc 70 .lss 69 0] (Cn 70 (Rs [Mi 6 (-1)] .ret) .skip)) (Rg [Mv 71 11,Mv 72 13,Pp (.mx 73 false 71 72),Mv 11 73])))) (Rg [Mv 58 12,Bc 59 .add 58 1,Mv 12 59]))
def abv:IR:=Rs [Mv 74 11,Bc 75 .add 74 1,Mv 6 75] .ret
def abw:IR:=Rs [Mi 11 0] (Sq (Rs [Mi 12 0] (.block 2 (.loop [2,7,11,12,1000001] 0 abu))) abv)
def arc:IR:=Rs [Bx 3 0,Mi 6 0] (Rs [Fa 14 0 3,Lq 15 14,Mv 16 1,Ix 17 .atype 15 16,Ld 18 10 true 17,Pp (.alr 7 10),Fz 7 10 18] (Sq (Rs [Fa 19 0 7,Lq 20 19,Bc 21 .eql 20 14] (Cn 21 (Rs [Mi 8 (-1)] (Sq (Rs [Mi 9 0] (.block 0 (.loop [2,7,8,9,1000000] 0 acF))) abt)) .skip)) abw))
def zq:List RV:=[.t 6]
theorem ard:FnC Tryz.prog qo [] 0 ags Tryz.f66 arc zq:=fnC Tryz.func66
def apm(R:IR→(Ex→St→Ro)→St→Ro)(a:St→Ro):Ex→St→Ro:=(bF a [2,7,8,9,1000000] 0 (aQ 0 (bv (R abt) (bv (R abw) (fin zq)))))
abbrev rm:Type:=(List Int×aA×Int×Int)
def pG:rm→St:=fun(a,b,c,d)=>{env:=(.undef::.undef::.sl (.num .i64) (.may false) a::(U 4 (.ea (enc .atype b)::.int .i64 c::.int .i64 d::(U 66 [])))),hp:=[]}
def xJ(N:Nat):(St→Ro)→St→Ro:=fun a s=>run qo N acF (apm (run qo N) a) s
def rn(N:Nat)(a:rm→Ro):rm→Ro:=fun(d,b,e,c)=>
 let h:=(↑(List.length b.branches):Int)
 cond (decide (c<h)) (
 chk (ixl c b.branches) (
 let g:=List.getD b.branches (Int.toNat c) (aC (.num .i64))
 chk (ixl g d) (
 let f:=List.getD d (Int.toNat g) (aC (.num .i64))
 cond (decide (0≤f)) (
 cond (decide (e<0)) (
 let i:=(IntKind.wrap .i64 (c+1))
 a (d,b,f,i)) (
 cond (decide (f<e)) (
 let j:=(IntKind.wrap .i64 (c+1))
 a (d,b,f,j)) (
 let k:=(IntKind.wrap .i64 (c+1))
 a (d,b,e,k)))) (
 let l:=(IntKind.wrap .i64 (c+1))
 a (d,b,e,l))))) (
 cond (decide (e<0)) (
 some (.int .i64 (-1),[])) (
 let m:=(IntKind.wrap .i64 (e+1))
 some (.int .i64 m,[])))
theorem anC(N:Nat):LB (xJ N) pG (rn N):=fun _ _=>by kernel_rfl
def apn(R:IR→(Ex→St→Ro)→St→Ro)(a:St→Ro):Ex→St→Ro:=(bF a [2,7,11,12,1000001] 0 (aQ 2 (bv (R abv) (fin zq))))
abbrev rp:Type:=(List Int×aA×Int×Int)
def pH:rp→St:=fun(a,b,c,d)=>{env:=(.undef::.undef::.sl (.num .i64) (.may false) a::(U 4 (.ea (enc .atype b)::(U 3 (.int .i64 c::.int .i64 d::(U 63 [])))))),hp:=[]}
def xK(N:Nat):(St→Ro)→St→Ro:=fun a s=>run qo N abu (apn (run qo N) a) s
def rq(N:Nat)(a:rp→Ro):rp→Ro:=fun(g,f,c,b)=>
 let h:=(↑(List.length f.fields):Int)
 cond (decide (b<h)) (
 chk (ixl b f.fields) (
 let e:=(List.getD f.fields (Int.toNat b) (aC .afield))
 chk (ixl e.typ g) (
 let d:=List.getD g (Int.toNat e.typ) (aC (.num .i64))
 cond (decide (d<0)) (
 some (.int .i64 (-1),[])) (
 let i:=(if c<d then d else c)
 let j:=(IntKind.wrap .i64 (b+1))
 a (g,f,i,j))))) (
 let k:=(IntKind.wrap .i64 (c+1))
 some (.int .i64 k,[]))
theorem anD(N:Nat):LB (xK N) pH (rq N):=fun _ _=>by kernel_rfl
def oN(N:Nat)(a:List aA)(c:Int)(d:List Int)(e:rm→Ro)(f:rp→Ro):Ro:=
 chk (ixl c a) (
 let b:=(List.getD a (Int.toNat c) (aC .atype))
 cond (b.kind==14) (
 e (d,b,(-1),0)) (
 f (d,b,0,0)))
def ae2(N:Nat)(a:List aA)(b:Int)(c:List Int):Ro:=oN N a b c (fun z=>aS N (rn N) z) (fun z=>aS N (rq N) z)
theorem apo(N:Nat)(a:List aA)(c:Int)(d:List Int)(h:Tot (ae2 N a c d) (fun z=>∃(f:Int)(rest:List aJ),z.1.dimR=.int .i64 f∧z.2=rest∧vV a c d (f))):∃r,pY a c d r:=ard.finP (N:=N) ((bM _ (by kernel_rfl) rfl (fun C=>oN N a c d (fun z=>C 1000000 (pG z)) (fun z=>C 1000001 (pH z))) (fun C=>by kernel_rfl)).trans (Eq.trans (b:=oN N a c d (fun z=>bo N (xJ N) (pG z)) (fun z=>bo N (xK N) (pH z))) (by kernel_rfl) (congr (congrArg (oN N a c d) (funext fun z=>bk (pG) (xJ N) (rn N) (anC N) N z)) (funext fun z=>bk (pH) (xK N) (rq N) (anD N) N z)))) h fun _ ⟨f,_,e,_,q⟩=>⟨(f),e,q⟩
noncomputable def aaE:aN:=tab (P:=Tryz.prog) [] [] [] []
def acG:IR:=Sq (Rs [Mv 7 6,Fa 8 9 2,Lq 9 8,Ll 10 9,Bi 11 .lss 7 10] (Cn 11 .skip (.exit 0))) (Sq (.block 1 (Sq (.reg [Mv 14 1,Fa 15 9 2,Lq 16 15,Mv 17 6,Ix 18 (.num .i64) 16 17,Lq 19 18,Ix 20 (.num .i64) 14 19,Lq 21 20,Bc 22 .geq 21 0,Mv 23 22,Gt 23 (.mov 24 1),Gt 23 (.fad 25 9 2),Gt 23 (.lde 26 1 false 25),Gt 23 (.mov 27 5),Gt 23 (.ixa 28 (.num .i64) 26 27),Gt 23 (.lde 29 1 false 28),Gt 23 (.ixa 30 (.num .i64) 24 29),Gt 23 (.lde 31 1 false 30),Gt 23 (.bin 32 .lss 31 (kI 0)),Gt 23 (.mov 33 32),Gf 33 (.mov 34 1),Gf 33 (.fad 35 9 2),Gf 33 (.lde 36 1 false 35),Gf 33 (.mov 37 6),Gf 33 (.ixa 38 (.num .i64) 36 37),Gf 33 (.lde 39 1 false 38),Gf 33 (.ixa 40 (.num .i64) 34 39),Gf 33 (.lde 41 1 false 40),Gf 33 (.mov 42 1),Gf 33 (.fad 43 9 2),Gf 33 (.lde 44 1 false 43),Gf 33 (.mov 45 5),Gf 33 (.ixa 46 (.num .i64) 44 45),Gf 33 (.lde 47 1 false 46),Gf 33 (.ixa 48 (.num .i64) 42 47),Gf 33 (.lde 49 1 false 48),Gf 33 (.bin 50 .lss 41 49),Gt 23 (.pick 51 33 (kB true) 50),Pa 52 23 51] [[],[],[1],[],[1,2,3],rg 1 4,rg 0 5,rg 0 6,rg 0 7,rg 0 8,rg 0 9,rg 0 9,rg 0 9++[11],rg 0 9,rg 0 9++[11,12,13],rg 0 9++rg 11 14,rg 0 15,rg 0 16,rg 0 17,rg 0 18,rg 0 19,rg 0 19,rg 0 19++[21],rg 0 19,rg 0 19++[21,22,23],rg 0 19++rg 21 24,rg 0 25,rg 0 26,rg 0 19,rg 0 19,rg 0 19++[29],rg 0 19,rg 0 19++[29,30,31],rg 0 19++rg 29 32,rg 0 19++rg 28 33,rg 0 19++rg 28 34,rg 0 35,rg 0 36,rg 0 37]) (Cn 52 (Rg [Mv 53 6,Mv 5 53]) .skip))) (Rg [Mv 12 6,Bc 13 .add 12 1,Mv 6 13]))
def acH:IR:=Rs [Mv 54 5,Mv 4 54] .ret
def are:IR:=Rs [Bx 2 0,Mi 4 0] (Rs [Mi 5 0] (Sq (Rs [Mi 6 0] (.block 0 (.loop [1,2,5,6,1000000] 0 acG))) acH))
def ae3:List RV:=[.t 4]
theorem arf:FnC Tryz.prog aaE [] 0 agr Tryz.f67 are ae3:=fnC Tryz.func67
def apq(R:IR→(Ex→St→Ro)→St→Ro)(a:St→Ro):Ex→St→Ro:=(bF a [1,2,5,6,1000000] 0 (aQ 0 (bv (R acH) (fin ae3))))
abbrev rt:Type:=(List Int×aA×Int×Int)
def pI:rt→St:=fun(a,b,c,d)=>{env:=(.undef::.sl (.num .i64) (.may false) a::.ea (enc .atype b)::.undef::.undef::.int .i64 c::.int .i64 d::(U 48 [])),hp:=[]}
def xL(N:Nat):(St→Ro)→St→Ro:=fun a s=>run aaE N acG (apq (run aaE N) a) s
def ru(N:Nat)(a:rt→Ro):rt→Ro:=fun(c,b,e,d)=>
 let n:=(↑(List.length b.branches):Int)
 cond (decide (d<n)) (
 chk (ixl d b.branches) (
 let j:=List.getD b.branches (Int.toNat d) (aC (.num .i64))
 chk (ixl j c) (
 let o:=List.getD c (Int.toNat j) (aC (.num .i64))
 cond (decide (0≤o)) (
 chk (ixl e b.branches) (
 let k:=List.getD b.branches (Int.toNat e) (aC (.num .i64))
 chk (ixl k c) (
 let p:=List.getD c (Int.toNat k) (aC (.num .i64))
 cond (decide (p<0)) (
 let q:=(IntKind.wrap .i64 (d+1))
 a (c,b,d,q)) (
 chk (ixl d b.branches) (
 let l:=List.getD b.branches (Int.toNat d) (aC (.num .i64))
 chk (ixl l c) (
 let r:=List.getD c (Int.toNat l) (aC (.num .i64))
 chk (ixl e b.branches) (
 let m:=List.getD b.branches (Int.toNat e) (aC (.num .i64))
 chk (ixl m c) (
 let f:=List.getD c (Int.toNat m) (aC (.num .i64))
 cond (decide (r<f)) (
 let g:=(IntKind.wrap .i64 (d+1))
 a (c,b,d,g)) (
 let h:=(IntKind.wrap .i64 (d+1))
 a (c,b,e,h)))))))))) (
 let i:=(IntKind.wrap .i64 (d+1))
 a (c,b,e,i))))) (
 some (.int .i64 e,[]))
theorem anE(N:Nat):LB (xL N) pI (ru N):=fun _ _=>by kernel_rfl
def oO(N:Nat)(a:aA)(b:List Int)(c:rt→Ro):Ro:=
 c (b,a,0,0)
def ae4(N:Nat)(a:aA)(b:List Int):Ro:=oO N a b (fun z=>aS N (ru N) z)
theorem apr(N:Nat)(a:aA)(c:List Int)(h:Tot (ae4 N a c) (fun z=>∃(d:Int)(rest:List aJ),z.1.dimR=.int .i64 d∧z.2=rest∧acs a c (d))):∃r,ny a c r:=arf.finP (N:=N) ((bM _ (by kernel_rfl) rfl (fun C=>oO N a c (fun z=>C 1000000 (pI z))) (fun C=>by kernel_rfl)).trans (Eq.trans (b:=oO N a c (fun z=>bo N (xL N) (pI z))) (by kernel_rfl) (congrArg (oO N a c) (funext fun z=>bk (pI) (xL N) (ru N) (anE N) N z)))) h fun _ ⟨d,_,e,_,q⟩=>⟨(d),e,q⟩
noncomputable def dg:aN:=tab (P:=Tryz.prog) [] [] [66] [asd]
def rv:IR:=Sq (Rs [Mv 12 4,Mv 13 3,Pp (.lnw 14 13),Bi 15 .lss 12 14] (Cn 15 .skip (.exit 0))) (Sq (.block 1 (Sq (.gh (.opn (.slot 3)) (.ghp (.cls (.slot 3)) (Rg [Mv 18 3,Mv 19 4,Pp (.ixw 20 (.num .i64) 18 19),Pp (.stw none 1 20 (kI (-1)))]))) (Rs [Fa 21 0 1,Lq 22 21,Mv 23 4,Ix 24 .atype 22 23,Fa 25 0 24,Lo 26 25,Bc 27 .neq 26 9,Mv 28 27,Gt 28 (.fad 29 0 1),Gt 28 (.lde 30 1 false 29),Gt 28 (.mov 31 4),Gt 28 (.ixa 32 .atype 30 31),Gt 28 (.fad 33 0 32),Gt 28 (.ld 34 1 false false 33),Gt 28 (.bin 35 .neq 34 (kI 14)),Pa 36 28 35] (Cn 36 (.gh (.opn (.slot 3)) (.ghp (.cls (.slot 3)) (Rg [Mv 37 3,Mv 38 4,Pp (.ixw 39 (.num .i64) 37 38),Pp (.stw none 1 39 (kI 0))]))) .skip)))) (Rg [Mv 16 4,Bc 17 .add 16 1,Mv 4 17]))
def acI:IR:=Sq (Rs [Mv 49 7,Mv 50 3,Pp (.lnw 51 50),Bi 52 .lss 49 51] (Cn 52 .skip (.exit 4))) (Sq (.block 5 (Sq (Sq (.gh (.opn (.slot 3)) (.ghp (.cls (.slot 3)) (Rg [Mv 55 3,Mv 56 7,Pp (.ixw 57 (.num .i64) 55 56),Pp (.ldw 58 1 false 57),Bc 59 .geq 58 0]))) (Cn 59 (.exit 5) .skip)) (.gh (.opn (.slot 3)) (.gh (.opn (.slot 6)) (.ghp (.cls (.slot 3)) (.ghp (.cls (.slot 6)) (Rg [Mv 60 6,Mv 61 7,Ld 62 1 true 1,Mv 63 7,Mv 64 3,Ca 65 66 [62,63,64],Pp (.ixw 66 (.num .i64) 60 61),Pp (.stw none 1 66 65)]))))))) (Rg [Mv 53 7,Bc 54 .add 53 1,Mv 7 54]))
def acJ:IR:=Rg [Pp (.mov 67 (.tk 6)),Pp (.mov 3 (.tk 67))]
def acK:IR:=Rg [Mv 44 5,Bc 45 .add 44 1,Mv 5 45]
def pJ:IR:=Sq (Rs [Mv 40 5,Mv 41 3,Pp (.lnw 42 41),Bi 43 .leq 40 42] (Cn 43 .skip (.exit 2))) (Sq (.block 3 (Sq (.gh (.opn (.slot 3)) (.ghp (.cls (.slot 3)) (Rg [Pp (.blu 46 (.num .i64)),Mv 47 3,Pp (.apw 48 (.num .i64) (.tk 46) 47),Pp (.mov 6 (.tk 48))]))) (Sq (Rs [Mi 7 0] (.block 4 (.loop [1,3,5,6,7,1000001] 0 acI))) acJ))) acK)
def wa:IR:=Rs [Pp (.mov 68 (.tk 3)),Pp (.mov 2 (.tk 68))] (.gh (.fz (.slot 2)) .ret)
def wb:IR:=Sq (Rs [Mi 5 0] (.block 2 (.loop [1,3,5,1000002] 0 pJ))) wa
def as5:IR:=Rs [Bx 1 0,Pp (.mov 2 (.c (.ul (.num .i64) ([]:List Int))))] (Rs [Fa 8 0 1,Lq 9 8,Ll 10 9,Pp (.mku 11 (.num .i64) 10),Pp (.mov 3 (.tk 11))] (Sq (Rs [Mi 4 0] (.block 0 (.loop [1,3,4,1000000] 0 rv))) wb))
def qp:List RV:=[.t 2]
theorem as6:FnC Tryz.prog dg [66,2000066] 0 aji Tryz.f28 as5 qp:=fnC Tryz.func28
def zr(R:IR→(Ex→St→Ro)→St→Ro)(a:St→Ro):Ex→St→Ro:=(bF a [1,3,4,1000000] 0 (aQ 0 (bv (R wb) (fin qp))))
abbrev jc:Type:=(List aA×List Int×Int)
def fe:jc→St:=fun(a,b,c)=>{env:=(.undef::.ea [.sl .atype (.may false) a]::.undef::.ul (.num .i64) b::.int .i64 c::(U 64 [])),hp:=[]}
def tf(R:IR→(Ex→St→Ro)→St→Ro)(a:St→Ro):Ex→St→Ro:=(bF a [1,3,5,1000002] 0 (aQ 2 (bv (R wa) (fin qp))))
abbrev gI:Type:=(List aA×List Int×Int)
def dm:gI→St:=fun(a,b,c)=>{env:=(.undef::.ea [.sl .atype (.may false) a]::.undef::.ul (.num .i64) b::.undef::.int .i64 c::(U 63 [])),hp:=[]}
def arg(R:IR→(Ex→St→Ro)→St→Ro)(a b:St→Ro):Ex→St→Ro:=(bF b [1,3,5,6,7,1000001] 0 (aQ 4 (bv (R acJ) (aQ 3 (bv (R acK) (tf R a))))))
abbrev tg:Type:=(List aA×List Int×Int×List Int×Int)
def nP:tg→St:=fun(a,b,c,d,e)=>{env:=(.undef::.ea [.sl .atype (.may false) a]::.undef::.ul (.num .i64) b::.undef::.int .i64 c::.ul (.num .i64) d::.int .i64 e::(U 61 [])),hp:=[]}
def th(N:Nat)(a:St→Ro):(St→Ro)→St→Ro:=fun b s=>run dg N acI (arg (run dg N) a b) s
def oP(N:Nat)(e:gI→Ro)(b:tg→Ro):tg→Ro:=fun(c,a,h,f,d)=>
 let i:=(↑(List.length a):Int)
 cond (decide (d<i)) (
 chk (decide (0<List.length a)) (
 chk (decide (0≤d)&&decide (d<↑(List.length a))) (
 chk (decide ((Int.toNat d)<List.length a)) (
 let j:=List.getD a (Int.toNat d) (aC (.num .i64))
 chk (Nat.beq (List.length a) (List.length a)) (
 cond (decide (0≤j)) (
 let k:=(IntKind.wrap .i64 (d+1))
 b (c,a,h,f,k)) (
 chk (decide (0<List.length a)) (
 chk (decide (0<List.length f)) (
 awm (pY c d a) (Nat.beq (List.length a) (List.length a)&&true) (fun(n:Int)=>
 chk (decide (0≤d)&&decide (d<↑(List.length f))) (
 chk (decide ((Int.toNat d)<List.length f)) (
 let g:=(List.set f (Int.toNat d) n)
 chk (Nat.beq (List.length f) (List.length g)) (
 chk (Nat.beq (List.length a) (List.length a)) (
 let l:=(IntKind.wrap .i64 (d+1))
 b (c,a,h,g,l)))))))))))))) (
 let m:=(IntKind.wrap .i64 (h+1))
 e (c,f,m))
theorem aps(N:Nat)(a:St→Ro):LB (th N a) nP (oP N (fun y=>a (dm y))):=fun _ _=>by kernel_rfl
def oQ(N:Nat):(St→Ro)→St→Ro:=fun a s=>run dg N pJ (tf (run dg N) a) s
def rx(N:Nat)(c:gI→Ro)(f:tg→Ro):gI→Ro:=fun(b,a,e)=>
 let d:=(↑(List.length a):Int)
 cond (decide (e≤d)) (
 chk (decide (0<List.length a)) (
 chk (Nat.beq (List.length a) (List.length a)&&decide ((List.length ([]:List Int)+List.length a)*8≤140737488355328)) (
 chk (Nat.beq (List.length a) (List.length a)) (
 f (b,a,e,(([]:List Int)++a),0))))) (
 some (.sl (.num .i64) .own a,[]))
def lX(N:Nat)(a:gI→Ro)(x:gI):Ro:=rx N a (fun z=>aS N (oP N a) z) x
def zt(N:Nat)(a:St→Ro):List (Nat×(St→Ro)):=(bP dg N pJ (tf (run dg N) a)++(bP dg N wa (fin qp)++[]))
theorem apt(N:Nat):∀(a:St→Ro)(x:gI),oQ N a (dm x)=lX N (fun y=>a (dm y)) x:=by
 intro a x
 have hX:∀C:Nat→St→Ro,cE C dg N pJ (tf (cE C dg N) a) (dm x)=rx N (fun y=>a (dm y)) (fun z=>C 1000001 (nP z)) x:=by
  intro C
  kernel_rfl
 have h:oQ N a (dm x)=rx N (fun y=>a (dm y)) (fun z=>bo N (th N a) (nP z)) x:=(dh (C:=eJ (zt N a)) (bU (aY (l:=(zt N a)) (by kernel_rfl))) (mH (de (eR (bU (dF (aY (l:=(zt N a)) (by kernel_rfl)))) rfl))) _).trans ((hX _).trans (by kernel_rfl))
 have e2:(fun z=>bo N (th N a) (nP z))=(fun z=>aS N (oP N (fun y=>a (dm y))) z):=funext fun z=>bk (nP) (th N a) (oP N (fun y=>a (dm y))) (aps N a) N z
 rw[h,e2]
 rfl
def ti(N:Nat):(St→Ro)→St→Ro:=fun a s=>run dg N rv (zr (run dg N) a) s
def ry(N:Nat)(b:jc→Ro)(h:gI→Ro):jc→Ro:=fun(a,e,c)=>
 let i:=(↑(List.length e):Int)
 cond (decide (c<i)) (
 chk (decide (0<List.length e)) (
 chk (decide (0≤c)&&decide (c<↑(List.length e))) (
 chk (decide ((Int.toNat c)<List.length e)) (
 let d:=(List.set e (Int.toNat c) (-1))
 chk (Nat.beq (List.length e) (List.length d)) (
 chk (ixl c a) (
 let j:=(List.getD a (Int.toNat c) (aC .atype))
 cond (!(j.kind==9)) (
 chk (ixl c a) (
 let k:=(List.getD a (Int.toNat c) (aC .atype))
 cond (!(k.kind==14)) (
 chk (decide (0<List.length d)) (
 chk (decide (0≤c)&&decide (c<↑(List.length d))) (
 chk (decide ((Int.toNat c)<List.length d)) (
 let g:=(List.set d (Int.toNat c) 0)
 chk (Nat.beq (List.length d) (List.length g)) (
 let l:=(IntKind.wrap .i64 (c+1))
 b (a,g,l)))))) (
 let m:=(IntKind.wrap .i64 (c+1))
 b (a,d,m)))) (
 let f:=(IntKind.wrap .i64 (c+1))
 b (a,d,f)))))))) (
 h (a,e,0))
def tj(N:Nat)(a:jc→Ro)(x:jc):Ro:=ry N a (fun z=>aS N (lX N) z) x
def zu(N:Nat)(a:St→Ro):List (Nat×(St→Ro)):=(bP dg N rv (zr (run dg N) a)++(bP dg N wb (fin qp)++[]))
theorem apv(N:Nat):∀(a:St→Ro)(x:jc),ti N a (fe x)=tj N (fun y=>a (fe y)) x:=by
 intro a x
 have hX:∀C:Nat→St→Ro,cE C dg N rv (zr (cE C dg N) a) (fe x)=ry N (fun y=>a (fe y)) (fun z=>C 1000002 (dm z)) x:=by
  intro C
  kernel_rfl
 have h:ti N a (fe x)=ry N (fun y=>a (fe y)) (fun z=>bo N (oQ N) (dm z)) x:=(dh (C:=eJ (zu N a)) (bU (aY (l:=(zu N a)) (by kernel_rfl))) (mH (de (eR (bU (dF (aY (l:=(zu N a)) (by kernel_rfl)))) rfl))) _).trans ((hX _).trans (by kernel_rfl))
 have e1:(fun z=>bo N (oQ N) (dm z))=(fun z=>aS N (lX N) z):=funext fun z=>bk (dm) (oQ N) (lX N) (apt N) N z
 rw[h,e1]
 rfl
def qq(N:Nat)(a:List aA)(c:jc→Ro):Ro:=
 let b:=(↑(List.length a):Int)
 chk (decide (0≤b)&&decide (b*8≤140737488355328)) (
 let d:=(List.replicate (Int.toNat b) (aC (.num .i64)))
 c (a,d,0))
def agV(N:Nat)(a:List aA):Ro:=qq N a (fun z=>aS N (tj N) z)
theorem arh(N:Nat)(a:List aA)(h:Tot (agV N a) (fun z=>∃(c:List Int)(rest:List aJ),z.1.dimR=.sl (.num .i64) (.may false) c∧z.2=rest∧xC a (c))):∃r,oz a r:=as6.finP (N:=N) ((bM _ (by kernel_rfl) rfl (fun C=>qq N a (fun z=>C 1000000 (fe z))) (fun C=>by kernel_rfl)).trans (Eq.trans (b:=qq N a (fun z=>bo N (ti N) (fe z))) (by kernel_rfl) (congrArg (qq N a) (funext fun z=>bk (fe) (ti N) (tj N) (apv N) N z)))) h fun _ ⟨c,_,e,_,q⟩=>⟨(c),e,q⟩
noncomputable def bZ:aN:=tab (P:=Tryz.prog) [] [] [] [agt]
def abx:IR:=Sq (Rs [Mv 61 9,Fa 62 8 8,Lq 63 62,Ll 64 63,Bi 65 .lss 61 64] (Cn 65 .skip (.exit 4))) (Sq (.block 5 (.gh (.opn (.slot 5)) (.ghp (.cls (.slot 5)) (.reg [Mv 68 5,Mv 69 7,Mv 70 5,Mv 71 7,Pp (.ixw 72 (.num .i64) 70 71),Fo [0] [] (.ldw 73 1 false 72),Mv 74 5,Fa 75 8 8,Lq 76 75,Mv 77 9,Ix 78 .afield 76 77,Fa 79 2 78,Fo [] [] (.ld 80 1 false false 79),Pp (.ixw 81 (.num .i64) 74 80),Fo [0] [] (.ldw 82 1 false 81),Bi 83 .add 73 82,Pp (.mx 84 true 83 (kI 1000000)),Pp (.ixw 85 (.num .i64) 68 69),Fo [] [0] (.stw none 1 85 84)] [[],[],[],[],[2,3],[2,3,4],[],[],[7],[],[7,8,9],rg 7 10,rg 7 11,rg 6 12,rg 6 13,rg 2 14,rg 2 15,rg 0 16,rg 0 17])))) (Rg [Mv 66 9,Bc 67 .add 66 1,Mv 9 67]))
def aaa:IR:=Rg [Mv 23 7,Bc 24 .add 23 1,Mv 7 24]
def n7:IR:=Sq (Rs [Mv 19 7,Mv 20 1,Ll 21 20,Bi 22 .lss 19 21] (Cn 22 .skip (.exit 2))) (Sq (.block 3 (Sq (Rs [Mv 25 1,Mv 26 7,Ix 27 (.num .i64) 25 26,Lq 28 27,Mv 29 6,Bi 30 .neq 28 29] (Cn 30 (.exit 3) .skip)) (Sq (.gh (.opn (.slot 5)) (.ghp (.cls (.slot 5)) (Rg [Mv 31 5,Mv 32 7,Pp (.ixw 33 (.num .i64) 31 32),Pp (.stw none 1 33 (kI 1))]))) (Rs [Fa 34 0 2,Lq 35 34,Mv 36 7,Ix 37 .atype 35 36,Ld 38 10 true 37,Pp (.alr 8 10),Fz 8 10 38] (Sq (Rs [Fa 39 0 8,Lq 40 39,Bc 41 .eql 40 14] (Cn 41 (.gh (.opn (.slot 5)) (.ghp (.cls (.slot 5)) (.reg [Mv 42 5,Mv 43 7,Mv 44 5,Mv 45 7,Pp (.ixw 46 (.num .i64) 44 45),Fo [2] [] (.ldw 47 1 false 46),Mv 48 5,Fa 49 9 8,Lq 50 49,Ld 51 10 true 8,Mv 52 1,Ca 53 67 [51,52],Ix 54 (.num .i64) 50 53,Lq 55 54,Pp (.ixw 56 (.num .i64) 48 55),Fo [2] [] (.ldw 57 1 false 56),Bi 58 .add 47 57,Pp (.mx 59 true 58 (kI 1000000)),Pp (.ixw 60 (.num .i64) 42 43),Fo [] [2] (.stw none 1 60 59)] [[],[],[],[],[2,3],[2,3,4],[],[],[7],[],[],[9,10],rg 7 11,rg 7 12,rg 6 13,rg 6 14,rg 2 15,rg 2 16,rg 0 17,rg 0 18]))) .skip)) (Rs [Mi 9 0] (.block 4 (.loop [1,2,5,6,7,8,9,1000000] 0 abx)))))))) aaa)
def sK:IR:=Rg [Mv 17 6,Bc 18 .add 17 1,Mv 6 18]
def n8:IR:=Sq (Rs [Mv 13 6,Mv 14 1,Ll 15 14,Bi 16 .leq 13 15] (Cn 16 .skip (.exit 0))) (Sq (.block 1 (Rs [Mi 7 0] (.block 2 (.loop [1,2,5,6,7,1000001] 0 n7)))) sK)
def n9:IR:=Rs [Pp (.mov 86 (.tk 5)),Pp (.mov 4 (.tk 86))] (.gh (.fz (.slot 4)) .ret)
def apx:IR:=Rs [Bx 2 0,Pp (.mov 4 (.c (.ul (.num .i64) ([]:List Int))))] (Rs [Mv 10 1,Ll 11 10,Pp (.mku 12 (.num .i64) 11),Pp (.mov 5 (.tk 12))] (Sq (Rs [Mi 6 0] (.block 0 (.loop [1,2,5,6,1000002] 0 n8))) n9))
def rz:List RV:=[.t 4]
theorem apy:FnC Tryz.prog bZ [] 0 aeM Tryz.f29 apx rz:=fnC Tryz.func29
def mP(R:IR→(Ex→St→Ro)→St→Ro)(a:St→Ro):Ex→St→Ro:=(bF a [1,2,5,6,1000002] 0 (aQ 0 (bv (R n9) (fin rz))))
abbrev eq:Type:=(List Int×List aA×List Int×Int)
def bN:eq→St:=fun(a,b,c,d)=>{env:=(.undef::.sl (.num .i64) (.may false) a::.ea [.sl .atype (.may false) b]::.undef::.undef::.ul (.num .i64) c::.int .i64 d::(U 80 [])),hp:=[]}
def pK(R:IR→(Ex→St→Ro)→St→Ro)(a b:St→Ro):Ex→St→Ro:=(bF b [1,2,5,6,7,1000001] 0 (aQ 2 (aQ 1 (bv (R sK) (mP R a)))))
abbrev fG:Type:=(List Int×List aA×List Int×Int×Int)
def cW:fG→St:=fun(a,b,c,d,e)=>{env:=(.undef::.sl (.num .i64) (.may false) a::.ea [.sl .atype (.may false) b]::.undef::.undef::.ul (.num .i64) c::.int .i64 d::.int .i64 e::(U 79 [])),hp:=[]}
def anF(R:IR→(Ex→St→Ro)→St→Ro)(a b c:St→Ro):Ex→St→Ro:=(bF c [1,2,5,6,7,8,9,1000000] 0 (aQ 4 (aQ 3 (bv (R aaa) (pK R a b)))))
abbrev pL:Type:=(List Int×List aA×List Int×Int×Int×aA×Int)
def lH:pL→St:=fun(a,b,c,d,e,f,g)=>{env:=(.undef::.sl (.num .i64) (.may false) a::.ea [.sl .atype (.may false) b]::.undef::.undef::.ul (.num .i64) c::.int .i64 d::.int .i64 e::.ea (enc .atype f)::.int .i64 g::(U 77 [])),hp:=[]}
def pM(N:Nat)(a b:St→Ro):(St→Ro)→St→Ro:=fun c s=>run bZ N abx (anF (run bZ N) a b c) s
def gG(N:Nat)(i:eq→Ro)(c:fG→Ro)(d:pL→Ro):pL→Ro:=fun(r,f,a,s,b,j,k)=>
 let l:=(↑(List.length j.fields):Int)
 cond (decide (k<l)) (
 chk (decide (0<List.length a)) (
 chk (decide (0≤b)&&decide (b<↑(List.length a))) (
 chk (decide ((Int.toNat b)<List.length a)) (
 let m:=List.getD a (Int.toNat b) (aC (.num .i64))
 chk (ixl k j.fields) (
 let e:=(List.getD j.fields (Int.toNat k) (aC .afield))
 chk (decide (0≤e.typ)&&decide (e.typ<↑(List.length a))) (
 chk (decide ((Int.toNat e.typ)<List.length a)) (
 let n:=List.getD a (Int.toNat e.typ) (aC (.num .i64))
 let g:=(IntKind.wrap .i64 (m+n))
 let o:=(if 1000000<g then 1000000 else g)
 chk (decide (0≤b)&&decide (b<↑(List.length a))) (
 chk (decide ((Int.toNat b)<List.length a)) (
 let h:=(List.set a (Int.toNat b) o)
 chk (Nat.beq (List.length a) (List.length h)) (
 let p:=(IntKind.wrap .i64 (k+1))
 d (r,f,h,s,b,j,p))))))))))) (
 let q:=(IntKind.wrap .i64 (b+1))
 c (r,f,a,s,q))
theorem al8(N:Nat)(a b:St→Ro):LB (pM N a b) lH (gG N (fun y=>a (bN y)) (fun y=>b (cW y))):=fun _ _=>by kernel_rfl
def mQ(N:Nat)(a:St→Ro):(St→Ro)→St→Ro:=fun b s=>run bZ N n7 (pK (run bZ N) a b) s
def oR(N:Nat)(d:eq→Ro)(e:fG→Ro)(p:pL→Ro):fG→Ro:=fun(g,a,h,j,b)=>
 let r:=(↑(List.length g):Int)
 cond (decide (b<r)) (
 chk (ixl b g) (
 let s:=List.getD g (Int.toNat b) (aC (.num .i64))
 cond (!(s==j)) (
 let t:=(IntKind.wrap .i64 (b+1))
 e (g,a,h,j,t)) (
 chk (decide (0<List.length h)) (
 chk (decide (0≤b)&&decide (b<↑(List.length h))) (
 chk (decide ((Int.toNat b)<List.length h)) (
 let c:=(List.set h (Int.toNat b) 1)
 chk (Nat.beq (List.length h) (List.length c)) (
 chk (ixl b a) (
 let i:=(List.getD a (Int.toNat b) (aC .atype))
 cond (i.kind==14) (
 chk (decide (0<List.length c)) (
 chk (decide (0≤b)&&decide (b<↑(List.length c))) (
 chk (decide ((Int.toNat b)<List.length c)) (
 let u:=List.getD c (Int.toNat b) (aC (.num .i64))
 aE (ny i g) (fun(q:Int)=>
 chk (ixl q i.branches) (
 let f:=List.getD i.branches (Int.toNat q) (aC (.num .i64))
 chk (decide (0≤f)&&decide (f<↑(List.length c))) (
 chk (decide ((Int.toNat f)<List.length c)) (
 let m:=List.getD c (Int.toNat f) (aC (.num .i64))
 let k:=(IntKind.wrap .i64 (u+m))
 let n:=(if 1000000<k then 1000000 else k)
 chk (decide (0≤b)&&decide (b<↑(List.length c))) (
 chk (decide ((Int.toNat b)<List.length c)) (
 let l:=(List.set c (Int.toNat b) n)
 chk (Nat.beq (List.length c) (List.length l)) (
 p (g,a,l,j,b,i,0)))))))))))) (
 p (g,a,c,j,b,i,0)))))))))) (
 let o:=(IntKind.wrap .i64 (j+1))
 d (g,a,h,o))
def mR(N:Nat)(a:eq→Ro)(b:fG→Ro)(x:fG):Ro:=oR N a b (fun z=>aS N (gG N a b) z) x
def pN(N:Nat)(a b:St→Ro):List (Nat×(St→Ro)):=(bP bZ N n7 (pK (run bZ N) a b)++(bP bZ N sK (mP (run bZ N) a)++(bP bZ N n9 (fin rz)++[])))
theorem al9(N:Nat)(b:St→Ro):∀(a:St→Ro)(x:fG),mQ N b a (cW x)=mR N (fun y=>b (bN y)) (fun y=>a (cW y)) x:=by
 intro a x
 have hX:∀C:Nat→St→Ro,cE C bZ N n7 (pK (cE C bZ N) b a) (cW x)=oR N (fun y=>b (bN y)) (fun y=>a (cW y)) (fun z=>C 1000000 (lH z)) x:=by
  intro C
  kernel_rfl
 have h:mQ N b a (cW x)=oR N (fun y=>b (bN y)) (fun y=>a (cW y)) (fun z=>bo N (pM N b a) (lH z)) x:=(dh (C:=eJ (pN N b a)) (bU (aY (l:=(pN N b a)) (by kernel_rfl))) (mH (de (de (eR (bU (dF (aY (l:=(pN N b a)) (by kernel_rfl)))) (mH (de (eR (bU (dF (dF (aY (l:=(pN N b a)) (by kernel_rfl))))) rfl))))))) _).trans ((hX _).trans (by kernel_rfl))
 have e2:(fun z=>bo N (pM N b a) (lH z))=(fun z=>aS N (gG N (fun y=>b (bN y)) (fun y=>a (cW y))) z):=funext fun z=>bk (lH) (pM N b a) (gG N (fun y=>b (bN y)) (fun y=>a (cW y))) (al8 N b a) N z
 rw[h,e2]
 rfl
def pO(N:Nat):(St→Ro)→St→Ro:=fun a s=>run bZ N n8 (mP (run bZ N) a) s
def oS(N:Nat)(b:eq→Ro)(f:fG→Ro):eq→Ro:=fun(c,a,d,e)=>
 let g:=(↑(List.length c):Int)
 cond (decide (e≤g)) (
 f (c,a,d,e,0)) (
 some (.sl (.num .i64) .own d,[]))
def pP(N:Nat)(a:eq→Ro)(x:eq):Ro:=oS N a (fun z=>aS N (mR N a) z) x
def wc(N:Nat)(a:St→Ro):List (Nat×(St→Ro)):=(bP bZ N n8 (mP (run bZ N) a)++(bP bZ N n9 (fin rz)++[]))
theorem ama(N:Nat):∀(a:St→Ro)(x:eq),pO N a (bN x)=pP N (fun y=>a (bN y)) x:=by
 intro a x
 have hX:∀C:Nat→St→Ro,cE C bZ N n8 (mP (cE C bZ N) a) (bN x)=oS N (fun y=>a (bN y)) (fun z=>C 1000001 (cW z)) x:=by
  intro C
  kernel_rfl
 have h:pO N a (bN x)=oS N (fun y=>a (bN y)) (fun z=>bo N (mQ N a) (cW z)) x:=(dh (C:=eJ (wc N a)) (bU (aY (l:=(wc N a)) (by kernel_rfl))) (mH (de (eR (bU (dF (aY (l:=(wc N a)) (by kernel_rfl)))) rfl))) _).trans ((hX _).trans (by kernel_rfl))
 have e1:(fun z=>bo N (mQ N a) (cW z))=(fun z=>aS N (mR N (fun y=>a (bN y))) z):=funext fun z=>bk (cW) (mQ N a) (mR N (fun y=>a (bN y))) (al9 N a) N z
 rw[h,e1]
 rfl
def nQ(N:Nat)(a:List aA)(c:List Int)(d:eq→Ro):Ro:=
 let b:=(↑(List.length c):Int)
 chk (decide (0≤b)&&decide (b*8≤140737488355328)) (
 let e:=(List.replicate (Int.toNat b) (aC (.num .i64)))
 d (c,a,e,0))
def adR(N:Nat)(a:List aA)(b:List Int):Ro:=nQ N a b (fun z=>aS N (pP N) z)
theorem anG(N:Nat)(a:List aA)(c:List Int)(h:Tot (adR N a c) (fun z=>∃(d:List Int)(rest:List aJ),z.1.dimR=.sl (.num .i64) (.may false) d∧z.2=rest∧ud a c (d))):∃r,iV a c r:=apy.finP (N:=N) ((bM _ (by kernel_rfl) rfl (fun C=>nQ N a c (fun z=>C 1000002 (bN z))) (fun C=>by kernel_rfl)).trans (Eq.trans (b:=nQ N a c (fun z=>bo N (pO N) (bN z))) (by kernel_rfl) (congrArg (nQ N a c) (funext fun z=>bk (bN) (pO N) (pP N) (ama N) N z)))) h fun _ ⟨d,_,e,_,q⟩=>⟨(d),e,q⟩
end Go.Proofs.YtdpajabhmmmjoaaGreat
end
noncomputable section
namespace Go.Proofs.YtdpajabhmmmjoaaGreat
open Go.AM
set_option autoImplicit false
set_option linter.unusedVariables false
set_option linter.unusedSimpArgs false
theorem oA{α:Type}(l:List α)(i:Nat)(x d:α)(h:i<l.length):(l.set i x).getD i d=x:=by
 simp[List.getD_eq_getElem?_getD,List.getElem?_set,h]
theorem lY{α:Type}(l:List α)(i j:Nat)(x d:α)(h:i≠j):(l.set i x).getD j d=l.getD j d:=by
 simp[List.getD_eq_getElem?_getD,List.getElem?_set,h]
theorem fH{α:Type}(l:List α)(i:Nat)(d:α)(h:i<l.length):l.getD i d∈l:=by
 rw[List.getD_eq_getElem?_getD,List.getElem?_eq_getElem h];exact List.getElem_mem h
theorem yS.mono{k:aA}{r r':List Int}{m:Int}(h:yS k r m)(hl:r'.length=r.length)(hr:∀i,0≤r.getD i 0→r'.getD i 0=r.getD i 0):yS k r' m where
 pos:=h.pos
 uni h14:=by
  obtain⟨b,hb,h0,h1⟩:=h.uni h14
  exact⟨b,hb,by unfold rk at *;rw[hr _ h0];exact h0,by unfold rk at *;rw[hr _ h0];exact h1⟩
 rcd h14 f hf:=by
  obtain⟨h0,h1⟩:=h.rcd h14 f hf
  exact⟨by unfold rk at *;rw[hr _ h0];exact h0,by unfold rk at *;rw[hr _ h0];exact h1⟩
 pre h2:=by
  obtain⟨j,hj,e⟩:=h.pre h2
  exact⟨j,by omega,by rw[hr _ (by omega)];exact e⟩
theorem jI.step{ts:List aA}{r next:List Int}{m:Int}(h:jI ts r m)(hm:0≤m)(hl:next.length=ts.length)(h1:∀j,j<ts.length→0≤r.getD j 0→next.getD j 0=r.getD j 0)
  (h2:∀j,j<ts.length→r.getD j 0<0→next.getD j 0=-1∨yS (ts.getD j (aC .atype)) r (next.getD j 0)):jI ts next (m+1):=by
 have hrl:=h.len
 have hmono:∀i,0≤r.getD i 0→next.getD i 0=r.getD i 0:=fun i hi=>by
  by_cases hil:i<ts.length
  ·exact h1 i hil hi
  ·simp[List.getD_eq_getElem?_getD,List.getElem?_eq_none (show next.length≤i by omega),List.getElem?_eq_none (show r.length≤i by omega)]
 refine⟨hl,fun i hi=>?_,fun i hi=>?_,fun i hi h'=>?_,fun i hi h'=>?_⟩
 ·by_cases h0:0≤r.getD i 0
  ·rw[hmono i h0];omega
  ·rcases h2 i (by omega) (by omega) with e|e
   ·omega
   ·have:=e.pos;omega
 ·by_cases h0:0≤r.getD i 0
  ·rw[hmono i h0];have:=h.top i (by omega);omega
  ·rcases h2 i (by omega) (by omega) with e|e
   ·omega
   ·by_cases hp:2≤next.getD i 0
    ·obtain⟨j,hj,ej⟩:=e.pre hp
     have:=h.top j hj;omega
    ·omega
 ·by_cases h0:0≤r.getD i 0
  ·rw[hmono i h0] at h' ⊢;exact(h.ok i (by omega) h').mono (by omega) hmono
  ·rcases h2 i (by omega) (by omega) with e|e
   ·omega
   ·exact e.mono (by omega) hmono
 ·by_cases h0:0≤r.getD i 0
  ·rw[hmono i h0] at h';exact h.nul i (by omega) h'
  ·rcases h2 i (by omega) (by omega) with e|e
   ·omega
   ·have:=e.pos;omega
def zv(n:Int):List Int→Nat
 | []=>0
 |x::l=>(if 1≤x∧x≤n then 1 else 0)+zv n l
theorem azJ(n:Int):∀l,zv n l≤l.length
 | []=>by simp[zv]
 |x::l=>by have:=azJ n l;simp only[zv,List.length_cons];split<;>omega
theorem auc(n:Int):∀l,zv n l≤zv (n+1) l
 | []=>by simp[zv]
 |x::l=>by have:=auc n l;simp only[zv];split<;>split<;>omega
theorem amb(n:Int)(hn:0≤n):∀(l:List Int)(j:Nat),j<l.length→l.getD j 0=n+1→zv n l+1≤zv (n+1) l
 | [],j,h,_=>by simp at h
 |x::l,0,h,e=>by
  have:=auc n l
  simp only[List.getD_cons_zero] at e
  simp only[zv]
  rw[if_neg (by omega),if_pos (by omega)];omega
 |x::l,j+1,h,e=>by
  have:=amb n hn l j (by simpa using h) (by simpa using e)
  simp only[zv];split<;>split<;>omega
theorem jI.chain{ts:List aA}{r:List Int}{m:Int}(h:jI ts r m):∀(n j:Nat),j<r.length→r.getD j 0=(n:Int)+1→n+1≤zv ((n:Int)+1) r
 |0,j,hj,e=>by have:=amb 0 (by omega) r j hj (by simpa using e);simpa using (by omega:1≤zv (0+1) r)
 |n+1,j,hj,e=>by
  obtain⟨j',hj',e'⟩:=(h.ok j hj (by omega)).pre (by omega)
  have ih:=jI.chain h n j' hj' (by omega)
  have:=amb ((n:Int)+1) (by omega) r j hj (by omega)
  have ec:(((n+1:Nat):Int)+1)=(n:Int)+1+1:=by omega
  rw[ec];omega
theorem jI.fin{ts:List aA}{r:List Int}{m:Int}(h:jI ts r m):jI ts r ts.length:=by
 refine⟨h.len,h.low,fun i hi=>?_,h.ok,h.nul⟩
 by_cases h1:1≤r.getD i 0
 ·have:=h.chain ((r.getD i 0).toNat-1) i hi (by omega)
  have h2:=azJ ((((r.getD i 0).toNat-1:Nat):Int)+1) r
  have:=h.len
  omega
 ·omega
theorem aby{ts:List aA}{r:List Int}{m:Int}{k:aA}{q:Int}(h:yS k r q)(h14:k.kind=14){b:Int}(hb:adn k r b):0≤rk r (brT k b.toNat)∧rk r (brT k b.toNat)<q:=by
 obtain⟨x,hx,h0,h1⟩:=h.uni h14
 obtain⟨j,hj,rfl⟩:=List.mem_iff_getElem.1 hx
 have e:brT k j=k.branches[j]:=by simp[brT,List.getD_eq_getElem?_getD,List.getElem?_eq_getElem hj]
 have:=hb.least j hj (by rw[e];exact h0)
 rw[e] at this
 omega
theorem apz(w:List Int)(i:Nat)(x:Int):∀l:List aO,(∀f∈l,f.typ.toNat≠i)→nK (w.set i x) l=nK w l
 | [],_=>rfl
 |f::l,h=>by
  have:=apz w i x l fun f hf=>h f (by simp[hf])
  simp only[nK,this,rk]
  rw[lY _ _ _ _ _ (fun e=>h f (by simp) e.symm)]
theorem mz.set{ts:List aA}{r w:List Int}{m:Int}(hR:jI ts r m){i j:Nat}{x:Int}(hj:j<r.length)(hr:0≤r.getD j 0)(hle:r.getD j 0≤r.getD i 0)(hne:i≠j)
  (h:mz (ts.getD j (aC .atype)) r w (w.getD j 0)):mz (ts.getD j (aC .atype)) r (w.set i x) ((w.set i x).getD j 0):=by
 rw[lY _ _ _ _ _ hne]
 refine⟨h.pos,h.top,fun h9=>?_,fun h14 b hb=>?_⟩
 ·have hk:1≤r.getD j 0:=by
   by_cases h0:r.getD j 0=0
   ·exact absurd h9 (hR.nul j hj h0).1
   ·omega
  rw[apz w i x _ fun f hf e=>?_]
  ·exact h.rcd h9
  ·have:=(hR.ok j hj hk).rcd (by omega) f hf
   unfold rk at this
   rw[e] at this;omega
 ·have hk:1≤r.getD j 0:=by
   by_cases h0:r.getD j 0=0
   ·exact absurd h14 (hR.nul j hj h0).2
   ·omega
  have hc:=aby (ts:=ts) (m:=m) (hR.ok j hj hk) h14 hb
  have hu:=h.uni h14 b hb
  unfold rk at hc hu ⊢
  rw[lY _ _ _ _ _ (fun e=>by rw[←e] at hc;omega)]
  exact hu
theorem aok{w:List Int}:∀{l:List aO},(∀f∈l,0≤rk w f.typ)→0≤nK w l
 | [],_=>by simp[nK]
 |f::l,h=>by
  have h1:=h f (by simp)
  have:=aok (w:=w) (l:=l) fun f hf=>h f (by simp[hf])
  simp only[nK];omega
theorem apA{w:List Int}:∀{l:List aO},(∀f∈l,0≤rk w f.typ)→∀f∈l,rk w f.typ≤nK w l
 | [],_=>fun f hf=>by simp at hf
 |g::l,h=>fun f hf=>by
  have h1:=h g (by simp)
  have h2:=aok (w:=w) (l:=l) fun f hf=>h f (by simp[hf])
  simp only[nK]
  rcases List.mem_cons.1 hf with rfl|hf
  ·omega
  ·have:=apA (w:=w) (l:=l) (fun f hf=>h f (by simp[hf])) f hf;omega
theorem apB(w:List Int):∀l m:List aO,nK w (l++m)=nK w l+nK w m
 | [],m=>by simp[nK]
 |f::l,m=>by simp only[List.cons_append,nK,apB w l m];omega
theorem ae5{α:Type}(l:List α)(i:Nat)(d:α)(h:i<l.length):l.take (i+1)=l.take i++[l.getD i d]:=by
 rw[List.take_add_one,List.getElem?_eq_getElem h,List.getD_eq_getElem?_getD,List.getElem?_eq_getElem h];rfl
end Go.Proofs.YtdpajabhmmmjoaaGreat
end
noncomputable section
namespace Go.Proofs.YtdpajabhmmmjoaaGreat
open Go.AM
set_option autoImplicit false
set_option linter.unusedVariables false
set_option linter.unusedSimpArgs false
set_option maxRecDepth 100000
theorem dJ.at{ts:List aA}(hs:dJ ts){i:Nat}(h:i<ts.length):iR ts.length (ts.getD i (aC .atype)):=hs.2 _ (fH _ _ _ h)
theorem aAy(ts:List aA)(hs:dJ ts)(t:Int)(ht:0≤t∧t<ts.length)(r:List Int)(hr:r.length=ts.length)(hb:∀i,i<r.length→-1≤r.getD i 0∧r.getD i 0≤100):∃m,pY ts t r m:=by
 apply apo 1000
 unfold ae2 oN
 dsimp only
 have hk:=hs.at (i:=t.toNat) (by omega)
 have hpost:∀m,vV ts t r m=(m=-1∨yS (ts.getD t.toNat (aC .atype)) r m):=fun _=>rfl
 simp only[hpost]
 generalize ts.getD t.toNat (aC .atype)=k at hk
 have hn:=hs.1
 refine vck ?_
 refine aD (fun h14=>?_) (fun h14=>?_)
 ·simp only[bnl] at h14
  refine bm (fun x=>match x with
   |(r',k',best,i)=>r'=r∧k'=k∧0≤i∧i≤(k.branches.length:Int)∧ -1≤best∧best≤100∧(0≤best→∃b∈k.branches,rk r b=best))
   (fun x=>((k.branches.length:Int)-x.2.2.2).toNat) ?_ _ _ ⟨rfl,rfl,by simp,by simp,by simp,by simp,by simp⟩ (by have:=hk.nb;simp;omega)
  rintro again ⟨r',k',best,i⟩ ⟨rfl,rfl,i1,i2,i3,i4,i5⟩ ih
  dsimp only at ih
  unfold rn
  dsimp only
  have hnb:=hk.nb
  refine aD (fun h=>?_) (fun h=>?_)
  ·have h:=of_decide_eq_true h
   have hi:i.toNat<k'.branches.length:=by omega
   have hbr:=hk.branches _ (fH k'.branches i.toNat 0 hi)
   have ew:IntKind.i64.wrap (i+1)=i+1:=aI (i+1) (by omega)
   refine vck ?_
   change Tot (chk (decide (0≤k'.branches.getD i.toNat 0)&&decide (k'.branches.getD i.toNat 0<(r'.length:Int))) _) _
   have hm:=fH k'.branches i.toNat 0 hi
   have hq:=hb (k'.branches.getD i.toNat 0).toNat (by omega)
   refine vck ?_
   have nx:∀b:Int,(b=best∨(0≤rk r' (k'.branches.getD i.toNat 0)∧b=rk r' (k'.branches.getD i.toNat 0)))→Tot (again (r',k',b,IntKind.i64.wrap (i+1))) _:=fun b hb'=>ih (r',k',b,IntKind.i64.wrap (i+1)) (by
    simp only[ew]
    rcases hb' with rfl|⟨h0,rfl⟩
    ·exact⟨trivial,trivial,by omega,by omega,i3,i4,i5⟩
    ·exact⟨trivial,trivial,by omega,by omega,hq.1,hq.2,fun _=>⟨_,hm,rfl⟩⟩) (by simp only[ew];omega)
   refine aD (fun h0=>?_) (fun h0=>nx _ (.inl rfl))
   have h0:=of_decide_eq_true h0
   refine aD (fun _=>nx _ (.inr ⟨h0,rfl⟩)) (fun _=>aD (fun _=>nx _ (.inr ⟨h0,rfl⟩)) (fun _=>nx _ (.inl rfl)))
  ·refine aD (fun h1=>aG ⟨_,_,rfl,rfl,.inl rfl⟩) (fun h1=>?_)
   have h1:=of_decide_eq_false h1
   obtain⟨b,hbm,hbe⟩:=i5 (by omega)
   have hbr:=hk.branches b hbm
   refine aG ⟨_,_,rfl,rfl,.inr ?_⟩
   rw[aI _ (by omega)]
   refine⟨by omega,fun _=>⟨b,hbm,by omega,by omega⟩,fun hne=>absurd h14 hne,fun _=>⟨b.toNat,by omega,?_⟩⟩
   have:r'.getD b.toNat 0=best:=hbe
   omega
 ·simp only[bnl] at h14
  refine bm (fun x=>match x with
   |(r',k',most,i)=>r'=r∧k'=k∧0≤i∧i≤(k.fields.length:Int)∧0≤most∧most≤100∧(∀f∈k.fields.take i.toNat,0≤rk r f.typ∧rk r f.typ≤most)∧(1≤most→∃j,j<r.length∧r.getD j 0=most))
   (fun x=>((k.fields.length:Int)-x.2.2.2).toNat) ?_ _ _ ⟨rfl,rfl,by simp,by simp,by simp,by simp,by simp,by simp⟩ (by have:=hk.nf;simp;omega)
  rintro again ⟨r',k',most,i⟩ ⟨rfl,rfl,i1,i2,i3,i4,i5,i6⟩ ih
  dsimp only at ih
  unfold rq
  dsimp only
  have hnf:=hk.nf
  refine aD (fun h=>?_) (fun h=>?_)
  ·have h:=of_decide_eq_true h
   have hi:i.toNat<k'.fields.length:=by omega
   have hm:=fH k'.fields i.toNat (aC .afield) hi
   have hf:=hk.fields _ hm
   have ew:IntKind.i64.wrap (i+1)=i+1:=aI (i+1) (by omega)
   have ht:=ae5 k'.fields i.toNat (aC .afield) hi
   generalize k'.fields.getD i.toNat (aC .afield)=f at*
   refine vck (vck ?_)
   have hq:=hb f.typ.toNat (by omega)
   refine aD (fun h0=>aG ⟨_,_,rfl,rfl,.inl rfl⟩) (fun h0=>?_)
   have h0:¬r'.getD f.typ.toNat 0<0:=of_decide_eq_false h0
   refine ih (r',k',_,_) ?_ (by simp only[ew];omega)
   simp only[ew]
   have ei:(i+1).toNat=i.toNat+1:=by omega
   have em:(if most<r'.getD f.typ.toNat (aC (.num .i64)) then r'.getD f.typ.toNat (aC (.num .i64)) else most)=(if most<r'.getD f.typ.toNat 0 then r'.getD f.typ.toNat 0 else most):=rfl
   rw[em,ei,ht]
   refine⟨trivial,trivial,by omega,by omega,by split<;>omega,by split<;>omega,fun g hg=>?_,fun h1=>?_⟩
   ·rcases List.mem_append.1 hg with hg|hg
    ·have:=i5 g hg;split<;>omega
    ·rw[List.mem_singleton] at hg
     subst hg
     have:rk r' g.typ=r'.getD g.typ.toNat 0:=rfl
     rw[this];split<;>omega
   ·split
    ·exact⟨f.typ.toNat,by omega,rfl⟩
    ·rename_i hh;rw[if_neg hh] at h1;exact i6 h1
  ·have h:=of_decide_eq_false h
   refine aG ⟨_,_,rfl,rfl,.inr ?_⟩
   rw[aI _ (by omega)]
   rw[List.take_of_length_le (by omega)] at i5
   refine⟨by omega,fun h'=>absurd h' h14,fun _ f hf=>by have:=i5 f hf;omega,fun h2=>?_⟩
   obtain⟨j,hj,e⟩:=i6 (by omega)
   exact⟨j,hj,by omega⟩
theorem ari(k:aA)(m:Nat)(hk:iR m k)(h14:k.kind=14)(r:List Int)(hr:r.length=m):∃b,ny k r b:=by
 apply apr 1000
 unfold ae4 oO
 have hne:k.branches≠[]:=hk.done h14
 have hlen:0<k.branches.length:=List.length_pos_iff.2 hne
 have hnb:=hk.nb
 refine bm (fun x=>match x with
  |(r',k',b,i)=>r'=r∧k'=k∧0≤i∧i≤(k.branches.length:Int)∧0≤b∧b<k.branches.length∧(b≤i)∧(∀j:Nat,(j:Int)<i→0≤rk r (brT k j)→0≤rk r (brT k b.toNat)∧rk r (brT k b.toNat)≤rk r (brT k j))∧
   (∀j,j<b.toNat→0≤rk r (brT k j)→rk r (brT k b.toNat)<rk r (brT k j)))
  (fun x=>((k.branches.length:Int)-x.2.2.2).toNat) ?_ _ _ ⟨rfl,rfl,by simp,by simp,by simp,by omega,by simp,fun j hj=>by omega,fun j hj=>by simp at hj⟩ (by simp;omega)
 rintro again ⟨r',k',b,i⟩ ⟨rfl,rfl,i1,i2,i3,i4,i7,i5,i6⟩ ih
 dsimp only at ih
 unfold ru
 dsimp only
 refine aD (fun h=>?_) (fun h=>?_)
 ·have h:=of_decide_eq_true h
  have hi:i.toNat<k'.branches.length:=by omega
  have hbr:=hk.branches _ (fH k'.branches i.toNat 0 hi)
  have hbb:=hk.branches _ (fH k'.branches b.toNat 0 (by omega))
  have ew:IntKind.i64.wrap (i+1)=i+1:=aI (i+1) (by omega)
  have keep:(0≤rk r' (brT k' i.toNat)→0≤rk r' (brT k' b.toNat)∧rk r' (brT k' b.toNat)≤rk r' (brT k' i.toNat))→Tot (again (r',k',b,IntKind.i64.wrap (i+1))) _:=fun hk'=>ih (r',k',b,IntKind.i64.wrap (i+1)) (by
   simp only[ew]
   refine⟨trivial,trivial,by omega,by omega,i3,i4,by omega,fun j hj h0=>?_,i6⟩
   by_cases hji:(j:Int)<i
   ·exact i5 j hji h0
   ·have e:j=i.toNat:=by omega
    rw[e] at h0 ⊢;exact hk' h0) (by simp only[ew];omega)
  have turn:0≤rk r' (brT k' i.toNat)→(0≤rk r' (brT k' b.toNat)→rk r' (brT k' i.toNat)<rk r' (brT k' b.toNat))→Tot (again (r',k',i,IntKind.i64.wrap (i+1))) _:=fun h0 hlt=>ih (r',k',i,IntKind.i64.wrap (i+1)) (by
   simp only[ew]
   refine⟨trivial,trivial,by omega,by omega,i1,h,by omega,fun j hj h0'=>?_,fun j hj h0'=>?_⟩
   ·by_cases hji:(j:Int)<i
    ·have:=i5 j hji h0'
     have:=hlt this.1
     omega
    ·have e:j=i.toNat:=by omega
     rw[e];exact⟨h0,Int.le_refl _⟩
   ·have:=i5 j (by omega) h0'
    have:=hlt this.1
    omega) (by simp only[ew];omega)
  refine vck ?_
  change Tot (chk (decide (0≤brT k' i.toNat)&&decide (brT k' i.toNat<(r'.length:Int))) (cond (decide (0≤rk r' (brT k' i.toNat))) (chk _ (chk (decide (0≤brT k' b.toNat)&&decide (brT k' b.toNat<(r'.length:Int))) (cond (decide (rk r' (brT k' b.toNat)<0)) _
   (chk _ (chk (decide (0≤brT k' i.toNat)&&decide (brT k' i.toNat<(r'.length:Int))) (chk _ (chk (decide (0≤brT k' b.toNat)&&decide (brT k' b.toNat<(r'.length:Int))) (cond (decide (rk r' (brT k' i.toNat)<rk r' (brT k' b.toNat))) _ _)))))))) _)) _
  have hbr:0≤brT k' i.toNat∧brT k' i.toNat<(m:Int):=hbr
  have hbb:0≤brT k' b.toNat∧brT k' b.toNat<(m:Int):=hbb
  refine vck (aD (fun h0=>?_) (fun h0=>keep fun h0'=>absurd h0' (of_decide_eq_false h0)))
  have h0:=of_decide_eq_true h0
  refine vck (vck (aD (fun h1=>turn h0 fun h1'=>absurd h1' (Int.not_le.2 (of_decide_eq_true h1))) (fun h1=>?_)))
  have h1:=of_decide_eq_false h1
  refine vck (vck (vck (vck (aD (fun h2=>turn h0 fun _=>of_decide_eq_true h2) (fun h2=>keep fun _=>?_)))))
  have h2:=of_decide_eq_false h2
  omega
 ·have h:=of_decide_eq_false h
  exact aG ⟨_,_,rfl,rfl,i3,i4,fun j hj=>i5 j (by omega),i6⟩
theorem aud(ts:List aA)(hs:dJ ts):∃r,oz ts r:=by
 apply arh 1000
 unfold agV qq
 dsimp only
 obtain⟨⟨hn0,hn⟩,hall⟩:=hs
 have hs:dJ ts:=⟨⟨hn0,hn⟩,hall⟩
 refine vck ?_
 have rounds:∀r,jI ts r 0→Tot (aS 1000 (lX 1000) (ts,r,0)) (fun z=>∃(y0:List Int)(rest:List aJ),z.1.dimR=.sl (.num .i64) (.may false) y0∧z.2=rest∧xC ts y0):=by
  intro r hr
  refine bm (fun x=>match x with|(ts',r,n)=>ts'=ts∧0≤n∧n≤(ts.length:Int)+1∧jI ts r n)
   (fun x=>((ts.length:Int)+1-x.2.2).toNat) ?_ _ _ ⟨rfl,by simp,by omega,hr⟩ (by simp only;omega)
  rintro again ⟨ts',r,n⟩ ⟨rfl,i1,i2,i3⟩ ih
  dsimp only at ih
  unfold lX rx
  dsimp only
  have hrl:=i3.len
  refine aD (fun h=>?_) (fun h=>aG ⟨_,_,rfl,rfl,i3.fin⟩)
  have h:=of_decide_eq_true h
  have ew:IntKind.i64.wrap (n+1)=n+1:=aI (n+1) (by omega)
  refine vck (vck (vck ?_))
  refine bm (fun x=>match x with|(ts2,r2,n2,next,i)=>ts2=ts'∧r2=r∧n2=n∧0≤i∧i≤(ts'.length:Int)∧next.length=ts'.length∧(∀j,j<ts'.length→(0≤r.getD j 0∨i≤(j:Int))→next.getD j 0=r.getD j 0)∧
    (∀j,j<ts'.length→(j:Int)<i→r.getD j 0<0→next.getD j 0=-1∨yS (ts'.getD j (aC .atype)) r (next.getD j 0)))
   (fun x=>((ts'.length:Int)-x.2.2.2.2).toNat) ?_ _ _ ⟨rfl,rfl,rfl,by simp,by simp,by simpa using hrl,fun j _ _=>rfl,fun j _ hj=>by omega⟩ (by simp;omega)
  rintro again2 ⟨ts2,r2,n2,next,i⟩ ⟨rfl,rfl,rfl,j1,j2,j3,j4,j5⟩ ih2
  dsimp only at ih2
  unfold oP
  dsimp only
  refine aD (fun h'=>?_) (fun h'=>?_)
  ·have h':=of_decide_eq_true h'
   have ei:IntKind.i64.wrap (i+1)=i+1:=aI (i+1) (by omega)
   have hil:i.toNat<ts2.length:=by omega
   refine vck (vck (vck (vck ?_)))
   refine aD (fun h0=>?_) (fun h0=>?_)
   ·have h0:0≤r2.getD i.toNat 0:=of_decide_eq_true h0
    refine ih2 (ts2,r2,n2,next,_) ?_ (by simp only[ei];omega)
    simp only[ei]
    refine⟨trivial,trivial,trivial,by omega,by omega,j3,fun j hj hc=>j4 j hj (by omega),fun j hj hji hneg=>?_⟩
    by_cases hh:(j:Int)<i
    ·exact j5 j hj hh hneg
    ·have:j=i.toNat:=by omega
     rw[this] at hneg;omega
   ·have h0:¬0≤r2.getD i.toNat 0:=of_decide_eq_false h0
    refine vck (vck ?_)
    refine azF (by simp) (aAy ts2 hs i (by omega) r2 hrl fun q hq=>⟨i3.low q hq,by have:=i3.top q hq;omega⟩) ?_
    rintro(q:Int) ⟨-,hq⟩
    refine vck (vck (vck (vck ?_)))
    refine ih2 (ts2,r2,n2,_,_) ?_ (by simp only[ei];omega)
    simp only[ei]
    refine⟨trivial,trivial,trivial,by omega,by omega,by simpa using j3,fun j hj hc=>?_,fun j hj hji hneg=>?_⟩
    ·have hne:i.toNat≠j:=fun e=>by rw[e] at h0;omega
     rw[lY _ _ _ _ _ hne]
     exact j4 j hj (by omega)
    ·by_cases hh:(j:Int)<i
     ·rw[lY _ _ _ _ _ (by omega)]
      exact j5 j hj hh hneg
     ·have e:j=i.toNat:=by omega
      rw[e,oA _ _ _ _ (by omega)]
      exact hq
  ·have h':=of_decide_eq_false h'
   refine ih (ts2,next,_) ?_ (by simp only[ew];omega)
   simp only[ew]
   exact⟨trivial,by omega,by omega,i3.step i1 j3 (fun j hj h0=>j4 j hj (.inl h0)) fun j hj h0=>j5 j hj (by omega) h0⟩
 refine bm (fun x=>match x with|(ts',r,i)=>ts'=ts∧0≤i∧i≤(ts.length:Int)∧r.length=ts.length∧∀j,j<ts.length→(j:Int)<i→r.getD j 0=-1∨(r.getD j 0=0∧(ts.getD j (aC .atype)).kind≠9∧(ts.getD j (aC .atype)).kind≠14))
  (fun x=>((ts.length:Int)-x.2.2).toNat) ?_ _ _ ⟨rfl,by simp,by simp,by simp,fun j _ hj=>by omega⟩ (by simp;omega)
 rintro again ⟨ts',r,i⟩ ⟨rfl,i1,i2,i3,i4⟩ ih
 dsimp only at ih
 unfold tj ry
 dsimp only
 refine aD (fun h=>?_) (fun h=>?_)
 ·have h:=of_decide_eq_true h
  have ei:IntKind.i64.wrap (i+1)=i+1:=aI (i+1) (by omega)
  have hil:i.toNat<ts'.length:=by omega
  have put:∀l:List Int,l.length=ts'.length→(∀j,j<ts'.length→i.toNat≠j→l.getD j 0=r.getD j 0)→(l.getD i.toNat 0=-1∨(l.getD i.toNat 0=0∧(ts'.getD i.toNat (aC .atype)).kind≠9∧(ts'.getD i.toNat (aC .atype)).kind≠14))→Tot (again (ts',l,IntKind.i64.wrap (i+1))) _:=fun l h1 h2 h3=>ih (ts',l,IntKind.i64.wrap (i+1)) (by
   simp only[ei]
   refine⟨trivial,by omega,by omega,h1,fun j hj hji=>?_⟩
   by_cases hh:i.toNat=j
   ·rw[←hh];exact h3
   ·rw[h2 j hj hh];exact i4 j hj (by omega)) (by simp only[ei];omega)
  refine vck (vck (vck (vck (vck ?_))))
  refine aD (fun h9=>?_) (fun h9=>?_)
  ·refine vck (aD (fun h14=>?_) (fun h14=>?_))
   ·simp only[bnl] at h9 h14
    refine vck (vck (vck (vck ?_)))
    refine put _ (by simpa using i3) (fun j hj hne=>by rw[lY _ _ _ _ _ hne,lY _ _ _ _ _ hne]) (.inr ⟨oA _ _ _ _ (by simp;omega),h9,h14⟩)
   ·exact put _ (by simpa using i3) (fun j hj hne=>by rw[lY _ _ _ _ _ hne]) (.inl (oA _ _ _ _ (by omega)))
  ·exact put _ (by simpa using i3) (fun j hj hne=>by rw[lY _ _ _ _ _ hne]) (.inl (oA _ _ _ _ (by omega)))
 ·have h:=of_decide_eq_false h
  refine rounds r ⟨i3,fun j hj=>?_,fun j hj=>?_,fun j hj h1=>?_,fun j hj h0=>?_⟩
  all_goals have:=i4 j (by omega) (by omega)
  ·omega
  ·omega
  ·omega
  ·rcases this with e|⟨-,e⟩
   ·omega
   ·exact e
structure aD8(ts:List aA)(r w:List Int)(k i:Int):Prop where
 len:w.length=ts.length
 low:∀j,j<ts.length→0≤w.getD j 0∧w.getD j 0≤1000000
 ok:∀j,j<ts.length→0≤r.getD j 0→(r.getD j 0<k∨(r.getD j 0=k∧(j:Int)<i))→mz (ts.getD j (aC .atype)) r w (w.getD j 0)
theorem aol(ts:List aA)(hs:dJ ts)(r:List Int)(hR:jI ts r ts.length):∃w,iV ts r w:=by
 apply anG 1000
 unfold adR nQ
 dsimp only
 have hrl:=hR.len
 have hn:=hs.1
 refine vck ?_
 refine bm (fun x=>match x with|(r',ts',w,k)=>r'=r∧ts'=ts∧0≤k∧k≤(ts.length:Int)+1∧aD8 ts r w k 0)
  (fun x=>((ts.length:Int)+1-x.2.2.2).toNat) ?_ _ _ ⟨rfl,rfl,by simp,by omega,by simp[hrl],fun j hj=>?_,fun j hj h0 hc=>by omega⟩ (by simp only;omega)
 rotate_left
 ·have:(List.replicate (r.length:Int).toNat (aC (.num .i64))).getD j 0=0:=by
   simp[List.getD_eq_getElem?_getD,List.getElem?_replicate,hrl,hj];rfl
  rw[this];omega
 rintro again ⟨r',ts',w,k⟩ ⟨rfl,rfl,i1,i2,i3⟩ ih
 dsimp only at ih
 unfold pP oS
 dsimp only
 refine aD (fun h=>?_) (fun h=>?_)
 rotate_left
 ·have h:=of_decide_eq_false h
  refine aG ⟨_,_,rfl,rfl,i3.len,fun j hj h0=>i3.ok j (by omega) h0 (.inl ?_)⟩
  have:=hR.top j hj
  omega
 have h:=of_decide_eq_true h
 have ek:IntKind.i64.wrap (k+1)=k+1:=aI (k+1) (by omega)
 refine bm (fun x=>match x with|(r2,ts2,w,k2,i)=>r2=r'∧ts2=ts'∧k2=k∧0≤i∧i≤(ts'.length:Int)∧aD8 ts' r' w k i)
  (fun x=>((ts'.length:Int)-x.2.2.2.2).toNat) ?_ _ _ ⟨rfl,rfl,rfl,by simp,by simp,i3⟩ (by simp;omega)
 rintro again2 ⟨r2,ts2,w,k2,i⟩ ⟨rfl,rfl,rfl,j1,j2,j3⟩ ih2
 dsimp only at ih2
 unfold mR oR
 dsimp only
 have jl:=j3.len
 refine aD (fun h1=>?_) (fun h1=>?_)
 rotate_left
 ·have h1:=of_decide_eq_false h1
  refine ih (r2,ts2,w,_) ?_ (by simp only[ek];omega)
  simp only[ek]
  exact⟨trivial,trivial,by omega,by omega,j3.len,j3.low,fun j hj h0 hc=>j3.ok j hj h0 (by omega)⟩
 have h1:=of_decide_eq_true h1
 have ei:IntKind.i64.wrap (i+1)=i+1:=aI (i+1) (by omega)
 have hil:i.toNat<ts2.length:=by omega
 refine vck (aD (fun hne=>?_) (fun heq=>?_))
 ·have hne:¬r2.getD i.toNat 0=k2:=by simp only[bnl] at hne;exact hne
  refine ih2 (r2,ts2,w,k2,_) ?_ (by simp only[ei];omega)
  simp only[ei]
  refine⟨trivial,trivial,trivial,by omega,by omega,j3.len,j3.low,fun j hj h0 hc=>j3.ok j hj h0 ?_⟩
  by_cases hji:i.toNat=j
  ·rw[hji] at hne;omega
  ·omega
 have heq:r2.getD i.toNat 0=k2:=by simp only[bnl] at heq;exact heq
 have hty:=hs.at hil
 have hz0:∀(w1:List Int)(l:List aO)(x:Int),1≤x→1+nK w1 (List.take (Int.toNat 0) l)≤x:=fun w1 l x hx=>by
  have h0:nK w1 (List.take (Int.toNat 0) l)=0:=rfl
  rw[h0];omega
 have inner:∀w1:List Int,w1.length=ts2.length→(∀j,j<ts2.length→0≤w1.getD j 0∧w1.getD j 0≤1000000)→1≤w1.getD i.toNat 0→
   (∀j,j<ts2.length→0≤r2.getD j 0→(r2.getD j 0<k2∨(r2.getD j 0=k2∧(j:Int)<i))→mz (ts2.getD j (aC .atype)) r2 w1 (w1.getD j 0))→
   ((ts2.getD i.toNat (aC .atype)).kind=14→∀b,adn (ts2.getD i.toNat (aC .atype)) r2 b→1+rk w1 (brT (ts2.getD i.toNat (aC .atype)) b.toNat)≤w1.getD i.toNat 0∨w1.getD i.toNat 0=1000000)→
   Tot (aS 1000 (gG 1000 again again2) (r2,ts2,w1,k2,i,ts2.getD i.toNat (aC .atype),0)) (fun z=>∃(y0:List Int)(rest:List aJ),z.1.dimR=.sl (.num .i64) (.may false) y0∧z.2=rest∧ud ts2 r2 y0):=by
  intro w1 q1 q2 q3 q4 q5
  generalize hkk:ts2.getD i.toNat (aC .atype)=kk at hty q5
  have hnf:=hty.nf
  refine bm (fun x=>match x with|(r3,ts3,w1,k3,i9,kk3,m)=>r3=r2∧ts3=ts2∧k3=k2∧i9=i∧kk3=kk∧0≤m∧m≤(kk.fields.length:Int)∧w1.length=ts2.length∧(∀j,j<ts2.length→0≤w1.getD j 0∧w1.getD j 0≤1000000)∧1≤w1.getD i.toNat 0∧
    (∀j,j<ts2.length→0≤r2.getD j 0→(r2.getD j 0<k2∨(r2.getD j 0=k2∧(j:Int)<i))→mz (ts2.getD j (aC .atype)) r2 w1 (w1.getD j 0))∧
    (kk.kind=14→∀b,adn kk r2 b→1+rk w1 (brT kk b.toNat)≤w1.getD i.toNat 0∨w1.getD i.toNat 0=1000000)∧
    (kk.kind=9→1+nK w1 (kk.fields.take m.toNat)≤w1.getD i.toNat 0∨w1.getD i.toNat 0=1000000))
   (fun x=>((kk.fields.length:Int)-x.2.2.2.2.2.2).toNat) ?_ _ _ ⟨rfl,rfl,rfl,rfl,rfl,by simp,by simp,q1,q2,q3,q4,q5,fun _=>.inl (hz0 w1 kk.fields _ q3)⟩ (by simp;omega)
  rintro again3 ⟨r3,ts3,w1,k3,i9,kk3,m⟩ ⟨rfl,rfl,rfl,rfl,rfl,m1,m2,q1,q2,q3,q4,q5,q6⟩ ih3
  dsimp only at ih3
  unfold gG
  dsimp only
  have hri:0≤r3.getD i9.toNat 0:=by omega
  refine aD (fun h2=>?_) (fun h2=>?_)
  ·have h2:=of_decide_eq_true h2
   have hm:m.toNat<kk3.fields.length:=by omega
   have hf:=hty.fields _ (fH kk3.fields m.toNat (aC .afield) hm)
   have em:IntKind.i64.wrap (m+1)=m+1:=aI (m+1) (by omega)
   have ht:=ae5 kk3.fields m.toNat (aC .afield) hm
   have hmem:=fH kk3.fields m.toNat (aC .afield) hm
   generalize kk3.fields.getD m.toNat (aC .afield)=f at*
   have a1:=q2 i9.toNat hil
   have a2:=q2 f.typ.toNat (by omega)
   refine vck (vck (vck (vck (vck (vck (vck (vck (vck ?_))))))))
   have ewr:IntKind.i64.wrap (w1.getD i9.toNat (aC (.num .i64))+w1.getD f.typ.toNat (aC (.num .i64)))=w1.getD i9.toNat 0+w1.getD f.typ.toNat 0:=aI _ (by
    have e1:w1.getD i9.toNat (aC (.num .i64))=w1.getD i9.toNat 0:=rfl
    have e2:w1.getD f.typ.toNat (aC (.num .i64))=w1.getD f.typ.toNat 0:=rfl
    rw[e1,e2];omega)
   rw[ewr]
   refine ih3 (r3,ts3,_,k3,i9,kk3,_) ?_ (by simp only[em];omega)
   simp only[em]
   have emt:(m+1).toNat=m.toNat+1:=by omega
   generalize hx:(if 1000000<w1.getD i9.toNat 0+w1.getD f.typ.toNat 0 then (1000000:Int) else w1.getD i9.toNat 0+w1.getD f.typ.toNat 0)=x
   have hx1:w1.getD i9.toNat 0≤x∧x≤1000000∧(x=1000000∨x=w1.getD i9.toNat 0+w1.getD f.typ.toNat 0):=by
    rw[←hx];split<;>omega
   refine⟨trivial,trivial,trivial,trivial,trivial,by omega,by omega,by simpa using q1,fun j hj=>?_,?_,fun j hj h0 hc=>?_,fun h14 b hb=>?_,fun h9=>?_⟩
   ·by_cases hji:i9.toNat=j
    ·rw[←hji,oA _ _ _ _ (by omega)];omega
    ·rw[lY _ _ _ _ _ hji];exact q2 j hj
   ·rw[oA _ _ _ _ (by omega)];omega
   ·have hji:i9.toNat≠j:=fun e=>by
     rcases hc with hc|⟨_,hc⟩
     ·rw[←e] at hc;omega
     ·omega
    exact mz.set hR (by omega) h0 (by omega) hji (q4 j hj h0 hc)
   ·rw[oA _ _ _ _ (by omega)]
    have hk1:1≤r3.getD i9.toNat 0:=by
     by_cases h0:r3.getD i9.toNat 0=0
     ·exact absurd h14 (by have:=(hR.nul i9.toNat (by omega) h0).2;rw[hkk] at this;exact this)
     ·omega
    have hro:=hR.ok i9.toNat (by omega) hk1
    rw[hkk] at hro
    have hc:=aby (ts:=ts3) (m:=0) hro h14 hb
    have hu:=q5 h14 b hb
    unfold rk at hc hu ⊢
    rw[lY _ _ _ _ _ (fun e=>by rw[←e] at hc;omega)]
    omega
   ·rw[oA _ _ _ _ (by omega),emt,ht,apB]
    have hk1:1≤r3.getD i9.toNat 0:=by
     by_cases h0:r3.getD i9.toNat 0=0
     ·exact absurd h9 (by have:=(hR.nul i9.toNat (by omega) h0).1;rw[hkk] at this;exact this)
     ·omega
    have hro:=hR.ok i9.toNat (by omega) hk1
    rw[hkk] at hro
    have hne:∀g∈kk3.fields,g.typ.toNat≠i9.toNat:=fun g hg e=>by
     have:=hro.rcd (by omega) g hg
     unfold rk at this
     rw[e] at this;omega
    rw[apz _ _ _ _ (fun g hg=>hne g (List.mem_of_mem_take hg))]
    have e1:nK (w1.set i9.toNat x) [f]=w1.getD f.typ.toNat 0:=by
     simp only[nK,rk]
     rw[lY _ _ _ _ _ (fun e=>hne f hmem e.symm)];omega
    rw[e1]
    have:=q6 h9
    omega
  ·have h2:=of_decide_eq_false h2
   refine ih2 (r3,ts3,w1,k3,_) ?_ (by simp only[ei];omega)
   simp only[ei]
   refine⟨trivial,trivial,trivial,by omega,by omega,q1,q2,fun j hj h0 hc=>?_⟩
   by_cases hji:i9.toNat=j
   ·rw[←hji,hkk]
    rw[List.take_of_length_le (by omega)] at q6
    exact⟨q3,(q2 _ hil).2,q6,q5⟩
   ·exact q4 j hj h0 (by omega)
 have hset:∀(l:List Int)(x:Int),l.length=ts2.length→(∀j,j<ts2.length→0≤l.getD j 0∧l.getD j 0≤1000000)→1≤x∧x≤1000000→
   (∀j,j<ts2.length→0≤r2.getD j 0→(r2.getD j 0<k2∨(r2.getD j 0=k2∧(j:Int)<i))→mz (ts2.getD j (aC .atype)) r2 l (l.getD j 0))→
   (l.set i.toNat x).length=ts2.length∧(∀j,j<ts2.length→0≤(l.set i.toNat x).getD j 0∧(l.set i.toNat x).getD j 0≤1000000)∧1≤(l.set i.toNat x).getD i.toNat 0∧
   (∀j,j<ts2.length→0≤r2.getD j 0→(r2.getD j 0<k2∨(r2.getD j 0=k2∧(j:Int)<i))→mz (ts2.getD j (aC .atype)) r2 (l.set i.toNat x) ((l.set i.toNat x).getD j 0)):=by
  intro l x h1 h2 h3 h4
  refine⟨by simpa using h1,fun j hj=>?_,?_,fun j hj h0 hc=>?_⟩
  ·by_cases hji:i.toNat=j
   ·rw[←hji,oA _ _ _ _ (by omega)];omega
   ·rw[lY _ _ _ _ _ hji];exact h2 j hj
  ·rw[oA _ _ _ _ (by omega)];omega
  ·have hji:i.toNat≠j:=fun e=>by
    rcases hc with hc|⟨_,hc⟩
    ·rw[←e] at hc;omega
    ·omega
   exact mz.set hR (by omega) h0 (by omega) hji (h4 j hj h0 hc)
 obtain⟨s1,s2,s3,s4⟩:=hset w 1 jl j3.low (by omega) j3.ok
 refine vck (vck (vck (vck (vck ?_))))
 refine aD (fun h14=>?_) (fun h14=>?_)
 rotate_left
 ·simp only[bnl] at h14
  exact inner _ s1 s2 s3 s4 fun h=>absurd h h14
 have h14:(ts2.getD i.toNat (aC .atype)).kind=14:=by simp only[bnl] at h14;exact h14
 refine vck (vck (vck ?_))
 refine aF (ari _ _ hty h14 r2 hrl) ?_
 rintro(b:Int) ⟨-,hb⟩
 have hb':=hb
 obtain⟨b1,b2,b3,b4⟩:=hb'
 have hbm:=hty.branches _ (fH _ b.toNat 0 (by omega))
 have hbm:0≤brT (ts2.getD i.toNat (aC .atype)) b.toNat∧brT (ts2.getD i.toNat (aC .atype)) b.toNat<(ts2.length:Int):=hbm
 refine vck ?_
 change Tot (chk (decide (0≤brT (ts2.getD i.toNat (aC .atype)) b.toNat)&&decide (brT (ts2.getD i.toNat (aC .atype)) b.toNat<((w.set i.toNat 1).length:Int))) (chk (decide ((brT (ts2.getD i.toNat (aC .atype)) b.toNat).toNat<(w.set i.toNat 1).length)) _)) _
 refine vck (vck (vck (vck (vck ?_))))
 have a1:=s2 i.toNat hil
 have a2:=s2 (brT (ts2.getD i.toNat (aC .atype)) b.toNat).toNat (by omega)
 have e1:(w.set i.toNat 1).getD i.toNat 0=1:=oA _ _ _ _ (by omega)
 have ewr:IntKind.i64.wrap ((w.set i.toNat 1).getD i.toNat (aC (.num .i64))+(w.set i.toNat 1).getD (brT (ts2.getD i.toNat (aC .atype)) b.toNat).toNat (aC (.num .i64)))=1+(w.set i.toNat 1).getD (brT (ts2.getD i.toNat (aC .atype)) b.toNat).toNat 0:=by
  have e2:(w.set i.toNat 1).getD i.toNat (aC (.num .i64))=1:=e1
  have e3:(w.set i.toNat 1).getD (brT (ts2.getD i.toNat (aC .atype)) b.toNat).toNat (aC (.num .i64))=(w.set i.toNat 1).getD (brT (ts2.getD i.toNat (aC .atype)) b.toNat).toNat 0:=rfl
  rw[e2,e3]
  exact aI _ (by omega)
 change Tot (aS 1000 (gG 1000 again again2) (r2,ts2,(w.set i.toNat 1).set i.toNat (if 1000000<IntKind.i64.wrap ((w.set i.toNat 1).getD i.toNat (aC (.num .i64))+(w.set i.toNat 1).getD (brT (ts2.getD i.toNat (aC .atype)) b.toNat).toNat (aC (.num .i64))) then 1000000 else IntKind.i64.wrap ((w.set i.toNat 1).getD i.toNat (aC (.num .i64))+(w.set i.toNat 1).getD (brT (ts2.getD i.toNat (aC .atype)) b.toNat).toNat (aC (.num .i64)))),k2,i,ts2.getD i.toNat (aC .atype),0)) _
 rw[ewr]
 generalize hx:(if 1000000<1+(w.set i.toNat 1).getD (brT (ts2.getD i.toNat (aC .atype)) b.toNat).toNat 0 then (1000000:Int) else 1+(w.set i.toNat 1).getD (brT (ts2.getD i.toNat (aC .atype)) b.toNat).toNat 0)=x
 have hx1:1≤x∧x≤1000000∧(x=1000000∨x=1+(w.set i.toNat 1).getD (brT (ts2.getD i.toNat (aC .atype)) b.toNat).toNat 0):=by rw[←hx];split<;>omega
 obtain⟨u1,u2,u3,u4⟩:=hset _ x s1 s2 ⟨hx1.1,hx1.2.1⟩ s4
 refine inner _ u1 u2 u3 u4 fun _ b' hb''=>?_
 have hk1:1≤r2.getD i.toNat 0:=by
  by_cases h0:r2.getD i.toNat 0=0
  ·exact absurd h14 (hR.nul i.toNat (by omega) h0).2
  ·omega
 have hro:=hR.ok i.toNat (by omega) hk1
 have hc:=aby (ts:=ts2) (m:=0) hro h14 hb
 have hc':=aby (ts:=ts2) (m:=0) hro h14 hb''
 have hbl:=hb.lt
 have hbn:=hb.nn
 have ebb:b'=b:=by
  have n':=hb''.nn
  have l':=hb''.lt
  have l1:=(hb.least b'.toNat (by omega) hc'.1).2
  have l2:=(hb''.least b.toNat (by omega) hc.1).2
  by_cases h1:b'<b
  ·exact absurd (hb.first b'.toNat (by omega) hc'.1) (Int.not_lt.2 l2)
  ·by_cases h2:b<b'
   ·exact absurd (hb''.first b.toNat (by omega) hc.1) (Int.not_lt.2 l1)
   ·omega
 rw[ebb]
 rw[oA _ _ _ _ (by simp;omega)]
 have hne:¬i.toNat=(brT (ts2.getD i.toNat (aC .atype)) b.toNat).toNat:=fun e=>by
  unfold rk at hc
  rw[←e] at hc
  exact absurd hc.2 (Int.lt_irrefl _)
 have e5:rk ((w.set i.toNat 1).set i.toNat x) (brT (ts2.getD i.toNat (aC .atype)) b.toNat)=(w.set i.toNat 1).getD (brT (ts2.getD i.toNat (aC .atype)) b.toNat).toNat 0:=lY _ _ _ _ _ hne
 rw[e5]
 omega
end Go.Proofs.YtdpajabhmmmjoaaGreat
end
