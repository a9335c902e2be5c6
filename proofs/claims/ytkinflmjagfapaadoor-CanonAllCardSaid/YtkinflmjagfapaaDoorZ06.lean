import Derived.KernelRfl
import Derived.Test.YtkinflmjagfapaaDoorRows
import Derived.Test.YtkinflmjagfapaaDoorChecked
import Derived.Lib.LaidTab
import Derived.ChangeArms
import Derived.ChangeSlices
import Derived.WideShapes
import Derived.WideKeyArgs
import Derived.Test.YtkinflmjagfapaaDoorZ00
import Derived.Test.YtkinflmjagfapaaDoorZ02
import Derived.Test.YtkinflmjagfapaaDoorZ03
import Derived.Test.YtkinflmjagfapaaDoorZ05
noncomputable section
namespace Go.Proofs.YtkinflmjagfapaaDoor
open Go.AM
set_option autoImplicit false
set_option linter.unusedVariables false
set_option maxRecDepth 100000
def rX:j9:=fun f us css=>match f,us,css with
 |27,[.ptr 1 0,.int .i64 a1],[[.mp .ib o0_0],[.sl .atype (.may false) o1_0,.mr 0]]=>some (can (aw o0_0 o1_0 a1),.agg [.int .i64 (((pick (aw o0_0 o1_0 a1)).1).kind),.int .i64 (((pick (aw o0_0 o1_0 a1)).1).n),.str (((pick (aw o0_0 o1_0 a1)).1).s),.sl .jnode (.may false) (((pick (aw o0_0 o1_0 a1)).1).l),.sl .str (.may false) (((pick (aw o0_0 o1_0 a1)).1).names)],[[.mp .ib ((pick (aw o0_0 o1_0 a1)).2.1)],[.sl .atype (.may false) ((pick (aw o0_0 o1_0 a1)).2.2),.mr 0]])
 |_,_,_=>none
noncomputable def tA:az:=(jt 2 rX (kK (rR (P:=Tryd.prog) [aac])))
theorem acr:b7 tA [27,2000027]:=(mW (by
 intro f us css hf
 unfold rX
 split<;>first|rfl|(simp at hf)) (hU _ _))
theorem adi:bI Tryd.prog tA:=by
 refine qT ?_ ?_
 ·intro f us css v css' h
  unfold rX at h
  split at h
  ·simp only[Option.some.injEq,Prod.mk.injEq] at h
   obtain⟨hc,rfl,rfl⟩:=h
   exact((lh hc).1).dim rfl
  ·simp at h
 exact qR _
def afK:IR:=Rs [Bx 1 0,Ms 2 []] (Sq (Rs [Fa 4 0 1,Lq 5 4,Ll 6 5,Bc 7 .eql 6 0] (Cn 7 (Rs [Ms 2 []] .ret) .skip)) (Rs [Ld 8 1 true 1,Pp (.mkm 9 .ib),Pp (.bld 10 [fu .atype true,.nilm] [(0,1,8),(1,1,9)]),Pp (.box 11 10),Mv 3 11] (Rs [Mv 12 3,Ca 13 27 [12,kI 0],Ca 14 26 [13],Mv 2 14] .ret)))
def afL:List RV:=[.t 2]
theorem afM:FnC Tryd.prog tA [27,2000027] 0 z8 Tryd.f15 afK afL:=⟨adi,acr,Tryd.func15,by kernel_rfl,by kernel_rfl,by decide⟩
def yA(N:Nat)(p0_0:List am):Ro:=
 let x1:=(↑(List.length p0_0):Int)
 cond (x1==0) (
  some (.str ([]:Bs),[])) (
  an (aw ([]:List (Int×Bool)) p0_0 0) (fun r1=>
   an (ej (reJ r1.1)) (fun(r2:Bs)=>
    some (.str r2,[some [.mp .ib r1.2.1],some [.sl .atype (.may false) r1.2.2,.mr 0]]))))
def yB(N:Nat)(p0_0:List am):Ro:=yA N p0_0
theorem aeg(N:Nat)(p0_0:List am)(h:Tot (yB N p0_0) (fun z=>∃(y0:Bs)(rest:List aq),z.1.dimR=.str y0∧z.2=rest∧ud p0_0 (y0))):∃r,iR p0_0 r:=afM.finP (N:=N) (by kernel_rfl) h fun _ ⟨y0,_,e,_,q⟩=>⟨(y0),e,q⟩
noncomputable def afN:az:=tab (P:=Tryd.prog) [] [] [] [s6,ahQ]
def aeh:IR:=Rs [Bx 1 0,Pp (.mov 2 (kU 0))] (Rs [Ld 3 1 true 1,Ca 4 15 [3],Ca 5 28 [4],Mv 2 5] .ret)
def aei:List RV:=[.t 2]
theorem aej:FnC Tryd.prog afN [] 0 xO Tryd.f16 aeh aei:=fnC Tryd.func16
def wi(N:Nat)(p0_0:List am):Ro:=
 an (iR p0_0) (fun(r1:Bs)=>
  an (nS r1) (fun(r2:Int)=>
   some (.int .u64 r2,[])))
def wj(N:Nat)(p0_0:List am):Ro:=wi N p0_0
theorem adj(N:Nat)(p0_0:List am)(h:Tot (wj N p0_0) (fun z=>∃(y0:Int)(rest:List aq),z.1.dimR=.int .u64 y0∧z.2=rest∧s3 p0_0 (y0))):∃r,jj p0_0 r:=aej.finP (N:=N) (by kernel_rfl) h fun _ ⟨y0,_,e,_,q⟩=>⟨(y0),e,q⟩
noncomputable def d7:az:=tab (P:=Tryd.prog) [] [] [] []
def wl:IR:=Rs [Bc 18 .lss 17 8] (Sq (Cn 18 .skip (.exit 2)) (Sq (.block 3 (Rs [Mv 19 3,Pp (.bin 20 .and 19 (kU 1)),Mv 5 20] (Rg [Mv 21 3,Pp (.bin 22 .shr 21 (kU 1)),Mv 23 5,Pp (.un 24 .neg 23),Pp (.bin 25 .and (kU 13933329357911598997) 24),Bi 26 .xor 22 25,Mv 3 26]))) (Rg [Bc 27 .add 17 1,Mv 17 27])))
def wm:IR:=Rg [Bc 28 .add 8 1,Mv 8 28]
def l9:IR:=Rs [Bi 9 .lss 8 7] (Sq (Cn 9 .skip (.exit 0)) (Sq (.block 1 (Rs [Mv 10 8,Mv 4 10] (Rs [Mv 11 3,Mv 12 0,Mv 13 4,Pp (.idx 14 12 13),Pp (.cvi 15 .u64 14),Bi 16 .xor 11 15,Mv 3 16] (Rs [Mi 17 0] (.block 2 (.loop [0,3,7,8,17,1000000] 0 wl)))))) wm))
def qg:IR:=Rs [Mv 29 3,Mv 2 29] .ret
def ahq:IR:=Rs [Pp (.mov 2 (kU 0))] (Rs [Pp (.mov 3 (kU 13933329357911598997))] (Sq (Rs [Mv 6 0,Pp (.lens 7 6),Mi 8 0] (.block 0 (.loop [0,3,7,8,1000001] 0 l9))) qg))
def tB:List RV:=[.t 2]
theorem ahr:FnC Tryd.prog d7 [] 0 abE Tryd.f28 ahq tB:=fnC Tryd.func28
def oB(R:IR→(Ex→St→Ro)→St→Ro)(again0:St→Ro):Ex→St→Ro:=(bG again0 [0,3,7,8,1000001] 0 (aJ 0 (kseq (R qg) (fin tB))))
abbrev eT:Type:=(Bs×Int×Int×Int)
def ca(x:eT):St:={env:=(.str x.1::.undef::.undef::.int .u64 x.2.1::(U 3 (.int .i64 x.2.2.1::.int .i64 x.2.2.2::(U 21 [])))),hp:=[]}
def afO(R:IR→(Ex→St→Ro)→St→Ro)(again0 again1:St→Ro):Ex→St→Ro:=(bG again1 [0,3,7,8,17,1000000] 0 (aJ 2 (aJ 1 (kseq (R wm) (oB R again0)))))
abbrev oC:Type:=(Bs×Int×Int×Int×Int)
def kC(x:oC):St:={env:=(.str x.1::.undef::.undef::.int .u64 x.2.1::(U 3 (.int .i64 x.2.2.1::.int .i64 x.2.2.2.1::(U 8 (.int .i64 x.2.2.2.2::(U 12 [])))))),hp:=[]}
def oD(N:Nat)(again0:St→Ro):(St→Ro)→St→Ro:=fun again1 s=>run d7 N wl (afO (run d7 N) again0 again1) s
def lu(N:Nat)(again0:eT→Ro)(again1:oC→Ro)(x:oC):Ro:=
 let v0:Bs:=x.1
 let v3:Int:=x.2.1
 let v7:Int:=x.2.2.1
 let v8:Int:=x.2.2.2.1
 let v17:Int:=x.2.2.2.2
 cond (decide (v17<8)) (
  let x4:=(IntKind.wrap .u64 (0-(cl .and .u64 v3 1)))
  let x5:=(cl .and .u64 13933329357911598997 x4)
  let x6:=(cl .xor .u64 (pn .u64 v3 1) x5)
  let x7:=(IntKind.wrap .i64 (v17+1))
  again1 (v0,x6,v7,v8,x7)) (
  let x8:=(IntKind.wrap .i64 (v8+1))
  again0 (v0,v3,v7,x8))
theorem aek(N:Nat)(again0:St→Ro):LB (oD N again0) kC (lu N (fun y=>again0 (ca y))):=fun _ _=>by kernel_rfl
def oE(N:Nat):(St→Ro)→St→Ro:=fun again0 s=>run d7 N l9 (oB (run d7 N) again0) s
def nr(N:Nat)(again0:eT→Ro)(q1:oC→Ro)(x:eT):Ro:=
 let v0:Bs:=x.1
 let v3:Int:=x.2.1
 let v7:Int:=x.2.2.1
 let v8:Int:=x.2.2.2
 cond (decide (v8<v7)) (
  chk (ixl v8 v0) (
   let x2:=(↑(UInt8.toNat (List.getD v0 (Int.toNat v8) 0)):Int)
   let x3:=(cl .xor .u64 v3 (IntKind.wrap .u64 x2))
   q1 (v0,x3,v7,v8,0))) (
  some (.int .u64 v3,[]))
def oF(N:Nat)(again0:eT→Ro)(x:eT):Ro:=nr N again0 (fun z=>aP N (lu N again0) z) x
def rY(N:Nat)(again0:St→Ro):List (Nat×(St→Ro)):=(cC d7 N l9 (oB (run d7 N) again0)++(cC d7 N qg (fin tB)++[]))
theorem ael(N:Nat):∀(again0:St→Ro)(x:eT),oE N again0 (ca x)=oF N (fun y=>again0 (ca y)) x:=by
 intro again0 x
 have hX:∀C:Nat→St→Ro,cp C d7 N l9 (oB (cp C d7 N) again0) (ca x)=nr N (fun y=>again0 (ca y)) (fun z=>C 1000000 (kC z)) x:=by
  intro C
  kernel_rfl
 have h:oE N again0 (ca x)=nr N (fun y=>again0 (ca y)) (fun z=>bd N (oD N again0) (kC z)) x:=(fJ (C:=iX (rY N again0)) (cX (bi (l:=(rY N again0)) (by kernel_rfl))) (rv (fI (kL (cX (gt (bi (l:=(rY N again0)) (by kernel_rfl)))) rfl))) _).trans ((hX _).trans (by kernel_rfl))
 have e1:(fun z=>bd N (oD N again0) (kC z))=(fun z=>aP N (lu N (fun y=>again0 (ca y))) z):=funext fun z=>be (kC) (oD N again0) (lu N (fun y=>again0 (ca y))) (aek N again0) N z
 rw[h,e1]
 rfl
def mM(N:Nat)(p0:Bs)(q0:eT→Ro):Ro:=
 let x1:=(↑(List.length p0):Int)
 q0 (p0,13933329357911598997,x1,0)
def aaR(N:Nat)(p0:Bs):Ro:=mM N p0 (fun z=>aP N (oF N) z)
theorem afP(N:Nat)(p0:Bs)(h:Tot (aaR N p0) (fun z=>∃(y0:Int)(rest:List aq),z.1.dimR=.int .u64 y0∧z.2=rest∧qS p0 (y0))):∃r,nS p0 r:=ahr.finP (N:=N) ((cd _ (by kernel_rfl) rfl (fun C=>mM N p0 (fun z=>C 1000001 (ca z))) (fun C=>by kernel_rfl)).trans (Eq.trans (b:=mM N p0 (fun z=>bd N (oE N) (ca z))) (by kernel_rfl) (congrArg (mM N p0) (funext fun z=>be (ca) (oE N) (oF N) (ael N) N z)))) h fun _ ⟨y0,_,e,_,q⟩=>⟨(y0),e,q⟩
noncomputable def de:az:=tab (P:=Tryd.prog) [] [] [] []
def tC:IR:=Sq (Rs [Mv 18 5,Bc 19 .lss 18 8] (Cn 19 .skip (.exit 2))) (Sq (.block 3 (Rs [Mv 22 3,Pp (.bin 23 .rem 22 (kU 2)),Pp (.bin 24 .eql 23 (kU 1))] (Cn 24 (Rg [Mv 25 3,Pp (.bin 26 .quo 25 (kU 2)),Pp (.bin 27 .xor 26 (kU 13933329357911598997)),Mv 3 27]) (Rg [Mv 28 3,Pp (.bin 29 .quo 28 (kU 2)),Mv 3 29])))) (Rg [Mv 20 5,Bc 21 .add 20 1,Mv 5 21]))
def tD:IR:=Rg [Mv 10 4,Bc 11 .add 10 1,Mv 4 11]
def jZ:IR:=Sq (Rs [Mv 6 4,Mv 7 0,Pp (.lens 8 7),Bi 9 .lss 6 8] (Cn 9 .skip (.exit 0))) (Sq (.block 1 (Rs [Mv 12 3,Mv 13 0,Mv 14 4,Pp (.idx 15 13 14),Pp (.cvi 16 .u64 15),Bi 17 .xor 12 16,Mv 3 17] (Rs [Mi 5 0] (.block 2 (.loop [0,3,4,5,1000000] 0 tC))))) tD)
def nG:IR:=Rs [Mv 30 3,Mv 2 30] .ret
def aem:IR:=Rs [Pp (.mov 2 (kU 0))] (Rs [Pp (.mov 3 (kU 13933329357911598997))] (Sq (Rs [Mi 4 0] (.block 0 (.loop [0,3,4,1000001] 0 jZ))) nG))
def rf:List RV:=[.t 2]
theorem aen:FnC Tryd.prog de [] 0 xR Tryd.f17 aem rf:=fnC Tryd.func17
def ma(R:IR→(Ex→St→Ro)→St→Ro)(again0:St→Ro):Ex→St→Ro:=(bG again0 [0,3,4,1000001] 0 (aJ 0 (kseq (R nG) (fin rf))))
abbrev dw:Type:=(Bs×Int×Int)
def bE(x:dw):St:={env:=(.str x.1::.undef::.undef::.int .u64 x.2.1::.int .i64 x.2.2::(U 26 [])),hp:=[]}
def adk(R:IR→(Ex→St→Ro)→St→Ro)(again0 again1:St→Ro):Ex→St→Ro:=(bG again1 [0,3,4,5,1000000] 0 (aJ 2 (aJ 1 (kseq (R tD) (ma R again0)))))
abbrev mb:Type:=(Bs×Int×Int×Int)
def iV(x:mb):St:={env:=(.str x.1::.undef::.undef::.int .u64 x.2.1::.int .i64 x.2.2.1::.int .i64 x.2.2.2::(U 25 [])),hp:=[]}
def mc(N:Nat)(again0:St→Ro):(St→Ro)→St→Ro:=fun again1 s=>run de N tC (adk (run de N) again0 again1) s
def jE(N:Nat)(again0:dw→Ro)(again1:mb→Ro)(x:mb):Ro:=
 let v0:Bs:=x.1
 let v3:Int:=x.2.1
 let v4:Int:=x.2.2.1
 let v5:Int:=x.2.2.2
 cond (decide (v5<8)) (
  cond ((Int.tmod v3 2)==1) (
   let x4:=(IntKind.wrap .u64 (Int.tdiv v3 2))
   let x5:=(cl .xor .u64 x4 13933329357911598997)
   let x6:=(IntKind.wrap .i64 (v5+1))
   again1 (v0,x5,v4,x6)) (
   let x7:=(IntKind.wrap .u64 (Int.tdiv v3 2))
   let x8:=(IntKind.wrap .i64 (v5+1))
   again1 (v0,x7,v4,x8))) (
  let x9:=(IntKind.wrap .i64 (v4+1))
  again0 (v0,v3,x9))
theorem acs(N:Nat)(again0:St→Ro):LB (mc N again0) iV (jE N (fun y=>again0 (bE y))):=fun _ _=>by kernel_rfl
def md(N:Nat):(St→Ro)→St→Ro:=fun again0 s=>run de N jZ (ma (run de N) again0) s
def lf(N:Nat)(again0:dw→Ro)(q1:mb→Ro)(x:dw):Ro:=
 let v0:Bs:=x.1
 let v3:Int:=x.2.1
 let v4:Int:=x.2.2
 let x1:=(↑(List.length v0):Int)
 cond (decide (v4<x1)) (
  chk (ixl v4 v0) (
   let x2:=(↑(UInt8.toNat (List.getD v0 (Int.toNat v4) 0)):Int)
   let x3:=(cl .xor .u64 v3 (IntKind.wrap .u64 x2))
   q1 (v0,x3,v4,0))) (
  some (.int .u64 v3,[]))
def me(N:Nat)(again0:dw→Ro)(x:dw):Ro:=lf N again0 (fun z=>aP N (jE N again0) z) x
def qh(N:Nat)(again0:St→Ro):List (Nat×(St→Ro)):=(cC de N jZ (ma (run de N) again0)++(cC de N nG (fin rf)++[]))
theorem acu(N:Nat):∀(again0:St→Ro)(x:dw),md N again0 (bE x)=me N (fun y=>again0 (bE y)) x:=by
 intro again0 x
 have hX:∀C:Nat→St→Ro,cp C de N jZ (ma (cp C de N) again0) (bE x)=lf N (fun y=>again0 (bE y)) (fun z=>C 1000000 (iV z)) x:=by
  intro C
  kernel_rfl
 have h:md N again0 (bE x)=lf N (fun y=>again0 (bE y)) (fun z=>bd N (mc N again0) (iV z)) x:=(fJ (C:=iX (qh N again0)) (cX (bi (l:=(qh N again0)) (by kernel_rfl))) (rv (fI (kL (cX (gt (bi (l:=(qh N again0)) (by kernel_rfl)))) rfl))) _).trans ((hX _).trans (by kernel_rfl))
 have e1:(fun z=>bd N (mc N again0) (iV z))=(fun z=>aP N (jE N (fun y=>again0 (bE y))) z):=funext fun z=>be (iV) (mc N again0) (jE N (fun y=>again0 (bE y))) (acs N again0) N z
 rw[h,e1]
 rfl
def kD(N:Nat)(p0:Bs)(q0:dw→Ro):Ro:=
 q0 (p0,13933329357911598997,0)
def wo(N:Nat)(p0:Bs):Ro:=kD N p0 (fun z=>aP N (me N) z)
theorem adl(N:Nat)(p0:Bs)(h:Tot (wo N p0) (fun z=>∃(y0:Int)(rest:List aq),z.1.dimR=.int .u64 y0∧z.2=rest∧oJ p0 (y0))):∃r,jk p0 r:=aen.finP (N:=N) ((cd _ (by kernel_rfl) rfl (fun C=>kD N p0 (fun z=>C 1000001 (bE z))) (fun C=>by kernel_rfl)).trans (Eq.trans (b:=kD N p0 (fun z=>bd N (md N) (bE z))) (by kernel_rfl) (congrArg (kD N p0) (funext fun z=>be (bE) (md N) (me N) (acu N) N z)))) h fun _ ⟨y0,_,e,_,q⟩=>⟨(y0),e,q⟩
end Go.Proofs.YtkinflmjagfapaaDoor
end
noncomputable section
namespace Go.Proofs.YtkinflmjagfapaaDoor
open Go.AM
set_option autoImplicit false
set_option linter.unusedVariables false
set_option linter.unusedSimpArgs false
set_option maxRecDepth 100000
theorem ahs(v:Nat)(h:v<2^64):pC v<2^64:=by
 unfold pC
 split
 ·exact Nat.xor_lt_two_pow (by omega) (by decide)
 ·omega
theorem akM(a:Nat)(h:a<2^64):cl .xor .u64 (pn .u64 (a:Int) 1) (cl .and .u64 13933329357911598997 (IntKind.wrap .u64 (0-(cl .and .u64 (a:Int) 1))))=(pC a:Int):=by
 have e1:cl .and .u64 (a:Int) 1=((a%2:Nat):Int):=by
  have:=wG .u64 rfl a 1 h (by decide)
  rw[Nat.and_one_is_mod] at this
  exact this
 have e2:pn .u64 (a:Int) 1=((a / 2:Nat):Int):=by
  have:=ago .u64 a 1 (by decide)
  simpa using this
 have hh:a / 2<2^IntKind.u64.bits:=by show a / 2<2^64;omega
 rw[e1,e2]
 unfold pC
 rcases Nat.mod_two_eq_zero_or_one a with h0|h0
 ·rw[h0,if_neg (by decide)]
  have e3:IntKind.wrap .u64 (0-((0:Nat):Int))=((0:Nat):Int):=by decide
  have e4:=wG .u64 rfl 13933329357911598997 0 (by decide) (by decide)
  have e5:=wF .u64 rfl (a / 2) 0 hh (by decide)
  rw[e3,show (13933329357911598997:Int)=((13933329357911598997:Nat):Int) from rfl,e4,Nat.and_zero,e5,Nat.xor_zero]
 ·rw[h0,if_pos rfl]
  have e3:IntKind.wrap .u64 (0-((1:Nat):Int))=((18446744073709551615:Nat):Int):=by decide
  have e4:=wG .u64 rfl 13933329357911598997 18446744073709551615 (by decide) (by decide)
  have e5:=wF .u64 rfl (a / 2) 13933329357911598997 hh (by decide)
  rw[e3,show (13933329357911598997:Int)=((13933329357911598997:Nat):Int) from rfl,e4,show 13933329357911598997&&& 18446744073709551615=13933329357911598997 by decide,e5]
  rfl
theorem aeP(s:List UInt8)(i:Nat)(h:i<s.length)(v:Nat):(s.drop i).foldl nP v=(s.drop (i+1)).foldl nP (nP v (s.getD i 0)):=by
 rw[List.drop_eq_getElem_cons h,List.foldl_cons]
 simp[List.getD,h]
theorem aeQ(a:Nat)(ha:a<2^64)(c:UInt8):cl .xor .u64 (a:Int) (IntKind.wrap .u64 (c.toNat:Int))=((a ^^^c.toNat:Nat):Int)∧a ^^^c.toNat<2^64:=by
 have hb:=c.toNat_lt
 exact⟨by rw[rn .u64 rfl _ (by show _<2^64;omega),wF .u64 rfl _ _ ha (by show _<2^64;omega)],Nat.xor_lt_two_pow ha (by omega)⟩
theorem al1(s:List UInt8)(hs:s.length≤cb):∃r,nS s r:=by
 have hm:(s.length:Int)≤9223372036854775807:=by unfold cb at hs;omega
 apply afP (s.length+20)
 unfold aaR mM
 dsimp only
 refine aX (fun x=>match x with|(x0,x1,x2,x3)=>x0=s∧x2=(s.length:Int)∧∃a i:Nat,x1=(a:Int)∧a<2^64∧x3=(i:Int)∧i≤s.length∧(s.drop i).foldl nP a=agq s) (fun x=>s.length-x.2.2.2.toNat) ?_ _ _ ⟨rfl,rfl,fpC,0,rfl,by decide,rfl,by omega,rfl⟩ (by simp only;omega)
 rintro again ⟨x0,x1,x2,x3⟩ ⟨rfl,rfl,a,i,rfl,ha,rfl,hi,he⟩ ih
 unfold oF nr
 dsimp only at ih ⊢
 repeat' (first|(with_reducible refine au ?_ ?_<;>(intro hb;(try simp only[bnl] at hb);(try revert hb;intro _)))|with_reducible refine aA ?_ ?_|with_reducible refine ar ?_|fail)
 ·first|(simp only[bnl,lnl];done)|(simp only[bnl,lnl];omega)
 ·have hlt:i<x0.length:=by have:(i:Int)<(x0.length:Int):=by assumption
                           omega
  obtain⟨e1,e2⟩:=aeQ a ha (x0.getD i 0)
  simp only[Int.toNat_natCast]
  rw[e1]
  rw[aeP _ _ hlt] at he
  refine aX (fun y=>match y with|(y0,y1,y2,y3,y4)=>y0=x0∧y2=(x0.length:Int)∧y3=(i:Int)∧∃b k:Nat,y1=(b:Int)∧b<2^64∧y4=(k:Int)∧k≤8∧acM (8-k) b=nP a (x0.getD i 0)) (fun y=>8-y.2.2.2.2.toNat) ?_ _ _ ⟨rfl,rfl,rfl,_,0,rfl,e2,rfl,by omega,rfl⟩ (by simp only;omega)
  rintro again1 ⟨y0,y1,y2,y3,y4⟩ ⟨rfl,rfl,rfl,b,k,rfl,hb,rfl,hk,hf⟩ ih1
  unfold lu
  dsimp only at ih1 ⊢
  rw[akM b hb]
  repeat' (first|(with_reducible refine au ?_ ?_<;>(intro hb;(try simp only[bnl] at hb);(try revert hb;intro _)))|with_reducible refine aA ?_ ?_|with_reducible refine ar ?_|fail)
  ·have hk8:k<8:=by have:(k:Int)<8:=by assumption
                    omega
   have ew:IntKind.i64.wrap ((k:Int)+1)=((k+1:Nat):Int):=by rw[ay _ (by omega)];rfl
   rw[ew]
   refine ih1 _ ⟨rfl,rfl,rfl,_,k+1,rfl,ahs b hb,rfl,by omega,?_⟩ (by simp only[Int.toNat_natCast];omega)
   rw[←hf,show 8-k=(8-(k+1))+1 by omega]
   rfl
  ·obtain rfl:k=8:=by have:¬(k:Int)<8:=by omega
                      omega
   have ew:IntKind.i64.wrap ((i:Int)+1)=((i+1:Nat):Int):=by rw[ay _ (by omega)];rfl
   rw[ew]
   refine ih _ ⟨rfl,rfl,b,i+1,rfl,hb,rfl,by omega,?_⟩ (by simp only[Int.toNat_natCast];omega)
   have hf:b=nP a (y0.getD i 0):=hf
   rw[hf]
   exact he
 ·have:i=x0.length:=by have:¬(i:Int)<(x0.length:Int):=by omega
                       omega
  subst this
  rw[List.drop_length] at he
  exact⟨_,_,rfl,rfl,by simp only[qS];rw[←he];rfl⟩
theorem alj(b:Nat)(hb:b<2^64):(Int.tmod (b:Int) 2==1)=decide (b%2=1)∧IntKind.wrap .u64 (Int.tdiv (b:Int) 2)=((b / 2:Nat):Int):=by
 have h1:Int.tmod (b:Int) 2=((b%2:Nat):Int):=by rw[Int.tmod_eq_emod_of_nonneg (by omega)];omega
 have h2:Int.tdiv (b:Int) 2=((b / 2:Nat):Int):=by rw[Int.tdiv_eq_ediv_of_nonneg (by omega)];omega
 refine⟨?_,?_⟩
 ·rw[h1]
  by_cases h:b%2=1
  ·simp[h]
  ·have:b%2=0:=by omega
   simp[this]
 ·rw[h2,rn .u64 rfl _ (by show _<2^64;omega)]
theorem adm(s:List UInt8)(hs:s.length≤cb):∃r,jk s r:=by
 have hm:(s.length:Int)≤9223372036854775807:=by unfold cb at hs;omega
 apply adl (s.length+20)
 unfold wo kD
 dsimp only
 refine aX (fun x=>match x with|(x0,x1,x3)=>x0=s∧∃a i:Nat,x1=(a:Int)∧a<2^64∧x3=(i:Int)∧i≤s.length∧(s.drop i).foldl nP a=agq s) (fun x=>s.length-x.2.2.toNat) ?_ _ _ ⟨rfl,fpC,0,rfl,by decide,rfl,by omega,rfl⟩ (by simp only;omega)
 rintro again ⟨x0,x1,x3⟩ ⟨rfl,a,i,rfl,ha,rfl,hi,he⟩ ih
 unfold me lf
 dsimp only at ih ⊢
 repeat' (first|(with_reducible refine au ?_ ?_<;>(intro hb;(try simp only[bnl] at hb);(try revert hb;intro _)))|with_reducible refine aA ?_ ?_|with_reducible refine ar ?_|fail)
 ·first|(simp only[bnl,lnl];done)|(simp only[bnl,lnl];omega)
 ·have hlt:i<x0.length:=by have:(i:Int)<(x0.length:Int):=by assumption
                           omega
  obtain⟨e1,e2⟩:=aeQ a ha (x0.getD i 0)
  simp only[Int.toNat_natCast]
  rw[e1]
  rw[aeP _ _ hlt] at he
  refine aX (fun y=>match y with|(y0,y1,y3,y4)=>y0=x0∧y3=(i:Int)∧∃b k:Nat,y1=(b:Int)∧b<2^64∧y4=(k:Int)∧k≤8∧acM (8-k) b=nP a (x0.getD i 0)) (fun y=>8-y.2.2.2.toNat) ?_ _ _ ⟨rfl,rfl,_,0,rfl,e2,rfl,by omega,rfl⟩ (by simp only;omega)
  rintro again1 ⟨y0,y1,y3,y4⟩ ⟨rfl,rfl,b,k,rfl,hb,rfl,hk,hf⟩ ih1
  unfold jE
  dsimp only at ih1 ⊢
  obtain⟨g1,g2⟩:=alj b hb
  have hh:b / 2<2^IntKind.u64.bits:=by show b / 2<2^64;omega
  have g3:=wF .u64 rfl (b / 2) 13933329357911598997 hh (by decide)
  have ew:k<8→IntKind.i64.wrap ((k:Int)+1)=((k+1:Nat):Int):=fun h=>by rw[ay _ (by omega)];rfl
  have next:∀(h8:k<8),Tot (again1 (y0,(pC b:Int),(i:Int),((k+1:Nat):Int))) _:=fun h8=>ih1 (y0,(pC b:Int),(i:Int),((k+1:Nat):Int)) ⟨rfl,rfl,_,k+1,rfl,ahs b hb,rfl,by omega,by
   rw[←hf,show 8-k=(8-(k+1))+1 by omega]
   rfl⟩ (by simp only[Int.toNat_natCast];omega)
  rw[g1,g2]
  repeat' (first|(with_reducible refine au ?_ ?_<;>(intro hb;(try simp only[bnl] at hb);(try revert hb;intro _)))|with_reducible refine aA ?_ ?_|with_reducible refine ar ?_|fail)
  ·have h8:k<8:=by omega
   have hp:b%2=1:=by assumption
   have e:pC b=(b / 2) ^^^13933329357911598997:=by unfold pC;rw[if_pos hp];rfl
   have:=next h8
   rw[e] at this
   rw[ew h8,show (13933329357911598997:Int)=((13933329357911598997:Nat):Int) from rfl,g3]
   exact this
  ·have h8:k<8:=by omega
   have hp:¬b%2=1:=by assumption
   have e:pC b=b / 2:=by unfold pC;rw[if_neg hp]
   have:=next h8
   rw[e] at this
   rw[ew h8]
   exact this
  ·obtain rfl:k=8:=by omega
   have ew:IntKind.i64.wrap ((i:Int)+1)=((i+1:Nat):Int):=by rw[ay _ (by omega)];rfl
   rw[ew]
   refine ih _ ⟨rfl,b,i+1,rfl,hb,rfl,by omega,?_⟩ (by simp only[Int.toNat_natCast];omega)
   have hf:b=nP a (y0.getD i 0):=hf
   rw[hf]
   exact he
 ·have:i=x0.length:=by omega
  subst this
  rw[List.drop_length] at he
  exact⟨_,_,rfl,rfl,by simp only[oJ];rw[←he];rfl⟩
end Go.Proofs.YtkinflmjagfapaaDoor
end
noncomputable section
namespace Go.Proofs.YtkinflmjagfapaaDoor
open Go.AM
set_option autoImplicit false
set_option linter.unusedVariables false
set_option maxRecDepth 100000
noncomputable def afQ:az:=tab (P:=Tryd.prog) [] [] [] [s6,xS,xT]
def aeo:IR:=Rs [Mb 0 false] (Rs [Pp (.bld 2 [vI 0,vS,fu .str true,vI 0,fu .str true,.bool false,vS,vI 0,fu .afield true,fu (.num .i64) true] [(0,1,kI 3)]),Pp (.bsl 3 .atype [2] true),Pp (.bld 4 [nl .atype] [(0,1,3)]),Pp (.alr 1 1),Fz 1 1 4] (Rs [Ld 5 1 true 1,Ca 6 15 [5],Pp (.bin 7 .eql 6 (kS [34,105,110,116,34])),Mv 8 7,Gt 8 (.lde 9 1 true 1),Gt 8 (.call 10 16 [9]),Gt 8 (.call 11 17 [kS [34,105,110,116,34]]),Gt 8 (.bin 12 .eql 10 11),Pa 13 8 12,Mv 0 13] .ret))
def aep:List RV:=[.t 0]
theorem aeq:FnC Tryd.prog afQ [] 0 xQ Tryd.f9 aeo aep:=fnC Tryd.func9
def wq(N:Nat):Ro:=
 an (iR ([⟨3,([]:Bs),([]:Bss),0,([]:Bss),false,([]:Bs),0,([]:List bo),([]:List Int)⟩]:List am)) (fun(r1:Bs)=>
  let x1:=decide (r1=([34,105,110,116,34]:Bs))
  cond x1 (
   an (jj ([⟨3,([]:Bs),([]:Bss),0,([]:Bss),false,([]:Bs),0,([]:List bo),([]:List Int)⟩]:List am)) (fun(r2:Int)=>
    an (jk ([34,105,110,116,34]:Bs)) (fun(r3:Int)=>
     some (.bool (r2==r3),[])))) (
   some (.bool false,[])))
def ws(N:Nat):Ro:=wq N
theorem adn(N:Nat)(h:Tot (ws N ) (fun z=>∃(y0:Bool)(rest:List aq),z.1.dimR=.bool y0∧z.2=rest∧oK  (y0))):∃r,lj  r:=aeq.finP (N:=N) (by kernel_rfl) h fun _ ⟨y0,_,e,_,q⟩=>⟨(y0),e,q⟩
end Go.Proofs.YtkinflmjagfapaaDoor
end
noncomputable section
namespace Go.Proofs.YtkinflmjagfapaaDoor
open Go.AM
set_option autoImplicit false
set_option linter.unusedVariables false
set_option linter.unusedSimpArgs false
set_option maxRecDepth 100000
theorem acv{ts:List am}(hX:oN ts):∃r,iR ts r:=by
 have h0:=hX.1.1.1
 have hne:ts≠[]:=fun e=>by subst e;simp at h0
 obtain⟨b, -,hB⟩:=hX.2.2
 apply aeg 1
 unfold yB yA
 dsimp only
 have hT:=aeJ hX ts.length [] 0 0 b ⟨List.nodup_nil,by simp⟩ (by simp) hB
 repeat' (first|(with_reducible refine au ?_ ?_<;>(intro hb;(try simp only[bnl] at hb);(try revert hb;intro _)))|with_reducible refine aA ?_ ?_|with_reducible refine ar ?_|fail)
 ·rename_i h;exfalso;omega
 refine ao (C:=aw (bm []) ts 0) hT ?_
 intro r hr
 obtain⟨L',e1,e2,hR⟩:=aa3 hr
 obtain⟨p1,p2⟩:=hR.tells hX
 rw[mB]
 refine ao (aeO _ p1 p2) ?_
 rintro _ ⟨-,rfl⟩
 exact ar ⟨_,_,rfl,rfl,fun h=>absurd h hne,fun _=>⟨r.1,L',hR,rfl⟩⟩
theorem mT.len{ts:List am}(hX:oN ts){x:List UInt8}(h:mT ts x):x.length≤cb:=by
 have h0:=hX.1.1.1
 have hne:ts≠[]:=fun e=>by subst e;simp at h0
 obtain⟨j,L',hR,rfl⟩:=h.2 hne
 have:=(hR.tells hX).2
 unfold cb
 simp only[ai5] at this
 omega
theorem ado{ts:List am}(hX:oN ts):∃r,jj ts r:=by
 apply adj 1
 unfold wj wi
 refine ao (acv hX) ?_
 rintro x ⟨-,hx⟩
 refine ao (al1 x (mT.len hX hx)) ?_
 rintro _ ⟨-,rfl⟩
 exact ar ⟨_,_,rfl,rfl,x,hx,rfl⟩
theorem ajR:∃r,lj r:=by
 have hX:oN [⟨3,[],[],0,[],false,[],0,[],[]⟩]:=by
  refine⟨⟨by simp,fun t ht=>?_⟩,fun i t h=>?_,1,by decide,.leaf 0 _ (by omega) rfl (by decide)⟩
  ·obtain rfl:=List.mem_singleton.1 ht
   exact⟨by simp,by simp,by simp,by simp,by simp,by simp,by simp⟩
  ·have:=List.mem_of_getElem? h
   obtain rfl:=List.mem_singleton.1 this
   intro f hf
   simp at hf
 have hx:∀x,mT [⟨3,[],[],0,[],false,[],0,[],[]⟩] x→x=[34,105,110,116,34]:=by
  intro x h
  obtain⟨j,L,hR,rfl⟩:=h.2 (by simp)
  have hk:(tyA [⟨3,[],[],0,[],false,[],0,[],[]⟩] 0).kind=3:=rfl
  cases hR with
  |prim=>rfl
  |_=>exfalso;omega
 apply adn 1
 unfold ws wq
 dsimp only
 refine ao (acv hX) ?_
 rintro x ⟨-,h1⟩
 obtain rfl:=hx x h1
 repeat' (first|(with_reducible refine au ?_ ?_<;>(intro hb;(try simp only[bnl] at hb);(try revert hb;intro _)))|with_reducible refine aA ?_ ?_|with_reducible refine ar ?_|fail)
 ·refine ao (ado hX) ?_
  rintro r ⟨-,y,h2,rfl⟩
  obtain rfl:=hx y h2
  refine ao (adm _ (by decide)) ?_
  rintro _ ⟨-,rfl⟩
  exact ar ⟨_,_,rfl,rfl,by simp[oK]⟩
 ·rename_i h
  exact absurd trivial h
end Go.Proofs.YtkinflmjagfapaaDoor
end
noncomputable section
namespace Go.Proofs.YtkinflmjagfapaaDoor
open Go.AM
set_option autoImplicit false
set_option linter.unusedVariables false
set_option maxRecDepth 100000
theorem aht(p q:List UInt8)(h:Int)(hh:0≤h∧h≤255):∃r,s7 p q h r:=by
 apply aai 1
 unfold sj si
 dsimp only
 refine ao ajR ?_
 rintro _ ⟨-,rfl⟩
 refine au (fun h=>absurd h (by simp)) (fun _=>?_)
 refine au (fun _=>ar ⟨_,_,rfl,rfl,rfl⟩) (fun hlen=>?_)
 refine au (fun _=>ar ⟨_,_,rfl,rfl,rfl⟩) (fun hlen2=>?_)
 have hlen:=of_decide_eq_false hlen
 have hlen2:=of_decide_eq_false hlen2
 refine ao (akr p) ?_
 rintro _ ⟨-,rfl⟩
 refine ao (aiZ p 0 ⟨by omega,by omega,by omega⟩) ?_
 rintro⟨t0,t1,t2,t3,t4,a',n'⟩ ⟨-,⟨hn,hz⟩, -, -⟩
 dsimp only at hn hz ⊢
 refine ao (ai3 h hh q _ hn (by omega)) ?_
 rintro t ⟨-,ht⟩
 obtain⟨ht,htz, -, -⟩:=ht hn
 have et:ak.mk t.kind t.n t.s t.l t.names=t:=by cases t;rfl
 refine ao (akw t.kind t.n t.s t.l t.names (by rw[et];exact ht) (by rw[et];exact Nat.le_trans htz (Nat.le_trans (Nat.mul_le_mul_left 2 hz) (by decide)))) ?_
 rintro⟨ts,e⟩ ⟨-,hX⟩
 dsimp only
 refine au (fun _=>ar ⟨_,_,rfl,rfl,rfl⟩) (fun he=>?_)
 have hX:aiJ ts:=hX (by simpa using he)
 have hW:=hX.w
 refine ao (ajQ hW) ?_
 rintro x ⟨-,hx⟩
 refine ao (acv hW) ?_
 rintro y ⟨-,hy⟩
 obtain rfl:x=y:=mT.same (Sim.refl ts) (by simp) hx hy
 refine au (fun _=>?_) (fun h=>absurd h (by simp))
 refine ao (ado hW) ?_
 rintro _ ⟨-,y1,hy1,rfl⟩
 obtain rfl:x=y1:=mT.same (Sim.refl ts) (by simp) hx hy1
 refine ao (adm x (mT.len hW hx)) ?_
 rintro _ ⟨-,rfl⟩
 exact ar ⟨_,_,rfl,rfl,by simp[lD]⟩
theorem afR(p q:List UInt8)(h:Int):aF Tryd.prog oL [.sl .u8 (.may false) p,.sl .u8 (.may false) q,.int .u8 h] (.bool true):=by
 by_cases hh:0≤h∧h≤255
 ·obtain⟨r,hr,rfl⟩:=aht p q h hh
  exact hr
 ·refine⟨[],cL.ranged fun hr=>absurd ?_ hh⟩
  have:=hr (.int .u8 h) (by simp)
  simpa [V.inRange,IntKind.min,IntKind.max,IntKind.signed,IntKind.bits] using this
end Go.Proofs.YtkinflmjagfapaaDoor
end
noncomputable section
namespace Go.Proofs.YtkinflmjagfapaaDoor
open Go.AM
set_option autoImplicit false
set_option linter.unusedVariables false
theorem ahu{P:Program}{w:World}:∀{l:List (String×DataW Unit)}{ps:List MemPlace},DataW.LaidVars P w l ps→∀n d,(n,d)∈l→
  ∃g t cs fuel p,P.globalNamed n=some g∧(P.globals[g]?).map (·.type)=some t∧w.var? P n=some cs∧DataW.trod (fun _=>()) P w 0 (fun _=>true) false fuel t cs.toList=some (d,p)∧∀x∈MemPlace.row ⟨g,0,none⟩ cs.size,x∈ps
 | [],_,_,_,_,hm=>by cases hm
 |(n',d')::r,ps,h,n,d,hm=>by
  obtain⟨g,t,cs,fuel,p,q,h1,h2,h3,h4,h5,rfl⟩:=h
  rcases List.mem_cons.1 hm with e|e
  ·cases e
   exact⟨g,t,cs,fuel,p,h1,h2,h3,h4,fun x hx=>List.mem_append_left _ (List.mem_append_left _ hx)⟩
  ·obtain⟨g,t,cs,fuel,p,k1,k2,k3,k4,k5⟩:=ahu h5 n d e
   exact⟨g,t,cs,fuel,p,k1,k2,k3,k4,fun x hx=>List.mem_append_right _ (k5 x hx)⟩
theorem ai9{P:Program}{w:World}{l:List (String×DataW Unit)}(h:laidMet P l w){name:String}{k:IntKind}{zs:List Int}(hm:(name,Go.Lib.tabData k zs)∈l)(h0:0<zs.length){g:Nat}{t e:TypeId}{n:Nat}
  (hg:P.globalNamed name=some g) (hty:(P.globals[g]?).map (·.type)=some t) (ht:P.underlying t=some (.array n e)) (he:P.underlying e=some (.int k)) (hce:P.cellsOf e=1) (hct:P.cellsOf t=n):
  ∃t,w.heap[g]? =some (.cells ((zs.map fun z=>Value.int k z).toArray) t (0,0)):=by
 obtain⟨ps,h1,_,h3⟩:=h
 obtain⟨g',t',cs,fuel,p,k1,k2,k3,k4,k5⟩:=ahu h1 _ _ hm
 obtain rfl:=Option.some.inj (hg.symm.trans k1)
 obtain rfl:=Option.some.inj (hty.symm.trans k2)
 have hcs:=Go.Lib.cells_of_tab ht he hce hct k4
 have hsz:cs.size=zs.length:=by
  have:=congrArg List.length hcs
  simpa using this
 obtain⟨⟨c,t2,hc⟩,_⟩:=h3 g 0 (k5 _ (List.mem_map.2 ⟨0,List.mem_range.2 (by omega),rfl⟩))
 unfold World.var? at k3
 rw[hg] at k3
 simp only[Option.bind_some,hc,Option.some.injEq] at k3
 subst k3
 exact⟨t2,by rw[hc,←hcs]⟩
theorem al2{W:World}(h:laidMet Tryd.prog Rows.canonAllRow.laid W):∃t,W.heap[pp]? =some (.cells qN.toArray t (0,0)):=
 ai9 h (name:="internal/strconv.uint64pow10") (k:=.u64) (zs:=Go.Lib.pow10Tab) (t:=150) (e:=39) (n:=20) (List.mem_cons_of_mem _ (List.mem_cons_of_mem _ (List.mem_singleton.2 rfl))) (by decide) (by kernel_rfl) (by kernel_rfl) (by kernel_rfl) (by kernel_rfl) (by kernel_rfl) (by kernel_rfl)
end Go.Proofs.YtkinflmjagfapaaDoor
end
noncomputable section
namespace Go.Proofs.YtkinflmjagfapaaDoor
open Go.ChangeShapes Go.WideShapes Go.AM
set_option autoImplicit false
set_option linter.unusedVariables false
set_option maxRecDepth 100000
theorem aim{α:Type}{p:Nat→α→Prop}:∀n,(∀i,i<n→∃x,p i x)→∃l:List α,l.length=n∧∀i x,l[i]? =some x→p i x
 |0,_=>⟨[],rfl,by simp⟩
 |n+1,h=>by
  obtain⟨l,h1,h2⟩:=aim n fun i hi=>h i (by omega)
  obtain⟨x,hx⟩:=h n (by omega)
  refine⟨l++[x],by simp[h1],fun i y hy=>?_⟩
  rcases Nat.lt_or_ge i l.length with hi|hi
  ·rw[List.getElem?_append_left hi] at hy
   exact h2 i y hy
  ·rw[List.getElem?_append_right hi] at hy
   have h3:i=n:=by
    have:=(List.getElem?_eq_some_iff.1 hy).1
    simp at this
    omega
   subst h3
   have:x=y:=by simpa [h1] using hy
   exact this▸hx
section
variable{H:Type}{enc:TypeId×Value→H}{w:World}{base:Nat}{held:Bool}
theorem alk(k:EK){t e:TypeId}(ht:Tryd.prog.underlying t=some (.slice e))(hc:Tryd.prog.cellsOf e=k.sz){n:Nat}{cs:List Value}{x:DataW H×List MemPlace}
  (elem:∀m,m+1=n→∀es y,DataW.trod enc Tryd.prog w base (fun _=>true) held m e es=some y→∃x:Ty k,∀(j:Nat) v u,(AM.enc k x)[j]? =some v→es[j]? =some u→VRel (iG w).I id 0 w v u)
  (h:DataW.trod enc Tryd.prog w base (fun _=>true) held n t cs=some x):∃(xs:List (Ty k))(cv:Value),cs=[cv]∧VRel (iG w).I id 0 w (.sl k (.may false) xs) cv:=by
 have hk0:0<k.sz:=by cases k<;>simp[EK.sz]
 rcases DataW.trod_slice ht h with⟨rfl, -⟩|⟨a,len,cap,elems,rest,m,rfl,rfl, -,hb,hl,hm,hlen,hel,hsp, -⟩
 ·exact⟨[],_,rfl,.sln _ _⟩
 obtain⟨hrl,hr⟩:=hsp rfl
 rw[hc] at hel hr
 by_cases h0:cap=0
 ·subst h0
  obtain rfl:len=0:=by omega
  exact⟨[],_,rfl,.sle _ _ a (by simp)⟩
 have first:∃es y,w.cells? base (a.add (0*k.sz)) k.sz=some es∧DataW.trod enc Tryd.prog w base (fun _=>true) held m e es=some y:=by
  by_cases hl0:len=0
  ·have h1:=hr 0 (by omega)
   rw[hl0] at h1
   have h2:0<rest.length:=by omega
   rw[List.getElem?_eq_getElem h2,Option.bind_eq_some_iff] at h1
   obtain⟨es,h3,h4⟩:=h1
   exact⟨es,_,h3,h4⟩
  ·have h1:=hel 0 (by omega)
   have h2:0<elems.length:=by omega
   rw[List.getElem?_eq_getElem h2,Option.bind_eq_some_iff] at h1
   obtain⟨es,h3,h4⟩:=h1
   exact⟨es,_,h3,h4⟩
 have hspot:a.spot=none:=by
  obtain⟨es,y,h1, -⟩:=first
  obtain⟨h2,h3,h4⟩:=World.cells?_some h1
  have h5:=h4 0 hk0
  rw[List.getElem?_eq_getElem (by omega)] at h5
  simp only[Nat.zero_mul,Addr.add,if_true,World.cell?] at h5
  split at h5
  ·cases hs:a.spot with
   |none=>rfl
   |some s=>simp[hs] at h5
  ·cases h5
 obtain⟨b,off,spot⟩:=a
 simp only at hspot
 subst hspot
 obtain⟨xs,hxl,hxs⟩:=aim (α:=Ty k) (p:=fun i x=>∀j v,(AM.enc k x)[j]? =some v→∃u,w.cell? ⟨b,off+i*k.sz+j,none⟩=some u∧VRel (iG w).I id 0 w v u) len (by
  intro i hi
  have h1:=hel i hi
  rw[List.getElem?_eq_getElem (by omega),Option.bind_eq_some_iff] at h1
  obtain⟨es,h2,h3⟩:=h1
  obtain⟨x,hx⟩:=elem m rfl es _ h3
  obtain⟨h4,h5,h6⟩:=World.cells?_some h2
  refine⟨x,fun j v hv=>?_⟩
  have hj:j<k.sz:=by
   have:=(List.getElem?_eq_some_iff.1 hv).1
   rwa [bV] at this
  have h7:=h6 j hj
  rw[List.getElem?_eq_getElem (by omega),add_plain,add_plain] at h7
  exact⟨_,h7,hx j v _ hv (List.getElem?_eq_getElem (by omega))⟩)
 refine⟨xs,_,rfl,.sl k (.may false) xs b off len cap hxl (by omega) (by unfold maxLen at hm;unfold cb;exact hm) (by simp) (fun i j=>(w.cell? ⟨b,off+i*k.sz+j,none⟩).getD undef) ?_ ?_ ?_⟩
 ·intro i x j h1 h2
  obtain⟨u,h3, -⟩:=hxs i x h1 j _ (List.getElem?_eq_getElem h2)
  show (w.cell? _).isSome=true
  rw[h3];rfl
 ·intro i x j h1 h2
  obtain⟨u,h3, -⟩:=hxs i x h1 j _ (List.getElem?_eq_getElem h2)
  rw[h3];rfl
 ·intro i x j v h1 h2
  obtain⟨u,h3,h4⟩:=hxs i x h1 j v h2
  rw[h3];exact h4
theorem aja{n:Nat}{cs:List Value}{x:DataW H×List MemPlace}(h:DataW.trod enc Tryd.prog w base (fun _=>true) held n 22 cs=some x):
  ∃(xs:List UInt8)(cv:Value),cs=[cv]∧VRel (iG w).I id 0 w (.sl .u8 (.may false) xs) cv:=
 alk .u8 Tryd.underlying22 (by kernel_rfl) (fun m hm es y hy=>by
  obtain⟨c,rfl, -,hw⟩:=DataW.trod_int Tryd.underlying5 hy
  have hr:0≤c∧c≤255:=by simpa [Lit.wf,IntKind.min,IntKind.max,IntKind.signed,IntKind.bits] using hw
  refine⟨UInt8.ofNat c.toNat,fun j v u h1 h2=>?_⟩
  obtain rfl:j=0:=by
   have:=(List.getElem?_eq_some_iff.1 h2).1
   simpa using this
  simp only[AM.enc,List.getElem?_cons_zero,Option.some.injEq] at h1 h2
  subst h1 h2
  have:((UInt8.ofNat c.toNat).toNat:Int)=c:=by
   rw[UInt8.toNat_ofNat']
   omega
  rw[this]
  exact .int _ _ (by simpa [Lit.wf] using hw)) h
theorem adp{r:Reach}{b0:Nat}{v:Value}{d:DataW H}{p:List MemPlace}(hv:Value.okWide Tryd.prog w r b0 22 v)(h:DataW.Trod enc Tryd.prog w base (fun _=>true) held 22 v d p):
  ∃xs:List UInt8,VRel (iG w).I id 0 w (.sl .u8 (.may false) xs) v:=by
 obtain⟨a,len,cap,rfl⟩:=okWide_slice Tryd.underlying22 hv
 obtain⟨fuel,hf⟩:=h
 obtain⟨xs,cv,e,hr⟩:=aja hf
 have e:[Value.slice a len cap]=[cv]:=e
 cases e
 exact⟨xs,hr⟩
end
end Go.Proofs.YtkinflmjagfapaaDoor
end
