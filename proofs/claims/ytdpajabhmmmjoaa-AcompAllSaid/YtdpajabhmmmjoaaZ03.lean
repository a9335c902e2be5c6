import Derived.KernelRfl
import Derived.Test.YtdpajabhmmmjoaaChecked
import Derived.Test.YtdpajabhmmmjoaaZ02
noncomputable section
namespace Go.Proofs.Ytdpajabhmmmjoaa
open Go.AM
set_option autoImplicit false
set_option linter.unusedVariables false
set_option maxRecDepth 100000
abbrev pn:FuncId:=75
def uA:Nat→List V→Option (Bool×V):=fun _ _=>none
def iI:aL:=(s3 uA)
theorem zW:dQ iI []:=(oH _ _)
theorem aaF:dB Try.prog iI:=by
 intro f vs hp v hp' h
 obtain⟨h, -⟩:=adJ h
 simp[uA] at h
def s5:IR:=Rs [Pp (.mov 2 (.c (.ul (.num .i64) ([]:List Int))))] (Sq (Rs [Mv 3 0,Pp (.snil 4 (.t 3))] (Cn 4 (Rs [Pp (.mov 2 (.c (.ul (.num .i64) ([]:List Int))))] .ret) .skip)) (Rs [Pp (.blu 5 (.num .i64)),Mv 6 0,Pp (.apu 7 (.num .i64) (.tk 5) 6),Pp (.mov 2 (.tk 7))] (.gh (.opn (.slot 2)) .ret)))
def s6:List RV:=[.t 2]
theorem aa3:(dq Try.prog [] 0 s5 (Try.f75.body.getD .skip)&&yn Try.prog s6 Try.f75.results.toList)=true:=by kernel_rfl
theorem aaG:Try.f75.body=some (Try.f75.body.getD .skip):=by kernel_rfl
def s7(N:Nat)(a:List Int):Ro:=
 chk (decide (0<List.length a)) (
 chk (decide ((List.length ([]:List Int)+List.length a)*8≤140737488355328)) (
 chk (decide (0<List.length (([]:List Int)++a))) (
 some (.sw (.num .i64) 0 (List.length (([]:List Int)++a)),[some [.rw (.num .i64) (([]:List Int)++a)],none]))))
def mT(N:Nat)(a:List Int):Ro:=s7 N a
theorem aa4(N:Nat)(a:List Int):od iI N 8 s6 s5 [.sl (.num .i64) (.may false) a] []=mT N a:=by kernel_rfl
theorem abV(hΓ:dB Try.prog iI)(N:Nat)(a:List Int){o:Option (List V×List V)}{k:EK}{xs:List (Ty k)}(h:mT N a=some (aat o (.sw k 0 xs.length),[some [.rw k xs],none])):abU Try.prog pn [.sl (.num .i64) (.may false) a] o k xs:=by
 have hc:=aa3
 simp only[Bool.and_eq_true] at hc
 exact atT hΓ zW Try.func75 aaG hc.1 hc.2 (by decide) ((aa4 N a).trans h)
theorem avp(xs:List Int)(h:decide (0<List.length xs)=true)(hm:xs.length≤1000):abU Try.prog pn [.sl (.num .i64) (.may false) xs] none (.num .i64) xs:=by
 refine abV aaF 0 xs ?_
 have h1:=of_decide_eq_true h
 have e1:decide (0<(([]:List Int)++xs).length)=true:=h
 have e2:decide (((([]:List Int).length+xs.length)*8)≤140737488355328)=true:=decide_eq_true (by simp;omega)
 unfold mT s7
 rw[h,e1,e2]
 rfl
end Go.Proofs.Ytdpajabhmmmjoaa
end
noncomputable section
namespace Go.Proofs.Ytdpajabhmmmjoaa
open Go.AM
set_option autoImplicit false
set_option linter.unusedVariables false
set_option maxRecDepth 100000
abbrev ahj:FuncId:=78
abbrev ak1:FuncId:=76
abbrev ajc:FuncId:=42
abbrev arV:=List Int
noncomputable def qg(a:List aA)(r:arV):Prop:=aU Try.prog ajc [.agg [.sl .atype (.may false) a]] (.sl (.num .i64) (.may false) r)∧s4 a r
noncomputable def arW:bR Try.prog:=.mk 42 fun us=>match us with
 | [.agg [.sl .atype (.may _) a]]=>let r:=pick (qg a);some (can (qg a),.sl (.num .i64) (.may false) r)
 |_=>none
abbrev atk:=Int
noncomputable def wl(a:aA)(b:List Int)(r:atk):Prop:=aU Try.prog ak1 [.agg (enc .atype a),.sl (.num .i64) (.may false) b] (.int .i64 r)∧zV a b r
noncomputable def atl:bR Try.prog:=.mk 76 fun us=>match us with
 | [.agg [.int .i64 a,.str b,.sl .str (.may _) c,.int .i64 d,.sl .str (.may _) e,.bool f,.str g,.int .i64 h,.sl .afield (.may _) i,.sl (.num .i64) (.may _) j],.sl (.num .i64) (.may _) k]=>let r:=pick (wl (⟨a,b,c,d,e,f,g,h,i,j⟩) k);some (can (wl (⟨a,b,c,d,e,f,g,h,i,j⟩) k),.int .i64 r)
 |_=>none
abbrev apQ:=Int
noncomputable def si(a:aA)(b:List Int)(r:apQ):Prop:=aU Try.prog ahj [.agg (enc .atype a),.sl (.num .i64) (.may false) b] (.int .i64 r)∧xl a b r
noncomputable def apR:bR Try.prog:=.mk 78 fun us=>match us with
 | [.agg [.int .i64 a,.str b,.sl .str (.may _) c,.int .i64 d,.sl .str (.may _) e,.bool f,.str g,.int .i64 h,.sl .afield (.may _) i,.sl (.num .i64) (.may _) j],.sl (.num .i64) (.may _) k]=>let r:=pick (si (⟨a,b,c,d,e,f,g,h,i,j⟩) k);some (can (si (⟨a,b,c,d,e,f,g,h,i,j⟩) k),.int .i64 r)
 |_=>none
theorem auB(xs:List Int)(h:(decide (0<List.length xs)&&decide (List.length xs≤1000))=true):abU Try.prog pn [.sl (.num .i64) (.may false) xs] none (.num .i64) xs:=by
 simp only[Bool.and_eq_true] at h
 exact avp xs h.1 (of_decide_eq_true h.2)
end Go.Proofs.Ytdpajabhmmmjoaa
end
noncomputable section
namespace Go.Proofs.Ytdpajabhmmmjoaa
open Go.AM
set_option autoImplicit false
set_option linter.unusedVariables false
def rkB(ts:List aA):List Int:=pick (qg ts)
def ahk(ts:List aA)(l:List Bool):Prop:=l=(rkB ts).map fun q=>decide (0≤q)
end Go.Proofs.Ytdpajabhmmmjoaa
end
noncomputable section
namespace Go.Proofs.Ytdpajabhmmmjoaa
open Go.AM
set_option autoImplicit false
set_option linter.unusedVariables false
def oL(s:List UInt8)(c:Int):Nat→Int
 |0=>-1
 |n+1=>if ((s.getD n 0).toNat:Int)=c then n else oL s c n
def eT(s:List UInt8):List UInt8:=s.drop (oL s 46 s.length+1).toNat
def dC{α:Type}(p:α→Bool):List α→Nat→Int
 | [],_=>-1
 |x::l,i=>if p x then (i:Int) else dC p l (i+1)
def sj(a b:aA):Bool:=decide (eT b.name=eT a.name)||b.aliases.any fun s=>decide (eT s=eT a.name)
def acx(a b:aA):Bool:=
 if a.kind=9∨a.kind=10 then a.kind==b.kind&&sj a b else
 if a.kind=11 then a.kind==b.kind&&(sj a b&&a.size==b.size) else
 if a.kind=3∨a.kind=4∨a.kind=5 then decide (a.kind≤b.kind)&&decide (b.kind≤6) else
 if a.kind=8 then b.kind==8||b.kind==7 else !(a.kind==14)&&a.kind==b.kind
def dD(w r:List aA)(t q:Int):Bool:=isT w t&&(isT r q&&acx (w.getD t.toNat (aG .atype)) (r.getD q.toNat (aG .atype)))
def aen(l:List aM)(n:List UInt8):Int:=dC (fun f:aM=>decide (f.name=n)) l 0
def kH(l:List aM):List (List UInt8)→Int
 | []=>-1
 |s::r=>if 0≤aen l s then aen l s else kH l r
def xO(w r:List aA)(t q:Int):Int:=dC (fun b=>dD w r t b) (r.getD q.toNat (aG .atype)).branches 0
abbrev abW:Type:=List ((Int×Int)×Bool)
def noS(m:abW)(p:Int×Int):Bool:=oo (k:=.pb) m p
def mA(N:Int×Int→Bool)(a:aA)(f:aM):Bool:=
 !((decide (kH a.fields (f.name::f.aliases)<0)&& !f.hasdef)||(decide (0≤kH a.fields (f.name::f.aliases))&&N ((a.fields.getD (kH a.fields (f.name::f.aliases)).toNat (aG .afield)).typ,f.typ)))
def dG(N:Int×Int→Bool)(w r:List aA)(t q:Int)(a b:aA):Bool:=
 if a.kind=14 then a.branches.all fun c=> !N (c,q) else
 if b.kind=14 then decide (0≤xO w r t q)&& !N (t,b.branches.getD (xO w r t q).toNat 0) else
 if dD w r t q=false then false else
 if a.kind=12∨a.kind=13 then !N (a.items,b.items) else
 if a.kind=10 then b.hasdef||a.syms.all fun s=>decide (s∈b.syms) else
 if a.kind=9 then b.fields.all (mA N a) else true
def yA(has:List Bool)(N:Int×Int→Bool)(w r:List aA)(t q:Int):Bool:=
 !(has.getD t.toNat false)||dG N w r t q (w.getD t.toNat (aG .atype)) (r.getD q.toNat (aG .atype))
def inL(L:List (Int×Int))(p:Int×Int):Bool:=decide (p∈L)
def iJ(has:List Bool)(w r:List aA)(L:List (Int×Int))(p:Int×Int):List (Int×Int):=if inL L p||yA has (inL L) w r p.1 p.2 then L else L++[p]
def ajd(i m:Nat):List (Int×Int):=(List.range m).map fun(k:Nat)=>((i:Int),(k:Int))
def lz(n m:Nat):List (Int×Int):=(List.range n).flatMap fun i=>ajd i m
def wm(has:List Bool)(w r:List aA)(L:List (Int×Int)):List (Int×Int):=(lz w.length r.length).foldl (iJ has w r) L
def xP(has:List Bool)(w r:List aA):Nat→List (Int×Int)→List (Int×Int)
 |0,L=>L
 |n+1,L=>if (wm has w r L).length=L.length then L else xP has w r n (wm has w r L)
def jW(has:List Bool)(w r:List aA)(t q:Int):Bool:=isT w t&&(isT r q&& !inL (xP has w r (w.length*r.length+1) []) (t,q))
def iz(s:List UInt8)(c r:Int):Prop:=r=oL s c s.length
def sk(s:List UInt8)(c r:Int):Prop:=r=oL s c s.length
def adV(s r:List UInt8):Prop:=r=eT s
def ahl(ts:List aA)(t:Int)(r:Bool):Prop:=r=isT ts t
def yB(s w:List UInt8)(r:Bool):Prop:=r=decide (eT s=w)
def fk(l:List (List UInt8))(w:List UInt8)(r:Int):Prop:=r=dC (fun s=>decide (eT s=w)) l 0
def eD(l:List (List UInt8))(w:List UInt8)(r:Bool):Prop:=r=l.any fun s=>decide (eT s=w)
def abo(a b:aA)(r:Bool):Prop:=r=sj a b
def xm(w r:List aA)(t q:Int)(x:Bool):Prop:=x=dD w r t q
def aaH(f:aM)(n:List UInt8)(r:Bool):Prop:=r=decide (f.name=n)
def dY(l:List aM)(n:List UInt8)(r:Int):Prop:=r=aen l n
def yC(a:aA)(f:aM)(r:Int):Prop:=r=kH a.fields (f.name::f.aliases)
def yD(b:Int)(w r:List aA)(t:Int)(x:Bool):Prop:=x=dD w r t b
def gf(l:List Int)(w r:List aA)(t x:Int):Prop:=x=dC (fun b=>dD w r t b) l 0
def abp(w r:List aA)(t q x:Int):Prop:=x=xO w r t q
def oi(l:List (List UInt8))(s:List UInt8)(r:Int):Prop:=r=dC (fun x=>decide (x=s)) l 0
def mB(l:List (List UInt8))(s:List UInt8)(r:Bool):Prop:=r=decide (s∈l)
def qX(s:List UInt8)(k0:Int)(k1:List UInt8)(k2:List (List UInt8))(k3:Int)(k4:List (List UInt8))(k5:Bool)(k6:List UInt8)(k7:Int)(k8:List aM)(k9:List Int)(r:Bool):Prop:=r= !decide (s∈k4)
def dT(l:List (List UInt8))(k0:Int)(k1:List UInt8)(k2:List (List UInt8))(k3:Int)(k4:List (List UInt8))(k5:Bool)(k6:List UInt8)(k7:Int)(k8:List aM)(k9:List Int)(r:Int):Prop:=r=dC (fun s=> !decide (s∈k4)) l 0
def dF(l:List (List UInt8))(k0:Int)(k1:List UInt8)(k2:List (List UInt8))(k3:Int)(k4:List (List UInt8))(k5:Bool)(k6:List UInt8)(k7:Int)(k8:List aM)(k9:List Int)(r:Bool):Prop:=r=l.any fun s=> !decide (s∈k4)
def qY(m:abW)(w r:List aA)(has:List Bool)(t q:Int)(x:Bool):Prop:=x=noS m (t,q)
def eU(m:abW)(w r:List aA)(has:List Bool)(l:List Int)(q x:Int):Prop:=x=dC (fun t=>noS m (t,q)) l 0
def ep(m:abW)(w r:List aA)(has:List Bool)(l:List Int)(q:Int)(x:Bool):Prop:=x=l.any fun t=>noS m (t,q)
def mU(m:abW)(w r:List aA)(has:List Bool)(a b:aA)(x:Bool):Prop:=x=b.fields.all (mA (noS m) a)
def iK(m:abW)(w r:List aA)(has:List Bool)(t q:Int)(x:Bool):Prop:=x=yA has (noS m) w r t q
def zX(ts:List aA):List Bool:=(rkB ts).map fun q=>decide (0≤q)
def xn(w r:List aA)(t q:Int)(x:Bool):Prop:=x=jW (zX w) w r t q
def acy(s r:List UInt8):Prop:=r=eT s
def acz(a b:aA)(r:Bool):Prop:=r=sj a b
def xo(w r:List aA)(t q:Int)(x:Bool):Prop:=x=dD w r t q
def yE(a:aA)(f:aM)(r:Int):Prop:=r=kH a.fields (f.name::f.aliases)
def abq(w r:List aA)(t q x:Int):Prop:=x=xO w r t q
def abr(a:aA)(s:List UInt8)(r:Int):Prop:=r=dC (fun x=>decide (x=s)) a.syms 0
def nL(m:abW)(w r:List aA)(t q:Int)(has:List Bool)(x:Bool):Prop:=x=yA has (noS m) w r t q
def aeo(ts:List aA):List Bool:=(rkS ts).map fun q=>decide (0≤q)
def yF(ts:List aA)(l:List Bool):Prop:=l=aeo ts
def xp(w r:List aA)(t q:Int)(x:Bool):Prop:=x=jW (aeo w) w r t q
def qh(a:List UInt8)(n:Int)(c:aB)(r:aB×List UInt8×Int):Prop:=bl r.1∧r.1.l.length=c.l.length∧r.2.1=a∧kp a r.2.2
def fA(a:List UInt8)(n:Int)(c:aB)(r:aB×List UInt8×Int):Prop:=bl r.1∧r.1.l.length≤c.l.length∧r.2.1=a∧kp a r.2.2
def zB(a:List UInt8)(n:Int)(r:List aA×List aA×Bool×List UInt8×Int):Prop:=r.2.2.1=true→dS r.1∧dS r.2.1
def acA(r:Bool):Prop:=r=true
def sP(p:List UInt8)(a b:Int)(r:Bool):Prop:=r=true
end Go.Proofs.Ytdpajabhmmmjoaa
end
noncomputable section
namespace Go.Proofs.Ytdpajabhmmmjoaa
open Go.AM
set_option autoImplicit false
set_option linter.unusedVariables false
set_option maxRecDepth 100000
abbrev xQ:FuncId:=66
abbrev uB:FuncId:=94
abbrev uC:FuncId:=96
abbrev wo:FuncId:=98
abbrev aaI:FuncId:=62
abbrev acB:FuncId:=29
abbrev aaJ:FuncId:=88
abbrev jX:FuncId:=151
abbrev ae5:FuncId:=95
abbrev abt:FuncId:=128
abbrev ahm:FuncId:=32
abbrev aje:FuncId:=130
abbrev adW:FuncId:=153
abbrev ahn:FuncId:=30
abbrev ae6:FuncId:=64
abbrev abu:FuncId:=91
abbrev amJ:FuncId:=63
abbrev ajf:FuncId:=89
abbrev xq:FuncId:=7
abbrev aho:FuncId:=28
abbrev ajg:FuncId:=67
abbrev ahp:FuncId:=92
abbrev ae7:FuncId:=99
abbrev ahq:FuncId:=33
abbrev ajh:FuncId:=101
abbrev ahr:FuncId:=31
abbrev ahs:FuncId:=65
abbrev aht:FuncId:=68
abbrev ae8:FuncId:=100
abbrev eV:FuncId:=93
abbrev dU:FuncId:=90
abbrev fl:FuncId:=90
abbrev oj:FuncId:=97
abbrev fB:FuncId:=127
abbrev ia:FuncId:=127
abbrev eE:FuncId:=152
abbrev et:FuncId:=126
abbrev fM:FuncId:=126
abbrev qi:FuncId:=129
abbrev vH:FuncId:=125
abbrev aly:=Bool
noncomputable def acC(a0:Bs)(a1 a2:Int)(r:aly):Prop:=aU Try.prog xq [.sl .u8 (.may false) a0,.int .i64 a1,.int .i64 a2] (.bool r)∧sP a0 a1 a2 r
abbrev apS:=Bool
noncomputable def sm(r:apS):Prop:=aU Try.prog aho [] (.bool r)∧acA  r
noncomputable def apT:bR Try.prog:=.mk 28 fun us=>match us with
 | []=>let r:=pick sm;some (can sm,.bool r)
 |_=>none
abbrev alz:=List aA×List aA×Bool×Bs×Int
noncomputable def nM(o0_0:Bs)(o0_1:Int)(r:alz):Prop:=bZ Try.prog acB [.ptr 0 0] [[.sl .u8 (.may false) o0_0,.int .i64 o0_1]] (.tup [.agg [.sl .atype (.may false) r.1],.agg [.sl .atype (.may false) r.2.1],.bool r.2.2.1]) [[.sl .u8 (.may false) r.2.2.2.1,.int .i64 r.2.2.2.2]]∧zB o0_0 o0_1 r
noncomputable def alA:ge Try.prog:=.mk 29 fun us css=>match us,css with
 | [.ptr 0 0],[[.sl .u8 (.may false) o0_0,.int .i64 o0_1]]=>let r:=pick (nM o0_0 o0_1);some (can (nM o0_0 o0_1),.tup [.agg [.sl .atype (.may false) r.1],.agg [.sl .atype (.may false) r.2.1],.bool r.2.2.1],[[.sl .u8 (.may false) r.2.2.2.1,.int .i64 r.2.2.2.2]])
 |_,_=>none
abbrev apU:=Bool
noncomputable def eW(a0_0 a1_0:List aA)(a2 a3:Int)(r:apU):Prop:=aU Try.prog ahn [.agg [.sl .atype (.may false) a0_0],.agg [.sl .atype (.may false) a1_0],.int .i64 a2,.int .i64 a3] (.bool r)∧xm a0_0 a1_0 a2 a3 r
noncomputable def wT:bR Try.prog:=.mk 30 fun us=>match us with
 | [.agg [.sl .atype (.may _) a0_0],.agg [.sl .atype (.may _) a1_0],.int .i64 a2,.int .i64 a3]=>let r:=pick (eW a0_0 a1_0 a2 a3);some (can (eW a0_0 a1_0 a2 a3),.bool r)
 |_=>none
abbrev apV:=Bool
noncomputable def gX(a0_0 a1_0:List aA)(a2 a3:Int)(r:apV):Prop:=aU Try.prog ahr [.agg [.sl .atype (.may false) a0_0],.agg [.sl .atype (.may false) a1_0],.int .i64 a2,.int .i64 a3] (.bool r)∧xo a0_0 a1_0 a2 a3 r
noncomputable def aa5:bR Try.prog:=.mk 31 fun us=>match us with
 | [.agg [.sl .atype (.may _) a0_0],.agg [.sl .atype (.may _) a1_0],.int .i64 a2,.int .i64 a3]=>let r:=pick (gX a0_0 a1_0 a2 a3);some (can (gX a0_0 a1_0 a2 a3),.bool r)
 |_=>none
abbrev apW:=Bool
noncomputable def eX(a0_0 a1_0:List aA)(a2 a3:Int)(r:apW):Prop:=aU Try.prog ahm [.agg [.sl .atype (.may false) a0_0],.agg [.sl .atype (.may false) a1_0],.int .i64 a2,.int .i64 a3] (.bool r)∧xn a0_0 a1_0 a2 a3 r
noncomputable def ahu:bR Try.prog:=.mk 32 fun us=>match us with
 | [.agg [.sl .atype (.may _) a0_0],.agg [.sl .atype (.may _) a1_0],.int .i64 a2,.int .i64 a3]=>let r:=pick (eX a0_0 a1_0 a2 a3);some (can (eX a0_0 a1_0 a2 a3),.bool r)
 |_=>none
abbrev apX:=Bool
noncomputable def gY(a0_0 a1_0:List aA)(a2 a3:Int)(r:apX):Prop:=aU Try.prog ahq [.agg [.sl .atype (.may false) a0_0],.agg [.sl .atype (.may false) a1_0],.int .i64 a2,.int .i64 a3] (.bool r)∧xp a0_0 a1_0 a2 a3 r
noncomputable def apY:bR Try.prog:=.mk 33 fun us=>match us with
 | [.agg [.sl .atype (.may _) a0_0],.agg [.sl .atype (.may _) a1_0],.int .i64 a2,.int .i64 a3]=>let r:=pick (gY a0_0 a1_0 a2 a3);some (can (gY a0_0 a1_0 a2 a3),.bool r)
 |_=>none
abbrev aji:=aB×Bs×Int
noncomputable def dm(o0_0:Bs)(o0_1:Int)(a1:aB)(r:aji):Prop:=bZ Try.prog aaI [.ptr 0 0,.agg (enc .jnode a1)] [[.sl .u8 (.may false) o0_0,.int .i64 o0_1]] (.agg (enc .jnode r.1)) [[.sl .u8 (.may false) r.2.1,.int .i64 r.2.2]]∧fA o0_0 o0_1 a1 r
noncomputable def aaK:ge Try.prog:=.mk 62 fun us css=>match us,css with
 | [.ptr 0 0,.agg [.int .i64 a1_0,.int .i64 a1_1,.str a1_2,.sl .jnode (.may _) a1_3,.sl .str (.may _) a1_4]],[[.sl .u8 (.may false) o0_0,.int .i64 o0_1]]=>let r:=pick (dm o0_0 o0_1 (⟨a1_0,a1_1,a1_2,a1_3,a1_4⟩));some (can (dm o0_0 o0_1 (⟨a1_0,a1_1,a1_2,a1_3,a1_4⟩)),.agg (enc .jnode r.1),[[.sl .u8 (.may false) r.2.1,.int .i64 r.2.2]])
 |_,_=>none
abbrev auC:=Bool
noncomputable def oM(a0_0:List aA)(a1:Int)(r:auC):Prop:=aU Try.prog amJ [.agg [.sl .atype (.may false) a0_0],.int .i64 a1] (.bool r)∧ahl a0_0 a1 r
noncomputable def amK:bR Try.prog:=.mk 63 fun us=>match us with
 | [.agg [.sl .atype (.may _) a0_0],.int .i64 a1]=>let r:=pick (oM a0_0 a1);some (can (oM a0_0 a1),.bool r)
 |_=>none
abbrev an1:=Bool
noncomputable def kr(a0 a1:aA)(r:an1):Prop:=aU Try.prog ae6 [.agg (enc .atype a0),.agg (enc .atype a1)] (.bool r)∧abo a0 a1 r
noncomputable def an2:bR Try.prog:=.mk 64 fun us=>match us with
 | [.agg [.int .i64 a0_0,.str a0_1,.sl .str (.may _) a0_2,.int .i64 a0_3,.sl .str (.may _) a0_4,.bool a0_5,.str a0_6,.int .i64 a0_7,.sl .afield (.may _) a0_8,.sl (.num .i64) (.may _) a0_9],.agg [.int .i64 a1_0,.str a1_1,.sl .str (.may _) a1_2,.int .i64 a1_3,.sl .str (.may _) a1_4,.bool a1_5,.str a1_6,.int .i64 a1_7,.sl .afield (.may _) a1_8,.sl (.num .i64) (.may _) a1_9]]=>let r:=pick (kr (⟨a0_0,a0_1,a0_2,a0_3,a0_4,a0_5,a0_6,a0_7,a0_8,a0_9⟩) (⟨a1_0,a1_1,a1_2,a1_3,a1_4,a1_5,a1_6,a1_7,a1_8,a1_9⟩));some (can (kr (⟨a0_0,a0_1,a0_2,a0_3,a0_4,a0_5,a0_6,a0_7,a0_8,a0_9⟩) (⟨a1_0,a1_1,a1_2,a1_3,a1_4,a1_5,a1_6,a1_7,a1_8,a1_9⟩)),.bool r)
 |_=>none
abbrev apZ:=Bool
noncomputable def ml(a0 a1:aA)(r:apZ):Prop:=aU Try.prog ahs [.agg (enc .atype a0),.agg (enc .atype a1)] (.bool r)∧acz a0 a1 r
noncomputable def ap0:bR Try.prog:=.mk 65 fun us=>match us with
 | [.agg [.int .i64 a0_0,.str a0_1,.sl .str (.may _) a0_2,.int .i64 a0_3,.sl .str (.may _) a0_4,.bool a0_5,.str a0_6,.int .i64 a0_7,.sl .afield (.may _) a0_8,.sl (.num .i64) (.may _) a0_9],.agg [.int .i64 a1_0,.str a1_1,.sl .str (.may _) a1_2,.int .i64 a1_3,.sl .str (.may _) a1_4,.bool a1_5,.str a1_6,.int .i64 a1_7,.sl .afield (.may _) a1_8,.sl (.num .i64) (.may _) a1_9]]=>let r:=pick (ml (⟨a0_0,a0_1,a0_2,a0_3,a0_4,a0_5,a0_6,a0_7,a0_8,a0_9⟩) (⟨a1_0,a1_1,a1_2,a1_3,a1_4,a1_5,a1_6,a1_7,a1_8,a1_9⟩));some (can (ml (⟨a0_0,a0_1,a0_2,a0_3,a0_4,a0_5,a0_6,a0_7,a0_8,a0_9⟩) (⟨a1_0,a1_1,a1_2,a1_3,a1_4,a1_5,a1_6,a1_7,a1_8,a1_9⟩)),.bool r)
 |_=>none
abbrev ae9:=Bool
noncomputable def ic(o0_0:List ((Int×Int)×Bool))(o1_0 o1_1:List aA)(o1_2:List Bool)(a1 a2:Int)(r:ae9):Prop:=hJ Try.prog xQ [.ptr 1 0,.int .i64 a1,.int .i64 a2] [some [.mp .pb o0_0],some [.sl .atype (.may false) o1_0,.sl .atype (.may false) o1_1,.sl .bool (.may false) o1_2,.mr 0]] (.bool r) [some [.mp .pb o0_0],some [.sl .atype (.may false) o1_0,.sl .atype (.may false) o1_1,.sl .bool (.may false) o1_2,.mr 0]]∧iK o0_0 o1_0 o1_1 o1_2 a1 a2 r
abbrev arX:=List Bool
noncomputable def qj(a0_0:List aA)(r:arX):Prop:=aU Try.prog ajg [.agg [.sl .atype (.may false) a0_0]] (.sl .bool (.may false) r)∧yF a0_0 r
noncomputable def arY:bR Try.prog:=.mk 67 fun us=>match us with
 | [.agg [.sl .atype (.may _) a0_0]]=>let r:=pick (qj a0_0);some (can (qj a0_0),.sl .bool (.may false) r)
 |_=>none
abbrev ap1:=Bool
noncomputable def sq(o0_0:List ((Int×Int)×Bool))(a0_0 a1_0:List aA)(a2 a3:Int)(a5:List Bool)(r:ap1):Prop:=hJ Try.prog aht [.agg [.sl .atype (.may false) a0_0],.agg [.sl .atype (.may false) a1_0],.int .i64 a2,.int .i64 a3,.mr 0,.sl .bool (.may false) a5] [some [.mp .pb o0_0]] (.bool r) [some [.mp .pb o0_0]]∧nL o0_0 a0_0 a1_0 a2 a3 a5 r
abbrev ajj:=aB×Bs×Int
noncomputable def lA(o0_0:Bs)(o0_1:Int)(a1:aB)(r:ajj):Prop:=bZ Try.prog aaJ [.ptr 0 0,.agg (enc .jnode a1)] [[.sl .u8 (.may false) o0_0,.int .i64 o0_1]] (.agg (enc .jnode r.1)) [[.sl .u8 (.may false) r.2.1,.int .i64 r.2.2]]∧qh o0_0 o0_1 a1 r
noncomputable def ajk:ge Try.prog:=.mk 88 fun us css=>match us,css with
 | [.ptr 0 0,.agg [.int .i64 a1_0,.int .i64 a1_1,.str a1_2,.sl .jnode (.may _) a1_3,.sl .str (.may _) a1_4]],[[.sl .u8 (.may false) o0_0,.int .i64 o0_1]]=>let r:=pick (lA o0_0 o0_1 (⟨a1_0,a1_1,a1_2,a1_3,a1_4⟩));some (can (lA o0_0 o0_1 (⟨a1_0,a1_1,a1_2,a1_3,a1_4⟩)),.agg (enc .jnode r.1),[[.sl .u8 (.may false) r.2.1,.int .i64 r.2.2]])
 |_,_=>none
abbrev arZ:=Bs
noncomputable def nN(a0:Bs)(r:arZ):Prop:=aU Try.prog ajf [.str a0] (.str r)∧adV a0 r
noncomputable def ajl:bR Try.prog:=.mk 89 fun us=>match us with
 | [.str a0]=>let r:=pick (nN a0);some (can (nN a0),.str r)
 |_=>none
abbrev js:=Bool
noncomputable def bm(a0:Bss)(a1_0_0:Int)(a1_0_1:Bs)(a1_0_2:Bss)(a1_0_3:Int)(a1_0_4:Bss)(a1_0_5:Bool)(a1_0_6:Bs)(a1_0_7:Int)(a1_0_8:List aM)(a1_0_9:List Int)(r:js):Prop:=aU Try.prog dU [.sl .str (.may false) a0,.fn 96 [.ea [.int .i64 a1_0_0,.str a1_0_1,.sl .str (.may false) a1_0_2,.int .i64 a1_0_3,.sl .str (.may false) a1_0_4,.bool a1_0_5,.str a1_0_6,.int .i64 a1_0_7,.sl .afield (.may false) a1_0_8,.sl (.num .i64) (.may false) a1_0_9]]] (.bool r)∧dF a0 a1_0_0 a1_0_1 a1_0_2 a1_0_3 a1_0_4 a1_0_5 a1_0_6 a1_0_7 a1_0_8 a1_0_9 r
noncomputable def jt:bR Try.prog:=.mk 90 fun us=>match us with
 | [.sl .str (.may _) a0,.fn 96 [.ea [.int .i64 a1_0_0,.str a1_0_1,.sl .str (.may false) a1_0_2,.int .i64 a1_0_3,.sl .str (.may false) a1_0_4,.bool a1_0_5,.str a1_0_6,.int .i64 a1_0_7,.sl .afield (.may false) a1_0_8,.sl (.num .i64) (.may false) a1_0_9]]]=>let r:=pick (bm a0 a1_0_0 a1_0_1 a1_0_2 a1_0_3 a1_0_4 a1_0_5 a1_0_6 a1_0_7 a1_0_8 a1_0_9);some (can (bm a0 a1_0_0 a1_0_1 a1_0_2 a1_0_3 a1_0_4 a1_0_5 a1_0_6 a1_0_7 a1_0_8 a1_0_9),.bool r)
 |_=>none
abbrev mC:=Bool
noncomputable def bA(a0:Bss)(a1_0_0:Bs)(r:mC):Prop:=aU Try.prog fl [.sl .str (.may false) a0,.fn 91 [.ea [.str a1_0_0]]] (.bool r)∧eD a0 a1_0_0 r
noncomputable def mD:bR Try.prog:=.mk 90 fun us=>match us with
 | [.sl .str (.may _) a0,.fn 91 [.ea [.str a1_0_0]]]=>let r:=pick (bA a0 a1_0_0);some (can (bA a0 a1_0_0),.bool r)
 |_=>none
abbrev akl:=Bool
noncomputable def mE(a0 ac0_0:Bs)(r:akl):Prop:=aU Try.prog abu [.str a0,.ea [.str ac0_0]] (.bool r)∧yB a0 ac0_0 r
noncomputable def akm:bR Try.prog:=.mk 91 fun us=>match us with
 | [.str a0,.ea [.str ac0_0]]=>let r:=pick (mE a0 ac0_0);some (can (mE a0 ac0_0),.bool r)
 |_=>none
abbrev ap2:=Bs
noncomputable def jo(a0:Bs)(r:ap2):Prop:=aU Try.prog ahp [.str a0] (.str r)∧acy a0 r
noncomputable def ap3:bR Try.prog:=.mk 92 fun us=>match us with
 | [.str a0]=>let r:=pick (jo a0);some (can (jo a0),.str r)
 |_=>none
abbrev mq:=Bool
noncomputable def bw(o0_0:List ((Int×Int)×Bool))(o1_0 o1_1:List aA)(o1_2:List Bool)(a0:List Int)(a1_1_0:Int)(r:mq):Prop:=hJ Try.prog eV [.sl (.num .i64) (.may false) a0,.fn 94 [.ea [.ptr 1 0],.ea [.int .i64 a1_1_0]]] [some [.mp .pb o0_0],some [.sl .atype (.may false) o1_0,.sl .atype (.may false) o1_1,.sl .bool (.may false) o1_2,.mr 0]] (.bool r) [some [.mp .pb o0_0],some [.sl .atype (.may false) o1_0,.sl .atype (.may false) o1_1,.sl .bool (.may false) o1_2,.mr 0]]∧ep o0_0 o1_0 o1_1 o1_2 a0 a1_1_0 r
abbrev acD:=Bool
noncomputable def fN(o0_0:List ((Int×Int)×Bool))(o1_0 o1_1:List aA)(o1_2:List Bool)(a0 ac1_0:Int)(r:acD):Prop:=hJ Try.prog uB [.int .i64 a0,.ea [.ptr 1 0],.ea [.int .i64 ac1_0]] [some [.mp .pb o0_0],some [.sl .atype (.may false) o1_0,.sl .atype (.may false) o1_1,.sl .bool (.may false) o1_2,.mr 0]] (.bool r) [some [.mp .pb o0_0],some [.sl .atype (.may false) o1_0,.sl .atype (.may false) o1_1,.sl .bool (.may false) o1_2,.mr 0]]∧qY o0_0 o1_0 o1_1 o1_2 a0 ac1_0 r
abbrev an3:=Int
noncomputable def qk(a0_0 a1_0:List aA)(a2 a3:Int)(r:an3):Prop:=aU Try.prog ae5 [.agg [.sl .atype (.may false) a0_0],.agg [.sl .atype (.may false) a1_0],.int .i64 a2,.int .i64 a3] (.int .i64 r)∧abp a0_0 a1_0 a2 a3 r
noncomputable def an4:bR Try.prog:=.mk 95 fun us=>match us with
 | [.agg [.sl .atype (.may _) a0_0],.agg [.sl .atype (.may _) a1_0],.int .i64 a2,.int .i64 a3]=>let r:=pick (qk a0_0 a1_0 a2 a3);some (can (qk a0_0 a1_0 a2 a3),.int .i64 r)
 |_=>none
abbrev acE:=Bool
noncomputable def fO(a0:Bs)(ac0_0:Int)(ac0_1:Bs)(ac0_2:Bss)(ac0_3:Int)(ac0_4:Bss)(ac0_5:Bool)(ac0_6:Bs)(ac0_7:Int)(ac0_8:List aM)(ac0_9:List Int)(r:acE):Prop:=aU Try.prog uC [.str a0,.ea [.int .i64 ac0_0,.str ac0_1,.sl .str (.may false) ac0_2,.int .i64 ac0_3,.sl .str (.may false) ac0_4,.bool ac0_5,.str ac0_6,.int .i64 ac0_7,.sl .afield (.may false) ac0_8,.sl (.num .i64) (.may false) ac0_9]] (.bool r)∧qX a0 ac0_0 ac0_1 ac0_2 ac0_3 ac0_4 ac0_5 ac0_6 ac0_7 ac0_8 ac0_9 r
noncomputable def acF:bR Try.prog:=.mk 96 fun us=>match us with
 | [.str a0,.ea [.int .i64 ac0_0,.str ac0_1,.sl .str (.may false) ac0_2,.int .i64 ac0_3,.sl .str (.may false) ac0_4,.bool ac0_5,.str ac0_6,.int .i64 ac0_7,.sl .afield (.may false) ac0_8,.sl (.num .i64) (.may false) ac0_9]]=>let r:=pick (fO a0 ac0_0 ac0_1 ac0_2 ac0_3 ac0_4 ac0_5 ac0_6 ac0_7 ac0_8 ac0_9);some (can (fO a0 ac0_0 ac0_1 ac0_2 ac0_3 ac0_4 ac0_5 ac0_6 ac0_7 ac0_8 ac0_9),.bool r)
 |_=>none
abbrev yc:=Bool
noncomputable def dE(a0:Bss)(a1:Bs)(r:yc):Prop:=aU Try.prog oj [.sl .str (.may false) a0,.str a1] (.bool r)∧mB a0 a1 r
noncomputable def yd:bR Try.prog:=.mk 97 fun us=>match us with
 | [.sl .str (.may _) a0,.str a1]=>let r:=pick (dE a0 a1);some (can (dE a0 a1),.bool r)
 |_=>none
abbrev aep:=Bool
noncomputable def gw(o0_0:List ((Int×Int)×Bool))(o1_0 o1_1:List aA)(o1_2:List Bool)(a1 a2:aA)(r:aep):Prop:=hJ Try.prog wo [.ptr 1 0,.agg (enc .atype a1),.agg (enc .atype a2)] [some [.mp .pb o0_0],some [.sl .atype (.may false) o1_0,.sl .atype (.may false) o1_1,.sl .bool (.may false) o1_2,.mr 0]] (.bool r) [some [.mp .pb o0_0],some [.sl .atype (.may false) o1_0,.sl .atype (.may false) o1_1,.sl .bool (.may false) o1_2,.mr 0]]∧mU o0_0 o1_0 o1_1 o1_2 a1 a2 r
abbrev an5:=Int
noncomputable def ql(a0_0 a1_0:List aA)(a2 a3:Int)(r:an5):Prop:=aU Try.prog ae7 [.agg [.sl .atype (.may false) a0_0],.agg [.sl .atype (.may false) a1_0],.int .i64 a2,.int .i64 a3] (.int .i64 r)∧abq a0_0 a1_0 a2 a3 r
noncomputable def an6:bR Try.prog:=.mk 99 fun us=>match us with
 | [.agg [.sl .atype (.may _) a0_0],.agg [.sl .atype (.may _) a1_0],.int .i64 a2,.int .i64 a3]=>let r:=pick (ql a0_0 a1_0 a2 a3);some (can (ql a0_0 a1_0 a2 a3),.int .i64 r)
 |_=>none
abbrev an7:=Int
noncomputable def qm(a0:aA)(a1:Bs)(r:an7):Prop:=aU Try.prog ae8 [.agg (enc .atype a0),.str a1] (.int .i64 r)∧abr a0 a1 r
noncomputable def an8:bR Try.prog:=.mk 100 fun us=>match us with
 | [.agg [.int .i64 a0_0,.str a0_1,.sl .str (.may _) a0_2,.int .i64 a0_3,.sl .str (.may _) a0_4,.bool a0_5,.str a0_6,.int .i64 a0_7,.sl .afield (.may _) a0_8,.sl (.num .i64) (.may _) a0_9],.str a1]=>let r:=pick (qm (⟨a0_0,a0_1,a0_2,a0_3,a0_4,a0_5,a0_6,a0_7,a0_8,a0_9⟩) a1);some (can (qm (⟨a0_0,a0_1,a0_2,a0_3,a0_4,a0_5,a0_6,a0_7,a0_8,a0_9⟩) a1),.int .i64 r)
 |_=>none
abbrev ar0:=Int
noncomputable def uD(a0:aA)(a1:aM)(r:ar0):Prop:=aU Try.prog ajh [.agg (enc .atype a0),.agg (enc .afield a1)] (.int .i64 r)∧yE a0 a1 r
noncomputable def ar1:bR Try.prog:=.mk 101 fun us=>match us with
 | [.agg [.int .i64 a0_0,.str a0_1,.sl .str (.may _) a0_2,.int .i64 a0_3,.sl .str (.may _) a0_4,.bool a0_5,.str a0_6,.int .i64 a0_7,.sl .afield (.may _) a0_8,.sl (.num .i64) (.may _) a0_9],.agg [.str a1_0,.sl .str (.may _) a1_1,.int .i64 a1_2,.bool a1_3,.int .i64 a1_4,.int .i64 a1_5,.str a1_6,.sl .jnode (.may _) a1_7,.sl .str (.may _) a1_8]]=>let r:=pick (uD (⟨a0_0,a0_1,a0_2,a0_3,a0_4,a0_5,a0_6,a0_7,a0_8,a0_9⟩) (⟨a1_0,a1_1,a1_2,a1_3,⟨a1_4,a1_5,a1_6,a1_7,a1_8⟩⟩));some (can (uD (⟨a0_0,a0_1,a0_2,a0_3,a0_4,a0_5,a0_6,a0_7,a0_8,a0_9⟩) (⟨a1_0,a1_1,a1_2,a1_3,⟨a1_4,a1_5,a1_6,a1_7,a1_8⟩⟩)),.int .i64 r)
 |_=>none
abbrev adi:=Int
noncomputable def fZ(a0:Bs)(a1:Int)(r:adi):Prop:=aU Try.prog vH [.str a0,.int .u8 a1] (.int .i64 r)∧sk a0 a1 r
noncomputable def adj:bR Try.prog:=.mk 125 fun us=>match us with
 | [.str a0,.int .u8 a1]=>let r:=pick (fZ a0 a1);some (can (fZ a0 a1),.int .i64 r)
 |_=>none
abbrev kJ:=Int
noncomputable def bp(a0:Bss)(a1_0_0:Int)(a1_0_1:Bs)(a1_0_2:Bss)(a1_0_3:Int)(a1_0_4:Bss)(a1_0_5:Bool)(a1_0_6:Bs)(a1_0_7:Int)(a1_0_8:List aM)(a1_0_9:List Int)(r:kJ):Prop:=aU Try.prog et [.sl .str (.may false) a0,.fn 96 [.ea [.int .i64 a1_0_0,.str a1_0_1,.sl .str (.may false) a1_0_2,.int .i64 a1_0_3,.sl .str (.may false) a1_0_4,.bool a1_0_5,.str a1_0_6,.int .i64 a1_0_7,.sl .afield (.may false) a1_0_8,.sl (.num .i64) (.may false) a1_0_9]]] (.int .i64 r)∧dT a0 a1_0_0 a1_0_1 a1_0_2 a1_0_3 a1_0_4 a1_0_5 a1_0_6 a1_0_7 a1_0_8 a1_0_9 r
noncomputable def kK:bR Try.prog:=.mk 126 fun us=>match us with
 | [.sl .str (.may _) a0,.fn 96 [.ea [.int .i64 a1_0_0,.str a1_0_1,.sl .str (.may false) a1_0_2,.int .i64 a1_0_3,.sl .str (.may false) a1_0_4,.bool a1_0_5,.str a1_0_6,.int .i64 a1_0_7,.sl .afield (.may false) a1_0_8,.sl (.num .i64) (.may false) a1_0_9]]]=>let r:=pick (bp a0 a1_0_0 a1_0_1 a1_0_2 a1_0_3 a1_0_4 a1_0_5 a1_0_6 a1_0_7 a1_0_8 a1_0_9);some (can (bp a0 a1_0_0 a1_0_1 a1_0_2 a1_0_3 a1_0_4 a1_0_5 a1_0_6 a1_0_7 a1_0_8 a1_0_9),.int .i64 r)
 |_=>none
abbrev nO:=Int
noncomputable def bG(a0:Bss)(a1_0_0:Bs)(r:nO):Prop:=aU Try.prog fM [.sl .str (.may false) a0,.fn 91 [.ea [.str a1_0_0]]] (.int .i64 r)∧fk a0 a1_0_0 r
noncomputable def nP:bR Try.prog:=.mk 126 fun us=>match us with
 | [.sl .str (.may _) a0,.fn 91 [.ea [.str a1_0_0]]]=>let r:=pick (bG a0 a1_0_0);some (can (bG a0 a1_0_0),.int .i64 r)
 |_=>none
abbrev nB:=Int
noncomputable def bD(o0_0:List ((Int×Int)×Bool))(o1_0 o1_1:List aA)(o1_2:List Bool)(a0:List Int)(a1_1_0:Int)(r:nB):Prop:=hJ Try.prog fB [.sl (.num .i64) (.may false) a0,.fn 94 [.ea [.ptr 1 0],.ea [.int .i64 a1_1_0]]] [some [.mp .pb o0_0],some [.sl .atype (.may false) o1_0,.sl .atype (.may false) o1_1,.sl .bool (.may false) o1_2,.mr 0]] (.int .i64 r) [some [.mp .pb o0_0],some [.sl .atype (.may false) o1_0,.sl .atype (.may false) o1_1,.sl .bool (.may false) o1_2,.mr 0]]∧eU o0_0 o1_0 o1_1 o1_2 a0 a1_1_0 r
abbrev qn:=Int
noncomputable def cd(a0:List Int)(a1_0_0 a1_1_0:List aA)(a1_2_0:Int)(r:qn):Prop:=aU Try.prog ia [.sl (.num .i64) (.may false) a0,.fn 128 [.ea [.sl .atype (.may false) a1_0_0],.ea [.sl .atype (.may false) a1_1_0],.ea [.int .i64 a1_2_0]]] (.int .i64 r)∧gf a0 a1_0_0 a1_1_0 a1_2_0 r
noncomputable def qo:bR Try.prog:=.mk 127 fun us=>match us with
 | [.sl (.num .i64) (.may _) a0,.fn 128 [.ea [.sl .atype (.may false) a1_0_0],.ea [.sl .atype (.may false) a1_1_0],.ea [.int .i64 a1_2_0]]]=>let r:=pick (cd a0 a1_0_0 a1_1_0 a1_2_0);some (can (cd a0 a1_0_0 a1_1_0 a1_2_0),.int .i64 r)
 |_=>none
abbrev akn:=Bool
noncomputable def mF(a0:Int)(ac0_0 ac1_0:List aA)(ac2_0:Int)(r:akn):Prop:=aU Try.prog abt [.int .i64 a0,.ea [.sl .atype (.may false) ac0_0],.ea [.sl .atype (.may false) ac1_0],.ea [.int .i64 ac2_0]] (.bool r)∧yD a0 ac0_0 ac1_0 ac2_0 r
noncomputable def ako:bR Try.prog:=.mk 128 fun us=>match us with
 | [.int .i64 a0,.ea [.sl .atype (.may false) ac0_0],.ea [.sl .atype (.may false) ac1_0],.ea [.int .i64 ac2_0]]=>let r:=pick (mF a0 ac0_0 ac1_0 ac2_0);some (can (mF a0 ac0_0 ac1_0 ac2_0),.bool r)
 |_=>none
abbrev zY:=Int
noncomputable def d9(a0:Bss)(a1:Bs)(r:zY):Prop:=aU Try.prog qi [.sl .str (.may false) a0,.str a1] (.int .i64 r)∧oi a0 a1 r
noncomputable def zZ:bR Try.prog:=.mk 129 fun us=>match us with
 | [.sl .str (.may _) a0,.str a1]=>let r:=pick (d9 a0 a1);some (can (d9 a0 a1),.int .i64 r)
 |_=>none
abbrev ar2:=Int
noncomputable def uE(a0:aA)(a1:aM)(r:ar2):Prop:=aU Try.prog aje [.agg (enc .atype a0),.agg (enc .afield a1)] (.int .i64 r)∧yC a0 a1 r
noncomputable def ar3:bR Try.prog:=.mk 130 fun us=>match us with
 | [.agg [.int .i64 a0_0,.str a0_1,.sl .str (.may _) a0_2,.int .i64 a0_3,.sl .str (.may _) a0_4,.bool a0_5,.str a0_6,.int .i64 a0_7,.sl .afield (.may _) a0_8,.sl (.num .i64) (.may _) a0_9],.agg [.str a1_0,.sl .str (.may _) a1_1,.int .i64 a1_2,.bool a1_3,.int .i64 a1_4,.int .i64 a1_5,.str a1_6,.sl .jnode (.may _) a1_7,.sl .str (.may _) a1_8]]=>let r:=pick (uE (⟨a0_0,a0_1,a0_2,a0_3,a0_4,a0_5,a0_6,a0_7,a0_8,a0_9⟩) (⟨a1_0,a1_1,a1_2,a1_3,⟨a1_4,a1_5,a1_6,a1_7,a1_8⟩⟩));some (can (uE (⟨a0_0,a0_1,a0_2,a0_3,a0_4,a0_5,a0_6,a0_7,a0_8,a0_9⟩) (⟨a1_0,a1_1,a1_2,a1_3,⟨a1_4,a1_5,a1_6,a1_7,a1_8⟩⟩)),.int .i64 r)
 |_=>none
abbrev sQ:=Int
noncomputable def cu(a0:Bs)(a1:Int)(r:sQ):Prop:=aU Try.prog jX [.str a0,.int .u8 a1] (.int .i64 r)∧iz a0 a1 r
noncomputable def sR:bR Try.prog:=.mk 151 fun us=>match us with
 | [.str a0,.int .u8 a1]=>let r:=pick (cu a0 a1);some (can (cu a0 a1),.int .i64 r)
 |_=>none
abbrev lB:=Int
noncomputable def bv(a0:List aM)(a1_0_0:Bs)(r:lB):Prop:=aU Try.prog eE [.sl .afield (.may false) a0,.fn 153 [.ea [.str a1_0_0]]] (.int .i64 r)∧dY a0 a1_0_0 r
noncomputable def lC:bR Try.prog:=.mk 152 fun us=>match us with
 | [.sl .afield (.may _) a0,.fn 153 [.ea [.str a1_0_0]]]=>let r:=pick (bv a0 a1_0_0);some (can (bv a0 a1_0_0),.int .i64 r)
 |_=>none
abbrev amL:=Bool
noncomputable def oN(a0:aM)(ac0_0:Bs)(r:amL):Prop:=aU Try.prog adW [.agg (enc .afield a0),.ea [.str ac0_0]] (.bool r)∧aaH a0 ac0_0 r
noncomputable def amM:bR Try.prog:=.mk 153 fun us=>match us with
 | [.agg [.str a0_0,.sl .str (.may _) a0_1,.int .i64 a0_2,.bool a0_3,.int .i64 a0_4,.int .i64 a0_5,.str a0_6,.sl .jnode (.may _) a0_7,.sl .str (.may _) a0_8],.ea [.str ac0_0]]=>let r:=pick (oN (⟨a0_0,a0_1,a0_2,a0_3,⟨a0_4,a0_5,a0_6,a0_7,a0_8⟩⟩) ac0_0);some (can (oN (⟨a0_0,a0_1,a0_2,a0_3,⟨a0_4,a0_5,a0_6,a0_7,a0_8⟩⟩) ac0_0),.bool r)
 |_=>none
end Go.Proofs.Ytdpajabhmmmjoaa
end
noncomputable section
namespace Go.Proofs.Ytdpajabhmmmjoaa
open Go.AM
set_option autoImplicit false
set_option linter.unusedVariables false
set_option maxRecDepth 100000
noncomputable def ap4:aL:=tab (P:=Try.prog) [] [] [] [wT,ahu]
def an9:IR:=Rs [Mb 0 false] (Rs [Pp (.bld 3 [vI 0,vS,fu .str true,vI 0,fu .str true,.bool false,vS,vI 0,fu .afield true,fu (.num .i64) true] [(0,1,kI 3)]),Pp (.bsl 4 .atype [3] true),Pp (.bld 5 [nl .atype] [(0,1,4)]),Pp (.alr 1 1),Fz 1 1 5] (Rs [Pp (.bld 6 [vI 0,vS,fu .str true,vI 0,fu .str true,.bool false,vS,vI 0,fu .afield true,fu (.num .i64) true] [(0,1,kI 4)]),Pp (.bsl 7 .atype [6] true),Pp (.bld 8 [nl .atype] [(0,1,7)]),Pp (.alr 2 1),Fz 2 1 8] (Rs [Ld 9 1 true 1,Ld 10 1 true 2,Ca 11 30 [9,10,kI 0,kI 0],Mv 12 11,Gt 12 (.lde 13 1 true 2),Gt 12 (.lde 14 1 true 1),Gt 12 (.call 15 30 [13,14,kI 0,kI 0]),Gt 12 (.un 16 .not 15),Pa 17 12 16,Mv 18 17,Gt 18 (.lde 19 1 true 1),Gt 18 (.lde 20 1 true 2),Gt 18 (.call 21 32 [19,20,kI 0,kI 0]),Pa 22 18 21,Mv 23 22,Gt 23 (.lde 24 1 true 2),Gt 23 (.lde 25 1 true 1),Gt 23 (.call 26 32 [24,25,kI 0,kI 0]),Gt 23 (.un 27 .not 26),Pa 28 23 27,Mv 0 28] .ret)))
def aoa:List RV:=[.t 0]
theorem aob:FnC Try.prog ap4 [] 0 aho Try.f28 an9 aoa:=fnC Try.func28
def afa(N:Nat):Ro:=
 aF (eW ([⟨3,([]:Bs),([]:Bss),0,([]:Bss),false,([]:Bs),0,([]:List aM),([]:List Int)⟩]:List aA) ([⟨4,([]:Bs),([]:Bss),0,([]:Bss),false,([]:Bs),0,([]:List aM),([]:List Int)⟩]:List aA) 0 0) (fun(r1:Bool)=>
  cond r1 (
   aF (eW ([⟨4,([]:Bs),([]:Bss),0,([]:Bss),false,([]:Bs),0,([]:List aM),([]:List Int)⟩]:List aA) ([⟨3,([]:Bs),([]:Bss),0,([]:Bss),false,([]:Bs),0,([]:List aM),([]:List Int)⟩]:List aA) 0 0) (fun(r2:Bool)=>
    cond (!r2) (
     aF (eX ([⟨3,([]:Bs),([]:Bss),0,([]:Bss),false,([]:Bs),0,([]:List aM),([]:List Int)⟩]:List aA) ([⟨4,([]:Bs),([]:Bss),0,([]:Bss),false,([]:Bs),0,([]:List aM),([]:List Int)⟩]:List aA) 0 0) (fun(r3:Bool)=>
      cond r3 (
       aF (eX ([⟨4,([]:Bs),([]:Bss),0,([]:Bss),false,([]:Bs),0,([]:List aM),([]:List Int)⟩]:List aA) ([⟨3,([]:Bs),([]:Bss),0,([]:Bss),false,([]:Bs),0,([]:List aM),([]:List Int)⟩]:List aA) 0 0) (fun(r4:Bool)=>
        some (.bool (!r4),[]))) (
       some (.bool false,[])))) (
     some (.bool false,[])))) (
   some (.bool false,[])))
def afb(N:Nat):Ro:=afa N
theorem amN(N:Nat)(h:Tot (afb N ) (fun z=>∃(y0:Bool)(rest:List aJ),z.1.dimR=.bool y0∧z.2=rest∧acA  (y0))):∃r,sm  r:=aob.finP (N:=N) (by kernel_rfl) h fun _ ⟨y0,_,e,_,q⟩=>⟨(y0),e,q⟩
noncomputable def dK:aL:=tab (P:=Try.prog) [as8] [alA] [] [apT,wT,aa5,ahu,apY]
def yG:IR:=Sq (Rs [Mv 33 11,Fa 34 0 8,Lq 35 34,Ll 36 35,Bi 37 .lss 33 36] (Cn 37 .skip (.exit 2))) (Sq (.block 3 (Sq (.reg [Ld 40 1 true 7,Ld 41 1 true 8,Mv 42 10,Mv 43 11,Ca 44 30 [40,41,42,43],Ld 45 1 true 7,Ld 46 1 true 8,Mv 47 10,Mv 48 11,Ca 49 31 [45,46,47,48],Pp (.beq 50 true 44 49),Mv 51 50,Gf 51 (.mov 52 10),Gf 51 (.mov 53 11),Gf 51 (.bin 54 .add 52 53),Gf 51 (.bin 55 .rem 54 (kI 4)),Gf 51 (.bin 56 .eql 55 (kI 0)),Gf 51 (.mov 57 56),Gt 57 (.lde 58 1 true 7),Gt 57 (.lde 59 1 true 8),Gt 57 (.mov 60 10),Gt 57 (.mov 61 11),Gt 57 (.call 62 32 [58,59,60,61]),Gt 57 (.lde 63 1 true 7),Gt 57 (.lde 64 1 true 8),Gt 57 (.mov 65 10),Gt 57 (.mov 66 11),Gt 57 (.call 67 33 [63,64,65,66]),Gt 57 (.beq 68 true 62 67),Gf 51 (.pick 69 57 68 (kB false)),Po 70 51 69] [[],[],[],[],rg 0 3,[],[],[],[],rg 0 8,rg 0 9,rg 0 10,rg 0 11,rg 0 11,rg 0 13,rg 0 14,rg 0 15,rg 0 16,rg 0 17,rg 0 17,rg 0 17,rg 0 17,rg 0 21,rg 0 17,rg 0 17,rg 0 17,rg 0 17,rg 0 26,rg 0 27,rg 0 28,rg 0 29]) (Cn 70 (Rs [Mb 6 false] .ret) .skip))) (Rg [Mv 38 11,Bc 39 .add 38 1,Mv 11 39]))
def yH:IR:=Rg [Mv 31 10,Bc 32 .add 31 1,Mv 10 32]
def mV:IR:=Sq (Rs [Mv 26 10,Fa 27 0 7,Lq 28 27,Ll 29 28,Bi 30 .lss 26 29] (Cn 30 .skip (.exit 0))) (Sq (.block 1 (Rs [Mi 11 0] (.block 2 (.loop [1,2,7,8,10,11,1000000] 1 yG)))) yH)
def ri:IR:=Sq (.reg [Ld 71 1 true 7,Ld 72 1 true 8,Ca 73 32 [71,72,kI 0,kI 0],Ld 74 1 true 7,Ld 75 1 true 8,Ca 76 33 [74,75,kI 0,kI 0],Pp (.beq 77 false 73 76),Mv 78 77,Gt 78 (.lde 79 1 true 7),Gt 78 (.lde 80 1 true 8),Gt 78 (.mov 81 1),Gt 78 (.mov 82 2),Gt 78 (.call 83 32 [79,80,81,82]),Gt 78 (.lde 84 1 true 7),Gt 78 (.lde 85 1 true 8),Gt 78 (.mov 86 1),Gt 78 (.mov 87 2),Gt 78 (.call 88 33 [84,85,86,87]),Gt 78 (.beq 89 false 83 88),Pa 90 78 89,Mv 91 90,Gt 91 (.lde 92 1 true 7),Gt 91 (.lde 93 1 true 8),Gt 91 (.mov 94 1),Gt 91 (.mov 95 2),Gt 91 (.call 96 30 [92,93,94,95]),Gt 91 (.lde 97 1 true 7),Gt 91 (.lde 98 1 true 8),Gt 91 (.mov 99 1),Gt 91 (.mov 100 2),Gt 91 (.call 101 31 [97,98,99,100]),Gt 91 (.beq 102 false 96 101),Pa 103 91 102,Mv 6 103] [[],[],[0,1],[],[],rg 0 4,rg 0 5,rg 0 6,rg 0 7,rg 0 7,rg 0 7,rg 0 7,rg 0 11,rg 0 7,rg 0 7,rg 0 7,rg 0 7,rg 0 16,rg 0 17,rg 0 18,rg 0 19,rg 0 20,rg 0 20,rg 0 20,rg 0 20,rg 0 24,rg 0 20,rg 0 20,rg 0 20,rg 0 20,rg 0 29,rg 0 30,rg 0 31,rg 0 32]) .ret
def akp:IR:=Rs [Mb 6 false] (Sq (Rs [Ca 12 28 [],Un 13 12] (Cn 13 (Rs [Mb 6 false] .ret) .skip)) (Sq (Rs [Mv 14 0,Ll 15 14,Bc 16 .gtr 15 150] (Cn 16 (Rs [Mb 6 true] .ret) .skip)) (Rs [Mv 18 0,Ca 19 14 [18],Ca 20 29 [19],Mv 17 20,Ex_ 21 0 17,Ex_ 22 1 17,Ex_ 23 2 17,Pp (.alr 7 1),Pp (.alr 8 1),Fz 7 1 21,Fz 8 1 22,Mv 9 23] (Sq (Rs [Mv 24 9,Un 25 24] (Cn 25 (Rs [Mb 6 true] .ret) .skip)) (Sq (Rs [Mi 10 0] (.block 0 (.loop [1,2,7,8,10,1000001] 1 mV))) ri)))))
def vT:List RV:=[.t 6]
theorem akq:FnC Try.prog dK [14,29,2000029] 0 xq Try.f7 akp vT:=fnC Try.func7
def oO(R:IR→(Ex→St→Ro)→St→Ro)(again0:St→Ro):Ex→St→Ro:=(bk again0 [1,2,7,8,10,1000001] 1 (aP 0 (bj (R ri) (fin vT))))
abbrev eF:Type:=(Int×Int×List aA×List aA×Int×Bs×Int)
def cj(x:eF):St:={env:=(.undef::.int .i64 x.1::.int .i64 x.2.1::(U 4 (.ea [.sl .atype (.may false) x.2.2.1]::.ea [.sl .atype (.may false) x.2.2.2.1]::.undef::.int .i64 x.2.2.2.2.1::(U 93 [])))),hp:=[some [.sl .u8 (.may false) x.2.2.2.2.2.1,.int .i64 x.2.2.2.2.2.2]]}
def ajm(R:IR→(Ex→St→Ro)→St→Ro)(again0 again1:St→Ro):Ex→St→Ro:=(bk again1 [1,2,7,8,10,11,1000000] 1 (aP 2 (aP 1 (bj (R yH) (oO R again0)))))
abbrev oP:Type:=(Int×Int×List aA×List aA×Int×Int×Bs×Int)
def jY(x:oP):St:={env:=(.undef::.int .i64 x.1::.int .i64 x.2.1::(U 4 (.ea [.sl .atype (.may false) x.2.2.1]::.ea [.sl .atype (.may false) x.2.2.2.1]::.undef::.int .i64 x.2.2.2.2.1::.int .i64 x.2.2.2.2.2.1::(U 92 [])))),hp:=[some [.sl .u8 (.may false) x.2.2.2.2.2.2.1,.int .i64 x.2.2.2.2.2.2.2]]}
def oQ(N:Nat)(again0:St→Ro):(St→Ro)→St→Ro:=fun again1 s=>run dK N yG (ajm (run dK N) again0 again1) s
def lD(N:Nat)(again0:eF→Ro)(again1:oP→Ro)(x:oP):Ro:=
 let v1:Int:=x.1
 let v2:Int:=x.2.1
 let v7_0:List aA:=x.2.2.1
 let v8_0:List aA:=x.2.2.2.1
 let v10:Int:=x.2.2.2.2.1
 let v11:Int:=x.2.2.2.2.2.1
 let o0_0:Bs:=x.2.2.2.2.2.2.1
 let o0_1:Int:=x.2.2.2.2.2.2.2
 let x3:=(↑(List.length v8_0):Int)
 let z0:=(some (.bool false,[some [.sl .u8 (.may false) o0_0,.int .i64 o0_1]]):Ro)
 cond (decide (v11<x3)) (
  aF (eW v7_0 v8_0 v10 v11) (fun(r4:Bool)=>
   aF (gX v7_0 v8_0 v10 v11) (fun(r5:Bool)=>
    cond (!(r4==r5)) (
     z0) (
     let x4:=(IntKind.wrap .i64 (v10+v11))
     cond ((Int.tmod x4 4)==0) (
      aF (eX v7_0 v8_0 v10 v11) (fun(r6:Bool)=>
       aF (gY v7_0 v8_0 v10 v11) (fun(r7:Bool)=>
        cond (!(r6==r7)) (
         z0) (
         let x5:=(IntKind.wrap .i64 (v11+1))
         again1 (v1,v2,v7_0,v8_0,v10,x5,o0_0,o0_1))))) (
      let x6:=(IntKind.wrap .i64 (v11+1))
      again1 (v1,v2,v7_0,v8_0,v10,x6,o0_0,o0_1)))))) (
  let x7:=(IntKind.wrap .i64 (v10+1))
  again0 (v1,v2,v7_0,v8_0,x7,o0_0,o0_1))
theorem aib(N:Nat)(again0:St→Ro):LB (oQ N again0) jY (lD N (fun y=>again0 (cj y))):=fun _ _=>by kernel_rfl
def oR(N:Nat):(St→Ro)→St→Ro:=fun again0 s=>run dK N mV (oO (run dK N) again0) s
def oe(N:Nat)(again0:eF→Ro)(q1:oP→Ro)(x:eF):Ro:=
 let v1:Int:=x.1
 let v2:Int:=x.2.1
 let v7_0:List aA:=x.2.2.1
 let v8_0:List aA:=x.2.2.2.1
 let v10:Int:=x.2.2.2.2.1
 let o0_0:Bs:=x.2.2.2.2.2.1
 let o0_1:Int:=x.2.2.2.2.2.2
 let x2:=(↑(List.length v7_0):Int)
 let z0:=fun g0=>(some (.bool g0,[some [.sl .u8 (.may false) o0_0,.int .i64 o0_1]]):Ro)
 cond (decide (v10<x2)) (
  q1 (v1,v2,v7_0,v8_0,v10,0,o0_0,o0_1)) (
  aF (eX v7_0 v8_0 0 0) (fun(r8:Bool)=>
   aF (gY v7_0 v8_0 0 0) (fun(r9:Bool)=>
    cond (r8==r9) (
     aF (eX v7_0 v8_0 v1 v2) (fun(r10:Bool)=>
      aF (gY v7_0 v8_0 v1 v2) (fun(r11:Bool)=>
       cond (r10==r11) (
        aF (eW v7_0 v8_0 v1 v2) (fun(r12:Bool)=>
         aF (gX v7_0 v8_0 v1 v2) (fun(r13:Bool)=>
          z0 (r12==r13)))) (
        z0 false)))) (
     z0 false))))
def oS(N:Nat)(again0:eF→Ro)(x:eF):Ro:=oe N again0 (fun z=>aS N (lD N again0) z) x
def uF(N:Nat)(again0:St→Ro):List (Nat×(St→Ro)):=(bQ dK N mV (oO (run dK N) again0)++(bQ dK N ri (fin vT)++[]))
theorem aic(N:Nat):∀(again0:St→Ro)(x:eF),oR N again0 (cj x)=oS N (fun y=>again0 (cj y)) x:=by
 intro again0 x
 have hX:∀C:Nat→St→Ro,bT C dK N mV (oO (bT C dK N) again0) (cj x)=oe N (fun y=>again0 (cj y)) (fun z=>C 1000000 (jY z)) x:=by
  intro C
  kernel_rfl
 have h:oR N again0 (cj x)=oe N (fun y=>again0 (cj y)) (fun z=>aW N (oQ N again0) (jY z)) x:=(cW (C:=fb (uF N again0)) (bS (ba (l:=(uF N again0)) (by kernel_rfl))) (iD (cD (fI (bS (dR (ba (l:=(uF N again0)) (by kernel_rfl)))) rfl))) _).trans ((hX _).trans (by kernel_rfl))
 have e1:(fun z=>aW N (oQ N again0) (jY z))=(fun z=>aS N (lD N (fun y=>again0 (cj y))) z):=funext fun z=>aV (jY) (oQ N again0) (lD N (fun y=>again0 (cj y))) (aib N again0) N z
 rw[h,e1]
 rfl
def mG(N:Nat)(p0:Bs)(p1 p2:Int)(q0:eF→Ro):Ro:=
 aF (sm) (fun(r1:Bool)=>
  cond (!r1) (
   some (.bool false,[])) (
   let x1:=(↑(List.length p0):Int)
   cond (decide (150<x1)) (
    some (.bool true,[])) (
    aF (wh p0) (fun r2=>
     aF (nM r2.1 r2.2) (fun r3=>
      cond (!r3.2.2.1) (
       some (.bool true,[some [.sl .u8 (.may false) r3.2.2.2.1,.int .i64 r3.2.2.2.2]])) (
       q0 (p1,p2,r3.1,r3.2.1,0,r3.2.2.2.1,r3.2.2.2.2)))))))
def abv(N:Nat)(p0:Bs)(p1 p2:Int):Ro:=mG N p0 p1 p2 (fun z=>aS N (oS N) z)
theorem ajn(N:Nat)(p0:Bs)(p1 p2:Int)(h:Tot (abv N p0 p1 p2) (fun z=>∃(y0:Bool)(rest:List aJ),z.1.dimR=.bool y0∧z.2=rest∧sP p0 p1 p2 (y0))):∃r,acC p0 p1 p2 r:=akq.finP (N:=N) ((bu _ (by kernel_rfl) rfl (fun C=>mG N p0 p1 p2 (fun z=>C 1000001 (cj z))) (fun C=>by kernel_rfl)).trans (Eq.trans (b:=mG N p0 p1 p2 (fun z=>aW N (oR N) (cj z))) (by kernel_rfl) (congrArg (mG N p0 p1 p2) (funext fun z=>aV (cj) (oR N) (oS N) (aic N) N z)))) h fun _ ⟨y0,_,e,_,q⟩=>⟨(y0),e,q⟩
end Go.Proofs.Ytdpajabhmmmjoaa
end
noncomputable section
namespace Go.Proofs.Ytdpajabhmmmjoaa
open Go.AM
set_option autoImplicit false
set_option linter.unusedVariables false
set_option maxRecDepth 100000
noncomputable def fq:aL:=tab (P:=Try.prog) [] [] [] []
def iA:IR:=Sq (Rs [Mv 9 5,Bc 10 .geq 9 0] (Cn 10 .skip (.exit 0))) (Sq (.block 1 (Rs [Mv 13 0,Mv 14 5,Pp (.idx 15 13 14),Mv 16 1,Bi 17 .eql 15 16] (Cn 17 (Rs [Mv 18 5,Mv 4 18] .ret) .skip))) (Rg [Mv 11 5,Bc 12 .sub 11 1,Mv 5 12]))
def iB:IR:=Rs [Mi 4 (-1)] .ret
def ss:IR:=Rs [Mi 4 0] (Sq (Rs [Mv 6 0,Pp (.lens 7 6),Bc 8 .sub 7 1,Mv 5 8] (.block 0 (.loop [0,1,5,1000000] 0 iA))) iB)
def jp:List RV:=[.t 4]
theorem su:FnC Try.prog fq [] 0 jX Try.f151 ss jp:=fnC Try.func151
def rj(R:IR→(Ex→St→Ro)→St→Ro)(again0:St→Ro):Ex→St→Ro:=(bk again0 [0,1,5,1000000] 0 (aP 0 (bj (R iB) (fin jp))))
abbrev de:Type:=(Bs×Int×Int)
def db(x:de):St:={env:=(.str x.1::.int .u8 x.2.1::(U 3 (.int .i64 x.2.2::(U 13 [])))),hp:=[]}
def eM(N:Nat):(St→Ro)→St→Ro:=fun again0 s=>run fq N iA (rj (run fq N) again0) s
def dg(N:Nat)(again0:de→Ro)(x:de):Ro:=
 let v0:Bs:=x.1
 let v1:Int:=x.2.1
 let v5:Int:=x.2.2
 cond (decide (0≤v5)) (
  chk (ixl v5 v0) (
   let x3:=(↑(UInt8.toNat (List.getD v0 (Int.toNat v5) 0)):Int)
   cond (x3==v1) (
    some (.int .i64 v5,[])) (
    let x4:=(IntKind.wrap .i64 (v5-1))
    again0 (v0,v1,x4)))) (
  some (.int .i64 (-1),[]))
theorem qV(N:Nat):LB (eM N) db (dg N):=fun _ _=>by kernel_rfl
def cp(N:Nat)(p0:Bs)(p1:Int)(q0:de→Ro):Ro:=
 let x1:=(↑(List.length p0):Int)
 let x2:=(IntKind.wrap .i64 (x1-1))
 q0 (p0,p1,x2)
def jq(N:Nat)(p0:Bs)(p1:Int):Ro:=cp N p0 p1 (fun z=>aS N (dg N) z)
theorem rl(N:Nat)(p0:Bs)(p1:Int)(h:Tot (jq N p0 p1) (fun z=>∃(y0:Int)(rest:List aJ),z.1.dimR=.int .i64 y0∧z.2=rest∧iz p0 p1 (y0))):∃r,cu p0 p1 r:=su.finP (N:=N) ((bu _ (by kernel_rfl) rfl (fun C=>cp N p0 p1 (fun z=>C 1000000 (db z))) (fun C=>by kernel_rfl)).trans (Eq.trans (b:=cp N p0 p1 (fun z=>aW N (eM N) (db z))) (by kernel_rfl) (congrArg (cp N p0 p1) (funext fun z=>aV (db) (eM N) (dg N) (qV N) N z)))) h fun _ ⟨y0,_,e,_,q⟩=>⟨(y0),e,q⟩
noncomputable def adk:aL:=tab (P:=Try.prog) [] [] [] [sR]
def acG:IR:=Rs [Mi 4 0] (Rs [Mv 5 0,Mv 6 1,Ca 7 151 [5,6],Mv 4 7] .ret)
def acH:List RV:=[.t 4]
theorem acI:FnC Try.prog adk [] 0 vH Try.f125 acG acH:=fnC Try.func125
def uG(N:Nat)(p0:Bs)(p1:Int):Ro:=
 aF (cu p0 p1) (fun(r1:Int)=>
  some (.int .i64 r1,[]))
def uH(N:Nat)(p0:Bs)(p1:Int):Ro:=uG N p0 p1
theorem abX(N:Nat)(p0:Bs)(p1:Int)(h:Tot (uH N p0 p1) (fun z=>∃(y0:Int)(rest:List aJ),z.1.dimR=.int .i64 y0∧z.2=rest∧sk p0 p1 (y0))):∃r,fZ p0 p1 r:=acI.finP (N:=N) (by kernel_rfl) h fun _ ⟨y0,_,e,_,q⟩=>⟨(y0),e,q⟩
noncomputable def ar4:aL:=tab (P:=Try.prog) [] [] [] [adj]
def ap5:IR:=Rs [Ms 2 []] (Rs [Mv 3 0,Mv 4 0,Ca 5 125 [4,.c (.int .u8 46)],Bc 6 .add 5 1,Pp (.subs 7 3 (some 6) none),Mv 2 7] .ret)
def ap6:List RV:=[.t 2]
theorem ap7:FnC Try.prog ar4 [] 0 ajf Try.f89 ap5 ap6:=fnC Try.func89
def ahv(N:Nat)(p0:Bs):Ro:=
 aF (fZ p0 46) (fun(r1:Int)=>
  let x1:=(IntKind.wrap .i64 (r1+1))
  chk ((decide (0≤x1)&&decide (x1≤(↑(List.length p0):Int)))) (
   let x2:=(List.drop (Int.toNat x1) (List.take (List.length p0) p0))
   some (.str x2,[])))
def ahw(N:Nat)(p0:Bs):Ro:=ahv N p0
theorem aoc(N:Nat)(p0:Bs)(h:Tot (ahw N p0) (fun z=>∃(y0:Bs)(rest:List aJ),z.1.dimR=.str y0∧z.2=rest∧adV p0 (y0))):∃r,nN p0 r:=ap7.finP (N:=N) (by kernel_rfl) h fun _ ⟨y0,_,e,_,q⟩=>⟨(y0),e,q⟩
noncomputable def auD:aL:=tab (P:=Try.prog) [] [] [] []
def atm:IR:=Rs [Bx 2 0,Mb 4 false] (Rs [Mv 5 1,Bc 6 .geq 5 0,Mv 7 6,Gt 7 (.mov 8 1),Gt 7 (.fad 9 0 2),Gt 7 (.lde 10 1 false 9),Gt 7 (.lenl 11 10),Gt 7 (.bin 12 .lss 8 11),Pa 13 7 12,Mv 4 13] .ret)
def atn:List RV:=[.t 4]
theorem ato:FnC Try.prog auD [] 0 amJ Try.f63 atm atn:=fnC Try.func63
def ak2(N:Nat)(p0_0:List aA)(p1:Int):Ro:=
 cond (decide (0≤p1)) (
  let x1:=(↑(List.length p0_0):Int)
  some (.bool (decide (p1<x1)),[])) (
  some (.bool false,[]))
def ak3(N:Nat)(p0_0:List aA)(p1:Int):Ro:=ak2 N p0_0 p1
theorem ar5(N:Nat)(p0_0:List aA)(p1:Int)(h:Tot (ak3 N p0_0 p1) (fun z=>∃(y0:Bool)(rest:List aJ),z.1.dimR=.bool y0∧z.2=rest∧ahl p0_0 p1 (y0))):∃r,oM p0_0 p1 r:=ato.finP (N:=N) (by kernel_rfl) h fun _ ⟨y0,_,e,_,q⟩=>⟨(y0),e,q⟩
noncomputable def akr:aL:=tab (P:=Try.prog) [] [] [] [ajl]
def ajo:IR:=Rs [Mb 3 false] (Sq (.reg [Mv 4 0,Ca 5 89 [4],Lq 6 1,Bi 7 .eql 5 6,Mv 3 7] [[],[0],[],[0,1,2],rg 0 3]) .ret)
def ajp:List RV:=[.t 3]
theorem ajq:FnC Try.prog akr [] 0 abu Try.f91 ajo ajp:=fnC Try.func91
def aaL(N:Nat)(p0 pc0_0:Bs):Ro:=
 aF (nN p0) (fun(r1:Bs)=>
  some (.bool (decide (r1=pc0_0)),[]))
def aaM(N:Nat)(p0 pc0_0:Bs):Ro:=aaL N p0 pc0_0
theorem aid(N:Nat)(p0 pc0_0:Bs)(h:Tot (aaM N p0 pc0_0) (fun z=>∃(y0:Bool)(rest:List aJ),z.1.dimR=.bool y0∧z.2=rest∧yB p0 pc0_0 (y0))):∃r,mE p0 pc0_0 r:=ajq.finP (N:=N) (by kernel_rfl) h fun _ ⟨y0,_,e,_,q⟩=>⟨(y0),e,q⟩
noncomputable def dv:aL:=tab (P:=Try.prog) [] [] [] [akm]
def fm:IR:=Rs [Bi 9 .lss 8 7] (Sq (Cn 9 .skip (.exit 0)) (Sq (.block 1 (Rs [Mv 10 8,Mv 5 10] (Rs [Mv 11 1,Mv 12 0,Mv 13 5,Ix 14 .str 12 13,Lq 15 14,Pp (.dcall (some 16) 91 (.t 11) [.t 15])] (Cn 16 (Rs [Mv 17 5,Mv 4 17] .ret) .skip)))) (Rg [Bc 18 .add 8 1,Mv 8 18])))
def fo:IR:=Rs [Mi 4 (-1)] .ret
def nC:IR:=Rs [Mi 4 0] (Sq (Rs [Mv 6 0,Ll 7 6,Mi 8 0] (.block 0 (.loop [0,1,7,8,1000000] 0 fm))) fo)
def fC:List RV:=[.t 4]
theorem nD:FnC Try.prog dv [] 0 fM Try.f126 nC fC:=fnC Try.func126
def mW(R:IR→(Ex→St→Ro)→St→Ro)(again0:St→Ro):Ex→St→Ro:=(bk again0 [0,1,7,8,1000000] 0 (aP 0 (bj (R fo) (fin fC))))
abbrev ce:Type:=(Bss×Bs×Int×Int)
def b8(x:ce):St:={env:=(.sl .str (.may false) x.1::.fn 91 [.ea [.str x.2.1]]::(U 5 (.int .i64 x.2.2.1::.int .i64 x.2.2.2::(U 10 [])))),hp:=[]}
def dh(N:Nat):(St→Ro)→St→Ro:=fun again0 s=>run dv N fm (mW (run dv N) again0) s
def cf(N:Nat)(again0:ce→Ro)(x:ce):Ro:=
 let v0:Bss:=x.1
 let v1_0_0:Bs:=x.2.1
 let v7:Int:=x.2.2.1
 let v8:Int:=x.2.2.2
 cond (decide (v8<v7)) (
  chk (ixl v8 v0) (
   let x2:=List.getD v0 (Int.toNat v8) (aG .str)
   aF (mE x2 v1_0_0) (fun(r1:Bool)=>
    cond r1 (
     some (.int .i64 v8,[])) (
     let x3:=(IntKind.wrap .i64 (v8+1))
     again0 (v0,v1_0_0,v7,x3))))) (
  some (.int .i64 (-1),[]))
theorem mH(N:Nat):LB (dh N) b8 (cf N):=fun _ _=>by kernel_rfl
def bE(N:Nat)(p0:Bss)(p1_0_0:Bs)(q0:ce→Ro):Ro:=
 let x1:=(↑(List.length p0):Int)
 q0 (p0,p1_0_0,x1,0)
def fD(N:Nat)(p0:Bss)(p1_0_0:Bs):Ro:=bE N p0 p1_0_0 (fun z=>aS N (cf N) z)
theorem mX(N:Nat)(p0:Bss)(p1_0_0:Bs)(h:Tot (fD N p0 p1_0_0) (fun z=>∃(y0:Int)(rest:List aJ),z.1.dimR=.int .i64 y0∧z.2=rest∧fk p0 p1_0_0 (y0))):∃r,bG p0 p1_0_0 r:=nD.finP (N:=N) ((bu _ (by kernel_rfl) rfl (fun C=>bE N p0 p1_0_0 (fun z=>C 1000000 (b8 z))) (fun C=>by kernel_rfl)).trans (Eq.trans (b:=bE N p0 p1_0_0 (fun z=>aW N (dh N) (b8 z))) (by kernel_rfl) (congrArg (bE N p0 p1_0_0) (funext fun z=>aV (b8) (dh N) (cf N) (mH N) N z)))) h fun _ ⟨y0,_,e,_,q⟩=>⟨(y0),e,q⟩
noncomputable def mI:aL:=tab (P:=Try.prog) [] [] [] [nP]
def ms:IR:=Rs [Mb 4 false] (Rs [Mv 5 0,Mv 6 1,Ca 7 126 [5,6],Bc 8 .geq 7 0,Mv 4 8] .ret)
def mt:List RV:=[.t 4]
theorem mu:FnC Try.prog mI [] 0 fl Try.f90 ms mt:=fnC Try.func90
def eY(N:Nat)(p0:Bss)(p1_0_0:Bs):Ro:=
 aF (bG p0 p1_0_0) (fun(r1:Int)=>
  some (.bool (decide (0≤r1)),[]))
def eZ(N:Nat)(p0:Bss)(p1_0_0:Bs):Ro:=eY N p0 p1_0_0
theorem lH(N:Nat)(p0:Bss)(p1_0_0:Bs)(h:Tot (eZ N p0 p1_0_0) (fun z=>∃(y0:Bool)(rest:List aJ),z.1.dimR=.bool y0∧z.2=rest∧eD p0 p1_0_0 (y0))):∃r,bA p0 p1_0_0 r:=mu.finP (N:=N) (by kernel_rfl) h fun _ ⟨y0,_,e,_,q⟩=>⟨(y0),e,q⟩
noncomputable def aod:aL:=tab (P:=Try.prog) [] [] [] [ajl,mD]
def amO:IR:=Rs [Bx 2 0,Bx 3 1,Mb 4 false] (Rs [Fa 6 1 2,Lq 7 6,Ca 8 89 [7],Pp (.alr 5 1),Fz 5 1 8] (Sq (.reg [Fa 9 1 3,Lq 10 9,Ca 11 89 [10],Lq 12 5,Bi 13 .eql 11 12,Mv 14 13,Gf 14 (.fad 15 2 3),Gf 14 (.lde 16 1 false 15),Gf 14 (.mkf 17 91 [.t 5]),Gf 14 (.call 18 90 [16,17]),Po 19 14 18,Mv 4 19] [[],[0],[0,1],[],rg 0 3,rg 0 4,rg 0 5,rg 0 6,rg 0 5,rg 0 8,rg 0 9,rg 0 10]) .ret))
def amP:List RV:=[.t 4]
theorem amQ:FnC Try.prog aod [] 0 ae6 Try.f64 amO amP:=fnC Try.func64
def adX(N:Nat)(p0 p1:aA):Ro:=
 aF (nN p0.name) (fun(r1:Bs)=>
  aF (nN p1.name) (fun(r2:Bs)=>
   cond (decide (r2=r1)) (
    some (.bool true,[])) (
    aF (bA p1.aliases r1) (fun(r3:Bool)=>
     some (.bool r3,[])))))
def adY(N:Nat)(p0 p1:aA):Ro:=adX N p0 p1
theorem alB(N:Nat)(p0 p1:aA)(h:Tot (adY N p0 p1) (fun z=>∃(y0:Bool)(rest:List aJ),z.1.dimR=.bool y0∧z.2=rest∧abo p0 p1 (y0))):∃r,kr p0 p1 r:=amQ.finP (N:=N) (by kernel_rfl) h fun _ ⟨y0,_,e,_,q⟩=>⟨(y0),e,q⟩
noncomputable def ap8:aL:=tab (P:=Try.prog) [] [] [] [amK,an2]
def aoe:IR:=Rs [Bx 4 0,Bx 5 1,Mb 8 false] (Sq (Rs [Ld 11 1 true 4,Mv 12 2,Ca 13 63 [11,12],Un 14 13,Mv 15 14,Gf 15 (.lde 16 1 true 5),Gf 15 (.mov 17 3),Gf 15 (.call 18 63 [16,17]),Gf 15 (.un 19 .not 18),Po 20 15 19] (Cn 20 (Rs [Mb 8 false] .ret) .skip)) (Sq (.reg [Fa 21 0 4,Lq 22 21,Mv 23 2,Ix 24 .atype 22 23,Ld 25 10 true 24,Fa 26 0 5,Lq 27 26,Mv 28 3,Ix 29 .atype 27 28,Ld 30 10 true 29,Pp (.alr 9 10),Pp (.alr 10 10),Fz 9 10 25,Fz 10 10 30] [[],[0],[],[0,1,2],rg 0 3,[],[5],[],[5,6,7],rg 5 8,[],[],rg 0 4++[10,11],rg 0 12]) (Sq (Rs [Fa 31 0 9,Lq 32 31] (.block 0 (Rs [Bc 34 .eql 32 14,Mv 33 34] (Cn 33 (Rs [Mb 8 false] .ret) (Sq (Rs [Bc 36 .eql 32 9,Mv 35 36] (Cn 35 .skip (Rg [Bc 37 .eql 32 10,Mv 35 37]))) (Cn 35 (Rs [Fa 38 0 9,Lq 39 38,Fa 40 0 10,Lq 41 40,Bi 42 .eql 39 41,Mv 43 42,Gt 43 (.lde 44 10 true 9),Gt 43 (.lde 45 10 true 10),Gt 43 (.call 46 64 [44,45]),Pa 47 43 46,Mv 8 47] .ret) (Rs [Bc 49 .eql 32 11,Mv 48 49] (Cn 48 (Rs [Fa 50 0 9,Lq 51 50,Fa 52 0 10,Lq 53 52,Bi 54 .eql 51 53,Mv 55 54,Gt 55 (.lde 56 10 true 9),Gt 55 (.lde 57 10 true 10),Gt 55 (.call 58 64 [56,57]),Pa 59 55 58,Mv 60 59,Gt 60 (.fad 61 7 9),Gt 60 (.lde 62 1 false 61),Gt 60 (.fad 63 7 10),Gt 60 (.lde 64 1 false 63),Gt 60 (.bin 65 .eql 62 64),Pa 66 60 65,Mv 8 66] .ret) (Sq (Rs [Bc 68 .eql 32 3,Mv 67 68] (Cn 67 .skip (Rs [Bc 69 .eql 32 4,Mv 67 69] (Cn 67 .skip (Rg [Bc 70 .eql 32 5,Mv 67 70]))))) (Cn 67 (Rs [Fa 71 0 10,Lq 72 71,Fa 73 0 9,Lq 74 73,Bi 75 .geq 72 74,Mv 76 75,Gt 76 (.fad 77 0 10),Gt 76 (.lde 78 1 false 77),Gt 76 (.bin 79 .leq 78 (kI 6)),Pa 80 76 79,Mv 8 80] .ret) (Rs [Bc 82 .eql 32 8,Mv 81 82] (Cn 81 (Rs [Fa 83 0 10,Lq 84 83,Bc 85 .eql 84 8,Mv 86 85,Gf 86 (.fad 87 0 10),Gf 86 (.lde 88 1 false 87),Gf 86 (.bin 89 .eql 88 (kI 7)),Po 90 86 89,Mv 8 90] .ret) .skip)))))))))))) (Rs [Fa 91 0 9,Lq 92 91,Fa 93 0 10,Lq 94 93,Bi 95 .eql 92 94,Mv 8 95] .ret))))
def aof:List RV:=[.t 8]
theorem aog:FnC Try.prog ap8 [] 0 ahn Try.f30 aoe aof:=fnC Try.func30
def afc(N:Nat)(p0_0 p1_0:List aA)(p2 p3:Int):Ro:=
 aF (oM p0_0 p2) (fun(r1:Bool)=>
  cond (!r1) (
   some (.bool false,[])) (
   aF (oM p1_0 p3) (fun(r2:Bool)=>
    cond (!r2) (
     some (.bool false,[])) (
     chk (ixl p2 p0_0) (
      let x1:=(List.getD p0_0 (Int.toNat p2) (aG .atype))
      chk (ixl p3 p1_0) (
       let x2:=(List.getD p1_0 (Int.toNat p3) (aG .atype))
       cond (x1.kind==14) (
        some (.bool false,[])) (
        cond (x1.kind==9) (
         cond (x1.kind==x2.kind) (
          aF (kr x1 x2) (fun(r3:Bool)=>
           some (.bool r3,[]))) (
          some (.bool false,[]))) (
         cond (x1.kind==10) (
          cond (x1.kind==x2.kind) (
           aF (kr x1 x2) (fun(r4:Bool)=>
            some (.bool r4,[]))) (
           some (.bool false,[]))) (
          cond (x1.kind==11) (
           cond (x1.kind==x2.kind) (
            aF (kr x1 x2) (fun(r5:Bool)=>
             cond r5 (
              some (.bool (x1.size==x2.size),[])) (
              some (.bool false,[])))) (
            some (.bool false,[]))) (
           cond (x1.kind==3) (
            let x3:=decide (x1.kind≤x2.kind)
            cond x3 (
             some (.bool (decide (x2.kind≤6)),[])) (
             some (.bool false,[]))) (
            cond (x1.kind==4) (
             let x4:=decide (x1.kind≤x2.kind)
             cond x4 (
              some (.bool (decide (x2.kind≤6)),[])) (
              some (.bool false,[]))) (
             cond (x1.kind==5) (
              let x5:=decide (x1.kind≤x2.kind)
              cond x5 (
               some (.bool (decide (x2.kind≤6)),[])) (
               some (.bool false,[]))) (
              cond (x1.kind==8) (
               cond (x2.kind==8) (
                some (.bool true,[])) (
                some (.bool (x2.kind==7),[]))) (
               some (.bool (x1.kind==x2.kind),[])))))))))))))))
def afd(N:Nat)(p0_0 p1_0:List aA)(p2 p3:Int):Ro:=afc N p0_0 p1_0 p2 p3
theorem amR(N:Nat)(p0_0 p1_0:List aA)(p2 p3:Int)(h:Tot (afd N p0_0 p1_0 p2 p3) (fun z=>∃(y0:Bool)(rest:List aJ),z.1.dimR=.bool y0∧z.2=rest∧xm p0_0 p1_0 p2 p3 (y0))):∃r,eW p0_0 p1_0 p2 p3 r:=aog.finP (N:=N) (by kernel_rfl) h fun _ ⟨y0,_,e,_,q⟩=>⟨(y0),e,q⟩
noncomputable def amS:aL:=tab (P:=Try.prog) [] [] [] []
def alC:IR:=Rs [Bx 2 0,Mb 3 false] (Rs [Fa 4 0 2,Lq 5 4,Lq 6 1,Bi 7 .eql 5 6,Mv 3 7] .ret)
def alD:List RV:=[.t 3]
theorem alE:FnC Try.prog amS [] 0 adW Try.f153 alC alD:=fnC Try.func153
def acJ(N:Nat)(p0:aM)(pc0_0:Bs):Ro:=
 some (.bool (decide (p0.name=pc0_0)),[])
def acK(N:Nat)(p0:aM)(pc0_0:Bs):Ro:=acJ N p0 pc0_0
theorem aks(N:Nat)(p0:aM)(pc0_0:Bs)(h:Tot (acK N p0 pc0_0) (fun z=>∃(y0:Bool)(rest:List aJ),z.1.dimR=.bool y0∧z.2=rest∧aaH p0 pc0_0 (y0))):∃r,oN p0 pc0_0 r:=alE.finP (N:=N) (by kernel_rfl) h fun _ ⟨y0,_,e,_,q⟩=>⟨(y0),e,q⟩
noncomputable def cQ:aL:=tab (P:=Try.prog) [] [] [] [amM]
def dZ:IR:=Rs [Bi 9 .lss 8 7] (Sq (Cn 9 .skip (.exit 0)) (Sq (.block 1 (Rs [Mv 10 8,Mv 5 10] (Rs [Mv 11 1,Mv 12 0,Mv 13 5,Ix 14 .afield 12 13,Ld 15 9 true 14,Pp (.dcall (some 16) 153 (.t 11) [.t 15])] (Cn 16 (Rs [Mv 17 5,Mv 4 17] .ret) .skip)))) (Rg [Bc 18 .add 8 1,Mv 8 18])))
def d6:IR:=Rs [Mi 4 (-1)] .ret
def kL:IR:=Rs [Mi 4 0] (Sq (Rs [Mv 6 0,Ll 7 6,Mi 8 0] (.block 0 (.loop [0,1,7,8,1000000] 0 dZ))) d6)
def eu:List RV:=[.t 4]
theorem kM:FnC Try.prog cQ [] 0 eE Try.f152 kL eu:=fnC Try.func152
def ku(R:IR→(Ex→St→Ro)→St→Ro)(again0:St→Ro):Ex→St→Ro:=(bk again0 [0,1,7,8,1000000] 0 (aP 0 (bj (R d6) (fin eu))))
abbrev bN:Type:=(List aM×Bs×Int×Int)
def bK(x:bN):St:={env:=(.sl .afield (.may false) x.1::.fn 153 [.ea [.str x.2.1]]::(U 5 (.int .i64 x.2.2.1::.int .i64 x.2.2.2::(U 10 [])))),hp:=[]}
def cE(N:Nat):(St→Ro)→St→Ro:=fun again0 s=>run cQ N dZ (ku (run cQ N) again0) s
def bO(N:Nat)(again0:bN→Ro)(x:bN):Ro:=
 let v0:List aM:=x.1
 let v1_0_0:Bs:=x.2.1
 let v7:Int:=x.2.2.1
 let v8:Int:=x.2.2.2
 cond (decide (v8<v7)) (
  chk (ixl v8 v0) (
   let x2:=(List.getD v0 (Int.toNat v8) (aG .afield))
   aF (oN (reF x2) v1_0_0) (fun(r1:Bool)=>
    cond r1 (
     some (.int .i64 v8,[])) (
     let x3:=(IntKind.wrap .i64 (v8+1))
     again0 (v0,v1_0_0,v7,x3))))) (
  some (.int .i64 (-1),[]))
theorem jZ(N:Nat):LB (cE N) bK (bO N):=fun _ _=>by kernel_rfl
def bq(N:Nat)(p0:List aM)(p1_0_0:Bs)(q0:bN→Ro):Ro:=
 let x1:=(↑(List.length p0):Int)
 q0 (p0,p1_0_0,x1,0)
def ey(N:Nat)(p0:List aM)(p1_0_0:Bs):Ro:=bq N p0 p1_0_0 (fun z=>aS N (bO N) z)
theorem kv(N:Nat)(p0:List aM)(p1_0_0:Bs)(h:Tot (ey N p0 p1_0_0) (fun z=>∃(y0:Int)(rest:List aJ),z.1.dimR=.int .i64 y0∧z.2=rest∧dY p0 p1_0_0 (y0))):∃r,bv p0 p1_0_0 r:=kM.finP (N:=N) ((bu _ (by kernel_rfl) rfl (fun C=>bq N p0 p1_0_0 (fun z=>C 1000000 (bK z))) (fun C=>by kernel_rfl)).trans (Eq.trans (b:=bq N p0 p1_0_0 (fun z=>aW N (cE N) (bK z))) (by kernel_rfl) (congrArg (bq N p0 p1_0_0) (funext fun z=>aV (bK) (cE N) (bO N) (jZ N) N z)))) h fun _ ⟨y0,_,e,_,q⟩=>⟨(y0),e,q⟩
noncomputable def acL:aL:=tab (P:=Try.prog) [] [] [] [lC]
def adZ:IR:=Rs [Bi 16 .lss 15 14] (Sq (Cn 16 .skip (.exit 0)) (Sq (.block 1 (Rs [Ix 17 .str 13 15,Lq 18 17,Pp (.alr 6 1),Fz 6 1 18] (Rs [Fa 19 8 2,Lq 20 19,Pp (.mkf 21 153 [.t 6]),Ca 22 152 [20,21],Mv 7 22] (Rs [Mv 23 7,Bc 24 .geq 23 0] (Cn 24 (Rs [Mv 25 7,Mv 4 25] .ret) .skip))))) (Rg [Bc 26 .add 15 1,Mv 15 26])))
def acM:IR:=Rs [Mi 4 (-1)] .ret
def ap9:IR:=Rs [Bx 2 0,Bx 3 1,Mi 4 0] (Sq (Rs [Fa 8 0 3,Lq 9 8,Pp (.bsl 10 .str [9] false),Fa 11 1 3,Lq 12 11,Pp (.app 13 .str (.tk 10) 12),Ll 14 13,Mi 15 0] (.block 0 (.loop [2,13,14,15,1000000] 0 adZ))) acM)
def ahx:List RV:=[.t 4]
theorem aqa:FnC Try.prog acL [] 0 aje Try.f130 ap9 ahx:=fnC Try.func130
def aoh(R:IR→(Ex→St→Ro)→St→Ro)(again0:St→Ro):Ex→St→Ro:=(bk again0 [2,13,14,15,1000000] 0 (aP 0 (bj (R acM) (fin ahx))))
abbrev vb:Type:=(aA×Bss×Int×Int)
def s8(x:vb):St:={env:=(.undef::.undef::.ea (enc .atype x.1)::(U 10 (.sl .str .own x.2.1::.int .i64 x.2.2.1::.int .i64 x.2.2.2::(U 11 [])))),hp:=[]}
def z8(N:Nat):(St→Ro)→St→Ro:=fun again0 s=>run acL N adZ (aoh (run acL N) again0) s
def vc(N:Nat)(again0:vb→Ro)(x:vb):Ro:=
 let v2:aA:=x.1
 let v13:Bss:=x.2.1
 let v14:Int:=x.2.2.1
 let v15:Int:=x.2.2.2
 cond (decide (v15<v14)) (
  chk (ixl v15 v13) (
   let x3:=List.getD v13 (Int.toNat v15) (aG .str)
   aF (bv v2.fields x3) (fun(r1:Int)=>
    cond (decide (0≤r1)) (
     some (.int .i64 r1,[])) (
     let x4:=(IntKind.wrap .i64 (v15+1))
     again0 (v2,v13,v14,x4))))) (
  some (.int .i64 (-1),[]))
theorem amT(N:Nat):LB (z8 N) s8 (vc N):=fun _ _=>by kernel_rfl
def sv(N:Nat)(p0:aA)(p1:aM)(q0:vb→Ro):Ro:=
 chk (decide ((List.length ([p1.name]:Bss)+List.length p1.aliases)*16≤140737488355328)) (
  let x1:=(([p1.name]:Bss)++p1.aliases)
  let x2:=(↑(List.length x1):Int)
  q0 (p0,x1,x2,0))
def ahy(N:Nat)(p0:aA)(p1:aM):Ro:=sv N p0 p1 (fun z=>aS N (vc N) z)
theorem aoi(N:Nat)(p0:aA)(p1:aM)(h:Tot (ahy N p0 p1) (fun z=>∃(y0:Int)(rest:List aJ),z.1.dimR=.int .i64 y0∧z.2=rest∧yC p0 p1 (y0))):∃r,uE p0 p1 r:=aqa.finP (N:=N) ((bu _ (by kernel_rfl) rfl (fun C=>sv N p0 p1 (fun z=>C 1000000 (s8 z))) (fun C=>by kernel_rfl)).trans (Eq.trans (b:=sv N p0 p1 (fun z=>aW N (z8 N) (s8 z))) (by kernel_rfl) (congrArg (sv N p0 p1) (funext fun z=>aV (s8) (z8 N) (vc N) (amT N) N z)))) h fun _ ⟨y0,_,e,_,q⟩=>⟨(y0),e,q⟩
noncomputable def akt:aL:=tab (P:=Try.prog) [] [] [] [wT]
def ajr:IR:=Rs [Mb 5 false] (Rs [Ld 6 1 true 1,Ld 7 1 true 2,Lq 8 3,Mv 9 0,Ca 10 30 [6,7,8,9],Mv 5 10] .ret)
def ajs:List RV:=[.t 5]
theorem ajt:FnC Try.prog akt [] 0 abt Try.f128 ajr ajs:=fnC Try.func128
def aaN(N:Nat)(p0:Int)(pc0_0 pc1_0:List aA)(pc2_0:Int):Ro:=
 aF (eW pc0_0 pc1_0 pc2_0 p0) (fun(r1:Bool)=>
  some (.bool r1,[]))
def aaO(N:Nat)(p0:Int)(pc0_0 pc1_0:List aA)(pc2_0:Int):Ro:=aaN N p0 pc0_0 pc1_0 pc2_0
theorem aie(N:Nat)(p0:Int)(pc0_0 pc1_0:List aA)(pc2_0:Int)(h:Tot (aaO N p0 pc0_0 pc1_0 pc2_0) (fun z=>∃(y0:Bool)(rest:List aJ),z.1.dimR=.bool y0∧z.2=rest∧yD p0 pc0_0 pc1_0 pc2_0 (y0))):∃r,mF p0 pc0_0 pc1_0 pc2_0 r:=ajt.finP (N:=N) (by kernel_rfl) h fun _ ⟨y0,_,e,_,q⟩=>⟨(y0),e,q⟩
noncomputable def eb:aL:=tab (P:=Try.prog) [] [] [] [ako]
def gg:IR:=Rs [Bi 9 .lss 8 7] (Sq (Cn 9 .skip (.exit 0)) (Sq (.block 1 (Rs [Mv 10 8,Mv 5 10] (Rs [Mv 11 1,Mv 12 0,Mv 13 5,Ix 14 (.num .i64) 12 13,Lq 15 14,Pp (.dcall (some 16) 128 (.t 11) [.t 15])] (Cn 16 (Rs [Mv 17 5,Mv 4 17] .ret) .skip)))) (Rg [Bc 18 .add 8 1,Mv 8 18])))
def gi:IR:=Rs [Mi 4 (-1)] .ret
def pM:IR:=Rs [Mi 4 0] (Sq (Rs [Mv 6 0,Ll 7 6,Mi 8 0] (.block 0 (.loop [0,1,7,8,1000000] 0 gg))) gi)
def hC:List RV:=[.t 4]
theorem pN:FnC Try.prog eb [] 0 ia Try.f127 pM hC:=fnC Try.func127
def po(R:IR→(Ex→St→Ro)→St→Ro)(again0:St→Ro):Ex→St→Ro:=(bk again0 [0,1,7,8,1000000] 0 (aP 0 (bj (R gi) (fin hC))))
abbrev cK:Type:=(List Int×List aA×List aA×Int×Int×Int)
def cA(x:cK):St:={env:=(.sl (.num .i64) (.may false) x.1::.fn 128 [.ea [.sl .atype (.may false) x.2.1],.ea [.sl .atype (.may false) x.2.2.1],.ea [.int .i64 x.2.2.2.1]]::(U 5 (.int .i64 x.2.2.2.2.1::.int .i64 x.2.2.2.2.2::(U 10 [])))),hp:=[]}
def dL(N:Nat):(St→Ro)→St→Ro:=fun again0 s=>run eb N gg (po (run eb N) again0) s
def cL(N:Nat)(again0:cK→Ro)(x:cK):Ro:=
 let v0:List Int:=x.1
 let v1_0_0:List aA:=x.2.1
 let v1_1_0:List aA:=x.2.2.1
 let v1_2_0:Int:=x.2.2.2.1
 let v7:Int:=x.2.2.2.2.1
 let v8:Int:=x.2.2.2.2.2
 cond (decide (v8<v7)) (
  chk (ixl v8 v0) (
   let x2:=List.getD v0 (Int.toNat v8) (aG (.num .i64))
   aF (mF x2 v1_0_0 v1_1_0 v1_2_0) (fun(r1:Bool)=>
    cond r1 (
     some (.int .i64 v8,[])) (
     let x3:=(IntKind.wrap .i64 (v8+1))
     again0 (v0,v1_0_0,v1_1_0,v1_2_0,v7,x3))))) (
  some (.int .i64 (-1),[]))
theorem oT(N:Nat):LB (dL N) cA (cL N):=fun _ _=>by kernel_rfl
def b7(N:Nat)(p0:List Int)(p1_0_0 p1_1_0:List aA)(p1_2_0:Int)(q0:cK→Ro):Ro:=
 let x1:=(↑(List.length p0):Int)
 q0 (p0,p1_0_0,p1_1_0,p1_2_0,x1,0)
def hD(N:Nat)(p0:List Int)(p1_0_0 p1_1_0:List aA)(p1_2_0:Int):Ro:=b7 N p0 p1_0_0 p1_1_0 p1_2_0 (fun z=>aS N (cL N) z)
theorem pp(N:Nat)(p0:List Int)(p1_0_0 p1_1_0:List aA)(p1_2_0:Int)(h:Tot (hD N p0 p1_0_0 p1_1_0 p1_2_0) (fun z=>∃(y0:Int)(rest:List aJ),z.1.dimR=.int .i64 y0∧z.2=rest∧gf p0 p1_0_0 p1_1_0 p1_2_0 (y0))):∃r,cd p0 p1_0_0 p1_1_0 p1_2_0 r:=pN.finP (N:=N) ((bu _ (by kernel_rfl) rfl (fun C=>b7 N p0 p1_0_0 p1_1_0 p1_2_0 (fun z=>C 1000000 (cA z))) (fun C=>by kernel_rfl)).trans (Eq.trans (b:=b7 N p0 p1_0_0 p1_1_0 p1_2_0 (fun z=>aW N (dL N) (cA z))) (by kernel_rfl) (congrArg (b7 N p0 p1_0_0 p1_1_0 p1_2_0) (funext fun z=>aV (cA) (dL N) (cL N) (oT N) N z)))) h fun _ ⟨y0,_,e,_,q⟩=>⟨(y0),e,q⟩
noncomputable def aoj:aL:=tab (P:=Try.prog) [] [] [] [qo]
def amU:IR:=Rs [Bx 4 0,Bx 5 1,Bx 6 2,Mi 8 0] (Rs [Fa 9 0 5,Lq 10 9,Mv 11 3,Ix 12 .atype 10 11,Fa 13 9 12,Lo 14 13,Pp (.mkf 15 128 [.t 4,.t 5,.t 6]),Ca 16 127 [14,15],Mv 8 16] .ret)
def amV:List RV:=[.t 8]
theorem amW:FnC Try.prog aoj [] 0 ae5 Try.f95 amU amV:=fnC Try.func95
def ad0(N:Nat)(p0_0 p1_0:List aA)(p2 p3:Int):Ro:=
 chk (ixl p3 p1_0) (
  let x1:=(List.getD p1_0 (Int.toNat p3) (aG .atype))
  aF (cd x1.branches p0_0 p1_0 p2) (fun(r1:Int)=>
   some (.int .i64 r1,[])))
def ad1(N:Nat)(p0_0 p1_0:List aA)(p2 p3:Int):Ro:=ad0 N p0_0 p1_0 p2 p3
theorem alF(N:Nat)(p0_0 p1_0:List aA)(p2 p3:Int)(h:Tot (ad1 N p0_0 p1_0 p2 p3) (fun z=>∃(y0:Int)(rest:List aJ),z.1.dimR=.int .i64 y0∧z.2=rest∧abp p0_0 p1_0 p2 p3 (y0))):∃r,qk p0_0 p1_0 p2 p3 r:=amW.finP (N:=N) (by kernel_rfl) h fun _ ⟨y0,_,e,_,q⟩=>⟨(y0),e,q⟩
noncomputable def acN:aL:=tab (P:=Try.prog) [] [] [] [yd]
def abY:IR:=Rs [Mb 3 false] (Rs [Fa 4 4 1,Lq 5 4,Mv 6 0,Ca 7 97 [5,6],Un 8 7,Mv 3 8] .ret)
def abZ:List RV:=[.t 3]
theorem ab0:FnC Try.prog acN [] 0 uC Try.f96 abY abZ:=fnC Try.func96
def s9(N:Nat)(p0:Bs)(pc0_0:Int)(pc0_1:Bs)(pc0_2:Bss)(pc0_3:Int)(pc0_4:Bss)(pc0_5:Bool)(pc0_6:Bs)(pc0_7:Int)(pc0_8:List aM)(pc0_9:List Int):Ro:=
 aF (dE pc0_4 p0) (fun(r1:Bool)=>
  some (.bool (!r1),[]))
def ta(N:Nat)(p0:Bs)(pc0_0:Int)(pc0_1:Bs)(pc0_2:Bss)(pc0_3:Int)(pc0_4:Bss)(pc0_5:Bool)(pc0_6:Bs)(pc0_7:Int)(pc0_8:List aM)(pc0_9:List Int):Ro:=s9 N p0 pc0_0 pc0_1 pc0_2 pc0_3 pc0_4 pc0_5 pc0_6 pc0_7 pc0_8 pc0_9
theorem aa6(N:Nat)(p0:Bs)(pc0_0:Int)(pc0_1:Bs)(pc0_2:Bss)(pc0_3:Int)(pc0_4:Bss)(pc0_5:Bool)(pc0_6:Bs)(pc0_7:Int)(pc0_8:List aM)(pc0_9:List Int)(h:Tot (ta N p0 pc0_0 pc0_1 pc0_2 pc0_3 pc0_4 pc0_5 pc0_6 pc0_7 pc0_8 pc0_9) (fun z=>∃(y0:Bool)(rest:List aJ),z.1.dimR=.bool y0∧z.2=rest∧qX p0 pc0_0 pc0_1 pc0_2 pc0_3 pc0_4 pc0_5 pc0_6 pc0_7 pc0_8 pc0_9 (y0))):∃r,fO p0 pc0_0 pc0_1 pc0_2 pc0_3 pc0_4 pc0_5 pc0_6 pc0_7 pc0_8 pc0_9 r:=ab0.finP (N:=N) (by kernel_rfl) h fun _ ⟨y0,_,e,_,q⟩=>⟨(y0),e,q⟩
noncomputable def cM:aL:=tab (P:=Try.prog) [] [] [] [acF]
def dV:IR:=Rs [Bi 9 .lss 8 7] (Sq (Cn 9 .skip (.exit 0)) (Sq (.block 1 (Rs [Mv 10 8,Mv 5 10] (Rs [Mv 11 1,Mv 12 0,Mv 13 5,Ix 14 .str 12 13,Lq 15 14,Pp (.dcall (some 16) 96 (.t 11) [.t 15])] (Cn 16 (Rs [Mv 17 5,Mv 4 17] .ret) .skip)))) (Rg [Bc 18 .add 8 1,Mv 8 18])))
def dW:IR:=Rs [Mi 4 (-1)] .ret
def kw:IR:=Rs [Mi 4 0] (Sq (Rs [Mv 6 0,Ll 7 6,Mi 8 0] (.block 0 (.loop [0,1,7,8,1000000] 0 dV))) dW)
def ee:List RV:=[.t 4]
theorem kz:FnC Try.prog cM [] 0 et Try.f126 kw ee:=fnC Try.func126
def j0(R:IR→(Ex→St→Ro)→St→Ro)(again0:St→Ro):Ex→St→Ro:=(bk again0 [0,1,7,8,1000000] 0 (aP 0 (bj (R dW) (fin ee))))
abbrev bL:Type:=(Bss×Int×Bs×Bss×Int×Bss×Bool×Bs×Int×List aM×List Int×Int×Int)
def bF(x:bL):St:={env:=(.sl .str (.may false) x.1::.fn 96 [.ea [.int .i64 x.2.1,.str x.2.2.1,.sl .str (.may false) x.2.2.2.1,.int .i64 x.2.2.2.2.1,.sl .str (.may false) x.2.2.2.2.2.1,.bool x.2.2.2.2.2.2.1,.str x.2.2.2.2.2.2.2.1,.int .i64 x.2.2.2.2.2.2.2.2.1,.sl .afield (.may false) x.2.2.2.2.2.2.2.2.2.1,.sl (.num .i64) (.may false) x.2.2.2.2.2.2.2.2.2.2.1]]::(U 5 (.int .i64 x.2.2.2.2.2.2.2.2.2.2.2.1::.int .i64 x.2.2.2.2.2.2.2.2.2.2.2.2::(U 10 [])))),hp:=[]}
def cw(N:Nat):(St→Ro)→St→Ro:=fun again0 s=>run cM N dV (j0 (run cM N) again0) s
def bM(N:Nat)(again0:bL→Ro)(x:bL):Ro:=
 let v0:Bss:=x.1
 let v1_0_0:Int:=x.2.1
 let v1_0_1:Bs:=x.2.2.1
 let v1_0_2:Bss:=x.2.2.2.1
 let v1_0_3:Int:=x.2.2.2.2.1
 let v1_0_4:Bss:=x.2.2.2.2.2.1
 let v1_0_5:Bool:=x.2.2.2.2.2.2.1
 let v1_0_6:Bs:=x.2.2.2.2.2.2.2.1
 let v1_0_7:Int:=x.2.2.2.2.2.2.2.2.1
 let v1_0_8:List aM:=x.2.2.2.2.2.2.2.2.2.1
 let v1_0_9:List Int:=x.2.2.2.2.2.2.2.2.2.2.1
 let v7:Int:=x.2.2.2.2.2.2.2.2.2.2.2.1
 let v8:Int:=x.2.2.2.2.2.2.2.2.2.2.2.2
 cond (decide (v8<v7)) (
  chk (ixl v8 v0) (
   let x2:=List.getD v0 (Int.toNat v8) (aG .str)
   aF (fO x2 v1_0_0 v1_0_1 v1_0_2 v1_0_3 v1_0_4 v1_0_5 v1_0_6 v1_0_7 v1_0_8 v1_0_9) (fun(r1:Bool)=>
    cond r1 (
     some (.int .i64 v8,[])) (
     let x3:=(IntKind.wrap .i64 (v8+1))
     again0 (v0,v1_0_0,v1_0_1,v1_0_2,v1_0_3,v1_0_4,v1_0_5,v1_0_6,v1_0_7,v1_0_8,v1_0_9,v7,x3))))) (
  some (.int .i64 (-1),[]))
theorem ju(N:Nat):LB (cw N) bF (bM N):=fun _ _=>by kernel_rfl
def bo(N:Nat)(p0:Bss)(p1_0_0:Int)(p1_0_1:Bs)(p1_0_2:Bss)(p1_0_3:Int)(p1_0_4:Bss)(p1_0_5:Bool)(p1_0_6:Bs)(p1_0_7:Int)(p1_0_8:List aM)(p1_0_9:List Int)(q0:bL→Ro):Ro:=
 let x1:=(↑(List.length p0):Int)
 q0 (p0,p1_0_0,p1_0_1,p1_0_2,p1_0_3,p1_0_4,p1_0_5,p1_0_6,p1_0_7,p1_0_8,p1_0_9,x1,0)
def ef(N:Nat)(p0:Bss)(p1_0_0:Int)(p1_0_1:Bs)(p1_0_2:Bss)(p1_0_3:Int)(p1_0_4:Bss)(p1_0_5:Bool)(p1_0_6:Bs)(p1_0_7:Int)(p1_0_8:List aM)(p1_0_9:List Int):Ro:=bo N p0 p1_0_0 p1_0_1 p1_0_2 p1_0_3 p1_0_4 p1_0_5 p1_0_6 p1_0_7 p1_0_8 p1_0_9 (fun z=>aS N (bM N) z)
theorem j8(N:Nat)(p0:Bss)(p1_0_0:Int)(p1_0_1:Bs)(p1_0_2:Bss)(p1_0_3:Int)(p1_0_4:Bss)(p1_0_5:Bool)(p1_0_6:Bs)(p1_0_7:Int)(p1_0_8:List aM)(p1_0_9:List Int)(h:Tot (ef N p0 p1_0_0 p1_0_1 p1_0_2 p1_0_3 p1_0_4 p1_0_5 p1_0_6 p1_0_7 p1_0_8 p1_0_9) (fun z=>∃(y0:Int)(rest:List aJ),z.1.dimR=.int .i64 y0∧z.2=rest∧dT p0 p1_0_0 p1_0_1 p1_0_2 p1_0_3 p1_0_4 p1_0_5 p1_0_6 p1_0_7 p1_0_8 p1_0_9 (y0))):∃r,bp p0 p1_0_0 p1_0_1 p1_0_2 p1_0_3 p1_0_4 p1_0_5 p1_0_6 p1_0_7 p1_0_8 p1_0_9 r:=kz.finP (N:=N) ((bu _ (by kernel_rfl) rfl (fun C=>bo N p0 p1_0_0 p1_0_1 p1_0_2 p1_0_3 p1_0_4 p1_0_5 p1_0_6 p1_0_7 p1_0_8 p1_0_9 (fun z=>C 1000000 (bF z))) (fun C=>by kernel_rfl)).trans (Eq.trans (b:=bo N p0 p1_0_0 p1_0_1 p1_0_2 p1_0_3 p1_0_4 p1_0_5 p1_0_6 p1_0_7 p1_0_8 p1_0_9 (fun z=>aW N (cw N) (bF z))) (by kernel_rfl) (congrArg (bo N p0 p1_0_0 p1_0_1 p1_0_2 p1_0_3 p1_0_4 p1_0_5 p1_0_6 p1_0_7 p1_0_8 p1_0_9) (funext fun z=>aV (bF) (cw N) (bM N) (ju N) N z)))) h fun _ ⟨y0,_,e,_,q⟩=>⟨(y0),e,q⟩
noncomputable def jv:aL:=tab (P:=Try.prog) [] [] [] [kK]
def jk:IR:=Rs [Mb 4 false] (Rs [Mv 5 0,Mv 6 1,Ca 7 126 [5,6],Bc 8 .geq 7 0,Mv 4 8] .ret)
def jl:List RV:=[.t 4]
theorem jm:FnC Try.prog jv [] 0 dU Try.f90 jk jl:=fnC Try.func90
def dH(N:Nat)(p0:Bss)(p1_0_0:Int)(p1_0_1:Bs)(p1_0_2:Bss)(p1_0_3:Int)(p1_0_4:Bss)(p1_0_5:Bool)(p1_0_6:Bs)(p1_0_7:Int)(p1_0_8:List aM)(p1_0_9:List Int):Ro:=
 aF (bp p0 p1_0_0 p1_0_1 p1_0_2 p1_0_3 p1_0_4 p1_0_5 p1_0_6 p1_0_7 p1_0_8 p1_0_9) (fun(r1:Int)=>
  some (.bool (decide (0≤r1)),[]))
def dI(N:Nat)(p0:Bss)(p1_0_0:Int)(p1_0_1:Bs)(p1_0_2:Bss)(p1_0_3:Int)(p1_0_4:Bss)(p1_0_5:Bool)(p1_0_6:Bs)(p1_0_7:Int)(p1_0_8:List aM)(p1_0_9:List Int):Ro:=dH N p0 p1_0_0 p1_0_1 p1_0_2 p1_0_3 p1_0_4 p1_0_5 p1_0_6 p1_0_7 p1_0_8 p1_0_9
theorem iL(N:Nat)(p0:Bss)(p1_0_0:Int)(p1_0_1:Bs)(p1_0_2:Bss)(p1_0_3:Int)(p1_0_4:Bss)(p1_0_5:Bool)(p1_0_6:Bs)(p1_0_7:Int)(p1_0_8:List aM)(p1_0_9:List Int)(h:Tot (dI N p0 p1_0_0 p1_0_1 p1_0_2 p1_0_3 p1_0_4 p1_0_5 p1_0_6 p1_0_7 p1_0_8 p1_0_9) (fun z=>∃(y0:Bool)(rest:List aJ),z.1.dimR=.bool y0∧z.2=rest∧dF p0 p1_0_0 p1_0_1 p1_0_2 p1_0_3 p1_0_4 p1_0_5 p1_0_6 p1_0_7 p1_0_8 p1_0_9 (y0))):∃r,bm p0 p1_0_0 p1_0_1 p1_0_2 p1_0_3 p1_0_4 p1_0_5 p1_0_6 p1_0_7 p1_0_8 p1_0_9 r:=jm.finP (N:=N) (by kernel_rfl) h fun _ ⟨y0,_,e,_,q⟩=>⟨(y0),e,q⟩
noncomputable def kA:aL:=tab (P:=Try.prog) [] [] [] []
def ol:IR:=Rs [Bi 9 .lss 8 7] (Sq (Cn 9 .skip (.exit 0)) (Sq (.block 1 (Rs [Mv 10 8,Mv 5 10] (Rs [Mv 11 1,Mv 12 0,Mv 13 5,Ix 14 .str 12 13,Lq 15 14,Bi 16 .eql 11 15] (Cn 16 (Rs [Mv 17 5,Mv 4 17] .ret) .skip)))) (Rg [Bc 18 .add 8 1,Mv 8 18])))
def om:IR:=Rs [Mi 4 (-1)] .ret
def zq:IR:=Rs [Mi 4 0] (Sq (Rs [Mv 6 0,Ll 7 6,Mi 8 0] (.block 0 (.loop [0,1,7,8,1000000] 0 ol))) om)
def pK:List RV:=[.t 4]
theorem zr:FnC Try.prog kA [] 0 qi Try.f129 zq pK:=fnC Try.func129
def yI(R:IR→(Ex→St→Ro)→St→Ro)(again0:St→Ro):Ex→St→Ro:=(bk again0 [0,1,7,8,1000000] 0 (aP 0 (bj (R om) (fin pK))))
abbrev fv:Type:=(Bss×Bs×Int×Int)
def fc(x:fv):St:={env:=(.sl .str (.may false) x.1::.str x.2.1::(U 5 (.int .i64 x.2.2.1::.int .i64 x.2.2.2::(U 10 [])))),hp:=[]}
def iM(N:Nat):(St→Ro)→St→Ro:=fun again0 s=>run kA N ol (yI (run kA N) again0) s
def fw(N:Nat)(again0:fv→Ro)(x:fv):Ro:=
 let v0:Bss:=x.1
 let v1:Bs:=x.2.1
 let v7:Int:=x.2.2.1
 let v8:Int:=x.2.2.2
 cond (decide (v8<v7)) (
  chk (ixl v8 v0) (
   let x2:=List.getD v0 (Int.toNat v8) (aG .str)
   cond (decide (v1=x2)) (
    some (.int .i64 v8,[])) (
    let x3:=(IntKind.wrap .i64 (v8+1))
    again0 (v0,v1,v7,x3)))) (
  some (.int .i64 (-1),[]))
theorem ye(N:Nat):LB (iM N) fc (fw N):=fun _ _=>by kernel_rfl
def dX(N:Nat)(p0:Bss)(p1:Bs)(q0:fv→Ro):Ro:=
 let x1:=(↑(List.length p0):Int)
 q0 (p0,p1,x1,0)
def pL(N:Nat)(p0:Bss)(p1:Bs):Ro:=dX N p0 p1 (fun z=>aS N (fw N) z)
theorem yJ(N:Nat)(p0:Bss)(p1:Bs)(h:Tot (pL N p0 p1) (fun z=>∃(y0:Int)(rest:List aJ),z.1.dimR=.int .i64 y0∧z.2=rest∧oi p0 p1 (y0))):∃r,d9 p0 p1 r:=zr.finP (N:=N) ((bu _ (by kernel_rfl) rfl (fun C=>dX N p0 p1 (fun z=>C 1000000 (fc z))) (fun C=>by kernel_rfl)).trans (Eq.trans (b:=dX N p0 p1 (fun z=>aW N (iM N) (fc z))) (by kernel_rfl) (congrArg (dX N p0 p1) (funext fun z=>aV (fc) (iM N) (fw N) (ye N) N z)))) h fun _ ⟨y0,_,e,_,q⟩=>⟨(y0),e,q⟩
noncomputable def yf:aL:=tab (P:=Try.prog) [] [] [] [zZ]
def xr:IR:=Rs [Mb 4 false] (Rs [Mv 5 0,Mv 6 1,Ca 7 129 [5,6],Bc 8 .geq 7 0,Mv 4 8] .ret)
def xt:List RV:=[.t 4]
theorem xu:FnC Try.prog yf [] 0 oj Try.f97 xr xt:=fnC Try.func97
def nQ(N:Nat)(p0:Bss)(p1:Bs):Ro:=
 aF (d9 p0 p1) (fun(r1:Int)=>
  some (.bool (decide (0≤r1)),[]))
def nR(N:Nat)(p0:Bss)(p1:Bs):Ro:=nQ N p0 p1
theorem wq(N:Nat)(p0:Bss)(p1:Bs)(h:Tot (nR N p0 p1) (fun z=>∃(y0:Bool)(rest:List aJ),z.1.dimR=.bool y0∧z.2=rest∧mB p0 p1 (y0))):∃r,dE p0 p1 r:=xu.finP (N:=N) (by kernel_rfl) h fun _ ⟨y0,_,e,_,q⟩=>⟨(y0),e,q⟩
end Go.Proofs.Ytdpajabhmmmjoaa
end
noncomputable section
namespace Go.Proofs.Ytdpajabhmmmjoaa
open Go.AM
set_option autoImplicit false
set_option linter.unusedVariables false
set_option maxRecDepth 100000
noncomputable def aa7:aL:=tab (P:=Try.prog) [] [] [] []
def acO:IR:=Sq (Rs [Mv 7 3,Bc 8 .geq 7 0] (Cn 8 .skip (.exit 0))) (Sq (.block 1 (Rs [Mv 11 0,Mv 12 3,Pp (.idx 13 11 12),Pp (.bin 14 .eql 13 (.c (.int .u8 46)))] (Cn 14 (Rs [Mv 15 0,Mv 16 3,Bc 17 .add 16 1,Pp (.subs 18 15 (some 17) none),Mv 2 18] .ret) .skip))) (Rg [Mv 9 3,Bc 10 .sub 9 1,Mv 3 10]))
def acP:IR:=Rs [Mv 19 0,Mv 2 19] .ret
def aok:IR:=Rs [Ms 2 []] (Sq (Rs [Mv 4 0,Pp (.lens 5 4),Bc 6 .sub 5 1,Mv 3 6] (.block 0 (.loop [0,3,1000000] 0 acO))) acP)
def afe:List RV:=[.t 2]
theorem aol:FnC Try.prog aa7 [] 0 ahp Try.f92 aok afe:=fnC Try.func92
def amX(R:IR→(Ex→St→Ro)→St→Ro)(again0:St→Ro):Ex→St→Ro:=(bk again0 [0,3,1000000] 0 (aP 0 (bj (R acP) (fin afe))))
abbrev tb:Type:=(Bs×Int)
def rm(x:tb):St:={env:=(.str x.1::.undef::.undef::.int .i64 x.2::(U 16 [])),hp:=[]}
def yK(N:Nat):(St→Ro)→St→Ro:=fun again0 s=>run aa7 N acO (amX (run aa7 N) again0) s
def tc(N:Nat)(again0:tb→Ro)(x:tb):Ro:=
 let v0:Bs:=x.1
 let v3:Int:=x.2
 cond (decide (0≤v3)) (
  chk (ixl v3 v0) (
   let x3:=(↑(UInt8.toNat (List.getD v0 (Int.toNat v3) 0)):Int)
   cond (x3==46) (
    let x4:=(IntKind.wrap .i64 (v3+1))
    chk ((decide (0≤x4)&&decide (x4≤(↑(List.length v0):Int)))) (
     let x5:=(List.drop (Int.toNat x4) (List.take (List.length v0) v0))
     some (.str x5,[]))) (
    let x6:=(IntKind.wrap .i64 (v3-1))
    again0 (v0,x6)))) (
  some (.str v0,[]))
theorem alG(N:Nat):LB (yK N) rm (tc N):=fun _ _=>by kernel_rfl
def qp(N:Nat)(p0:Bs)(q0:tb→Ro):Ro:=
 let x1:=(↑(List.length p0):Int)
 let x2:=(IntKind.wrap .i64 (x1-1))
 q0 (p0,x2)
def aff(N:Nat)(p0:Bs):Ro:=qp N p0 (fun z=>aS N (tc N) z)
theorem amY(N:Nat)(p0:Bs)(h:Tot (aff N p0) (fun z=>∃(y0:Bs)(rest:List aJ),z.1.dimR=.str y0∧z.2=rest∧acy p0 (y0))):∃r,jo p0 r:=aol.finP (N:=N) ((bu _ (by kernel_rfl) rfl (fun C=>qp N p0 (fun z=>C 1000000 (rm z))) (fun C=>by kernel_rfl)).trans (Eq.trans (b:=qp N p0 (fun z=>aW N (yK N) (rm z))) (by kernel_rfl) (congrArg (qp N p0) (funext fun z=>aV (rm) (yK N) (tc N) (alG N) N z)))) h fun _ ⟨y0,_,e,_,q⟩=>⟨(y0),e,q⟩
noncomputable def aa8:aL:=tab (P:=Try.prog) [] [] [] [ap3]
def acQ:IR:=Sq (Rs [Mv 14 6,Fa 15 2 3,Lq 16 15,Ll 17 16,Bi 18 .lss 14 17] (Cn 18 .skip (.exit 0))) (Sq (.block 1 (.reg [Mv 21 5,Mv 22 21,Gf 22 (.fad 23 2 3),Gf 22 (.lde 24 1 false 23),Gf 22 (.mov 25 6),Gf 22 (.ixa 26 .str 24 25),Gf 22 (.lde 27 1 false 26),Gf 22 (.call 28 92 [27]),Gf 22 (.fad 29 1 2),Gf 22 (.lde 30 1 false 29),Gf 22 (.call 31 92 [30]),Gf 22 (.bin 32 .eql 28 31),Po 33 22 32,Mv 5 33] [[],[0],[0,1],[0,1,2],[0,1],rg 0 4,rg 0 5,rg 0 6,[0,1],[0,1,8],rg 0 9,rg 0 10,rg 0 11,rg 0 12])) (Rg [Mv 19 6,Bc 20 .add 19 1,Mv 6 20]))
def acR:IR:=Rs [Mv 34 5,Mv 4 34] .ret
def aom:IR:=Rs [Bx 2 0,Bx 3 1,Mb 4 false] (Sq (.reg [Fa 7 1 3,Lq 8 7,Ca 9 92 [8],Fa 10 1 2,Lq 11 10,Ca 12 92 [11],Bi 13 .eql 9 12,Mv 5 13] [[],[0],[0,1],[],[3],rg 0 4,rg 0 5,rg 0 6]) (Sq (Rs [Mi 6 0] (.block 0 (.loop [2,3,5,6,1000000] 0 acQ))) acR))
def afg:List RV:=[.t 4]
theorem aon:FnC Try.prog aa8 [] 0 ahs Try.f65 aom afg:=fnC Try.func65
def amZ(R:IR→(Ex→St→Ro)→St→Ro)(again0:St→Ro):Ex→St→Ro:=(bk again0 [2,3,5,6,1000000] 0 (aP 0 (bj (R acR) (fin afg))))
abbrev td:Type:=(aA×aA×Bool×Int)
def rn(x:td):St:={env:=(.undef::.undef::.ea (enc .atype x.1)::.ea (enc .atype x.2.1)::.undef::.bool x.2.2.1::.int .i64 x.2.2.2::(U 28 [])),hp:=[]}
def yL(N:Nat):(St→Ro)→St→Ro:=fun again0 s=>run aa8 N acQ (amZ (run aa8 N) again0) s
def te(N:Nat)(again0:td→Ro)(x:td):Ro:=
 let v2:aA:=x.1
 let v3:aA:=x.2.1
 let v5:Bool:=x.2.2.1
 let v6:Int:=x.2.2.2
 let x1:=(↑(List.length v3.aliases):Int)
 cond (decide (v6<x1)) (
  cond v5 (
   let x2:=(IntKind.wrap .i64 (v6+1))
   again0 (v2,v3,true,x2)) (
   chk (ixl v6 v3.aliases) (
    let x3:=List.getD v3.aliases (Int.toNat v6) (aG .str)
    aF (jo x3) (fun(r3:Bs)=>
     aF (jo v2.name) (fun(r4:Bs)=>
      let x4:=(IntKind.wrap .i64 (v6+1))
      again0 (v2,v3,decide (r3=r4),x4)))))) (
  some (.bool v5,[]))
theorem alH(N:Nat):LB (yL N) rn (te N):=fun _ _=>by kernel_rfl
def qq(N:Nat)(p0 p1:aA)(q0:td→Ro):Ro:=
 aF (jo p1.name) (fun(r1:Bs)=>
  aF (jo p0.name) (fun(r2:Bs)=>
   q0 (p0,p1,decide (r1=r2),0)))
def afh(N:Nat)(p0 p1:aA):Ro:=qq N p0 p1 (fun z=>aS N (te N) z)
theorem am0(N:Nat)(p0 p1:aA)(h:Tot (afh N p0 p1) (fun z=>∃(y0:Bool)(rest:List aJ),z.1.dimR=.bool y0∧z.2=rest∧acz p0 p1 (y0))):∃r,ml p0 p1 r:=aon.finP (N:=N) ((bu _ (by kernel_rfl) rfl (fun C=>qq N p0 p1 (fun z=>C 1000000 (rn z))) (fun C=>by kernel_rfl)).trans (Eq.trans (b:=qq N p0 p1 (fun z=>aW N (yL N) (rn z))) (by kernel_rfl) (congrArg (qq N p0 p1) (funext fun z=>aV (rn) (yL N) (te N) (alH N) N z)))) h fun _ ⟨y0,_,e,_,q⟩=>⟨(y0),e,q⟩
noncomputable def aqb:aL:=tab (P:=Try.prog) [] [] [] [agp,ap0]
def aoo:IR:=Rs [Bx 4 0,Bx 5 1,Mb 8 false] (Sq (Rs [Ld 11 1 true 4,Mv 12 2,Ca 13 45 [11,12],Un 14 13,Mv 15 14,Gf 15 (.lde 16 1 true 5),Gf 15 (.mov 17 3),Gf 15 (.call 18 45 [16,17]),Gf 15 (.un 19 .not 18),Po 20 15 19] (Cn 20 (Rs [Mb 8 false] .ret) .skip)) (Sq (.reg [Fa 21 0 4,Lq 22 21,Mv 23 2,Ix 24 .atype 22 23,Ld 25 10 true 24,Fa 26 0 5,Lq 27 26,Mv 28 3,Ix 29 .atype 27 28,Ld 30 10 true 29,Pp (.alr 9 10),Pp (.alr 10 10),Fz 9 10 25,Fz 10 10 30] [[],[0],[],[0,1,2],rg 0 3,[],[5],[],[5,6,7],rg 5 8,[],[],rg 0 4++[10,11],rg 0 12]) (Sq (Rs [Fa 31 0 9,Lq 32 31,Bc 33 .eql 32 14,Mv 34 33,Gf 34 (.fad 35 0 10),Gf 34 (.lde 36 1 false 35),Gf 34 (.bin 37 .eql 36 (kI 14)),Po 38 34 37] (Cn 38 (Rs [Mb 8 false] .ret) .skip)) (Sq (Rs [Fa 39 0 9,Lq 40 39] (.block 0 (Sq (Rs [Bc 42 .eql 40 9,Mv 41 42] (Cn 41 .skip (Rs [Bc 43 .eql 40 10,Mv 41 43] (Cn 41 .skip (Rg [Bc 44 .eql 40 11,Mv 41 44]))))) (Cn 41 (Rs [Fa 45 0 10,Lq 46 45,Fa 47 0 9,Lq 48 47,Bi 49 .eql 46 48,Mv 50 49,Gt 50 (.lde 51 10 true 9),Gt 50 (.lde 52 10 true 10),Gt 50 (.call 53 65 [51,52]),Pa 54 50 53,Mv 55 54,Gt 55 (.fad 56 0 9),Gt 55 (.lde 57 1 false 56),Gt 55 (.bin 58 .neq 57 (kI 11)),Gt 55 (.mov 59 58),Gf 59 (.fad 60 7 9),Gf 59 (.lde 61 1 false 60),Gf 59 (.fad 62 7 10),Gf 59 (.lde 63 1 false 62),Gf 59 (.bin 64 .eql 61 63),Gt 55 (.pick 65 59 (kB true) 64),Pa 66 55 65,Mv 8 66] .ret) (Sq (Rs [Bc 68 .eql 40 3,Mv 67 68] (Cn 67 .skip (Rs [Bc 69 .eql 40 4,Mv 67 69] (Cn 67 .skip (Rg [Bc 70 .eql 40 5,Mv 67 70]))))) (Cn 67 (Rs [Fa 71 0 10,Lq 72 71,Fa 73 0 9,Lq 74 73,Bi 75 .geq 72 74,Mv 76 75,Gt 76 (.fad 77 0 10),Gt 76 (.lde 78 1 false 77),Gt 76 (.bin 79 .leq 78 (kI 6)),Pa 80 76 79,Mv 8 80] .ret) (Sq (Rs [Bc 82 .eql 40 7,Mv 81 82] (Cn 81 .skip (Rg [Bc 83 .eql 40 8,Mv 81 83]))) (Cn 81 (Rs [Fa 84 0 10,Lq 85 84,Fa 86 0 9,Lq 87 86,Bi 88 .eql 85 87,Mv 89 88,Gf 89 (.fad 90 0 9),Gf 89 (.lde 91 1 false 90),Gf 89 (.bin 92 .eql 91 (kI 8)),Gf 89 (.mov 93 92),Gt 93 (.fad 94 0 10),Gt 93 (.lde 95 1 false 94),Gt 93 (.bin 96 .eql 95 (kI 7)),Gf 89 (.pick 97 93 96 (kB false)),Po 98 89 97,Mv 8 98] .ret) .skip)))))))) (Rs [Fa 99 0 9,Lq 100 99,Fa 101 0 10,Lq 102 101,Bi 103 .eql 100 102,Mv 8 103] .ret)))))
def aop:List RV:=[.t 8]
theorem aoq:FnC Try.prog aqb [] 0 ahr Try.f31 aoo aop:=fnC Try.func31
def afi(N:Nat)(p0_0 p1_0:List aA)(p2 p3:Int):Ro:=
 aF (mR p0_0 p2) (fun(r1:Bool)=>
  cond (!r1) (
   some (.bool false,[])) (
   aF (mR p1_0 p3) (fun(r2:Bool)=>
    cond (!r2) (
     some (.bool false,[])) (
     chk (ixl p2 p0_0) (
      let x1:=(List.getD p0_0 (Int.toNat p2) (aG .atype))
      chk (ixl p3 p1_0) (
       let x2:=(List.getD p1_0 (Int.toNat p3) (aG .atype))
       cond (x1.kind==14) (
        some (.bool false,[])) (
        cond (x2.kind==14) (
         some (.bool false,[])) (
         cond (x1.kind==9) (
          cond (x2.kind==x1.kind) (
           aF (ml x1 x2) (fun(r3:Bool)=>
            cond r3 (
             cond (!(x1.kind==11)) (
              some (.bool true,[])) (
              some (.bool (x1.size==x2.size),[]))) (
             some (.bool false,[])))) (
           some (.bool false,[]))) (
          cond (x1.kind==10) (
           cond (x2.kind==x1.kind) (
            aF (ml x1 x2) (fun(r4:Bool)=>
             cond r4 (
              cond (!(x1.kind==11)) (
               some (.bool true,[])) (
               some (.bool (x1.size==x2.size),[]))) (
              some (.bool false,[])))) (
            some (.bool false,[]))) (
           cond (x1.kind==11) (
            cond (x2.kind==x1.kind) (
             aF (ml x1 x2) (fun(r5:Bool)=>
              cond r5 (
               cond (!(x1.kind==11)) (
                some (.bool true,[])) (
                some (.bool (x1.size==x2.size),[]))) (
               some (.bool false,[])))) (
             some (.bool false,[]))) (
            cond (x1.kind==3) (
             let x3:=decide (x1.kind≤x2.kind)
             cond x3 (
              some (.bool (decide (x2.kind≤6)),[])) (
              some (.bool false,[]))) (
             cond (x1.kind==4) (
              let x4:=decide (x1.kind≤x2.kind)
              cond x4 (
               some (.bool (decide (x2.kind≤6)),[])) (
               some (.bool false,[]))) (
              cond (x1.kind==5) (
               let x5:=decide (x1.kind≤x2.kind)
               cond x5 (
                some (.bool (decide (x2.kind≤6)),[])) (
                some (.bool false,[]))) (
               cond (x1.kind==7) (
                cond (x2.kind==x1.kind) (
                 some (.bool true,[])) (
                 cond (x1.kind==8) (
                  some (.bool (x2.kind==7),[])) (
                  some (.bool false,[])))) (
                cond (x1.kind==8) (
                 cond (x2.kind==x1.kind) (
                  some (.bool true,[])) (
                  cond (x1.kind==8) (
                   some (.bool (x2.kind==7),[])) (
                   some (.bool false,[])))) (
                 some (.bool (x1.kind==x2.kind),[])))))))))))))))))
def afj(N:Nat)(p0_0 p1_0:List aA)(p2 p3:Int):Ro:=afi N p0_0 p1_0 p2 p3
theorem am1(N:Nat)(p0_0 p1_0:List aA)(p2 p3:Int)(h:Tot (afj N p0_0 p1_0 p2 p3) (fun z=>∃(y0:Bool)(rest:List aJ),z.1.dimR=.bool y0∧z.2=rest∧xo p0_0 p1_0 p2 p3 (y0))):∃r,gX p0_0 p1_0 p2 p3 r:=aoq.finP (N:=N) (by kernel_rfl) h fun _ ⟨y0,_,e,_,q⟩=>⟨(y0),e,q⟩
noncomputable def gz:aL:=tab (P:=Try.prog) [] [] [] []
def ad2:IR:=Sq (Rs [Mv 20 7,Fa 21 8 2,Lq 22 21,Ll 23 22,Bi 24 .lss 20 23] (Cn 24 .skip (.exit 2))) (Sq (.block 3 (Sq (.reg [Fa 27 8 2,Lq 28 27,Mv 29 7,Ix 30 .afield 28 29,Fa 31 0 30,Fo [] [] (.ld 32 1 false false 31),Mv 33 5,Mv 34 6,Ix 35 .str 33 34,Lq 36 35,Bi 37 .eql 32 36] [[],[0],[],[0,1,2],rg 0 3,rg 0 4,[],[],[6,7],[6,7,8],rg 0 9]) (Cn 37 (Rs [Mv 38 7,Mv 4 38] .ret) .skip))) (Rg [Mv 25 7,Bc 26 .add 25 1,Mv 7 26]))
def ad3:IR:=Rg [Mv 18 6,Bc 19 .add 18 1,Mv 6 19]
def rp:IR:=Sq (Rs [Mv 14 6,Mv 15 5,Ll 16 15,Bi 17 .lss 14 16] (Cn 17 .skip (.exit 0))) (Sq (.block 1 (Rs [Mi 7 0] (.block 2 (.loop [2,5,6,7,1000000] 0 ad2)))) ad3)
def xv:IR:=Rs [Mi 4 (-1)] .ret
def aqc:IR:=Rs [Bx 2 0,Bx 3 1,Mi 4 0] (Rs [Fa 8 0 3,Lq 9 8,Pp (.bsl 10 .str [9] false),Fa 11 1 3,Lq 12 11,Pp (.app 13 .str (.tk 10) 12),Mv 5 13] (Sq (Rs [Mi 6 0] (.block 0 (.loop [2,5,6,1000001] 0 rp))) xv))
def aa9:List RV:=[.t 4]
theorem aqd:FnC Try.prog gz [] 0 ajh Try.f101 aqc aa9:=fnC Try.func101
def vd(R:IR→(Ex→St→Ro)→St→Ro)(again0:St→Ro):Ex→St→Ro:=(bk again0 [2,5,6,1000001] 0 (aP 0 (bj (R xv) (fin aa9))))
abbrev ig:Type:=(aA×Bss×Int)
def dr(x:ig):St:={env:=(.undef::.undef::.ea (enc .atype x.1)::.undef::.undef::.sl .str (.may false) x.2.1::.int .i64 x.2.2::(U 32 [])),hp:=[]}
def aor(R:IR→(Ex→St→Ro)→St→Ro)(again0 again1:St→Ro):Ex→St→Ro:=(bk again1 [2,5,6,7,1000000] 0 (aP 2 (aP 1 (bj (R ad3) (vd R again0)))))
abbrev ve:Type:=(aA×Bss×Int×Int)
def oU(x:ve):St:={env:=(.undef::.undef::.ea (enc .atype x.1)::.undef::.undef::.sl .str (.may false) x.2.1::.int .i64 x.2.2.1::.int .i64 x.2.2.2::(U 31 [])),hp:=[]}
def vf(N:Nat)(again0:St→Ro):(St→Ro)→St→Ro:=fun again1 s=>run gz N ad2 (aor (run gz N) again0 again1) s
def qr(N:Nat)(again0:ig→Ro)(again1:ve→Ro)(x:ve):Ro:=
 let v2:aA:=x.1
 let v5:Bss:=x.2.1
 let v6:Int:=x.2.2.1
 let v7:Int:=x.2.2.2
 let x3:=(↑(List.length v2.fields):Int)
 cond (decide (v7<x3)) (
  chk (ixl v7 v2.fields) (
   let x4:=(List.getD v2.fields (Int.toNat v7) (aG .afield))
   chk (ixl v6 v5) (
    let x5:=List.getD v5 (Int.toNat v6) (aG .str)
    cond (decide (x4.name=x5)) (
     some (.int .i64 v7,[])) (
     let x6:=(IntKind.wrap .i64 (v7+1))
     again1 (v2,v5,v6,x6))))) (
  let x7:=(IntKind.wrap .i64 (v6+1))
  again0 (v2,v5,x7))
theorem am2(N:Nat)(again0:St→Ro):LB (vf N again0) oU (qr N (fun y=>again0 (dr y))):=fun _ _=>by kernel_rfl
def vg(N:Nat):(St→Ro)→St→Ro:=fun again0 s=>run gz N rp (vd (run gz N) again0) s
def tf(N:Nat)(again0:ig→Ro)(q1:ve→Ro)(x:ig):Ro:=
 let v2:aA:=x.1
 let v5:Bss:=x.2.1
 let v6:Int:=x.2.2
 let x2:=(↑(List.length v5):Int)
 cond (decide (v6<x2)) (
  q1 (v2,v5,v6,0)) (
  some (.int .i64 (-1),[]))
def vh(N:Nat)(again0:ig→Ro)(x:ig):Ro:=tf N again0 (fun z=>aS N (qr N again0) z) x
def z9(N:Nat)(again0:St→Ro):List (Nat×(St→Ro)):=(bQ gz N rp (vd (run gz N) again0)++(bQ gz N xv (fin aa9)++[]))
theorem am3(N:Nat):∀(again0:St→Ro)(x:ig),vg N again0 (dr x)=vh N (fun y=>again0 (dr y)) x:=by
 intro again0 x
 have hX:∀C:Nat→St→Ro,bT C gz N rp (vd (bT C gz N) again0) (dr x)=tf N (fun y=>again0 (dr y)) (fun z=>C 1000000 (oU z)) x:=by
  intro C
  kernel_rfl
 have h:vg N again0 (dr x)=tf N (fun y=>again0 (dr y)) (fun z=>aW N (vf N again0) (oU z)) x:=(cW (C:=fb (z9 N again0)) (bS (ba (l:=(z9 N again0)) (by kernel_rfl))) (iD (cD (fI (bS (dR (ba (l:=(z9 N again0)) (by kernel_rfl)))) rfl))) _).trans ((hX _).trans (by kernel_rfl))
 have e1:(fun z=>aW N (vf N again0) (oU z))=(fun z=>aS N (qr N (fun y=>again0 (dr y))) z):=funext fun z=>aV (oU) (vf N again0) (qr N (fun y=>again0 (dr y))) (am2 N again0) N z
 rw[h,e1]
 rfl
def sA(N:Nat)(p0:aA)(p1:aM)(q0:ig→Ro):Ro:=
 chk (decide ((List.length ([p1.name]:Bss)+List.length p1.aliases)*16≤140737488355328)) (
  let x1:=(([p1.name]:Bss)++p1.aliases)
  q0 (p0,x1,0))
def ahz(N:Nat)(p0:aA)(p1:aM):Ro:=sA N p0 p1 (fun z=>aS N (vh N) z)
theorem aos(N:Nat)(p0:aA)(p1:aM)(h:Tot (ahz N p0 p1) (fun z=>∃(y0:Int)(rest:List aJ),z.1.dimR=.int .i64 y0∧z.2=rest∧yE p0 p1 (y0))):∃r,uD p0 p1 r:=aqd.finP (N:=N) ((bu _ (by kernel_rfl) rfl (fun C=>sA N p0 p1 (fun z=>C 1000001 (dr z))) (fun C=>by kernel_rfl)).trans (Eq.trans (b:=sA N p0 p1 (fun z=>aW N (vg N) (dr z))) (by kernel_rfl) (congrArg (sA N p0 p1) (funext fun z=>aV (dr) (vg N) (vh N) (am3 N) N z)))) h fun _ ⟨y0,_,e,_,q⟩=>⟨(y0),e,q⟩
noncomputable def aaa:aL:=tab (P:=Try.prog) [] [] [] [aa5]
def abw:IR:=Sq (Rs [Mv 10 9,Fa 11 0 5,Lq 12 11,Mv 13 3,Ix 14 .atype 12 13,Fa 15 9 14,Lo 16 15,Ll 17 16,Bi 18 .lss 10 17] (Cn 18 .skip (.exit 0))) (Sq (.block 1 (Sq (.reg [Ld 21 1 true 4,Ld 22 1 true 5,Mv 23 2,Fa 24 0 5,Lq 25 24,Mv 26 3,Ix 27 .atype 25 26,Fa 28 9 27,Fo [] [] (.ld 29 1 false false 28),Mv 30 9,Ix 31 (.num .i64) 29 30,Lq 32 31,Ca 33 31 [21,22,23,32]] [[],[],[],[],[3],[],[3,4,5],rg 3 6,rg 3 7,[],rg 3 9,rg 3 10,rg 0 11]) (Cn 33 (Rs [Mv 34 9,Mv 8 34] .ret) .skip))) (Rg [Mv 19 9,Bc 20 .add 19 1,Mv 9 20]))
def abx:IR:=Rs [Mi 8 (-1)] .ret
def am4:IR:=Rs [Bx 4 0,Bx 5 1,Mi 8 0] (Sq (Rs [Mi 9 0] (.block 0 (.loop [2,3,4,5,9,1000000] 0 abw))) abx)
def ad4:List RV:=[.t 8]
theorem am5:FnC Try.prog aaa [] 0 ae7 Try.f99 am4 ad4:=fnC Try.func99
def alI(R:IR→(Ex→St→Ro)→St→Ro)(again0:St→Ro):Ex→St→Ro:=(bk again0 [2,3,4,5,9,1000000] 0 (aP 0 (bj (R abx) (fin ad4))))
abbrev rq:Type:=(Int×Int×List aA×List aA×Int)
def pQ(x:rq):St:={env:=(.undef::.undef::.int .i64 x.1::.int .i64 x.2.1::.ea [.sl .atype (.may false) x.2.2.1]::.ea [.sl .atype (.may false) x.2.2.2.1]::(U 3 (.int .i64 x.2.2.2.2::(U 25 [])))),hp:=[]}
def xw(N:Nat):(St→Ro)→St→Ro:=fun again0 s=>run aaa N abw (alI (run aaa N) again0) s
def rt(N:Nat)(again0:rq→Ro)(x:rq):Ro:=
 let v2:Int:=x.1
 let v3:Int:=x.2.1
 let v4_0:List aA:=x.2.2.1
 let v5_0:List aA:=x.2.2.2.1
 let v9:Int:=x.2.2.2.2
 chk (ixl v3 v5_0) (
  let x1:=(List.getD v5_0 (Int.toNat v3) (aG .atype))
  let x2:=(↑(List.length x1.branches):Int)
  cond (decide (v9<x2)) (
   chk (ixl v3 v5_0) (
    let x3:=(List.getD v5_0 (Int.toNat v3) (aG .atype))
    chk (ixl v9 x3.branches) (
     let x4:=List.getD x3.branches (Int.toNat v9) (aG (.num .i64))
     aF (gX v4_0 v5_0 v2 x4) (fun(r1:Bool)=>
      cond r1 (
       some (.int .i64 v9,[])) (
       let x5:=(IntKind.wrap .i64 (v9+1))
       again0 (v2,v3,v4_0,v5_0,x5)))))) (
   some (.int .i64 (-1),[])))
theorem aku(N:Nat):LB (xw N) pQ (rt N):=fun _ _=>by kernel_rfl
def oV(N:Nat)(p0_0 p1_0:List aA)(p2 p3:Int)(q0:rq→Ro):Ro:=
 q0 (p2,p3,p0_0,p1_0,0)
def ad5(N:Nat)(p0_0 p1_0:List aA)(p2 p3:Int):Ro:=oV N p0_0 p1_0 p2 p3 (fun z=>aS N (rt N) z)
theorem alJ(N:Nat)(p0_0 p1_0:List aA)(p2 p3:Int)(h:Tot (ad5 N p0_0 p1_0 p2 p3) (fun z=>∃(y0:Int)(rest:List aJ),z.1.dimR=.int .i64 y0∧z.2=rest∧abq p0_0 p1_0 p2 p3 (y0))):∃r,ql p0_0 p1_0 p2 p3 r:=am5.finP (N:=N) ((bu _ (by kernel_rfl) rfl (fun C=>oV N p0_0 p1_0 p2 p3 (fun z=>C 1000000 (pQ z))) (fun C=>by kernel_rfl)).trans (Eq.trans (b:=oV N p0_0 p1_0 p2 p3 (fun z=>aW N (xw N) (pQ z))) (by kernel_rfl) (congrArg (oV N p0_0 p1_0 p2 p3) (funext fun z=>aV (pQ) (xw N) (rt N) (aku N) N z)))) h fun _ ⟨y0,_,e,_,q⟩=>⟨(y0),e,q⟩
noncomputable def aab:aL:=tab (P:=Try.prog) [] [] [] []
def aby:IR:=Sq (Rs [Mv 6 5,Fa 7 4 2,Lq 8 7,Ll 9 8,Bi 10 .lss 6 9] (Cn 10 .skip (.exit 0))) (Sq (.block 1 (Rs [Fa 13 4 2,Lq 14 13,Mv 15 5,Ix 16 .str 14 15,Lq 17 16,Mv 18 1,Bi 19 .eql 17 18] (Cn 19 (Rs [Mv 20 5,Mv 4 20] .ret) .skip))) (Rg [Mv 11 5,Bc 12 .add 11 1,Mv 5 12]))
def abz:IR:=Rs [Mi 4 (-1)] .ret
def am6:IR:=Rs [Bx 2 0,Mi 4 0] (Sq (Rs [Mi 5 0] (.block 0 (.loop [1,2,5,1000000] 0 aby))) abz)
def ad6:List RV:=[.t 4]
theorem am7:FnC Try.prog aab [] 0 ae8 Try.f100 am6 ad6:=fnC Try.func100
def alK(R:IR→(Ex→St→Ro)→St→Ro)(again0:St→Ro):Ex→St→Ro:=(bk again0 [1,2,5,1000000] 0 (aP 0 (bj (R abz) (fin ad6))))
abbrev ru:Type:=(Bs×aA×Int)
def pR(x:ru):St:={env:=(.undef::.str x.1::.ea (enc .atype x.2.1)::.undef::.undef::.int .i64 x.2.2::(U 15 [])),hp:=[]}
def xx(N:Nat):(St→Ro)→St→Ro:=fun again0 s=>run aab N aby (alK (run aab N) again0) s
def rv(N:Nat)(again0:ru→Ro)(x:ru):Ro:=
 let v1:Bs:=x.1
 let v2:aA:=x.2.1
 let v5:Int:=x.2.2
 let x1:=(↑(List.length v2.syms):Int)
 cond (decide (v5<x1)) (
  chk (ixl v5 v2.syms) (
   let x2:=List.getD v2.syms (Int.toNat v5) (aG .str)
   cond (decide (x2=v1)) (
    some (.int .i64 v5,[])) (
    let x3:=(IntKind.wrap .i64 (v5+1))
    again0 (v1,v2,x3)))) (
  some (.int .i64 (-1),[]))
theorem akv(N:Nat):LB (xx N) pR (rv N):=fun _ _=>by kernel_rfl
def oW(N:Nat)(p0:aA)(p1:Bs)(q0:ru→Ro):Ro:=
 q0 (p1,p0,0)
def ad7(N:Nat)(p0:aA)(p1:Bs):Ro:=oW N p0 p1 (fun z=>aS N (rv N) z)
theorem alL(N:Nat)(p0:aA)(p1:Bs)(h:Tot (ad7 N p0 p1) (fun z=>∃(y0:Int)(rest:List aJ),z.1.dimR=.int .i64 y0∧z.2=rest∧abr p0 p1 (y0))):∃r,qm p0 p1 r:=am7.finP (N:=N) ((bu _ (by kernel_rfl) rfl (fun C=>oW N p0 p1 (fun z=>C 1000000 (pR z))) (fun C=>by kernel_rfl)).trans (Eq.trans (b:=oW N p0 p1 (fun z=>aW N (xx N) (pR z))) (by kernel_rfl) (congrArg (oW N p0 p1) (funext fun z=>aV (pR) (xx N) (rv N) (akv N) N z)))) h fun _ ⟨y0,_,e,_,q⟩=>⟨(y0),e,q⟩
noncomputable def acS:aL:=tab (P:=Try.prog) [] [] [] [apP]
def ad8:IR:=Sq (Rs [Mv 8 5,Mv 9 3,Ll 10 9,Bi 11 .lss 8 10] (Cn 11 .skip (.exit 0))) (Sq (.block 1 (Rg [Pp (.mov 14 (.tk 4)),Mv 15 3,Mv 16 5,Ix 17 (.num .i64) 15 16,Lq 18 17,Bc 19 .geq 18 0,Pp (.bsl 20 .bool [19] true),Pp (.app 21 .bool (.tk 14) 20),Pp (.mov 4 (.tk 21))])) (Rg [Mv 12 5,Bc 13 .add 12 1,Mv 5 13]))
def ad9:IR:=Rs [Pp (.mov 22 (.tk 4)),Pp (.mov 2 (.tk 22))] .ret
def aqe:IR:=Rs [Bx 1 0,Pp (.mov 2 (.c (nl .bool)))] (Rs [Ld 6 1 true 1,Ca 7 83 [6],Mv 3 7] (Rs [Pp (.mov 4 (.c (nl .bool)))] (Sq (Rs [Mi 5 0] (.block 0 (.loop [3,4,5,1000000] 0 ad8))) ad9)))
def ahA:List RV:=[.t 2]
theorem aqf:FnC Try.prog acS [] 0 ajg Try.f67 aqe ahA:=fnC Try.func67
def aot(R:IR→(Ex→St→Ro)→St→Ro)(again0:St→Ro):Ex→St→Ro:=(bk again0 [3,4,5,1000000] 0 (aP 0 (bj (R ad9) (fin ahA))))
abbrev vi:Type:=(List Int×List Bool×Int)
def tg(x:vi):St:={env:=(U 3 (.sl (.num .i64) (.may false) x.1::.sl .bool .own x.2.1::.int .i64 x.2.2::(U 17 []))),hp:=[]}
def aac(N:Nat):(St→Ro)→St→Ro:=fun again0 s=>run acS N ad8 (aot (run acS N) again0) s
def qt(N:Nat)(again0:vi→Ro)(x:vi):Ro:=
 let v3:List Int:=x.1
 let v4:List Bool:=x.2.1
 let v5:Int:=x.2.2
 let x1:=(↑(List.length v3):Int)
 cond (decide (v5<x1)) (
  chk (ixl v5 v3) (
   let x2:=List.getD v3 (Int.toNat v5) (aG (.num .i64))
   chk (decide ((List.length v4+List.length ([decide (0≤x2)]:List Bool))*1≤140737488355328)) (
    let x3:=(v4++([decide (0≤x2)]:List Bool))
    let x4:=(IntKind.wrap .i64 (v5+1))
    again0 (v3,x3,x4)))) (
  some (.sl .bool .own v4,[]))
theorem am8(N:Nat):LB (aac N) tg (qt N):=fun _ _=>by kernel_rfl
def sB(N:Nat)(p0_0:List aA)(q0:vi→Ro):Ro:=
 aF (oD p0_0) (fun(r1:List Int)=>
  q0 (r1,([]:List Bool),0))
def ahB(N:Nat)(p0_0:List aA):Ro:=sB N p0_0 (fun z=>aS N (qt N) z)
theorem aou(N:Nat)(p0_0:List aA)(h:Tot (ahB N p0_0) (fun z=>∃(y0:List Bool)(rest:List aJ),z.1.dimR=.sl .bool (.may false) y0∧z.2=rest∧yF p0_0 (y0))):∃r,qj p0_0 r:=aqf.finP (N:=N) ((bu _ (by kernel_rfl) rfl (fun C=>sB N p0_0 (fun z=>C 1000000 (tg z))) (fun C=>by kernel_rfl)).trans (Eq.trans (b:=sB N p0_0 (fun z=>aW N (aac N) (tg z))) (by kernel_rfl) (congrArg (sB N p0_0) (funext fun z=>aV (tg) (aac N) (qt N) (am8 N) N z)))) h fun _ ⟨y0,_,e,_,q⟩=>⟨(y0),e,q⟩
end Go.Proofs.Ytdpajabhmmmjoaa
end
noncomputable section
namespace Go.Proofs.Ytdpajabhmmmjoaa
open Go.AM
set_option autoImplicit false
set_option linter.unusedVariables false
set_option maxRecDepth 100000
noncomputable def alM:aL:=tab (P:=Try.prog) [] [] [] []
def akw:IR:=Rs [Mi 4 0] (Sq (Sq (.reg [Mv 5 0,Nk 6 5,Fa 7 1 6,Fo [0] [] (.ld 8 1 false false 7),Mv 9 0,Nk 10 9,Fa 11 0 10,Fo [0] [] (.ld 12 1 false false 11),Ll 13 12,Bi 14 .geq 8 13] [[],[0],[0,1],[0,1,2],[],[4],[4,5],[4,5,6],rg 4 7,rg 0 8]) (Cn 14 (Rs [Mi 4 0] .ret) .skip)) (Rs [Mv 15 0,Nk 16 15,Fa 17 1 16,Lo 18 17,Bc 19 .add 18 1,Nk 20 15,Fa 21 1 20,Sv 1 21 19] (Sq (.reg [Mv 22 0,Nk 23 22,Fa 24 0 23,Fo [0] [] (.ld 25 1 false false 24),Mv 26 0,Nk 27 26,Fa 28 1 27,Fo [0] [] (.ld 29 1 false false 28),Bc 30 .sub 29 1,Ix 31 .u8 25 30,Lq 32 31,Pp (.cvi 33 .i64 32),Mv 34 1,Bi 35 .rem 33 34,Mv 4 35] [[],[0],[0,1],[0,1,2],[],[4],[4,5],[4,5,6],rg 4 7,rg 0 8,rg 0 9,rg 0 10,[],rg 0 12,rg 0 13]) .ret)))
def akx:List RV:=[.t 4]
theorem aky:FnC Try.prog alM [] 1 acr Try.f60 akw akx:=fnC Try.func60
def abA(N:Nat)(a:Bs)(b c:Int):Ro:=
 let g:=(↑(List.length a):Int)
 let d:=fun h i=>(some (.int .i64 h,[some [.sl .u8 (.may false) a,.int .i64 i]]):Ro)
 cond (decide (g≤b)) (
 d 0 b) (
 let e:=(IntKind.wrap .i64 (b+1))
 let f:=(IntKind.wrap .i64 (e-1))
 chk (ixl f a) (
 let j:=(List.getD a (Int.toNat f) (aG .u8)).toNat
 chk (!(c==0)) (
 let k:=(Int.tmod (IntKind.wrap .i64 j) c)
 d k e)))
def abB(N:Nat)(a:Bs)(b c:Int):Ro:=abA N a b c
theorem aju(N:Nat)(a:Bs)(b i:Int)(h:Tot (abB N a b i) (fun z=>∃(c:Int)(d:Bs)(g:Int)(rest:List aJ),z.1.dimR=.int .i64 c∧z.2=some [.sl .u8 (.may false) d,.int .i64 g]::rest∧zt a b i (c,d,g))):∃r,bc a b i r:=FnC.finO (css:=[[.sl .u8 (.may false) a,.int .i64 b]]) aky (N:=N) (by kernel_rfl) h fun _ ⟨c,d,g,_,e,f,q⟩=>⟨(c,d,g),e,⟨_,f⟩,q⟩
noncomputable def akz:aL:=tab (P:=Try.prog) [] [] [] []
def ajv:IR:=Rs [Mb 2 false] (Sq (.reg [Mv 3 0,Nk 4 3,Fa 5 1 4,Fo [0] [] (.ld 6 1 false false 5),Mv 7 0,Nk 8 7,Fa 9 0 8,Fo [0] [] (.ld 10 1 false false 9),Ll 11 10,Bi 12 .geq 6 11,Mv 2 12] [[],[0],[0,1],[0,1,2],[],[4],[4,5],[4,5,6],rg 4 7,rg 0 8,rg 0 9]) .ret)
def ajw:List RV:=[.t 2]
theorem ajx:FnC Try.prog akz [] 1 abl Try.f59 ajv ajw:=fnC Try.func59
def aaP(N:Nat)(a:Bs)(b:Int):Ro:=
 let c:=(↑(List.length a):Int)
 some (.bool (decide (c≤b)),[some [.sl .u8 (.may false) a,.int .i64 b]])
def aaQ(N:Nat)(a:Bs)(b:Int):Ro:=aaP N a b
theorem aif(N:Nat)(a:Bs)(b:Int)(h:Tot (aaQ N a b) (fun z=>∃(c:Bool)(d:Bs)(g:Int)(rest:List aJ),z.1.dimR=.bool c∧z.2=some [.sl .u8 (.may false) d,.int .i64 g]::rest∧yt a b (c,d,g))):∃r,mz a b r:=FnC.finO (css:=[[.sl .u8 (.may false) a,.int .i64 b]]) ajx (N:=N) (by kernel_rfl) h fun _ ⟨c,d,g,_,e,f,q⟩=>⟨(c,d,g),e,⟨_,f⟩,q⟩
noncomputable def ak4:aL:=tab (P:=Try.prog) [] [] [] []
def ajy:IR:=Rs [Pp (.mov 2 (.c .nilp))] (Rs [Mv 3 0,Pp (.bld 4 [fu .u8 true,vI 0] [(0,1,3)]),Pp (.box 5 4),Mv 2 5] .ret)
def ajz:List RV:=[.t 2]
theorem ar6:FnC Try.prog ak4 [] 0 akS Try.f14 ajy ajz:=fnC Try.func14
def ajA(N:Nat)(a:Bs):Ro:=
 some (.ptr 0 0,[some [.sl .u8 (.may false) a,.int .i64 0]])
def acT(N:Nat)(a:Bs):Ro:=ajA N a
theorem aqg(N:Nat)(a:Bs):od ak4 N 6 ajz ajy [.sl .u8 (.may false) a] []=acT N a:=by kernel_rfl
theorem aqh(N:Nat)(a:Bs)(h:Tot (acT N a) (fun z=>∃(b:Bs)(c:Int)(rest:List aJ),z=(.ptr 0 0,[some [.sl .u8 (.may false) b,.int .i64 c]])∧aeV a (b,c))):∃r,wh a r:=by
 obtain⟨z,hz,b,c,rest,rfl,hq⟩:=h
 exact⟨(b,c),ar6.newFn (aqg N a) hz,hq⟩
noncomputable def atp:aL:=tab (P:=Try.prog) [] [] [] []
def ar7:IR:=Rs [Pp (.new 2 [vI 0,vI 0,vS,nl .jnode,nl .str])] (Rs [Mv 3 0,Pp (.bld 4 [vI 0,vI 0,vS,nl .jnode,nl .str] [(0,1,kI 4),(2,1,3)]),Sv 5 2 4] .ret)
def ar8:List RV:=[.cell 2 5 true]
theorem ar9:FnC Try.prog atp [] 0 akT Try.f86 ar7 ar8:=fnC Try.func86
def ajB(N:Nat)(a:Bs):Ro:=
 some (.agg [.int .i64 4,.int .i64 0,.str a,.sl .jnode (.may false) ([]:List aB),.sl .str (.may false) ([]:Bss)],[some [.int .i64 4,.int .i64 0,.str a,.sl .jnode .own ([]:List aB),.sl .str .own ([]:Bss)]])
def ajC(N:Nat)(a:Bs):Ro:=ajB N a
theorem aqi(N:Nat)(g:Bs)(h:Tot (ajC N g) (fun z=>∃(a:Int)(b:Int)(c:Bs)(d:List aB)(f:Bss)(rest:List aJ),z.1.dimR=.agg [.int .i64 a,.int .i64 b,.str c,.sl .jnode (.may false) d,.sl .str (.may false) f]∧z.2=rest∧aeW g (a,b,c,d,f))):∃r,bh g r:=ar9.finP (N:=N) (by kernel_rfl) h fun _ ⟨a,b,c,d,f,_,e,_,q⟩=>⟨(a,b,c,d,f),e,q⟩
noncomputable def ajD:aL:=tab (P:=Try.prog) [] [] [] []
def ahC:IR:=Rs [Pp (.new 4 [vI 0,vI 0,vS,nl .jnode,nl .str])] (Rs [Mv 5 0,Mv 6 1,Pp (.bld 7 [vI 0,vI 0,vS,nl .jnode,nl .str] [(0,1,kI 6),(4,1,5),(3,1,6)]),Sv 5 4 7] .ret)
def ahD:List RV:=[.cell 4 5 true]
theorem aqj:FnC Try.prog ajD [] 0 aiU Try.f118 ahC ahD:=fnC Try.func118
def ahE(N:Nat)(a:Bool)(c:Bss)(b:Bool)(d:List aB):Ro:=
 some (.agg [.int .i64 6,.int .i64 0,.str ([]:Bs),.sl .jnode (.may b) d,.sl .str (.may a) c],[some [.int .i64 6,.int .i64 0,.str ([]:Bs),.sl .jnode (.may b) d,.sl .str (.may a) c]])
def aba(N:Nat)(a:Bool)(c:Bss)(b:Bool)(d:List aB):Ro:=ahE N a c b d
theorem aov(N:Nat)(a:Bool)(c:Bss)(b:Bool)(d:List aB):od ajD N 8 ahD ahC [.sl .str (.may a) c,.sl .jnode (.may b) d] []=aba N a c b d:=by kernel_rfl
theorem aow(N:Nat)(a:Bool)(c:Bss)(b:Bool)(d:List aB)(h:Tot (aba N a c b d) (fun z=>∃(e:Int)(f:Int)(g:Bs)(i:Bool)(j:List aB)(k:Bool)(l:Bss)(rest:List aJ),z.1=.agg [.int .i64 e,.int .i64 f,.str g,.sl .jnode (.may i) j,.sl .str (.may k) l]∧z.2=rest∧adO a c b d (e,f,g,i,j,k,l))):∃r,d8 a c b d r:=by
 obtain⟨⟨v,hp⟩,hz,e,f,g,i,j,k,l,rest,e1,e2,hq⟩:=h
 simp only at e1 e2
 subst e2
 subst e1
 exact⟨(e,f,g,i,j,k,l),aqj.pure (aov N a c b d) hz,hq⟩
noncomputable def agy:aL:=tab (P:=Try.prog) [] [] [] []
def ahF:IR:=Sq (Rs [Mv 7 6,Fa 8 4 2,Lq 9 8,Ll 10 9,Bi 11 .lss 7 10] (Cn 11 .skip (.exit 0))) (Sq (.block 1 (Rs [Fa 14 4 2,Lq 15 14,Mv 16 6,Ix 17 .str 15 16,Lq 18 17,Mv 19 1,Bi 20 .eql 18 19] (Cn 20 (Rs [Fa 21 3 2,Lq 22 21,Mv 23 6,Ix 24 .jnode 22 23,Ld 25 5 true 24,Sv 5 4 25,Mb 5 true] .ret) .skip))) (Rg [Mv 12 6,Bc 13 .add 12 1,Mv 6 13]))
def ahG:IR:=Rs [Pp (.bld 26 [vI 0,vI 0,vS,nl .jnode,nl .str] []),Sv 5 4 26,Mb 5 false] .ret
def atq:IR:=Rs [Bx 2 0,Pp (.new 4 [vI 0,vI 0,vS,nl .jnode,nl .str]),Mb 5 false] (Sq (Rs [Mi 6 0] (.block 0 (.loop [1,2,4,6,1000000] 1 ahF))) ahG)
def ak5:List RV:=[.cell 4 5 true,.t 5]
theorem atr:FnC Try.prog agy [] 0 amD Try.f87 atq ak5:=fnC Try.func87
def asa(R:IR→(Ex→St→Ro)→St→Ro)(a:St→Ro):Ex→St→Ro:=(bk a [1,2,4,6,1000000] 1 (aP 0 (bj (R ahG) (fin ak5))))
abbrev yM:Type:=(Bs×Int×Int×Bs×List aB×Bss×Int×Int×Int×Bs×List aB×Bss)
def wU:yM→St:=fun(c,d,e,f,g,h,i,j,k,l,a,b)=>{env:=(.undef::.str c::.ea [.int .i64 d,.int .i64 e,.str f,.sl .jnode (.may false) g,.sl .str (.may false) h]::.undef::.ptr 0 0::.undef::.int .i64 i::(U 20 [])),hp:=[some [.int .i64 j,.int .i64 k,.str l,.sl .jnode .own a,.sl .str .own b]]}
def acU(N:Nat):(St→Ro)→St→Ro:=fun a s=>run agy N ahF (asa (run agy N) a) s
def yN(N:Nat)(c:yM→Ro):yM→Ro:=fun(p,f,g,h,b,a,e,i,j,k,m,o)=>
 let v:=(↑(List.length a):Int)
 let q:=fun r t u w x y z g7=>(some (.tup [.agg [.int .i64 r,.int .i64 t,.str u,.sl .jnode (.may false) w,.sl .str (.may false) x],.bool y],[some [.int .i64 r,.int .i64 t,.str u,z,g7]]):Ro)
 cond (decide (e<v)) (
 chk (ixl e a) (
 let x2:=List.getD a (Int.toNat e) (aG .str)
 cond (decide (x2=p)) (
 chk (ixl e b) (
 let d:=(List.getD b (Int.toNat e) (aG .jnode))
 q d.kind d.n d.s d.l d.names true (.sl .jnode (.may false) d.l) (.sl .str (.may false) d.names))) (
 let x4:=(IntKind.wrap .i64 (e+1))
 c (p,f,g,h,b,a,x4,i,j,k,m,o)))) (
 q 0 0 ([]:Bs) ([]:List aB) ([]:Bss) false (.sl .jnode .own ([]:List aB)) (.sl .str .own ([]:Bss)))
theorem aqk(N:Nat):LB (acU N) wU (yN N):=fun _ _=>by kernel_rfl
def ws(N:Nat)(a b:Int)(c:Bs)(d:List aB)(e:Bss)(f:Bs)(g:yM→Ro):Ro:=
 g (f,a,b,c,d,e,0,0,0,([]:Bs),([]:List aB),([]:Bss))
def ak6(N:Nat)(a b:Int)(c:Bs)(d:List aB)(e:Bss)(f:Bs):Ro:=ws N a b c d e f (fun z=>aS N (yN N) z)
theorem asb(N:Nat)(a c:Int)(d:Bs)(f:List aB)(g:Bss)(i:Bs)(h:Tot (ak6 N a c d f g i) (fun z=>∃(j:Int)(k:Int)(l:Bs)(m:List aB)(n:Bss)(o:Bool)(rest:List aJ),z.1.dimR=.tup [.agg [.int .i64 j,.int .i64 k,.str l,.sl .jnode (.may false) m,.sl .str (.may false) n],.bool o]∧z.2=rest∧wR a c d f g i (j,k,l,m,n,o))):∃r,rf a c d f g i r:=atr.finP (N:=N) ((bu _ (by kernel_rfl) rfl (fun C=>ws N a c d f g i (fun z=>C 1000000 (wU z))) (fun C=>by kernel_rfl)).trans (Eq.trans (b:=ws N a c d f g i (fun z=>aW N (acU N) (wU z))) (by kernel_rfl) (congrArg (ws N a c d f g i) (funext fun z=>aV (wU) (acU N) (yN N) (aqk N) N z)))) h fun _ ⟨j,k,l,m,n,o,_,e,_,q⟩=>⟨(j,k,l,m,n,o),e,q⟩
noncomputable def auE:aL:=tab (P:=Try.prog) [] [] [] []
def att:IR:=Rs [Bx 2 0,Mb 4 false] (Rs [Mv 5 1,Bc 6 .geq 5 0,Mv 7 6,Gt 7 (.mov 8 1),Gt 7 (.fad 9 0 2),Gt 7 (.lde 10 1 false 9),Gt 7 (.lenl 11 10),Gt 7 (.bin 12 .lss 8 11),Pa 13 7 12,Mv 4 13] .ret)
def atu:List RV:=[.t 4]
theorem atv:FnC Try.prog auE [] 0 amE Try.f45 att atu:=fnC Try.func45
def ak7(N:Nat)(a:List aA)(b:Int):Ro:=
 cond (decide (0≤b)) (
 let c:=(↑(List.length a):Int)
 some (.bool (decide (b<c)),[])) (
 some (.bool false,[]))
def ak8(N:Nat)(a:List aA)(b:Int):Ro:=ak7 N a b
theorem asc(N:Nat)(a:List aA)(c:Int)(h:Tot (ak8 N a c) (fun z=>∃(b:Bool)(rest:List aJ),z.1.dimR=.bool b∧z.2=rest∧wS a c (b))):∃r,mR a c r:=atv.finP (N:=N) (by kernel_rfl) h fun _ ⟨b,_,e,_,q⟩=>⟨(b),e,q⟩
noncomputable def acV:aL:=tab (P:=Try.prog) [] [] [] []
def aea:IR:=Sq (Rs [Mv 6 4,Mv 7 3,Ll 8 7,Bi 9 .lss 6 8] (Cn 9 .skip (.exit 0))) (Sq (.block 1 (Rs [Mv 12 3,Mv 13 4,Ix 14 .str 12 13,Lq 15 14,Mv 16 0,Bi 17 .eql 15 16] (Cn 17 (Rs [Mv 18 4,Bc 19 .add 18 1,Mv 2 19] .ret) .skip))) (Rg [Mv 10 4,Bc 11 .add 10 1,Mv 4 11]))
def aeb:IR:=Rs [Mi 2 0] .ret
def aql:IR:=Rs [Mi 2 0] (Rs [Pp (.bsl 5 .str [kS [110,117,108,108],kS [98,111,111,108,101,97,110],kS [105,110,116],kS [108,111,110,103],kS [102,108,111,97,116],kS [100,111,117,98,108,101],kS [98,121,116,101,115],kS [115,116,114,105,110,103],kS [114,101,99,111,114,100],kS [101,110,117,109],kS [102,105,120,101,100],kS [97,114,114,97,121],kS [109,97,112],kS [117,110,105,111,110]] true),Mv 3 5] (Sq (Rs [Mi 4 0] (.block 0 (.loop [0,3,4,1000000] 0 aea))) aeb))
def ahH:List RV:=[.t 2]
theorem aqm:FnC Try.prog acV [] 0 ai0 Try.f115 aql ahH:=fnC Try.func115
def aox(R:IR→(Ex→St→Ro)→St→Ro)(a:St→Ro):Ex→St→Ro:=(bk a [0,3,4,1000000] 0 (aP 0 (bj (R aeb) (fin ahH))))
abbrev vj:Type:=(Bs×Bool×Bss×Int)
def th:vj→St:=fun(a,b,c,d)=>{env:=(.str a::.undef::.undef::.sl .str (.may b) c::.int .i64 d::(U 15 [])),hp:=[]}
def aad(N:Nat):(St→Ro)→St→Ro:=fun a s=>run acV N aea (aox (run acV N) a) s
def vk(N:Nat)(a:vj→Ro):vj→Ro:=fun(e,b,d,c)=>
 let f:=(↑(List.length d):Int)
 cond (decide (c<f)) (
 chk (ixl c d) (
 let g:=List.getD d (Int.toNat c) (aG .str)
 cond (decide (g=e)) (
 let h:=(IntKind.wrap .i64 (c+1))
 some (.int .i64 h,[])) (
 let i:=(IntKind.wrap .i64 (c+1))
 a (e,b,d,i)))) (
 some (.int .i64 0,[]))
theorem am9(N:Nat):LB (aad N) th (vk N):=fun _ _=>by kernel_rfl
def sC(N:Nat)(a:Bs)(b:vj→Ro):Ro:=
 b (a,true,([([110,117,108,108]:Bs),([98,111,111,108,101,97,110]:Bs),([105,110,116]:Bs),([108,111,110,103]:Bs),([102,108,111,97,116]:Bs),([100,111,117,98,108,101]:Bs),([98,121,116,101,115]:Bs),([115,116,114,105,110,103]:Bs),([114,101,99,111,114,100]:Bs),([101,110,117,109]:Bs),([102,105,120,101,100]:Bs),([97,114,114,97,121]:Bs),([109,97,112]:Bs),([117,110,105,111,110]:Bs)]:Bss),0)
def ahI(N:Nat)(a:Bs):Ro:=sC N a (fun z=>aS N (vk N) z)
theorem aoy(N:Nat)(a:Bs)(h:Tot (ahI N a) (fun z=>∃(c:Int)(rest:List aJ),z.1.dimR=.int .i64 c∧z.2=rest∧adP a (c))):∃r,nK a r:=aqm.finP (N:=N) ((bu _ (by kernel_rfl) rfl (fun C=>sC N a (fun z=>C 1000000 (th z))) (fun C=>by kernel_rfl)).trans (Eq.trans (b:=sC N a (fun z=>aW N (aad N) (th z))) (by kernel_rfl) (congrArg (sC N a) (funext fun z=>aV (th) (aad N) (vk N) (am9 N) N z)))) h fun _ ⟨c,_,e,_,q⟩=>⟨(c),e,q⟩
noncomputable def asd:aL:=tab (P:=Try.prog) [] [] [] []
def aqn:IR:=Rs [Ms 2 []] (Rs [Pp (.bsl 4 .str [kS [],kS [110,117,108,108],kS [98,111,111,108,101,97,110],kS [105,110,116],kS [108,111,110,103],kS [102,108,111,97,116],kS [100,111,117,98,108,101],kS [98,121,116,101,115],kS [115,116,114,105,110,103],kS [114,101,99,111,114,100],kS [101,110,117,109],kS [102,105,120,101,100],kS [97,114,114,97,121],kS [109,97,112],kS [117,110,105,111,110]] true),Mv 3 4] (Sq (Rs [Mv 5 0,Bc 6 .lss 5 1,Mv 7 6,Gf 7 (.mov 8 0),Gf 7 (.bin 9 .gtr 8 (kI 14)),Po 10 7 9] (Cn 10 (Rs [Ms 2 []] .ret) .skip)) (Rs [Mv 11 3,Mv 12 0,Ix 13 .str 11 12,Lq 14 13,Mv 2 14] .ret)))
def aqo:List RV:=[.t 2]
theorem aqp:FnC Try.prog asd [] 0 aiZ Try.f158 aqn aqo:=fnC Try.func158
def ahJ(N:Nat)(a:Int):Ro:=
 cond (decide (a<1)) (
 some (.str ([]:Bs),[])) (
 cond (decide (14<a)) (
 some (.str ([]:Bs),[])) (
 chk (ixl a ([([]:Bs),([110,117,108,108]:Bs),([98,111,111,108,101,97,110]:Bs),([105,110,116]:Bs),([108,111,110,103]:Bs),([102,108,111,97,116]:Bs),([100,111,117,98,108,101]:Bs),([98,121,116,101,115]:Bs),([115,116,114,105,110,103]:Bs),([114,101,99,111,114,100]:Bs),([101,110,117,109]:Bs),([102,105,120,101,100]:Bs),([97,114,114,97,121]:Bs),([109,97,112]:Bs),([117,110,105,111,110]:Bs)]:Bss)) (
 let b:=List.getD ([([]:Bs),([110,117,108,108]:Bs),([98,111,111,108,101,97,110]:Bs),([105,110,116]:Bs),([108,111,110,103]:Bs),([102,108,111,97,116]:Bs),([100,111,117,98,108,101]:Bs),([98,121,116,101,115]:Bs),([115,116,114,105,110,103]:Bs),([114,101,99,111,114,100]:Bs),([101,110,117,109]:Bs),([102,105,120,101,100]:Bs),([97,114,114,97,121]:Bs),([109,97,112]:Bs),([117,110,105,111,110]:Bs)]:Bss) (Int.toNat a) (aG .str)
 some (.str b,[]))))
def ahK(N:Nat)(a:Int):Ro:=ahJ N a
theorem aoz(N:Nat)(b:Int)(h:Tot (ahK N b) (fun z=>∃(a:Bs)(rest:List aJ),z.1.dimR=.str a∧z.2=rest)):∃r,ur b r:=aqp.finP0 (N:=N) (by kernel_rfl) h fun _ ⟨a,_,e,_⟩=>⟨(a),e⟩
noncomputable def aeq:aL:=tab (P:=Try.prog) [] [] [] []
def afk:IR:=Sq (Rs [Mv 8 7,Fa 9 3 3,Lo 10 9,Ll 11 10,Bi 12 .lss 8 11,Mv 13 12,Gt 13 (.fad 14 3 3),Gt 13 (.ld 15 1 false false 14),Gt 13 (.mov 16 7),Gt 13 (.ixa 17 .str 15 16),Gt 13 (.lde 18 1 false 17),Gt 13 (.mov 19 1),Gt 13 (.bin 20 .lss 18 19),Pa 21 13 20] (Cn 21 .skip (.exit 0))) (.block 1 (Rg [Mv 22 7,Bc 23 .add 22 1,Mv 7 23]))
def aec:IR:=Sq (Rs [Mv 24 7,Fa 25 3 3,Lo 26 25,Ll 27 26,Bi 28 .lss 24 27,Mv 29 28,Gt 29 (.fad 30 3 3),Gt 29 (.ld 31 1 false false 30),Gt 29 (.mov 32 7),Gt 29 (.ixa 33 .str 31 32),Gt 29 (.lde 34 1 false 33),Gt 29 (.mov 35 1),Gt 29 (.bin 36 .eql 34 35),Pa 37 29 36] (Cn 37 (Rs [Pp (.blu 38 .aval),Fa 39 2 3,Lo 40 39,Pp (.apu 41 .aval (.tk 38) 40),Fa 42 2 3,Sk 1 42 41] (Sq (.gh (.opn (.cell 0 2)) (.ghp (.cls (.cell 0 2)) (Rg [Fa 43 2 3,Lo 44 43,Mv 45 7,Ld 46 5 true 5,Pp (.ixw 47 .aval 44 45),Pp (.stw none 5 47 46)]))) (Sq (.gh (.fz (.cell 0 2)) (Rg [Pp (.ld 48 5 true false 3),Sv 5 6 48])) .ret))) .skip)) (Sq (.reg [Pp (.bsl 49 .str [] false),Fa 50 3 3,Fo [0] [] (.ld 51 1 false false 50),Mv 52 7,Pp (.subl 53 .str 51 none (some 52)),Pp (.app 54 .str (.tk 49) 53),Mv 55 1,Pp (.bsl 56 .str [55] true),Pp (.app 57 .str (.tk 54) 56),Fa 58 3 3,Fo [0] [] (.ld 59 1 false false 58),Mv 60 7,Pp (.subl 61 .str 59 (some 60) none),Pp (.app 62 .str (.tk 57) 61),Fa 63 3 3,Fo [] [0] (.st none 1 63 (.tk 62))] [[],[],[1],[],[1,2,3],rg 0 4,[],[6],rg 0 7,[],[9],[],[9,10,11],rg 0 12,rg 0 13,rg 0 14]) (Sq (.reg [Pp (.blu 64 .aval),Fa 65 2 3,Fo [0] [] (.ld 66 1 false false 65),Mv 67 7,Pp (.subl 68 .aval 66 none (some 67)),Pp (.apu 69 .aval (.tk 64) 68),Ld 70 5 true 5,Pp (.bsl 71 .aval [70] true),Pp (.apu 72 .aval (.tk 69) 71),Fa 73 2 3,Fo [0] [] (.ld 74 1 false false 73),Mv 75 7,Pp (.subl 76 .aval 74 (some 75) none),Pp (.apu 77 .aval (.tk 72) 76),Fa 78 2 3,Fo [] [0] (.st none 1 78 (.tk 77))] [[],[],[1],[],[1,2,3],rg 0 4,[],[6],rg 0 7,[],[9],[],[9,10,11],rg 0 12,rg 0 13,rg 0 14]) (Sq (.gh (.fz (.cell 0 2)) (Rg [Pp (.ld 79 5 true false 3),Sv 5 6 79])) .ret)))
def ase:IR:=Rs [Pp (.box 3 0),Bx 5 2,Pp (.new 6 [vU 0,vS,nl .aval,nl .str,vI 0])] (Rs [Mi 7 0] (Sq (.block 0 (.loop [1,3,5,6,7,1000000] 2 afk)) aec))
def ajE:List RV:=[.cell 6 5 true]
theorem asf:FnC Try.prog aeq [] 0 akV Try.f61 ase ajE:=fnC Try.func61
def aqq(R:IR→(Ex→St→Ro)→St→Ro)(a:St→Ro):Ex→St→Ro:=(bk a [1,3,5,6,7,1000000] 2 (aP 0 (bj (R aec) (fin ajE))))
abbrev wW:Type:=(Bs×Int×Bs×List aO×Bss×Int×Int×Int×Bs×List aO×Bss×Int×Int×Bs×List aO×Bss×Int)
def vl:wW→St:=fun(h,i,j,k,l,m,n,o,p,q,a,b,c,d,e,f,g)=>{env:=(.undef::.str h::.undef::.ptr 0 0::.undef::.ea [.int .u64 i,.str j,.sl .aval (.may false) k,.sl .str (.may false) l,.int .i64 m]::.ptr 1 0::.int .i64 n::(U 72 [])),hp:=[some [.int .u64 o,.str p,.sl .aval (.may false) q,.sl .str (.may false) a,.int .i64 b],some [.int .u64 c,.str d,.sl .aval .own e,.sl .str .own f,.int .i64 g]]}
def abb(N:Nat):(St→Ro)→St→Ro:=fun a s=>run aeq N afk (aqq (run aeq N) a) s
def wX(N:Nat)(n:wW→Ro):wW→Ro:=fun(l,g,h,i,j,k,c,d,e,b,a,f,ag,ah,ai,aj,ak)=>
 let x1:=(↑(List.length a):Int)
 let z0:=fun g0 g1 g2=>(some (.agg [.int .u64 d,.str e,.sl .aval (.may false) g0,.sl .str (.may false) g1,.int .i64 f],g2):Ro)
 cond (decide (c<x1)) (
 chk (ixl c a) (
 let x2:=List.getD a (Int.toNat c) (aG .str)
 cond (Op.bytesLess x2 l) (
 let x3:=(IntKind.wrap .i64 (c+1))
 n (l,g,h,i,j,k,x3,d,e,b,a,f,ag,ah,ai,aj,ak)) (
 let x4:=(↑(List.length a):Int)
 cond (decide (c<x4)) (
 chk (ixl c a) (
 let x5:=List.getD a (Int.toNat c) (aG .str)
 cond (decide (x5=l)) (
 chk (decide ((List.length ([]:List aO)+List.length b)*80≤140737488355328)) (
 let x6:=(([]:List aO)++b)
 chk (decide (0<List.length x6)) (
 chk (decide (0≤c)&&decide (c<↑(List.length x6))) (
 chk (decide ((Int.toNat c)<List.length x6)) (
 let x7:=(List.set x6 (Int.toNat c) ⟨g,h,i,j,k⟩)
 chk (Nat.beq (List.length x6) (List.length x7)) (
 z0 x7 a [some [.int .u64 d,.str e,.sl .aval .own x7,.sl .str (.may false) a,.int .i64 f],some [.int .u64 d,.str e,.sl .aval (.may false) x7,.sl .str (.may false) a,.int .i64 f],none,none])))))) (
 chk (decide (0≤c)&&decide (c≤(↑(List.length a):Int))) (
 let x8:=(List.drop 0 (List.take (Int.toNat c) a))
 chk (decide ((List.length ([]:Bss)+List.length x8)*16≤140737488355328)) (
 let x9:=(([]:Bss)++x8)
 chk (decide ((List.length x9+List.length ([l]:Bss))*16≤140737488355328)) (
 let o:=(x9++([l]:Bss))
 chk (decide (0≤c)&&decide (c≤(↑(List.length a):Int))) (
 let p:=(List.drop (Int.toNat c) (List.take (List.length a) a))
 chk (decide ((List.length o+List.length p)*16≤140737488355328)) (
 chk (decide (0≤c)&&decide (c≤(↑(List.length b):Int))) (
 let am:=(List.drop 0 (List.take (Int.toNat c) b))
 chk (decide ((List.length ([]:List aO)+List.length am)*80≤140737488355328)) (
 let an:=(([]:List aO)++am)
 chk (decide ((List.length an+List.length ([⟨g,h,i,j,k⟩]:List aO))*80≤140737488355328)) (
 let q:=(an++([⟨g,h,i,j,k⟩]:List aO))
 chk (decide (0≤c)&&decide (c≤(↑(List.length b):Int))) (
 let r:=(List.drop (Int.toNat c) (List.take (List.length b) b))
 chk (decide ((List.length q+List.length r)*80≤140737488355328)) (
 z0 (q++r) (o++p) [some [.int .u64 d,.str e,.sl .aval .own (q++r),.sl .str .own (o++p),.int .i64 f],some [.int .u64 d,.str e,.sl .aval (.may false) (q++r),.sl .str (.may false) (o++p),.int .i64 f]]))))))))))))) (
 chk (decide (0≤c)&&decide (c≤(↑(List.length a):Int))) (
 let ao:=(List.drop 0 (List.take (Int.toNat c) a))
 chk (decide ((List.length ([]:Bss)+List.length ao)*16≤140737488355328)) (
 let ap:=(([]:Bss)++ao)
 chk (decide ((List.length ap+List.length ([l]:Bss))*16≤140737488355328)) (
 let s:=(ap++([l]:Bss))
 chk (decide (0≤c)&&decide (c≤(↑(List.length a):Int))) (
 let t:=(List.drop (Int.toNat c) (List.take (List.length a) a))
 chk (decide ((List.length s+List.length t)*16≤140737488355328)) (
 chk (decide (0≤c)&&decide (c≤(↑(List.length b):Int))) (
 let aq:=(List.drop 0 (List.take (Int.toNat c) b))
 chk (decide ((List.length ([]:List aO)+List.length aq)*80≤140737488355328)) (
 let ar:=(([]:List aO)++aq)
 chk (decide ((List.length ar+List.length ([⟨g,h,i,j,k⟩]:List aO))*80≤140737488355328)) (
 let u:=(ar++([⟨g,h,i,j,k⟩]:List aO))
 chk (decide (0≤c)&&decide (c≤(↑(List.length b):Int))) (
 let v:=(List.drop (Int.toNat c) (List.take (List.length b) b))
 chk (decide ((List.length u+List.length v)*80≤140737488355328)) (
 z0 (u++v) (s++t) [some [.int .u64 d,.str e,.sl .aval .own (u++v),.sl .str .own (s++t),.int .i64 f],some [.int .u64 d,.str e,.sl .aval (.may false) (u++v),.sl .str (.may false) (s++t),.int .i64 f]])))))))))))))) (
 let a3:=(↑(List.length a):Int)
 cond (decide (c<a3)) (
 chk (ixl c a) (
 let a4:=List.getD a (Int.toNat c) (aG .str)
 cond (decide (a4=l)) (
 chk (decide ((List.length ([]:List aO)+List.length b)*80≤140737488355328)) (
 let m:=(([]:List aO)++b)
 chk (decide (0<List.length m)) (
 chk (decide (0≤c)&&decide (c<↑(List.length m))) (
 chk (decide ((Int.toNat c)<List.length m)) (
 let w:=(List.set m (Int.toNat c) ⟨g,h,i,j,k⟩)
 chk (Nat.beq (List.length m) (List.length w)) (
 z0 w a [some [.int .u64 d,.str e,.sl .aval .own w,.sl .str (.may false) a,.int .i64 f],some [.int .u64 d,.str e,.sl .aval (.may false) w,.sl .str (.may false) a,.int .i64 f],none,none])))))) (
 chk (decide (0≤c)&&decide (c≤(↑(List.length a):Int))) (
 let au:=(List.drop 0 (List.take (Int.toNat c) a))
 chk (decide ((List.length ([]:Bss)+List.length au)*16≤140737488355328)) (
 let av:=(([]:Bss)++au)
 chk (decide ((List.length av+List.length ([l]:Bss))*16≤140737488355328)) (
 let x:=(av++([l]:Bss))
 chk (decide (0≤c)&&decide (c≤(↑(List.length a):Int))) (
 let y:=(List.drop (Int.toNat c) (List.take (List.length a) a))
 chk (decide ((List.length x+List.length y)*16≤140737488355328)) (
 chk (decide (0≤c)&&decide (c≤(↑(List.length b):Int))) (
 let aw:=(List.drop 0 (List.take (Int.toNat c) b))
 chk (decide ((List.length ([]:List aO)+List.length aw)*80≤140737488355328)) (
 let ax:=(([]:List aO)++aw)
 chk (decide ((List.length ax+List.length ([⟨g,h,i,j,k⟩]:List aO))*80≤140737488355328)) (
 let z:=(ax++([⟨g,h,i,j,k⟩]:List aO))
 chk (decide (0≤c)&&decide (c≤(↑(List.length b):Int))) (
 let aa:=(List.drop (Int.toNat c) (List.take (List.length b) b))
 chk (decide ((List.length z+List.length aa)*80≤140737488355328)) (
 z0 (z++aa) (x++y) [some [.int .u64 d,.str e,.sl .aval .own (z++aa),.sl .str .own (x++y),.int .i64 f],some [.int .u64 d,.str e,.sl .aval (.may false) (z++aa),.sl .str (.may false) (x++y),.int .i64 f]]))))))))))))) (
 chk (decide (0≤c)&&decide (c≤(↑(List.length a):Int))) (
 let ay:=(List.drop 0 (List.take (Int.toNat c) a))
 chk (decide ((List.length ([]:Bss)+List.length ay)*16≤140737488355328)) (
 let az:=(([]:Bss)++ay)
 chk (decide ((List.length az+List.length ([l]:Bss))*16≤140737488355328)) (
 let ab:=(az++([l]:Bss))
 chk (decide (0≤c)&&decide (c≤(↑(List.length a):Int))) (
 let ac:=(List.drop (Int.toNat c) (List.take (List.length a) a))
 chk (decide ((List.length ab+List.length ac)*16≤140737488355328)) (
 chk (decide (0≤c)&&decide (c≤(↑(List.length b):Int))) (
 let a0:=(List.drop 0 (List.take (Int.toNat c) b))
 chk (decide ((List.length ([]:List aO)+List.length a0)*80≤140737488355328)) (
 let a1:=(([]:List aO)++a0)
 chk (decide ((List.length a1+List.length ([⟨g,h,i,j,k⟩]:List aO))*80≤140737488355328)) (
 let ad:=(a1++([⟨g,h,i,j,k⟩]:List aO))
 chk (decide (0≤c)&&decide (c≤(↑(List.length b):Int))) (
 let ae:=(List.drop (Int.toNat c) (List.take (List.length b) b))
 chk (decide ((List.length ad+List.length ae)*80≤140737488355328)) (
 z0 (ad++ae) (ab++ac) [some [.int .u64 d,.str e,.sl .aval .own (ad++ae),.sl .str .own (ab++ac),.int .i64 f],some [.int .u64 d,.str e,.sl .aval (.may false) (ad++ae),.sl .str (.may false) (ab++ac),.int .i64 f]]))))))))))))
theorem aoA(N:Nat):LB (abb N) vl (wX N):=fun _ _=>by kernel_rfl
def uI(N:Nat)(a:Int)(b:Bs)(c:List aO)(d:Bss)(e:Int)(k:Bs)(f:Int)(g:Bs)(h:List aO)(i:Bss)(j:Int)(l:wW→Ro):Ro:=
 l (k,f,g,h,i,j,0,a,b,c,d,e,0,([]:Bs),([]:List aO),([]:Bss),0)
def ajF(N:Nat)(a:Int)(b:Bs)(c:List aO)(d:Bss)(e:Int)(k:Bs)(f:Int)(g:Bs)(h:List aO)(i:Bss)(j:Int):Ro:=uI N a b c d e k f g h i j (fun z=>aS N (wX N) z)
theorem aqr(N:Nat)(a:Int)(c:Bs)(d:List aO)(f:Bss)(g:Int)(n:Bs)(i:Int)(j:Bs)(k:List aO)(l:Bss)(m:Int)(h:Tot (ajF N a c d f g n i j k l m) (fun z=>∃(o:Int)(p:Bs)(s:List aO)(t:Bss)(u:Int)(rest:List aJ),z.1.dimR=.agg [.int .u64 o,.str p,.sl .aval (.may false) s,.sl .str (.may false) t,.int .i64 u]∧z.2=rest∧aeX a c d f g n i j k l m (o,p,s,t,u))):∃r,sL a c d f g n i j k l m r:=asf.finP (N:=N) ((bu _ (by kernel_rfl) rfl (fun C=>uI N a c d f g n i j k l m (fun z=>C 1000000 (vl z))) (fun C=>by kernel_rfl)).trans (Eq.trans (b:=uI N a c d f g n i j k l m (fun z=>aW N (abb N) (vl z))) (by kernel_rfl) (congrArg (uI N a c d f g n i j k l m) (funext fun z=>aV (vl) (abb N) (wX N) (aoA N) N z)))) h fun _ ⟨o,p,s,t,u,_,e,_,q⟩=>⟨(o,p,s,t,u),e,q⟩
noncomputable def ajG:aL:=tab (P:=Try.prog) [] [] [] []
def aig:IR:=Rs [Mi 4 0] (Sq (Rs [Mv 5 0,Nk 6 5,Fa 7 1 6,Lo 8 7,Bc 9 .eql 8 0] (Cn 9 (Rg [Mv 10 0,Mv 11 1,Nk 12 10,Fa 13 1 12,Sv 1 13 11]) .skip)) (Rs [Mi 4 0] .ret))
def aih:List RV:=[.t 4]
theorem aii:FnC Try.prog ajG [] 1 aaz Try.f110 aig aih:=fnC Try.func110
def zC(N:Nat)(b:List aA)(a d:Int):Ro:=
 let c:=fun e=>(some (.int .i64 0,[some [.ul .atype b,.int .i64 e]]):Ro)
 cond (a==0) (
 c d) (
 c a)
def zD(N:Nat)(a:List aA)(b c:Int):Ro:=zC N a b c
theorem agz(N:Nat)(a:List aA)(b i:Int)(h:Tot (zD N a b i) (fun z=>∃(c:Int)(d:List aA)(g:Int)(rest:List aJ),z.1.dimR=.int .i64 c∧z.2=some [.ul .atype d,.int .i64 g]::rest∧lN a b i (c,d,g))):∃r,aK a b i r:=FnC.finO (css:=[[.ul .atype a,.int .i64 b]]) aii (N:=N) (by kernel_rfl) h fun _ ⟨c,d,g,_,e,f,q⟩=>⟨(c,d,g),e,⟨_,f⟩,q⟩
noncomputable def akA:aL:=tab (P:=Try.prog) [] [dk] [] []
def ajH:IR:=Rs [Bx 3 1,Mi 4 0] (Sq (Rs [Mv 5 0,Nk 6 5,Fa 7 0 6,Fa 8 0 7,Lo 9 8,Pp (.lnw 10 9),Bc 11 .geq 10 60] (Cn 11 (Rs [Mv 12 0,Ca 13 110 [12,kI 3],Mv 4 13] .ret) .skip)) (Sq (.reg [Mv 14 0,Mv 15 0,Nk 16 15,Fa 17 0 16,Fa 18 0 17,Fo [] [0] (.ld 19 1 false true 18),Ld 20 10 true 3,Pp (.bsl 21 .atype [20] true),Pp (.apu 22 .atype (.tk 19) 21),Nk 23 14,Fa 24 0 23,Fa 25 0 24,Fo [] [0] (.st none 1 25 (.tk 22))] [[],[],[1],[1,2],[1,2,3],rg 1 4,[],[6],rg 1 7,rg 0 8,rg 0 9,rg 0 10,rg 0 11]) (Rs [Mv 26 0,Nk 27 26,Fa 28 0 27,Fa 29 0 28,Lo 30 29,Pp (.lnw 31 30),Bc 32 .sub 31 1,Mv 4 32] .ret)))
def ajI:List RV:=[.t 4]
theorem ajJ:FnC Try.prog akA [110,2000110] 1 abn Try.f116 ajH ajI:=fnC Try.func116
def aaR(N:Nat)(a:List aA)(b c:Int)(d:Bs)(e:Bss)(f:Int)(g:Bss)(h:Bool)(i:Bs)(j:Int)(k:List aM)(l:List Int):Ro:=
 let o:=(↑(List.length a):Int)
 cond (decide (60≤o)) (
 aF (aK a b 3) (fun m=>
 some (.int .i64 m.1,[some [.ul .atype m.2.1,.int .i64 m.2.2]]))) (
 chk (decide ((List.length a+List.length ([⟨c,d,e,f,g,h,i,j,k,l⟩]:List aA))*160≤140737488355328)) (
 let n:=(a++([⟨c,d,e,f,g,h,i,j,k,l⟩]:List aA))
 let p:=(↑(List.length n):Int)
 let q:=(IntKind.wrap .i64 (p-1))
 some (.int .i64 q,[some [.ul .atype n,.int .i64 b]])))
def aaS(N:Nat)(a:List aA)(b c:Int)(d:Bs)(e:Bss)(f:Int)(g:Bss)(h:Bool)(i:Bs)(j:Int)(k:List aM)(l:List Int):Ro:=aaR N a b c d e f g h i j k l
theorem aij(N:Nat)(a:List aA)(b c:Int)(d:Bs)(g:Bss)(i:Int)(j:Bss)(k:Bool)(l:Bs)(m:Int)(n:List aM)(o:List Int)(h:Tot (aaS N a b c d g i j k l m n o) (fun z=>∃(p:Int)(s:List aA)(t:Int)(rest:List aJ),z.1.dimR=.int .i64 p∧z.2=some [.ul .atype s,.int .i64 t]::rest∧mQ a b c d g i j k l m n o (p,s,t))):∃r,fj a b c d g i j k l m n o r:=FnC.finO (css:=[[.ul .atype a,.int .i64 b]]) ajJ (N:=N) (by kernel_rfl) h fun _ ⟨p,s,t,_,e,f,q⟩=>⟨(p,s,t),e,⟨_,f⟩,q⟩
noncomputable def uJ:aL:=tab (P:=Try.prog) [] [] [] []
def xR:IR:=Sq (Rs [Mv 8 6,Mv 9 0,Nk 10 9,Fa 11 0 10,Fa 12 0 11,Lo 13 12,Pp (.lnw 14 13),Bi 15 .lss 8 14] (Cn 15 .skip (.exit 0))) (Sq (.block 1 (Sq (.gh (.opn (.cell 0 0)) (.ghp (.cls (.cell 0 0)) (Rg [Mv 18 0,Nk 19 18,Fa 20 0 19,Fa 21 0 20,Lo 22 21,Mv 23 6,Pp (.ixw 24 .atype 22 23),Pp (.ldw 25 10 true 24),Pp (.alr 7 10),Fz 7 10 25]))) (Rs [Fa 26 1 7,Lq 27 26,Mv 28 1,Bi 29 .eql 27 28,Mv 30 29,Gt 30 (.fad 31 0 7),Gt 30 (.lde 32 1 false 31),Gt 30 (.bin 33 .geq 32 (kI 9)),Pa 34 30 33,Mv 35 34,Gt 35 (.fad 36 0 7),Gt 35 (.lde 37 1 false 36),Gt 35 (.bin 38 .leq 37 (kI 11)),Pa 39 35 38] (Cn 39 (Rs [Mv 40 6,Mv 4 40,Mb 5 true] .ret) .skip)))) (Rg [Mv 16 6,Bc 17 .add 16 1,Mv 6 17]))
def xS:IR:=Rs [Mi 4 0,Mb 5 false] .ret
def aik:IR:=Rs [Mi 4 0,Mb 5 false] (Sq (Rs [Mi 6 0] (.block 0 (.loop [0,1,6,1000000] 1 xR))) xS)
def zE:List RV:=[.t 4,.t 5]
theorem ail:FnC Try.prog uJ [] 1 aaA Try.f138 aik zE:=fnC Try.func138
def agA(R:IR→(Ex→St→Ro)→St→Ro)(a:St→Ro):Ex→St→Ro:=(bk a [0,1,6,1000000] 1 (aP 0 (bj (R xS) (fin zE))))
abbrev mY:Type:=(Bs×Int×List aA×Int)
def lP:mY→St:=fun(a,b,c,d)=>{env:=(.ptr 0 0::.str a::(U 4 (.int .i64 b::(U 34 [])))),hp:=[some [.ul .atype c,.int .i64 d]]}
def rx(N:Nat):(St→Ro)→St→Ro:=fun a s=>run uJ N xR (agA (run uJ N) a) s
def mZ(N:Nat)(b:mY→Ro):mY→Ro:=fun(e,d,a,c)=>
 let g:=(↑(List.length a):Int)
 cond (decide (d<g)) (
 chk (decide (0<List.length a)) (
 chk (decide (0≤d)&&decide (d<↑(List.length a))) (
 chk (decide ((Int.toNat d)<List.length a)) (
 let f:=(List.getD a (Int.toNat d) (aG .atype))
 chk (Nat.beq (List.length a) (List.length a)) (
 cond (decide (f.name=e)) (
 cond (decide (9≤f.kind)) (
 cond (decide (f.kind≤11)) (
 some (.tup [.int .i64 d,.bool true],[some [.ul .atype a,.int .i64 c],none,none])) (
 let h:=(IntKind.wrap .i64 (d+1))
 b (e,h,a,c))) (
 let i:=(IntKind.wrap .i64 (d+1))
 b (e,i,a,c))) (
 let j:=(IntKind.wrap .i64 (d+1))
 b (e,j,a,c))))))) (
 some (.tup [.int .i64 0,.bool false],[some [.ul .atype a,.int .i64 c]]))
theorem afl(N:Nat):LB (rx N) lP (mZ N):=fun _ _=>by kernel_rfl
def j9(N:Nat)(a:List aA)(b:Int)(c:Bs)(d:mY→Ro):Ro:=
 d (c,0,a,b)
def zF(N:Nat)(a:List aA)(b:Int)(c:Bs):Ro:=j9 N a b c (fun z=>aS N (mZ N) z)
theorem agB(N:Nat)(a:List aA)(c:Int)(d:Bs)(h:Tot (zF N a c d) (fun z=>∃(g:Int)(i:Bool)(j:List aA)(k:Int)(rest:List aJ),z.1.dimR=.tup [.int .i64 g,.bool i]∧z.2=some [.ul .atype j,.int .i64 k]::rest∧xK a c d (g,i,j,k))):∃r,dl a c d r:=FnC.finO (css:=[[.ul .atype a,.int .i64 c]]) ail (N:=N) ((bu _ (by kernel_rfl) rfl (fun C=>j9 N a c d (fun z=>C 1000000 (lP z))) (fun C=>by kernel_rfl)).trans (Eq.trans (b:=j9 N a c d (fun z=>aW N (rx N) (lP z))) (by kernel_rfl) (congrArg (j9 N a c d) (funext fun z=>aV (lP) (rx N) (mZ N) (afl N) N z)))) h fun _ ⟨g,i,j,k,_,e,f,q⟩=>⟨(g,i,j,k),e,⟨_,f⟩,q⟩
noncomputable def aim:aL:=tab (P:=Try.prog) [] [zA] [] []
def agC:IR:=Rs [Pp (.new 2 [vI 0,vI 0,vS,nl .jnode,nl .str])] (Rs [Pp (.bsl 4 .str [kS [84,111,112]] false),Pp (.new 3 [nl .str]),Sk 1 3 4] (Rs [Mv 5 0,Ca 6 73 [5,kS [84,111,112],kI 0,3],Sv 5 2 6] .ret))
def agD:List RV:=[.cell 2 5 true]
theorem agE:FnC Try.prog aim [73,2000073] 1 zu Try.f40 agC agD:=fnC Try.func40
def yO(N:Nat)(b:Bs)(c:Int):Ro:=
 aF (gp b c ([([84,111,112]:Bs)]:Bss) ([84,111,112]:Bs) 0) (fun a=>
 some (.agg [.int .i64 a.1,.int .i64 a.2.1,.str a.2.2.1,.sl .jnode (.may false) a.2.2.2.1,.sl .str (.may false) a.2.2.2.2.1],[some [.sl .u8 (.may false) a.2.2.2.2.2.1,.int .i64 a.2.2.2.2.2.2.1],some [.int .i64 a.1,.int .i64 a.2.1,.str a.2.2.1,.sl .jnode (.may false) a.2.2.2.1,.sl .str (.may false) a.2.2.2.2.1],some [.sl .str .own a.2.2.2.2.2.2.2]]))
def yP(N:Nat)(a:Bs)(b:Int):Ro:=yO N a b
theorem afm(N:Nat)(a:Bs)(b:Int)(h:Tot (yP N a b) (fun z=>∃(c:Int)(d:Int)(g:Bs)(i:List aB)(j:Bss)(k:Bs)(l:Int)(rest:List aJ),z.1.dimR=.agg [.int .i64 c,.int .i64 d,.str g,.sl .jnode (.may false) i,.sl .str (.may false) j]∧z.2=some [.sl .u8 (.may false) k,.int .i64 l]::rest∧wd a b (c,d,g,i,j,k,l))):∃r,jT a b r:=FnC.finO (css:=[[.sl .u8 (.may false) a,.int .i64 b]]) agE (N:=N) (by kernel_rfl) h fun _ ⟨c,d,g,i,j,k,l,_,e,f,q⟩=>⟨(c,d,g,i,j,k,l),e,⟨_,f⟩,q⟩
end Go.Proofs.Ytdpajabhmmmjoaa
end
noncomputable section
namespace Go.Proofs.Ytdpajabhmmmjoaa
open Go.AM
set_option autoImplicit false
set_option linter.unusedVariables false
set_option linter.unusedSimpArgs false
set_option maxRecDepth 100000
theorem asg(l:List UInt8)(n m:Int)(h:kp l n)(hm:0<m):∃r,bc l n m r:=by
 obtain⟨h1,h2,h3⟩:=h
 apply aju 1
 unfold abB abA
 dsimp only
 repeat' (first|(with_reducible refine aC ?_ ?_<;>(intro hb;(try simp only[bnl] at hb);(try revert hb;intro _)))|with_reducible refine aH ?_ ?_|with_reducible refine aE ?_|fail)
 ·exact⟨_,_,_,_,rfl,rfl,by simp,by simpa using hm,rfl,h1,h2,h3⟩
 ·simp(disch:=omega) only[jx,bnl]
 ·simp only[bnl];omega
 ·refine⟨_,_,_,_,rfl,rfl,?_,?_,rfl,?_,?_,h3⟩
  ·simp only
   have:=UInt8.toNat_lt (l.getD (IntKind.i64.wrap (IntKind.i64.wrap (n+1)-1)).toNat (aG .u8))
   rw[aI _ (by omega)]
   exact Int.tmod_nonneg _ (by omega)
  ·simp only
   exact Int.tmod_lt_of_pos _ hm
  ·simp only;rw[aI _ (by omega)];omega
  ·simp only;rw[aI _ (by omega)];omega
theorem jj(l:List UInt8)(n m:Int)(h:kp l n)(hm:0<m)(hm2:m≤1000):∃r,bc l n m r:=asg l n m h hm
theorem awk(l:List UInt8)(n:Int):∃r,mz l n r:=by
 apply aif 1
 unfold aaQ aaP
 dsimp only
 repeat' (first|(with_reducible refine aC ?_ ?_<;>(intro hb;(try simp only[bnl] at hb);(try revert hb;intro _)))|with_reducible refine aH ?_ ?_|with_reducible refine aE ?_|fail)
 exact⟨_,_,_,_,rfl,rfl,rfl,rfl⟩
theorem awl(l:List UInt8):∃r,wh l r:=by
 apply aqh 1
 unfold acT ajA
 repeat' (first|(with_reducible refine aC ?_ ?_<;>(intro hb;(try simp only[bnl] at hb);(try revert hb;intro _)))|with_reducible refine aH ?_ ?_|with_reducible refine aE ?_|fail)
 exact⟨_,_,[],rfl,rfl⟩
theorem cr(s:List UInt8):∃r,bh s r:=by
 apply aqi 1
 unfold ajC ajB
 repeat' (first|(with_reducible refine aC ?_ ?_<;>(intro hb;(try simp only[bnl] at hb);(try revert hb;intro _)))|with_reducible refine aH ?_ ?_|with_reducible refine aE ?_|fail)
 exact⟨_,_,_,_,_,_,rfl,rfl,rfl⟩
theorem uK(f0:Bool)(names:List (List UInt8))(f1:Bool)(l:List aB):∃r,d8 f0 names f1 l r:=by
 apply aow 1
 unfold aba ahE
 repeat' (first|(with_reducible refine aC ?_ ?_<;>(intro hb;(try simp only[bnl] at hb);(try revert hb;intro _)))|with_reducible refine aH ?_ ?_|with_reducible refine aE ?_|fail)
 exact⟨_,_,_,_,_,_,_,_,rfl,rfl,rfl⟩
theorem aoB:∀(names:List (List UInt8))(l:List aB)(name:List UInt8)(i:Nat),(∀j,j<i→names.getD j []≠name)→nJ names l name=nJ (names.drop i) (l.drop i) name
 |names,l,name,0,_=>rfl
 | [],l,name,i+1,h=>by simp[nJ]
 |x::ns,[],name,i+1,h=>by
  have:∀ns:List (List UInt8),nJ ns [] name=none:=fun ns=>by cases ns<;>rfl
  simp[nJ,this]
 |x::ns,c::l,name,i+1,h=>by
  have h0:=h 0 (by omega)
  simp only[List.getD_cons_zero] at h0
  simp only[nJ,if_neg h0,List.drop_succ_cons]
  exact aoB ns l name i fun j hj=>by simpa using h (j+1) (by omega)
theorem ash{names:List (List UInt8)}{l:List aB}{name:List UInt8}{i:Nat}(h1:i<names.length)(h2:i<l.length)(h:∀j,j<i→names.getD j []≠name)(he:names.getD i []=name):
  nJ names l name=some (l.getD i (aG .jnode)):=by
 rw[aoB names l name i h,List.drop_eq_getElem_cons h1,List.drop_eq_getElem_cons h2]
 simp only[nJ]
 rw[List.getD_eq_getElem?_getD,List.getElem?_eq_getElem h1,Option.getD_some] at he
 rw[if_pos he,List.getD_eq_getElem?_getD,List.getElem?_eq_getElem h2,Option.getD_some]
theorem ajK{names:List (List UInt8)}{l:List aB}{name:List UInt8}{i:Nat}(h:∀j,j<i→names.getD j []≠name)(hi:names.length≤i∨l.length≤i):nJ names l name=none:=by
 rw[aoB names l name i h]
 rcases hi with hi|hi
 ·rw[List.drop_eq_nil_of_le hi];rfl
 ·rw[List.drop_of_length_le (l:=l) hi]
  cases names.drop i<;>rfl
theorem aoC(k n:Int)(s:List UInt8)(l:List aB)(names:List (List UInt8))(name:List UInt8)(h:names.length≤l.length)(hl:names.length≤1000):∃r,rf k n s l names name r:=by
 apply asb 2000
 unfold ak6 ws
 refine aT (fun x=>x.1=name∧x.2.2.2.2.1=l∧x.2.2.2.2.2.1=names∧0≤x.2.2.2.2.2.2.1∧x.2.2.2.2.2.2.1≤(names.length:Int)∧∀j:Nat,(j:Int)<x.2.2.2.2.2.2.1→names.getD j []≠name)
  (fun x=>((names.length:Int)-x.2.2.2.2.2.2.1).toNat) ?_ _ _ ⟨rfl,rfl,rfl,by simp,by simp,fun j hj=>by simp at hj;omega⟩ (by simp;omega)
 rintro again ⟨a0,a1,a2,a3,a4,a5,i,b0,b1,b2,b3,b4⟩ ⟨rfl,rfl,rfl,i1,i2,i3⟩ ih
 simp only at i1 i2 i3 ih h hl ⊢
 unfold yN
 dsimp only
 repeat' (first|(with_reducible refine aC ?_ ?_<;>(intro hb;(try simp only[bnl] at hb);(try revert hb;intro _)))|with_reducible refine aH ?_ ?_|with_reducible refine aE ?_|fail)
 ·simp only[bnl];omega
 ·simp only[bnl];omega
 ·rename_i hb hb2
  have e:=ash (names:=a5) (l:=a4) (name:=a0) (i:=i.toNat) (by omega) (by omega) (fun j hj=>i3 j (by omega)) hb2
  refine⟨_,_,_,_,_,_,_,rfl,rfl,?_⟩
  simp only[wR]
  rw[e];rfl
 ·rename_i hb hb2
  have ew:=aI (i+1) (by omega)
  refine ih _ ⟨rfl,rfl,rfl,?_,?_,?_⟩ ?_
  ·simp only[ew];omega
  ·simp only[ew];omega
  ·simp only[ew]
   intro j hj
   by_cases e:(j:Int)=i
   ·have:i.toNat=j:=by omega
    rw[this] at hb2
    exact hb2
   ·exact i3 j (by omega)
  ·simp only[ew];omega
 ·rename_i hb
  refine⟨_,_,_,_,_,_,_,rfl,rfl,?_⟩
  simp only[wR]
  rw[ajK (i:=i.toNat) (fun j hj=>i3 j (by omega)) (.inl (by omega))]
  rfl
theorem cR(ts:List aA)(e c:Int):∃r,aK ts e c r:=by
 apply agz 1
 unfold zD zC
 dsimp only
 repeat' (first|(with_reducible refine aC ?_ ?_<;>(intro hb;(try simp only[bnl] at hb);(try revert hb;intro _)))|with_reducible refine aH ?_ ?_|with_reducible refine aE ?_|fail)
 ·rename_i hb;exact⟨_,_,_,_,rfl,rfl,by simp[lN,hb]⟩
 ·rename_i hb;exact⟨_,_,_,_,rfl,rfl,by simp[lN,hb]⟩
end Go.Proofs.Ytdpajabhmmmjoaa
end
noncomputable section
namespace Go.Proofs.Ytdpajabhmmmjoaa
open Go.AM
set_option autoImplicit false
set_option linter.unusedSimpArgs false
theorem agF:∀(a b:List UInt8),(Op.bytesLess a b||decide (a=b))= !Op.bytesLess b a
 | [],[]=>by simp[Op.bytesLess]
 | [],b::y=>by simp[Op.bytesLess]
 |a::x,[]=>by simp[Op.bytesLess]
 |a::x,b::y=>by
  have ih:=agF x y
  simp only[Op.bytesLess]
  by_cases h1:a<b
  ·have h2:¬b<a:=fun h=>absurd (UInt8.lt_trans h1 h) (UInt8.lt_irrefl a)
   have h3:¬b=a:=fun h=>by subst h;exact UInt8.lt_irrefl _ h1
   simp[h1,h2,h3]
  ·by_cases h2:b<a
   ·have h3:¬a=b:=fun h=>by subst h;exact UInt8.lt_irrefl _ h2
    simp[h1,h2,h3]
   ·have h3:a=b:=by
     have:=UInt8.le_antisymm (UInt8.not_lt.1 h2) (UInt8.not_lt.1 h1)
     exact this
    subst h3
    simp only[h1,decide_false,Bool.false_or,beq_self_eq_true,Bool.true_and,List.cons.injEq,true_and]
    exact ih
end Go.Proofs.Ytdpajabhmmmjoaa
end
noncomputable section
namespace Go.Proofs.Ytdpajabhmmmjoaa
open Go.AM
set_option autoImplicit false
set_option linter.unusedVariables false
theorem oJ.mono{m m':Nat}{t:aA}(h:oJ m t)(hm:m≤m'):oJ m' t:=
 ⟨⟨h.items.1,by have:=h.items.2;omega⟩,fun f hf=>⟨(h.fields f hf).1,by have:=(h.fields f hf).2.1;omega,(h.fields f hf).2.2⟩,h.nf,
   fun b hb=>⟨(h.branches b hb).1,by have:=(h.branches b hb).2;omega⟩,h.nb,h.ns,h.size,h.done,h.kind,h.enum,h.only,h.na,h.fal⟩
theorem bB.refl{ts:List aA}{e:Int}(h:ts.length≤60):bB ts e ts e:=
 ⟨Nat.le_refl _,h,fun h=>h,fun _ _ _=>rfl,fun _ i t hi ht=>by
  have:=(List.getElem?_eq_some_iff.1 ht).1;omega⟩
theorem bB.bad{ts:List aA}{e e':Int}(h:ts.length≤60)(he:e'≠0):bB ts e ts e':=
 ⟨Nat.le_refl _,h,fun h=>absurd h he,fun h=>absurd h he,fun h=>absurd h he⟩
theorem bB.fail{ts ts':List aA}{e e':Int}(h:bB ts e ts' e')(c:Int)(hc:c≠0):bB ts e ts' (if e'=0 then c else e'):=by
 have:(if e'=0 then c else e')≠0:=by split<;>assumption
 exact⟨h.len,h.cap,fun h=>absurd h this,fun h=>absurd h this,fun h=>absurd h this⟩
theorem bB.trans{ts ts1 ts2:List aA}{e e1 e2:Int}(h:bB ts e ts1 e1)(h':bB ts1 e1 ts2 e2):bB ts e ts2 e2 where
 len:=Nat.le_trans h.len h'.len
 cap:=h'.cap
 err:=fun he=>h.err (h'.err he)
 old:=fun he i hi=>by
  have:=h.len
  rw[h'.old he i (by omega),h.old (h'.err he) i hi]
 new:=fun he i t hi ht=>by
  rcases Nat.lt_or_ge i ts1.length with hl|hl
  ·rw[h'.old he i hl] at ht
   exact(h.new (h'.err he) i t hi ht).mono h'.len
  ·exact h'.new he i t hl ht
theorem bB.weak{ts ts':List aA}{e e1 e':Int}(h:bB ts e1 ts' e')(he:e1=0→e=0):bB ts e ts' e':=
 ⟨h.len,h.cap,fun h'=>he (h.err h'),h.old,h.new⟩
theorem bB.push{ts:List aA}{e:Int}(h:ts.length<60)(t:aA)(ht:oJ (ts.length+1) t):bB ts e (ts++[t]) e where
 len:=by simp
 cap:=by simp;omega
 err:=fun h=>h
 old:=fun _ i hi=>by rw[List.getElem?_append_left hi]
 new:=fun _ i t' hi ht'=>by
  rw[List.getElem?_append_right hi] at ht'
  have hl:=(List.getElem?_eq_some_iff.1 ht').1
  simp only[List.length_singleton] at hl
  have:i-ts.length=0:=by omega
  rw[this] at ht'
  simp only[List.getElem?_cons_zero,Option.some.injEq] at ht'
  subst ht'
  simpa using ht
theorem bB.close{ts ts2:List aA}{e e2:Int}{t0 t:aA}(h:bB (ts++[t0]) e ts2 e2)(ht:oJ ts2.length t):bB ts e (ts2.set ts.length t) e2 where
 len:=by have:=h.len;simp at this ⊢;omega
 cap:=by simpa using h.cap
 err:=h.err
 old:=fun he i hi=>by
  rw[List.getElem?_set_ne (by omega),h.old he i (by simp;omega),List.getElem?_append_left hi]
 new:=fun he i t' hi ht'=>by
  have hlen:=h.len
  simp only[List.length_append,List.length_singleton] at hlen
  simp only[List.length_set] at ht' ⊢
  rcases Nat.lt_or_eq_of_le hi with hl|hl
  ·rw[List.getElem?_set_ne (by omega)] at ht'
   exact h.new he i t' (by simp;omega) ht'
  ·subst hl
   rw[List.getElem?_set_self (by omega)] at ht'
   cases ht'
   exact ht
theorem bB.at_open{ts ts2:List aA}{e e2:Int}{t0:aA}(h:bB (ts++[t0]) e ts2 e2)(he:e2=0):ts2[ts.length]? =some t0:=by
 rw[h.old he ts.length (by simp),List.getElem?_append_right (Nat.le_refl _)]
 simp
theorem bB.sch{ts:List aA}(h:bB [] 0 ts 0)(h0:0<ts.length):dS ts:=by
 refine⟨⟨h0,h.cap⟩,fun t ht=>?_⟩
 obtain⟨i,hi,rfl⟩:=List.mem_iff_getElem.1 ht
 exact h.new rfl i _ (by simp) (List.getElem?_eq_getElem hi)
theorem dd.kids{b:Nat}{k n:Int}{s:List UInt8}{l:List aB}{names:List (List UInt8)}(h:dd b (.mk k n s l names)):
  s.length≤100∧l.length≤b∧names.length≤l.length∧(∀x∈names,x.length≤100)∧(k=6→names.length=l.length)∧∀c∈l,dd b c:=by
 cases h with
 |mk _ _ _ _ _ h1 h2 h3 h4 h5 h6=>exact⟨h1,h2,h3,h4,h5,h6⟩
theorem dd.eta{b:Nat}{c:aB}:dd b (.mk c.kind c.n c.s c.l c.names)↔dd b c:=by
 cases c;exact Iff.rfl
theorem dd.zero{b:Nat}:dd b (.mk 0 0 [] [] []):=.mk _ _ _ _ _ (by simp) (by simp) (by simp) (by simp) (by simp) (by simp)
theorem dd.getD{b:Nat}{l:List aB}(h:∀c∈l,dd b c)(i:Nat):dd b (l.getD i (aG .jnode)):=by
 rw[List.getD_eq_getElem?_getD]
 cases hi:l[i]? with
 |none=>exact dd.zero
 |some c=>exact h c (List.mem_of_getElem? hi)
theorem dd.up{b b':Nat}(hb:b≤b'):∀{c:aB},dd b c→dd b' c:=by
 intro c h
 induction h with
 |mk k n s l names h1 h2 h3 h4 h5 _ ih=>exact .mk k n s l names h1 (Nat.le_trans h2 hb) h3 h4 h5 ih
theorem bl.kids{k n:Int}{s:List UInt8}{l:List aB}{names:List (List UInt8)}(h:bl (.mk k n s l names)):
  s.length≤100∧l.length≤8∧names.length≤l.length∧(∀x∈names,x.length≤100)∧(k=6→names.length=l.length)∧∀c∈l,bl c:=dd.kids h
theorem bl.eta{c:aB}:bl (.mk c.kind c.n c.s c.l c.names)↔bl c:=dd.eta
theorem bl.zero:bl (.mk 0 0 [] [] []):=dd.zero
theorem bl.getD{l:List aB}(h:∀c∈l,bl c)(i:Nat):bl (l.getD i (aG .jnode)):=dd.getD h i
theorem asi:∀{names:List (List UInt8)}{l:List aB}{name:List UInt8}{c:aB},nJ names l name=some c→c∈l
 | [],l,_,_,h=>by simp[nJ] at h
 |x::ns,[],_,_,h=>by simp[nJ] at h
 |x::ns,d::l,name,c,h=>by
  simp only[nJ] at h
  split at h
  ·simp at h;simp[h]
  ·exact List.mem_cons_of_mem _ (asi h)
theorem awV{b:Nat}{o:Option aB}{l:List aB}(h:∀c∈l,dd b c)(ho:∀c,o=some c→c∈l):dd b (.mk (yu o).1 (yu o).2.1 (yu o).2.2.1 (yu o).2.2.2.1 (yu o).2.2.2.2.1):=by
 cases o with
 |none=>exact dd.zero
 |some c=>exact dd.eta.2 (h c (ho c rfl))
theorem vm{b:Nat}{k:Int}{names:List (List UInt8)}{l:List aB}{name:List UInt8}(h:∀c∈l,dd b c):
  dd b (.mk (yu (if k=6 then nJ names l name else none)).1 (yu (if k=6 then nJ names l name else none)).2.1 (yu (if k=6 then nJ names l name else none)).2.2.1 (yu (if k=6 then nJ names l name else none)).2.2.2.1 (yu (if k=6 then nJ names l name else none)).2.2.2.2.1):=
 awV h fun c hc=>by
  split at hc
  ·exact asi hc
  ·cases hc
end Go.Proofs.Ytdpajabhmmmjoaa
end
noncomputable section
namespace Go.Proofs.Ytdpajabhmmmjoaa
open Go.AM
set_option autoImplicit false
set_option linter.unusedVariables false
set_option linter.unusedSimpArgs false
set_option maxRecDepth 100000
theorem ajL(ts:List aA)(t:Int):∃r,mR ts t r:=by
 apply asc 1
 unfold ak8 ak7
 dsimp only
 repeat' (first|(with_reducible refine aC ?_ ?_<;>(intro hb;(try simp only[bnl] at hb);(try revert hb;intro _)))|with_reducible refine aH ?_ ?_|with_reducible refine aE ?_|fail)
 all_goals rename_i h
 ·exact⟨_,_,rfl,rfl,by simp[wS,isT,h]⟩
 ·exact⟨_,_,rfl,rfl,by simp only[wS,isT];rw[decide_eq_false (by omega)];rfl⟩
theorem alN(s:List UInt8):∃r,nK s r:=by
 apply aoy 100
 unfold ahI sC
 refine aT (fun x=>match x with|(a,f,w,i)=>a=s∧w=amC∧0≤i∧i≤14∧∀j:Nat,(j:Int)<i→amC.getD j []≠s) (fun x=>(14-x.2.2.2).toNat) ?_ _ _ ⟨rfl,rfl,by simp,by simp,fun j hj=>by omega⟩ (by simp)
 rintro again ⟨a,f,w,i⟩ ⟨rfl,rfl,i1,i2,i3⟩ ih
 dsimp only at ih
 have e:=aI (i+1) (by omega)
 unfold vk
 dsimp only
 have hw:amC.length=14:=rfl
 rw[hw]
 repeat' (first|(with_reducible refine aC ?_ ?_<;>(intro hb;(try simp only[bnl] at hb);(try revert hb;intro _)))|with_reducible refine aH ?_ ?_|with_reducible refine aE ?_|fail)
 ·simp only[bnl];omega
 ·rename_i h1 h2
  refine⟨_,_,rfl,rfl,?_,?_,?_,?_,?_⟩
  ·simp only[e];omega
  ·simp only[e];omega
  ·simp only[e]
   intro h3
   have:i=13:=by omega
   subst this
   rw[←h2];rfl
  ·simp only[e]
   intro h3;omega
  ·simp only[e]
   intro h3
   have:i=9:=by omega
   subst this
   rw[←h2];rfl
 ·rename_i h1 h2
  refine ih (a,f,amC,_) ?_ ?_
  ·simp only[e]
   refine⟨trivial,trivial,by omega,by omega,fun j hj=>?_⟩
   by_cases hji:(j:Int)=i
   ·have:i.toNat=j:=by omega
    rw[this] at h2
    exact h2
   ·exact i3 j (by omega)
  ·simp only[e];omega
 ·rename_i h1
  exact⟨_,_,rfl,rfl,by simp,by simp,by simp,fun _ j hj=>i3 j (by omega),by simp⟩
theorem awm(k:Int):∃r,ur k r:=by
 apply aoz 1
 unfold ahK ahJ
 dsimp only
 repeat' (first|(with_reducible refine aC ?_ ?_<;>(intro hb;(try simp only[bnl] at hb);(try revert hb;intro _)))|with_reducible refine aH ?_ ?_|with_reducible refine aE ?_|fail)
 ·exact⟨_,_,rfl,rfl⟩
 ·exact⟨_,_,rfl,rfl⟩
 ·simp only[bnl,List.length_cons,List.length_nil];omega
 ·exact⟨_,_,rfl,rfl⟩
theorem akf(ts:List aA)(e a0:Int)(a1:List UInt8)(a2:List (List UInt8))(a3:Int)(a4:List (List UInt8))(a5:Bool)(a6:List UInt8)(a7:Int)(a8:List aM)(a9:List Int)(h:ts.length≤60):
  ∃r,fj ts e a0 a1 a2 a3 a4 a5 a6 a7 a8 a9 r:=by
 apply aij 1
 unfold aaS aaR
 dsimp only
 repeat' (first|(with_reducible refine aC ?_ ?_<;>(intro hb;(try simp only[bnl] at hb);(try revert hb;intro _)))|with_reducible refine aH ?_ ?_|with_reducible refine aE ?_|(refine aD (cR _ _ _) ?_;rintro _ ⟨-,rfl⟩;try dsimp only)|fail)
 ·rename_i hb
  refine⟨_,_,_,_,rfl,rfl,?_⟩
  simp only[mQ]
  simp only[if_pos (show 60≤ts.length by omega)]
 ·first|(simp only[bnl,lnl];done)|(simp only[bnl,lnl];omega)
 ·rename_i hb
  refine⟨_,_,_,_,rfl,rfl,?_⟩
  simp only[mQ,List.length_append,List.length_cons,List.length_nil]
  rw[if_neg (by omega),aI _ (by omega)]
  simp
theorem asj(ts:List aA)(e:Int)(s:List UInt8)(h:ts.length≤60):∃r,dl ts e s r:=by
 apply agB 100
 unfold zF j9
 refine aT (fun x=>x.1=s∧x.2.2.1=ts∧x.2.2.2=e∧0≤x.2.1∧x.2.1≤(ts.length:Int)) (fun x=>((ts.length:Int)-x.2.1).toNat) ?_ _ _ ⟨rfl,rfl,rfl,by simp,by simp⟩ (by simp;omega)
 rintro again ⟨s,i,ts,e⟩ ⟨rfl,rfl,rfl,i1,i2⟩ ih
 simp only at i1 i2 ih h ⊢
 unfold mZ
 dsimp only
 have next:i<ts.length→Tot (again (s,IntKind.i64.wrap (i+1),ts,e)) _:=fun hl=>ih (s,IntKind.i64.wrap (i+1),ts,e) (by simp only[aI (i+1) (by omega)];exact⟨trivial,trivial,trivial,by omega,by omega⟩) (by simp only[aI (i+1) (by omega)];omega)
 repeat' (first|(with_reducible refine aC ?_ ?_<;>(intro hb;(try simp only[bnl] at hb);(try revert hb;intro _)))|with_reducible refine aH ?_ ?_|with_reducible refine aE ?_|(exact next (by omega))|fail)
 all_goals first|(first|(simp only[bnl,lnl];done)|(simp only[bnl,lnl];omega))|(refine⟨_,_,_,_,_,rfl,rfl,rfl,?_⟩;simp;try omega)
theorem avq{a b:List UInt8}(h1:Op.bytesLess a b=false)(h2:¬a=b):Op.bytesLess b a=true:=by
 have h:=agF a b
 rw[h1,decide_eq_false h2] at h
 simpa using h.symm
theorem ask{a b:List UInt8}(h:Op.bytesLess a b=true):Op.bytesLess b a=false:=by
 have h2:=agF a b
 rw[h,Bool.true_or] at h2
 simpa using h2.symm
theorem apt:∀(i:Nat)(ks:List (List UInt8))(p key:List UInt8),u9 p ks=true→Op.bytesLess p key=true→aeU key=true→(∀j,j<i→j<ks.length→Op.bytesLess (ks.getD j []) key=true)→
  (∀_:i<ks.length,Op.bytesLess key (ks.getD i [])=true)→u9 p (ks.take i++(key::ks.drop i))=true
 |0,[],p,key,h,hp,hv,_,_=>by simp[u9,hv,hp]
 |0,k::ks,p,key,h,hp,hv,_,hl=>by
  have:=hl (by simp)
  simp only[u9,Bool.and_eq_true] at h
  simp only[List.getD_cons_zero] at this
  simp[u9,hv,hp,h.1,h.2.2,this]
 |i+1,[],p,key,h,hp,hv,_,_=>by simp[u9,hv,hp]
 |i+1,k::ks,p,key,h,hp,hv,hb,hl=>by
  simp only[u9,Bool.and_eq_true] at h
  have ih:=apt i ks k key h.2.2 (by have:=hb 0 (by omega) (by simp);simpa using this) hv
   (fun j h1 h2=>by have:=hb (j+1) (by omega) (by simp;omega);simpa using this) (fun h1=>by have:=hl (by simp;omega);simpa using this)
  simp[u9,h.1,h.2.1,ih]
theorem avr(i:Nat)(ks:List (List UInt8))(key:List UInt8)(h:yr ks=true)(hv:aeU key=true)(hb:∀j,j<i→j<ks.length→Op.bytesLess (ks.getD j []) key=true)
  (hl:∀_:i<ks.length,Op.bytesLess key (ks.getD i [])=true):yr (ks.take i++(key::ks.drop i))=true:=by
 match i,ks,h,hb,hl with
 |0,[],h,hb,hl=>simp[yr,u9,hv]
 |0,k::ks,h,hb,hl=>
  have:=hl (by simp)
  simp only[yr,Bool.and_eq_true] at h
  simp only[List.getD_cons_zero] at this
  simp[yr,u9,hv,h.1,h.2,this]
 |i+1,[],h,hb,hl=>simp[yr,u9,hv]
 |i+1,k::ks,h,hb,hl=>
  simp only[yr,Bool.and_eq_true] at h
  have:=apt i ks k key h.2 (by have:=hb 0 (by omega) (by simp);simpa using this) hv
   (fun j h1 h2=>by have:=hb (j+1) (by omega) (by simp;omega);simpa using this) (fun h1=>by have:=hl (by simp;omega);simpa using this)
  simp[yr,h.1,this]
theorem ajM(ts:List aA)(t:Int):∀l m:List aO,mP ts t (l++m)=(mP ts t l&&mP ts t m)
 | [],m=>by simp[mP]
 |v::l,m=>by simp[mP,ajM ts t l m,Bool.and_assoc]
theorem asl:∀l m:List aO,wL (l++m)=wL l+wL m
 | [],m=>by simp[wL]
 |v::l,m=>by simp[wL,asl l m];omega
theorem alO:∀l m:List (List UInt8),ael (l++m)=ael l+ael m
 | [],m=>by simp[ael]
 |v::l,m=>by simp[ael,alO l m];omega
theorem apv(ts:List aA)(t:Int)(w:aO)(hw:aq9 ts t w=true):∀(l:List aO)(i:Nat),mP ts t l=true→mP ts t (l.set i w)=true
 | [],i,h=>by simp[mP]
 |v::l,0,h=>by simp only[mP,Bool.and_eq_true] at h;simp[mP,hw,h.2]
 |v::l,i+1,h=>by simp only[mP,Bool.and_eq_true] at h;simp[mP,h.1,apv ts t w hw l i h.2]
theorem avt(w:aO):∀(l:List aO)(i:Nat),wL (l.set i w)≤wL l+wV w
 | [],i=>by simp[wL]
 |v::l,0=>by simp[wL];omega
 |v::l,i+1=>by have:=avt w l i;simp only[List.set_cons_succ,wL];omega
theorem at0(n:Int)(s:List UInt8)(l:List aO)(ks:List (List UInt8))(b:Int)(key:List UInt8)(w0:Int)(w1:List UInt8)(w2:List aO)(w3:List (List UInt8))(w4:Int)(h:ks.length=l.length)(hl:l.length≤10000):
  ∃r,sL n s l ks b key w0 w1 w2 w3 w4 r:=by
 apply aqr 20000
 unfold ajF uI
 refine aT (fun x=>match x with
  |(c0,c1,c2,c3,c4,c5,i,c6,c7,l',ks',c8,c9,c10,c11,c12,c13)=>c0=key∧(c1,c2,c3,c4,c5)=(w0,w1,w2,w3,w4)∧(c6,c7,c8)=(n,s,b)∧0≤i∧i≤(l.length:Int)∧ks'=ks∧l'=l∧∀j:Nat,(j:Int)<i→Op.bytesLess (ks.getD j []) key=true)
  (fun x=>((l.length:Int)-x.2.2.2.2.2.2.1).toNat) ?_ _ _ ⟨rfl,rfl,rfl,by simp,by simp,rfl,rfl,fun j hj=>by omega⟩ (by simp;omega)
 rintro again ⟨c0,c1,c2,c3,c4,c5,i,c6,c7,l,ks,c8,c9,c10,c11,c12,c13⟩ ⟨rfl,e1,e2,i1,i2,rfl,rfl,i3⟩ ih
 simp only[Prod.mk.injEq] at e1 e2
 obtain⟨rfl,rfl,rfl,rfl,rfl⟩:=e1
 obtain⟨rfl,rfl,rfl⟩:=e2
 simp only at i1 i2 ih h hl ⊢
 unfold wX
 dsimp only
 have next:i<l.length→Op.bytesLess (ks.getD i.toNat []) c0=true→Tot (again (c0,c1,c2,c3,c4,c5,IntKind.i64.wrap (i+1),c6,c7,l,ks,c8,c9,c10,c11,c12,c13)) _:=fun hl hb=>ih (c0,c1,c2,c3,c4,c5,IntKind.i64.wrap (i+1),c6,c7,l,ks,c8,c9,c10,c11,c12,c13)
  (by
   simp only[aI (i+1) (by omega)]
   refine⟨trivial,trivial,trivial,by omega,by omega,trivial,trivial,fun j hj=>?_⟩
   by_cases hji:(j:Int)<i
   ·exact i3 j hji
   ·have:j=i.toNat:=by omega
    rw[this];exact hb) (by simp only[aI (i+1) (by omega)];omega)
 have i4:∀j,j<i.toNat→j<ks.length→Op.bytesLess (ks.getD j []) c0=true:=fun j hj _=>i3 j (by omega)
 have ins:(∀_:i.toNat<ks.length,Op.bytesLess c0 (ks.getD i.toNat [])=true)→awi c6 c7 l ks c8 c0 (.mk c1 c2 c3 c4 c5) (c6,c7,l.take i.toNat++((.mk c1 c2 c3 c4 c5)::l.drop i.toNat),ks.take i.toNat++(c0::ks.drop i.toNat),c8):=fun hlt=>by
  refine⟨rfl,rfl,rfl,?_,?_,fun h1 h2=>avr _ _ _ h1 h2 i4 hlt,fun ts t h1 h2=>?_,fun h1 h2=>?_⟩
  ·simp only[asl]
   have:=asl (l.take i.toNat) (l.drop i.toNat)
   rw[List.take_append_drop] at this
   simp only[wL];omega
  ·simp only[alO]
   have:=alO (ks.take i.toNat) (ks.drop i.toNat)
   rw[List.take_append_drop] at this
   simp only[ael];omega
  ·have:=ajM ts t (l.take i.toNat) (l.drop i.toNat)
   rw[List.take_append_drop,h1] at this
   have this:=(Bool.and_eq_true _ _▸this.symm:_∧_)
   simp[ajM,mP,this.1,this.2,h2]
  ·by_cases hi:i.toNat<ks.length
   ·have h3:=h1 (ks.getD i.toNat []) (by simp[List.getD,hi])
    rw[ask h3] at hlt
    simp at hlt;omega
   ·rw[List.take_of_length_le (by omega),List.drop_eq_nil_of_le (by omega),List.take_of_length_le (by omega),List.drop_eq_nil_of_le (by omega)]
    exact⟨rfl,rfl⟩
 have same:(i.toNat<ks.length∧ks.getD i.toNat []=c0)→awi c6 c7 l ks c8 c0 (.mk c1 c2 c3 c4 c5) (c6,c7,l.set i.toNat (.mk c1 c2 c3 c4 c5),ks,c8):=fun hsame=>by
  refine⟨rfl,rfl,rfl,avt _ _ _,by simp only;omega,fun h1 _=>h1,fun ts t h1 h2=>apv ts t _ h2 _ _ h1,fun h1 _=>?_⟩
  have h3:=h1 (ks.getD i.toNat []) (by simp[List.getD,hsame.1])
  rw[hsame.2] at h3
  have h4:=ask h3
  rw[h3] at h4;cases h4
 repeat' (first|(with_reducible refine aC ?_ ?_<;>(intro hb;(try simp only[bnl] at hb);(try revert hb;intro _)))|with_reducible refine aH ?_ ?_|with_reducible refine aE ?_|(exact next (by omega) (by assumption))|fail)
 all_goals first|(first|(simp only[bnl,lnl];done)|(simp only[bnl,lnl];omega))|skip
 all_goals
  refine⟨_,_,_,_,_,_,rfl,rfl,?_,?_,?_⟩
  ·simp only[List.length_append,List.length_cons,List.length_nil,List.length_drop,List.length_take,List.length_set];omega
  ·simp only[List.length_append,List.length_cons,List.length_nil,List.length_drop,List.length_take,List.length_set];omega
 ·exact same ⟨by omega,by assumption⟩
 ·simpa using ins fun _=>avq (by assumption) (by assumption)
 ·simpa using ins fun hh=>by omega
end Go.Proofs.Ytdpajabhmmmjoaa
end
noncomputable section
namespace Go.Proofs.Ytdpajabhmmmjoaa
open Go.AM
set_option autoImplicit false
set_option linter.unusedVariables false
set_option maxRecDepth 100000
end Go.Proofs.Ytdpajabhmmmjoaa
end
noncomputable section
namespace Go.Proofs.Ytdpajabhmmmjoaa
open Go.AM
set_option autoImplicit false
set_option linter.unusedVariables false
set_option maxRecDepth 100000
noncomputable def agG:aL:=tab (P:=Try.prog) [] [] [] []
def ahL:IR:=Sq (Rs [Fa 7 0 2,Lq 8 7,Bc 9 .eql 8 6,Mv 10 9,Gt 10 (.mov 11 6),Gt 10 (.fad 12 4 2),Gt 10 (.lde 13 1 false 12),Gt 10 (.lenl 14 13),Gt 10 (.bin 15 .lss 11 14),Pa 16 10 15,Mv 17 16,Gt 17 (.mov 18 6),Gt 17 (.fad 19 3 2),Gt 17 (.lde 20 1 false 19),Gt 17 (.lenl 21 20),Gt 17 (.bin 22 .lss 18 21),Pa 23 17 22] (Cn 23 .skip (.exit 0))) (Sq (.block 1 (Rs [Fa 26 4 2,Lq 27 26,Mv 28 6,Ix 29 .str 27 28,Lq 30 29,Mv 31 1,Bi 32 .eql 30 31] (Cn 32 (Rs [Fa 33 3 2,Lq 34 33,Mv 35 6,Ix 36 .jnode 34 35,Ld 37 5 true 36,Sv 5 4 37,Mb 5 true] .ret) .skip))) (Rg [Mv 24 6,Bc 25 .add 24 1,Mv 6 25]))
def ahM:IR:=Rs [Pp (.bld 38 [vI 0,vI 0,vS,nl .jnode,nl .str] []),Sv 5 4 38,Mb 5 false] .ret
def atw:IR:=Rs [Bx 2 0,Pp (.new 4 [vI 0,vI 0,vS,nl .jnode,nl .str]),Mb 5 false] (Sq (Rs [Mi 6 0] (.block 0 (.loop [1,2,4,6,1000000] 1 ahL))) ahM)
def ak9:List RV:=[.cell 4 5 true,.t 5]
theorem atx:FnC Try.prog agG [] 0 amF Try.f113 atw ak9:=fnC Try.func113
def asm(R:IR→(Ex→St→Ro)→St→Ro)(a:St→Ro):Ex→St→Ro:=(bk a [1,2,4,6,1000000] 1 (aP 0 (bj (R ahM) (fin ak9))))
abbrev yQ:Type:=(Bs×Int×Int×Bs×List aB×Bss×Int×Int×Int×Bs×List aB×Bss)
def wY:yQ→St:=fun(c,d,e,f,g,h,i,j,k,l,a,b)=>{env:=(.undef::.str c::.ea [.int .i64 d,.int .i64 e,.str f,.sl .jnode (.may false) g,.sl .str (.may false) h]::.undef::.ptr 0 0::.undef::.int .i64 i::(U 32 [])),hp:=[some [.int .i64 j,.int .i64 k,.str l,.sl .jnode .own a,.sl .str .own b]]}
def acW(N:Nat):(St→Ro)→St→Ro:=fun a s=>run agG N ahL (asm (run agG N) a) s
def yR(N:Nat)(c:yQ→Ro):yQ→Ro:=fun(q,d,g,h,a,b,e,i,j,k,m,o)=>
 let p:=fun r t u v w x y z=>(some (.tup [.agg [.int .i64 r,.int .i64 t,.str u,.sl .jnode (.may false) v,.sl .str (.may false) w],.bool x],[some [.int .i64 r,.int .i64 t,.str u,y,z]]):Ro)
 cond (d==6) (
 let x1:=(↑(List.length b):Int)
 cond (decide (e<x1)) (
 let x2:=(↑(List.length a):Int)
 cond (decide (e<x2)) (
 chk (ixl e b) (
 let x3:=List.getD b (Int.toNat e) (aG .str)
 cond (decide (x3=q)) (
 chk (ixl e a) (
 let f:=(List.getD a (Int.toNat e) (aG .jnode))
 p f.kind f.n f.s f.l f.names true (.sl .jnode (.may false) f.l) (.sl .str (.may false) f.names))) (
 let x5:=(IntKind.wrap .i64 (e+1))
 c (q,d,g,h,a,b,x5,i,j,k,m,o)))) (
 p 0 0 ([]:Bs) ([]:List aB) ([]:Bss) false (.sl .jnode .own ([]:List aB)) (.sl .str .own ([]:Bss)))) (
 p 0 0 ([]:Bs) ([]:List aB) ([]:Bss) false (.sl .jnode .own ([]:List aB)) (.sl .str .own ([]:Bss)))) (
 p 0 0 ([]:Bs) ([]:List aB) ([]:Bss) false (.sl .jnode .own ([]:List aB)) (.sl .str .own ([]:Bss)))
theorem aqs(N:Nat):LB (acW N) wY (yR N):=fun _ _=>by kernel_rfl
def wt(N:Nat)(a b:Int)(c:Bs)(d:List aB)(e:Bss)(f:Bs)(g:yQ→Ro):Ro:=
 g (f,a,b,c,d,e,0,0,0,([]:Bs),([]:List aB),([]:Bss))
def ala(N:Nat)(a b:Int)(c:Bs)(d:List aB)(e:Bss)(f:Bs):Ro:=wt N a b c d e f (fun z=>aS N (yR N) z)
theorem asn(N:Nat)(a c:Int)(d:Bs)(f:List aB)(g:Bss)(i:Bs)(h:Tot (ala N a c d f g i) (fun z=>∃(j:Int)(k:Int)(l:Bs)(m:List aB)(n:Bss)(o:Bool)(rest:List aJ),z.1.dimR=.tup [.agg [.int .i64 j,.int .i64 k,.str l,.sl .jnode (.may false) m,.sl .str (.may false) n],.bool o]∧z.2=rest∧cX a c d f g i (j,k,l,m,n,o))):∃r,dx a c d f g i r:=atx.finP (N:=N) ((bu _ (by kernel_rfl) rfl (fun C=>wt N a c d f g i (fun z=>C 1000000 (wY z))) (fun C=>by kernel_rfl)).trans (Eq.trans (b:=wt N a c d f g i (fun z=>aW N (acW N) (wY z))) (by kernel_rfl) (congrArg (wt N a c d f g i) (funext fun z=>aV (wY) (acW N) (yR N) (aqs N) N z)))) h fun _ ⟨j,k,l,m,n,o,_,e,_,q⟩=>⟨(j,k,l,m,n,o),e,q⟩
noncomputable def aer:aL:=tab (P:=Try.prog) [] [] [] [apN,arQ]
def afn:IR:=Sq (Rs [Mv 4 3,Mv 5 0,Pp (.lens 6 5),Bi 7 .lss 4 6] (Cn 7 .skip (.exit 0))) (Sq (.block 1 (Rs [Mv 10 0,Mv 11 3,Pp (.idx 12 10 11),Ca 13 164 [12],Un 14 13,Mv 15 14,Gt 15 (.mov 16 3),Gt 15 (.bin 17 .eql 16 (kI 0)),Gt 15 (.mov 18 17),Gf 18 (.mov 19 0),Gf 18 (.mov 20 3),Gf 18 (.idx 21 19 20),Gf 18 (.call 22 165 [21]),Gf 18 (.un 23 .not 22),Gt 15 (.pick 24 18 (kB true) 23),Pa 25 15 24] (Cn 25 (Rs [Mb 2 false] .ret) .skip))) (Rg [Mv 8 3,Bc 9 .add 8 1,Mv 3 9]))
def afo:IR:=Rs [Mv 26 0,Pp (.lens 27 26),Bc 28 .gtr 27 0,Mv 2 28] .ret
def aso:IR:=Rs [Mb 2 false] (Sq (Rs [Mi 3 0] (.block 0 (.loop [0,3,1000000] 0 afn))) afo)
def ajN:List RV:=[.t 2]
theorem asp:FnC Try.prog aer [] 0 akY Try.f161 aso ajN:=fnC Try.func161
def aqt(R:IR→(Ex→St→Ro)→St→Ro)(a:St→Ro):Ex→St→Ro:=(bk a [0,3,1000000] 0 (aP 0 (bj (R afo) (fin ajN))))
abbrev wZ:Type:=(Bs×Int)
def vn:wZ→St:=fun(a,b)=>{env:=(.str a::.undef::.undef::.int .i64 b::(U 25 [])),hp:=[]}
def abc(N:Nat):(St→Ro)→St→Ro:=fun a s=>run aer N afn (aqt (run aer N) a) s
def w7(N:Nat)(a:wZ→Ro):wZ→Ro:=fun(b,c)=>
 let d:=(↑(List.length b):Int)
 cond (decide (c<d)) (
 chk (ixl c b) (
 let e:=(↑(UInt8.toNat (List.getD b (Int.toNat c) 0)):Int)
 aF (sh e) (fun(f:Bool)=>
 cond (!f) (
 cond (c==0) (
 some (.bool false,[])) (
 chk (ixl c b) (
 let g:=(↑(UInt8.toNat (List.getD b (Int.toNat c) 0)):Int)
 aF (uw g) (fun(h:Bool)=>
 cond (!h) (
 some (.bool false,[])) (
 let i:=(IntKind.wrap .i64 (c+1))
 a (b,i)))))) (
 let j:=(IntKind.wrap .i64 (c+1))
 a (b,j))))) (
 let k:=(↑(List.length b):Int)
 some (.bool (decide (0<k)),[]))
theorem aoD(N:Nat):LB (abc N) vn (w7 N):=fun _ _=>by kernel_rfl
def uL(N:Nat)(a:Bs)(b:wZ→Ro):Ro:=
 b (a,0)
def ajO(N:Nat)(a:Bs):Ro:=uL N a (fun z=>aS N (w7 N) z)
theorem aqu(N:Nat)(a:Bs)(h:Tot (ajO N a) (fun z=>∃(c:Bool)(rest:List aJ),z.1.dimR=.bool c∧z.2=rest)):∃r,kG a r:=asp.finP0 (N:=N) ((bu _ (by kernel_rfl) rfl (fun C=>uL N a (fun z=>C 1000000 (vn z))) (fun C=>by kernel_rfl)).trans (Eq.trans (b:=uL N a (fun z=>aW N (abc N) (vn z))) (by kernel_rfl) (congrArg (uL N a) (funext fun z=>aV (vn) (abc N) (w7 N) (aoD N) N z)))) h fun _ ⟨c,_,e,_⟩=>⟨(c),e⟩
noncomputable def aqv:aL:=tab (P:=Try.prog) [] [] [] []
def aoE:IR:=Rs [Mb 2 false] (Rs [Mv 3 0,Pp (.bin 4 .geq 3 (.c (.int .u8 97))),Mv 5 4,Gt 5 (.mov 6 0),Gt 5 (.bin 7 .leq 6 (.c (.int .u8 122))),Pa 8 5 7,Mv 9 8,Gf 9 (.mov 10 0),Gf 9 (.bin 11 .geq 10 (.c (.int .u8 65))),Gf 9 (.mov 12 11),Gt 12 (.mov 13 0),Gt 12 (.bin 14 .leq 13 (.c (.int .u8 90))),Gf 9 (.pick 15 12 14 (kB false)),Po 16 9 15,Mv 17 16,Gf 17 (.mov 18 0),Gf 17 (.bin 19 .eql 18 (.c (.int .u8 95))),Po 20 17 19,Mv 2 20] .ret)
def aoF:List RV:=[.t 2]
theorem aoG:FnC Try.prog aqv [] 0 ahh Try.f164 aoE aoF:=fnC Try.func164
def afp(N:Nat)(a:Int):Ro:=
 let b:=(some (.bool (a==95),[]):Ro)
 cond (decide (97≤a)) (
 cond (decide (a≤122)) (
 some (.bool true,[])) (
 cond (decide (65≤a)) (
 cond (decide (a≤90)) (
 some (.bool true,[])) (
 b)) (
 b))) (
 cond (decide (65≤a)) (
 cond (decide (a≤90)) (
 some (.bool true,[])) (
 b)) (
 b))
def afq(N:Nat)(a:Int):Ro:=afp N a
theorem ana(N:Nat)(b:Int)(h:Tot (afq N b) (fun z=>∃(a:Bool)(rest:List aJ),z.1.dimR=.bool a∧z.2=rest)):∃r,sh b r:=aoG.finP0 (N:=N) (by kernel_rfl) h fun _ ⟨a,_,e,_⟩=>⟨(a),e⟩
noncomputable def asq:aL:=tab (P:=Try.prog) [] [] [] []
def aqw:IR:=Rs [Mb 2 false] (Rs [Mv 3 0,Pp (.bin 4 .geq 3 (.c (.int .u8 48))),Mv 5 4,Gt 5 (.mov 6 0),Gt 5 (.bin 7 .leq 6 (.c (.int .u8 57))),Pa 8 5 7,Mv 2 8] .ret)
def aqx:List RV:=[.t 2]
theorem aqy:FnC Try.prog asq [] 0 ai1 Try.f165 aqw aqx:=fnC Try.func165
def ahN(N:Nat)(a:Int):Ro:=
 cond (decide (48≤a)) (
 some (.bool (decide (a≤57)),[])) (
 some (.bool false,[]))
def ahO(N:Nat)(a:Int):Ro:=ahN N a
theorem aoH(N:Nat)(b:Int)(h:Tot (ahO N b) (fun z=>∃(a:Bool)(rest:List aJ),z.1.dimR=.bool a∧z.2=rest)):∃r,uw b r:=aqy.finP0 (N:=N) (by kernel_rfl) h fun _ ⟨a,_,e,_⟩=>⟨(a),e⟩
noncomputable def aty:aL:=tab (P:=Try.prog) [] [] [] []
def asr:IR:=Rs [Ms 4 []] (Sq (Rs [Mv 5 0,Pp (.bin 6 .eql 5 (kS [])),Mv 7 6,Gf 7 (.mov 8 1),Gf 7 (.bin 9 .eql 8 (kS [])),Po 10 7 9] (Cn 10 (Rs [Mv 11 0,Mv 12 1,Bi 13 .add 11 12,Mv 4 13] .ret) .skip)) (Rs [Mv 14 0,Pp (.bin 15 .add 14 (kS [46])),Mv 16 1,Bi 17 .add 15 16,Mv 4 17] .ret))
def ass:List RV:=[.t 4]
theorem ast:FnC Try.prog aty [] 0 akZ Try.f159 asr ass:=fnC Try.func159
def ajP(N:Nat)(a b:Bs):Ro:=
 let d:=decide (a=([]:Bs))
 cond d (
 chk (decide (List.length a+List.length b≤9223372036854775807)) (
 some (.str (a++b),[]))) (
 let e:=decide (b=([]:Bs))
 cond e (
 chk (decide (List.length a+List.length b≤9223372036854775807)) (
 some (.str (a++b),[]))) (
 chk (decide (List.length a+List.length ([46]:Bs)≤9223372036854775807)) (
 let c:=(a++([46]:Bs))
 chk (decide (List.length c+List.length b≤9223372036854775807)) (
 some (.str (c++b),[])))))
def ajQ(N:Nat)(a b:Bs):Ro:=ajP N a b
theorem aqz(N:Nat)(b c:Bs)(h:Tot (ajQ N b c) (fun z=>∃(a:Bs)(rest:List aJ),z.1.dimR=.str a∧z.2=rest∧va b c (a))):∃r,wj b c r:=ast.finP (N:=N) (by kernel_rfl) h fun _ ⟨a,_,e,_,q⟩=>⟨(a),e,q⟩
noncomputable def acX:aL:=tab (P:=Try.prog) [] [] [] [aem]
def aed:IR:=Sq (Rs [Mv 5 4,Mv 6 0,Pp (.lens 7 6),Bi 8 .leq 5 7] (Cn 8 .skip (.exit 0))) (Sq (.block 1 (Sq (Rs [Mv 11 4,Mv 12 0,Pp (.lens 13 12),Bi 14 .lss 11 13,Mv 15 14,Gt 15 (.mov 16 0),Gt 15 (.mov 17 4),Gt 15 (.idx 18 16 17),Gt 15 (.bin 19 .neq 18 (.c (.int .u8 46))),Pa 20 15 19] (Cn 20 (Rs [Mv 21 3,Mv 22 0,Mv 23 4,Mv 24 4,Bc 25 .add 24 1,Pp (.subs 26 22 (some 23) (some 25)),Bi 27 .add 21 26,Mv 3 27] (.exit 1)) .skip)) (Sq (Rs [Mv 28 3,Ca 29 161 [28],Un 30 29] (Cn 30 (Rs [Mb 2 false] .ret) .skip)) (Rg [Ms 3 []])))) (Rg [Mv 9 4,Bc 10 .add 9 1,Mv 4 10]))
def acY:IR:=Rs [Mb 2 true] .ret
def aqA:IR:=Rs [Mb 2 false] (Rs [Ms 3 []] (Sq (Rs [Mi 4 0] (.block 0 (.loop [0,3,4,1000000] 0 aed))) acY))
def ahP:List RV:=[.t 2]
theorem aqB:FnC Try.prog acX [] 0 ai2 Try.f160 aqA ahP:=fnC Try.func160
def aoI(R:IR→(Ex→St→Ro)→St→Ro)(a:St→Ro):Ex→St→Ro:=(bk a [0,3,4,1000000] 0 (aP 0 (bj (R acY) (fin ahP))))
abbrev vo:Type:=(Bs×Bs×Int)
def ti:vo→St:=fun(a,b,c)=>{env:=(.str a::.undef::.undef::.str b::.int .i64 c::(U 26 [])),hp:=[]}
def aae(N:Nat):(St→Ro)→St→Ro:=fun a s=>run acX N aed (aoI (run acX N) a) s
def vp(N:Nat)(a:vo→Ro):vo→Ro:=fun(c,d,b)=>
 let g:=(↑(List.length c):Int)
 cond (decide (b≤g)) (
 let h:=(↑(List.length c):Int)
 cond (decide (b<h)) (
 chk (ixl b c) (
 let i:=(↑(UInt8.toNat (List.getD c (Int.toNat b) 0)):Int)
 cond (!(i==46)) (
 let e:=(IntKind.wrap .i64 (b+1))
 chk (decide (0≤e)&&decide (e≤(↑(List.length c):Int))&&(decide (0≤b)&&decide (b≤e))) (
 let f:=(List.drop (Int.toNat b) (List.take (Int.toNat e) c))
 chk (decide (List.length d+List.length f≤9223372036854775807)) (
 let j:=(IntKind.wrap .i64 (b+1))
 a (c,(d++f),j)))) (
 aF (kG d) (fun(k:Bool)=>
 cond (!k) (
 some (.bool false,[])) (
 let l:=(IntKind.wrap .i64 (b+1))
 a (c,([]:Bs),l)))))) (
 aF (kG d) (fun(m:Bool)=>
 cond (!m) (
 some (.bool false,[])) (
 let n:=(IntKind.wrap .i64 (b+1))
 a (c,([]:Bs),n))))) (
 some (.bool true,[]))
theorem anb(N:Nat):LB (aae N) ti (vp N):=fun _ _=>by kernel_rfl
def sD(N:Nat)(a:Bs)(b:vo→Ro):Ro:=
 b (a,([]:Bs),0)
def ahQ(N:Nat)(a:Bs):Ro:=sD N a (fun z=>aS N (vp N) z)
theorem aoJ(N:Nat)(a:Bs)(h:Tot (ahQ N a) (fun z=>∃(c:Bool)(rest:List aJ),z.1.dimR=.bool c∧z.2=rest)):∃r,uu a r:=aqB.finP0 (N:=N) ((bu _ (by kernel_rfl) rfl (fun C=>sD N a (fun z=>C 1000000 (ti z))) (fun C=>by kernel_rfl)).trans (Eq.trans (b:=sD N a (fun z=>aW N (aae N) (ti z))) (by kernel_rfl) (congrArg (sD N a) (funext fun z=>aV (ti) (aae N) (vp N) (anb N) N z)))) h fun _ ⟨c,_,e,_⟩=>⟨(c),e⟩
noncomputable def asu:aL:=tab (P:=Try.prog) [] [] [] [arE]
def aqC:IR:=Rs [Pp (.mov 2 (.c (.int .u32 0))),Mi 3 0] (Rs [Mv 4 0,Ca 5 79 [4],Ex_ 6 0 5,Ex_ 7 1 5,Mv 2 6,Mv 3 7] .ret)
def aqD:List RV:=[.t 2,.t 3]
theorem aqE:FnC Try.prog asu [] 0 aiW Try.f162 aqC aqD:=fnC Try.func162
def ahR(N:Nat)(b:Bs):Ro:=
 aF (um b) (fun a=>
 some (.tup [.int .u32 a.1,.int .i64 a.2],[]))
def ahS(N:Nat)(a:Bs):Ro:=ahR N a
theorem aoK(N:Nat)(c:Bs)(h:Tot (ahS N c) (fun z=>∃(a:Int)(b:Int)(rest:List aJ),z.1.dimR=.tup [.int .u32 a,.int .i64 b]∧z.2=rest∧adR c (a,b))):∃r,uv c r:=aqE.finP (N:=N) (by kernel_rfl) h fun _ ⟨a,b,_,e,_,q⟩=>⟨(a,b),e,q⟩
noncomputable def acZ:aL:=tab (P:=Try.prog) [] [] [] []
def ac0:IR:=Sq (Rs [Mv 50 8,Mv 51 5,Bi 52 .lss 50 51] (Cn 52 .skip (.exit 1))) (Sq (.block 2 (Sq (Rs [Mv 55 0,Mv 56 8,Pp (.idx 57 55 56),Pp (.bin 58 .lss 57 (.c (.int .u8 128))),Mv 59 58,Gf 59 (.mov 60 0),Gf 59 (.mov 61 8),Gf 59 (.idx 62 60 61),Gf 59 (.bin 63 .gtr 62 (.c (.int .u8 191))),Po 64 59 63] (Cn 64 (Rs [Pp (.mov 2 (.c (.int .u32 0))),Mi 3 0] .ret) .skip)) (Rg [Mv 65 6,Pp (.bin 66 .mul 65 (.c (.int .u32 64))),Mv 67 0,Mv 68 8,Pp (.idx 69 67 68),Pp (.bin 70 .sub 69 (.c (.int .u8 128))),Pp (.cvi 71 .u32 70),Bi 72 .add 66 71,Mv 6 72]))) (Rg [Mv 53 8,Bc 54 .add 53 1,Mv 8 54]))
def ac1:IR:=Sq (Rs [Mv 73 6,Mv 74 7,Bi 75 .lss 73 74,Mv 76 75,Gf 76 (.mov 77 6),Gf 76 (.bin 78 .gtr 77 (.c (.int .u32 1114111))),Po 79 76 78,Mv 80 79,Gf 80 (.mov 81 6),Gf 80 (.bin 82 .geq 81 (.c (.int .u32 55296))),Gf 80 (.mov 83 82),Gt 83 (.mov 84 6),Gt 83 (.bin 85 .leq 84 (.c (.int .u32 57343))),Gf 80 (.pick 86 83 85 (kB false)),Po 87 80 86] (Cn 87 (Rs [Pp (.mov 2 (.c (.int .u32 0))),Mi 3 0] .ret) .skip)) (Rs [Mv 88 6,Mv 89 5,Mv 2 88,Mv 3 89] .ret)
def aqF:IR:=Rs [Pp (.mov 2 (.c (.int .u32 0))),Mi 3 0] (Sq (Rs [Mv 9 0,Pp (.lens 10 9),Bc 11 .eql 10 0] (Cn 11 (Rs [Pp (.mov 2 (.c (.int .u32 0))),Mi 3 0] .ret) .skip)) (Rs [Mv 12 0,Pp (.idx 13 12 (kI 0)),Pp (.cvi 14 .u32 13),Mv 4 14] (Rs [Mi 5 0,Pp (.mov 6 (.c (.int .u32 0))),Pp (.mov 7 (.c (.int .u32 0)))] (Sq (.block 0 (Rs [Mv 16 4,Pp (.bin 17 .lss 16 (.c (.int .u32 128))),Mv 15 17] (Cn 15 (Rs [Mv 18 4,Mv 2 18,Mi 3 1] .ret) (Rs [Mv 20 4,Pp (.bin 21 .geq 20 (.c (.int .u32 192))),Mv 22 21,Gt 22 (.mov 23 4),Gt 22 (.bin 24 .lss 23 (.c (.int .u32 224))),Pa 25 22 24,Mv 19 25] (Cn 19 (Rg [Mv 26 4,Pp (.bin 27 .sub 26 (.c (.int .u32 192))),Mi 5 2,Mv 6 27,Pp (.mov 7 (.c (.int .u32 128)))]) (Rs [Mv 29 4,Pp (.bin 30 .geq 29 (.c (.int .u32 224))),Mv 31 30,Gt 31 (.mov 32 4),Gt 31 (.bin 33 .lss 32 (.c (.int .u32 240))),Pa 34 31 33,Mv 28 34] (Cn 28 (Rg [Mv 35 4,Pp (.bin 36 .sub 35 (.c (.int .u32 224))),Mi 5 3,Mv 6 36,Pp (.mov 7 (.c (.int .u32 2048)))]) (Rs [Mv 38 4,Pp (.bin 39 .geq 38 (.c (.int .u32 240))),Mv 40 39,Gt 40 (.mov 41 4),Gt 40 (.bin 42 .lss 41 (.c (.int .u32 248))),Pa 43 40 42,Mv 37 43] (Cn 37 (Rg [Mv 44 4,Pp (.bin 45 .sub 44 (.c (.int .u32 240))),Mi 5 4,Mv 6 45,Pp (.mov 7 (.c (.int .u32 65536)))]) (Rs [Pp (.mov 2 (.c (.int .u32 0))),Mi 3 0] .ret)))))))))) (Sq (Rs [Mv 46 0,Pp (.lens 47 46),Mv 48 5,Bi 49 .lss 47 48] (Cn 49 (Rs [Pp (.mov 2 (.c (.int .u32 0))),Mi 3 0] .ret) .skip)) (Sq (Rs [Mi 8 1] (.block 1 (.loop [0,5,6,7,8,1000000] 0 ac0))) ac1))))))
def ahT:List RV:=[.t 2,.t 3]
theorem aqG:FnC Try.prog acZ [] 0 aiX Try.f79 aqF ahT:=fnC Try.func79
def aoL(R:IR→(Ex→St→Ro)→St→Ro)(a:St→Ro):Ex→St→Ro:=(bk a [0,5,6,7,8,1000000] 0 (aP 1 (bj (R ac1) (fin ahT))))
abbrev vq:Type:=(Bs×Int×Int×Int×Int)
def tj:vq→St:=fun(a,b,c,d,e)=>{env:=(.str a::(U 4 (.int .i64 b::.int .u32 c::.int .u32 d::.int .i64 e::(U 81 [])))),hp:=[]}
def aaf(N:Nat):(St→Ro)→St→Ro:=fun a s=>run acZ N ac0 (aoL (run acZ N) a) s
def ff(N:Nat)(a:vq→Ro):vq→Ro:=fun(c,f,d,l,b)=>
 let e:=(some (.tup [.int .u32 0,.int .i64 0],[]):Ro)
 let m:=(some (.tup [.int .u32 d,.int .i64 f],[]):Ro)
 cond (decide (b<f)) (
 chk (ixl b c) (
 let n:=(↑(UInt8.toNat (List.getD c (Int.toNat b) 0)):Int)
 cond (decide (n<128)) (
 e) (
 chk (ixl b c) (
 let o:=(↑(UInt8.toNat (List.getD c (Int.toNat b) 0)):Int)
 cond (decide (191<o)) (
 e) (
 let g:=(IntKind.wrap .u32 (d*64))
 chk (ixl b c) (
 let h:=(↑(UInt8.toNat (List.getD c (Int.toNat b) 0)):Int)
 let i:=(IntKind.wrap .u8 (h-128))
 let j:=(IntKind.wrap .u32 (g+(IntKind.wrap .u32 i)))
 let k:=(IntKind.wrap .i64 (b+1))
 a (c,f,j,l,k))))))) (
 cond (decide (d<l)) (
 e) (
 cond (decide (1114111<d)) (
 e) (
 cond (decide (55296≤d)) (
 cond (decide (d≤57343)) (
 e) (
 m)) (
 m))))
theorem anc(N:Nat):LB (aaf N) tj (ff N):=fun _ _=>by kernel_rfl
def sE(N:Nat)(b:Bs)(d:vq→Ro):Ro:=
 let x1:=(↑(List.length b):Int)
 let c:=(some (.tup [.int .u32 0,.int .i64 0],[]):Ro)
 cond (x1==0) (
 c) (
 chk (decide ((0:Int)<↑(List.length b))) (
 let a:=(↑(UInt8.toNat (List.getD b (Int.toNat 0) 0)):Int)
 let x3:=decide ((IntKind.wrap .u32 a)<128)
 cond x3 (
 some (.tup [.int .u32 (IntKind.wrap .u32 a),.int .i64 1],[])) (
 let x4:=decide (192≤(IntKind.wrap .u32 a))
 cond x4 (
 let x5:=decide ((IntKind.wrap .u32 a)<224)
 cond x5 (
 let x6:=(IntKind.wrap .u32 ((IntKind.wrap .u32 a)-192))
 let x7:=(↑(List.length b):Int)
 cond (decide (x7<2)) (
 c) (
 d (b,2,x6,128,1))) (
 let e:=decide (224≤(IntKind.wrap .u32 a))
 cond e (
 let f:=decide ((IntKind.wrap .u32 a)<240)
 cond f (
 let g:=(IntKind.wrap .u32 ((IntKind.wrap .u32 a)-224))
 let h:=(↑(List.length b):Int)
 cond (decide (h<3)) (
 c) (
 d (b,3,g,2048,1))) (
 let i:=decide (240≤(IntKind.wrap .u32 a))
 cond i (
 let j:=decide ((IntKind.wrap .u32 a)<248)
 cond j (
 let k:=(IntKind.wrap .u32 ((IntKind.wrap .u32 a)-240))
 let l:=(↑(List.length b):Int)
 cond (decide (l<4)) (
 c) (
 d (b,4,k,65536,1))) (
 c)) (
 c))) (
 let m:=decide (240≤(IntKind.wrap .u32 a))
 cond m (
 let n:=decide ((IntKind.wrap .u32 a)<248)
 cond n (
 let o:=(IntKind.wrap .u32 ((IntKind.wrap .u32 a)-240))
 let p:=(↑(List.length b):Int)
 cond (decide (p<4)) (
 c) (
 d (b,4,o,65536,1))) (
 c)) (
 c)))) (
 let q:=decide (224≤(IntKind.wrap .u32 a))
 cond q (
 let r:=decide ((IntKind.wrap .u32 a)<240)
 cond r (
 let s:=(IntKind.wrap .u32 ((IntKind.wrap .u32 a)-224))
 let t:=(↑(List.length b):Int)
 cond (decide (t<3)) (
 c) (
 d (b,3,s,2048,1))) (
 let u:=decide (240≤(IntKind.wrap .u32 a))
 cond u (
 let v:=decide ((IntKind.wrap .u32 a)<248)
 cond v (
 let w:=(IntKind.wrap .u32 ((IntKind.wrap .u32 a)-240))
 let x:=(↑(List.length b):Int)
 cond (decide (x<4)) (
 c) (
 d (b,4,w,65536,1))) (
 c)) (
 c))) (
 let y:=decide (240≤(IntKind.wrap .u32 a))
 cond y (
 let z:=decide ((IntKind.wrap .u32 a)<248)
 cond z (
 let aa:=(IntKind.wrap .u32 ((IntKind.wrap .u32 a)-240))
 let ab:=(↑(List.length b):Int)
 cond (decide (ab<4)) (
 c) (
 d (b,4,aa,65536,1))) (
 c)) (
 c))))))
def abd(N:Nat)(a:Bs):Ro:=sE N a (fun z=>aS N (ff N) z)
theorem aoM(N:Nat)(a:Bs)(h:Tot (abd N a) (fun z=>∃(c:Int)(d:Int)(rest:List aJ),z.1.dimR=.tup [.int .u32 c,.int .i64 d]∧z.2=rest∧adS a (c,d))):∃r,um a r:=aqG.finP (N:=N) ((bu _ (by kernel_rfl) rfl (fun C=>sE N a (fun z=>C 1000000 (tj z))) (fun C=>by kernel_rfl)).trans (Eq.trans (b:=sE N a (fun z=>aW N (aaf N) (tj z))) (by kernel_rfl) (congrArg (sE N a) (funext fun z=>aV (tj) (aaf N) (ff N) (anc N) N z)))) h fun _ ⟨c,d,_,e,_,q⟩=>⟨(c,d),e,q⟩
noncomputable def aes:aL:=tab (P:=Try.prog) [] [] [] []
def afr:IR:=Sq (Rs [Mv 14 0,Mv 15 7,Bi 16 .shr 14 15,Pp (.bin 17 .eql 16 (kU 0))] (Cn 17 .skip (.exit 0))) (.block 1 (Rg [Mv 18 7,Bc 19 .sub 18 1,Mv 7 19]))
def aee:IR:=Rs [Mv 20 0,Mv 8 20] (Sq (Rs [Mv 21 7,Mv 22 1,Bi 23 .leq 21 22] (Cn 23 (Rg [Mv 24 0,Mv 25 1,Mv 26 7,Bi 27 .sub 25 26,Bi 28 .shl 24 27,Mv 8 28]) (Rs [Mv 29 7,Mv 30 1,Bi 31 .sub 29 30,Mv 9 31] (Rs [Mv 32 9,Bc 33 .sub 32 1,Pp (.bin 34 .shl (kU 1) 33),Mv 10 34] (Rs [Mv 35 0,Mv 36 9,Pp (.bin 37 .shl (kU 1) 36),Bi 38 .rem 35 37,Mv 11 38] (Rs [Mv 39 0,Mv 40 9,Bi 41 .shr 39 40,Mv 8 41] (Rs [Mv 42 11,Mv 43 10,Bi 44 .gtr 42 43,Mv 45 44,Gf 45 (.mov 46 11),Gf 45 (.mov 47 10),Gf 45 (.bin 48 .eql 46 47),Gf 45 (.mov 49 48),Gt 49 (.mov 50 8),Gt 49 (.bin 51 .rem 50 (kU 2)),Gt 49 (.bin 52 .eql 51 (kU 1)),Gf 45 (.pick 53 49 52 (kB false)),Po 54 45 53] (Cn 54 (Rg [Mv 55 8,Pp (.bin 56 .add 55 (kU 1)),Mv 8 56]) .skip)))))))) (Sq (.reg [Mv 57 7,Mv 58 2,Bi 59 .add 57 58,Pp (.cvi 60 .u64 59),Mv 61 1,Bi 62 .shl 60 61,Mv 63 8,Mv 64 1,Pp (.bin 65 .shl (kU 1) 64),Bi 66 .sub 63 65,Bi 67 .add 62 66,Mv 6 67] [[],[],[0,1],[0,1,2],[],rg 0 4,[],[],[7],[6,7,8],rg 0 9,rg 0 10]) .ret))
def asv:IR:=Rs [Pp (.mov 6 (kU 0))] (Sq (Rs [Mv 12 0,Pp (.bin 13 .eql 12 (kU 0))] (Cn 13 (Rs [Pp (.mov 6 (kU 0))] .ret) .skip)) (Rs [Mi 7 63] (Sq (.block 0 (.loop [0,1,2,7,1000000] 0 afr)) aee)))
def ajR:List RV:=[.t 6]
theorem asw:FnC Try.prog aes [] 0 akU Try.f154 asv ajR:=fnC Try.func154
def aqH(R:IR→(Ex→St→Ro)→St→Ro)(a:St→Ro):Ex→St→Ro:=(bk a [0,1,2,7,1000000] 0 (aP 0 (bj (R aee) (fin ajR))))
abbrev w9:Type:=(Int×Int×Int×Int)
def vr:w9→St:=fun(a,b,c,d)=>{env:=(.int .u64 a::.int .i64 b::.int .i64 c::(U 4 (.int .i64 d::(U 60 [])))),hp:=[]}
def abe(N:Nat):(St→Ro)→St→Ro:=fun a s=>run aes N afr (aqH (run aes N) a) s
def xa(N:Nat)(d:w9→Ro):w9→Ro:=fun(e,a,f,b)=>
 chk (decide (0≤b)) (
 cond ((xi .u64 e b)==0) (
 let x1:=(IntKind.wrap .i64 (b-1))
 d (e,a,f,x1)) (
 cond (decide (b≤a)) (
 let x2:=(IntKind.wrap .i64 (a-b))
 chk (decide (0≤x2)) (
 let x3:=(IntKind.wrap .i64 (b+f))
 chk (decide (0≤a)) (
 let x4:=(nH .u64 (IntKind.wrap .u64 x3) a)
 chk (decide (0≤a)) (
 let x5:=(IntKind.wrap .u64 ((nH .u64 e x2)-(nH .u64 1 a)))
 let x6:=(IntKind.wrap .u64 (x4+x5))
 some (.int .u64 x6,[]))))) (
 let c:=(IntKind.wrap .i64 (b-a))
 let g:=(IntKind.wrap .i64 (c-1))
 chk (decide (0≤g)) (
 chk (decide (0≤c)) (
 chk (!((nH .u64 1 c)==0)) (
 let x9:=(Int.tmod e (nH .u64 1 c))
 chk (decide (0≤c)) (
 let h:=decide ((nH .u64 1 g)<x9)
 cond h (
 let i:=(IntKind.wrap .u64 ((xi .u64 e c)+1))
 let j:=(IntKind.wrap .i64 (b+f))
 chk (decide (0≤a)) (
 let k:=(nH .u64 (IntKind.wrap .u64 j) a)
 chk (decide (0≤a)) (
 let l:=(IntKind.wrap .u64 (i-(nH .u64 1 a)))
 let m:=(IntKind.wrap .u64 (k+l))
 some (.int .u64 m,[])))) (
 cond (x9==(nH .u64 1 g)) (
 let n:=(Int.tmod (xi .u64 e c) 2)
 cond (n==1) (
 let o:=(IntKind.wrap .u64 ((xi .u64 e c)+1))
 let p:=(IntKind.wrap .i64 (b+f))
 chk (decide (0≤a)) (
 let q:=(nH .u64 (IntKind.wrap .u64 p) a)
 chk (decide (0≤a)) (
 let r:=(IntKind.wrap .u64 (o-(nH .u64 1 a)))
 let s:=(IntKind.wrap .u64 (q+r))
 some (.int .u64 s,[])))) (
 let t:=(IntKind.wrap .i64 (b+f))
 chk (decide (0≤a)) (
 let u:=(nH .u64 (IntKind.wrap .u64 t) a)
 chk (decide (0≤a)) (
 let v:=(IntKind.wrap .u64 ((xi .u64 e c)-(nH .u64 1 a)))
 let w:=(IntKind.wrap .u64 (u+v))
 some (.int .u64 w,[]))))) (
 let x:=(IntKind.wrap .i64 (b+f))
 chk (decide (0≤a)) (
 let y:=(nH .u64 (IntKind.wrap .u64 x) a)
 chk (decide (0≤a)) (
 let z:=(IntKind.wrap .u64 ((xi .u64 e c)-(nH .u64 1 a)))
 let aa:=(IntKind.wrap .u64 (y+z))
 some (.int .u64 aa,[]))))))))))))
theorem aoN(N:Nat):LB (abe N) vr (xa N):=fun _ _=>by kernel_rfl
def uM(N:Nat)(a b c:Int)(d:w9→Ro):Ro:=
 cond (a==0) (
 some (.int .u64 0,[])) (
 d (a,b,c,63))
def ajS(N:Nat)(a b c:Int):Ro:=uM N a b c (fun z=>aS N (xa N) z)
theorem aqI(N:Nat)(a c d:Int)(h:Tot (ajS N a c d) (fun z=>∃(f:Int)(rest:List aJ),z.1.dimR=.int .u64 f∧z.2=rest)):∃r,nA a c d r:=asw.finP0 (N:=N) ((bu _ (by kernel_rfl) rfl (fun C=>uM N a c d (fun z=>C 1000000 (vr z))) (fun C=>by kernel_rfl)).trans (Eq.trans (b:=uM N a c d (fun z=>aW N (abe N) (vr z))) (by kernel_rfl) (congrArg (uM N a c d) (funext fun z=>aV (vr) (abe N) (xa N) (aoN N) N z)))) h fun _ ⟨f,_,e,_⟩=>⟨(f),e⟩
noncomputable def asx:aL:=tab (P:=Try.prog) [] [] [] [ak0]
def aqJ:IR:=Rs [Pp (.mov 2 (.c (.int .u32 0)))] (Sq (Rs [Mv 3 0,Bc 4 .lss 3 0] (Cn 4 (Rs [Mv 5 0,Bc 6 .add 5 1,Pp (.un 7 .neg 6),Pp (.cvi 8 .u64 7),Pp (.bin 9 .add 8 (kU 1)),Ca 10 154 [9,kI 23,kI 127],Pp (.cvi 11 .u32 10),Pp (.bin 12 .or (.c (.int .u32 2147483648)) 11),Mv 2 12] .ret) .skip)) (Rs [Mv 13 0,Pp (.cvi 14 .u64 13),Ca 15 154 [14,kI 23,kI 127],Pp (.cvi 16 .u32 15),Mv 2 16] .ret))
def aqK:List RV:=[.t 2]
theorem aqL:FnC Try.prog asx [] 0 aiV Try.f132 aqJ aqK:=fnC Try.func132
def ahU(N:Nat)(a:Int):Ro:=
 cond (decide (a<0)) (
 let b:=(IntKind.wrap .i64 (a+1))
 let c:=(IntKind.wrap .i64 (0-b))
 let d:=(IntKind.wrap .u64 ((IntKind.wrap .u64 c)+1))
 aF (nA d 23 127) (fun(e:Int)=>
 let f:=(oF .or .u32 2147483648 (IntKind.wrap .u32 e))
 some (.int .u32 f,[]))) (
 aF (nA (IntKind.wrap .u64 a) 23 127) (fun(g:Int)=>
 some (.int .u32 (IntKind.wrap .u32 g),[])))
def ahV(N:Nat)(a:Int):Ro:=ahU N a
theorem aoO(N:Nat)(b:Int)(h:Tot (ahV N b) (fun z=>∃(a:Int)(rest:List aJ),z.1.dimR=.int .u32 a∧z.2=rest)):∃r,uo b r:=aqL.finP0 (N:=N) (by kernel_rfl) h fun _ ⟨a,_,e,_⟩=>⟨(a),e⟩
noncomputable def aqM:aL:=tab (P:=Try.prog) [] [] [] [ak0]
def aoP:IR:=Rs [Pp (.mov 2 (kU 0))] (Sq (Rs [Mv 3 0,Bc 4 .lss 3 0] (Cn 4 (Rs [Mv 5 0,Bc 6 .add 5 1,Pp (.un 7 .neg 6),Pp (.cvi 8 .u64 7),Pp (.bin 9 .add 8 (kU 1)),Ca 10 154 [9,kI 52,kI 1023],Pp (.bin 11 .or (kU 9223372036854775808) 10),Mv 2 11] .ret) .skip)) (Rs [Mv 12 0,Pp (.cvi 13 .u64 12),Ca 14 154 [13,kI 52,kI 1023],Mv 2 14] .ret))
def aoQ:List RV:=[.t 2]
theorem aoR:FnC Try.prog aqM [] 0 ahe Try.f133 aoP aoQ:=fnC Try.func133
def afs(N:Nat)(a:Int):Ro:=
 cond (decide (a<0)) (
 let b:=(IntKind.wrap .i64 (a+1))
 let c:=(IntKind.wrap .i64 (0-b))
 let d:=(IntKind.wrap .u64 ((IntKind.wrap .u64 c)+1))
 aF (nA d 52 1023) (fun(e:Int)=>
 let f:=(oF .or .u64 9223372036854775808 e)
 some (.int .u64 f,[]))) (
 aF (nA (IntKind.wrap .u64 a) 52 1023) (fun(g:Int)=>
 some (.int .u64 g,[])))
def afu(N:Nat)(a:Int):Ro:=afs N a
theorem ane(N:Nat)(b:Int)(h:Tot (afu N b) (fun z=>∃(a:Int)(rest:List aJ),z.1.dimR=.int .u64 a∧z.2=rest)):∃r,oC b r:=aoR.finP0 (N:=N) (by kernel_rfl) h fun _ ⟨a,_,e,_⟩=>⟨(a),e⟩
end Go.Proofs.Ytdpajabhmmmjoaa
end
noncomputable section
namespace Go.Proofs.Ytdpajabhmmmjoaa
open Go.AM
set_option autoImplicit false
set_option linter.unusedSimpArgs false
set_option linter.unusedVariables false
theorem ab1(a:UInt8)(n:Nat)(h:n<256):(UInt8.ofNat n=a)↔(n=a.toNat):=by
 constructor
 ·rintro rfl;simp;omega
 ·intro h;subst h;simp
theorem axM(a b:UInt8)(v:Nat)(hv:v<32)(ha:a.toNat=192+v):
  gly (v*64+b.toNat%64)=[a,b]↔(128≤b.toNat∧b.toNat≤191∧128≤v*64+b.toNat%64):=by
 have hb:=UInt8.toNat_lt b
 unfold gly
 by_cases h1:v*64+b.toNat%64<128
 ·rw[if_pos h1]
  constructor
  ·intro h;simp at h
  ·omega
 ·rw[if_neg h1,if_pos (by omega)]
  simp only[List.cons.injEq,and_true]
  rw[ab1 _ _ (by omega),ab1 _ _ (by omega)]
  omega
theorem axN(a b c:UInt8)(v:Nat)(hv:v<16)(ha:a.toNat=224+v)(r:Nat)(hr:r=(v*64+b.toNat%64)*64+c.toNat%64):
  gly r=[a,b,c]↔(128≤b.toNat∧b.toNat≤191∧128≤c.toNat∧c.toNat≤191∧2048≤r∧¬(55296≤r∧r≤57343)):=by
 have hb:=UInt8.toNat_lt b
 have hc:=UInt8.toNat_lt c
 unfold gly
 by_cases h1:r<128
 ·rw[if_pos h1]
  constructor
  ·intro h;simp at h
  ·omega
 by_cases h2:r<2048
 ·rw[if_neg h1,if_pos h2]
  constructor
  ·intro h;simp at h
  ·omega
 by_cases h3:(55296≤r∧r<57344)∨1114111<r
 ·rw[if_neg h1,if_neg h2,if_pos h3]
  constructor
  ·intro h
   simp only[List.cons.injEq,and_true] at h
   obtain⟨rfl,rfl,rfl⟩:=h
   simp at ha hr
   omega
  ·omega
 ·rw[if_neg h1,if_neg h2,if_neg h3,if_pos (by omega)]
  simp only[List.cons.injEq,and_true]
  rw[ab1 _ _ (by omega),ab1 _ _ (by omega),ab1 _ _ (by omega)]
  omega
theorem axO(a b c d:UInt8)(v:Nat)(hv:v<8)(ha:a.toNat=240+v)(r:Nat)(hr:r=((v*64+b.toNat%64)*64+c.toNat%64)*64+d.toNat%64):
  gly r=[a,b,c,d]↔(128≤b.toNat∧b.toNat≤191∧128≤c.toNat∧c.toNat≤191∧128≤d.toNat∧d.toNat≤191∧65536≤r∧r≤1114111):=by
 have hb:=UInt8.toNat_lt b
 have hc:=UInt8.toNat_lt c
 have hd:=UInt8.toNat_lt d
 unfold gly
 by_cases h1:r<128
 ·rw[if_pos h1]
  constructor
  ·intro h;simp at h
  ·omega
 by_cases h2:r<2048
 ·rw[if_neg h1,if_pos h2]
  constructor
  ·intro h;simp at h
  ·omega
 by_cases h3:(55296≤r∧r<57344)∨1114111<r
 ·rw[if_neg h1,if_neg h2,if_pos h3]
  constructor
  ·intro h;simp at h
  ·omega
 by_cases h4:r<65536
 ·rw[if_neg h1,if_neg h2,if_neg h3,if_pos h4]
  constructor
  ·intro h;simp at h
  ·omega
 ·rw[if_neg h1,if_neg h2,if_neg h3,if_neg h4]
  simp only[List.cons.injEq,and_true]
  rw[ab1 _ _ (by omega),ab1 _ _ (by omega),ab1 _ _ (by omega),ab1 _ _ (by omega)]
  omega
theorem alP(n v:Nat)(s:List UInt8):(lM n v s).2 ≤s.length:=by
 unfold lM
 split
 ·simp
 ·dsimp only
  split
  ·dsimp only;omega
  ·simp
theorem awn(s:List UInt8):(acq s).2 ≤s.length:=by
 unfold acq
 split
 ·simp
 ·rename_i c t
  split
  ·simp
  ·split
   ·exact alP _ _ _
   ·split
    ·exact alP _ _ _
    ·split
     ·exact alP _ _ _
     ·simp
end Go.Proofs.Ytdpajabhmmmjoaa
end
noncomputable section
namespace Go.Proofs.Ytdpajabhmmmjoaa
open Go.AM
set_option autoImplicit false
set_option linter.unusedVariables false
set_option linter.unusedSimpArgs false
set_option maxRecDepth 100000
theorem ry{α R:Type}(n:Nat)(B:(α→Option R)→α→Option R)(x:α):aS (n+1) B x=B (aS n B) x:=rfl
theorem qu(N:Nat)(rec:(List UInt8×Int×Int×Int×Int)→Option (V×List aJ))(s:List UInt8)(v n i:Nat)(l:Int)(x:UInt8)(hx:s.getD i 0=x)(hv:v<2^20)(hi:i<n)(hn:n≤s.length)(h4:n≤4):
  ff N rec (s,(n:Int),(v:Int),l,(i:Int))=if 128≤x.toNat∧x.toNat≤191 then rec (s,(n:Int),((v*64+x.toNat%64:Nat):Int),l,((i+1:Nat):Int)) else some (.tup [.int .u32 0,.int .i64 0],[]):=by
 have hb:=UInt8.toNat_lt x
 simp only[ff,Int.toNat_natCast,hx]
 by_cases h1:x.toNat<128
 ·rw[if_neg (by omega)]
  simp(disch:=omega) only[jx,]
 by_cases h2:191<x.toNat
 ·rw[if_neg (by omega)]
  simp(disch:=omega) only[jx,]
 ·rw[if_pos (by omega)]
  simp(disch:=omega) only[jx,]
  rw[show (v:Int)*64+((x.toNat:Int)-128)=((v*64+x.toNat%64:Nat):Int) by omega]
  rfl
theorem agH(N:Nat)(rec:(List UInt8×Int×Int×Int×Int)→Option (V×List aJ))(s:List UInt8)(v n l:Nat):
  ff N rec (s,(n:Int),(v:Int),(l:Int),(n:Int))=if l≤v∧v≤1114111∧¬(55296≤v∧v≤57343) then some (.tup [.int .u32 v,.int .i64 n],[]) else some (.tup [.int .u32 0,.int .i64 0],[]):=by
 simp only[ff]
 by_cases h1:v<l
 ·rw[if_neg (by omega)];simp(disch:=omega) only[jx,]
 by_cases h2:1114111<v
 ·rw[if_neg (by omega)];simp(disch:=omega) only[jx,]
 by_cases h3:55296≤v
 ·by_cases h4:v≤57343
  ·rw[if_neg (by omega)];simp(disch:=omega) only[jx,]
  ·rw[if_pos (by omega)];simp(disch:=omega) only[jx,]
 ·rw[if_pos (by omega)];simp(disch:=omega) only[jx,]
theorem awo(M:Nat)(a b:UInt8)(t:List UInt8)(v:Nat)(hv:v<32)(ha:a.toNat=192+v):
  aS (M+5) (ff (M+5)) (a::b::t,((2:Nat):Int),(v:Int),((128:Nat):Int),((1:Nat):Int))=some (.tup [.int .u32 (lM 2 v (a::b::t)).1,.int .i64 (lM 2 v (a::b::t)).2],[]):=by
 have hg:=axM a b v hv ha
 rw[ry,qu _ _ _ _ 2 1 _ b rfl (by omega) (by omega) (by simp) (by omega),ry,agH]
 simp only[lM]
 rw[if_neg (show ¬(a::b::t).length<2 by simp)]
 simp only[List.take_succ_cons,List.take_zero,List.tail_cons,List.foldl_cons,List.foldl_nil,hg]
 by_cases h1:128≤b.toNat∧b.toNat≤191
 ·rw[if_pos h1]
  by_cases h2:128≤v*64+b.toNat%64
  ·rw[if_pos (by omega),if_pos (by omega)]
  ·rw[if_neg (by omega),if_neg (by omega)];rfl
 ·rw[if_neg h1,if_neg (by omega)];rfl
theorem awp(M:Nat)(a b c:UInt8)(t:List UInt8)(v:Nat)(hv:v<16)(ha:a.toNat=224+v):
  aS (M+5) (ff (M+5)) (a::b::c::t,((3:Nat):Int),(v:Int),((2048:Nat):Int),((1:Nat):Int))=some (.tup [.int .u32 (lM 3 v (a::b::c::t)).1,.int .i64 (lM 3 v (a::b::c::t)).2],[]):=by
 have hg:=axN a b c v hv ha _ rfl
 rw[ry,qu _ _ _ _ 3 1 _ b rfl (by omega) (by omega) (by simp) (by omega),ry,qu _ _ _ _ 3 2 _ c rfl (by omega) (by omega) (by simp) (by omega),ry,agH]
 simp only[lM]
 rw[if_neg (show ¬(a::b::c::t).length<3 by simp)]
 simp only[List.take_succ_cons,List.take_zero,List.tail_cons,List.foldl_cons,List.foldl_nil,hg]
 by_cases h1:128≤b.toNat∧b.toNat≤191
 ·rw[if_pos h1]
  by_cases h2:128≤c.toNat∧c.toNat≤191
  ·rw[if_pos h2]
   by_cases h3:2048≤(v*64+b.toNat%64)*64+c.toNat%64∧¬(55296≤(v*64+b.toNat%64)*64+c.toNat%64∧(v*64+b.toNat%64)*64+c.toNat%64≤57343)
   ·rw[if_pos (by omega),if_pos (by omega)]
   ·rw[if_neg (by omega),if_neg (by omega)];rfl
  ·rw[if_neg h2,if_neg (by omega)];rfl
 ·rw[if_neg h1,if_neg (by omega)];rfl
theorem awq(M:Nat)(a b c d:UInt8)(t:List UInt8)(v:Nat)(hv:v<8)(ha:a.toNat=240+v):
  aS (M+5) (ff (M+5)) (a::b::c::d::t,((4:Nat):Int),(v:Int),((65536:Nat):Int),((1:Nat):Int))=some (.tup [.int .u32 (lM 4 v (a::b::c::d::t)).1,.int .i64 (lM 4 v (a::b::c::d::t)).2],[]):=by
 have hg:=axO a b c d v hv ha _ rfl
 rw[ry,qu _ _ _ _ 4 1 _ b rfl (by omega) (by omega) (by simp) (by omega),ry,qu _ _ _ _ 4 2 _ c rfl (by omega) (by omega) (by simp) (by omega),ry,qu _ _ _ _ 4 3 _ d rfl (by omega) (by omega) (by simp) (by omega),ry,agH]
 simp only[lM]
 rw[if_neg (show ¬(a::b::c::d::t).length<4 by simp)]
 simp only[List.take_succ_cons,List.take_zero,List.tail_cons,List.foldl_cons,List.foldl_nil,hg]
 by_cases h1:128≤b.toNat∧b.toNat≤191
 ·rw[if_pos h1]
  by_cases h2:128≤c.toNat∧c.toNat≤191
  ·rw[if_pos h2]
   by_cases h3:128≤d.toNat∧d.toNat≤191
   ·rw[if_pos h3]
    by_cases h4:65536≤((v*64+b.toNat%64)*64+c.toNat%64)*64+d.toNat%64∧((v*64+b.toNat%64)*64+c.toNat%64)*64+d.toNat%64≤1114111
    ·rw[if_pos (by omega),if_pos (by omega)]
    ·rw[if_neg (by omega),if_neg (by omega)];rfl
   ·rw[if_neg h3,if_neg (by omega)];rfl
  ·rw[if_neg h2,if_neg (by omega)];rfl
 ·rw[if_neg h1,if_neg (by omega)];rfl
theorem alQ(M:Nat)(s:List UInt8)(hl:s.length≤9223372036854775807):
  abd (M+5) s=some (.tup [.int .u32 (yq s).1,.int .i64 (yq s).2],[]):=by
 match s with
 | []=>rfl
 |c::t=>
  have hc:c.toNat<256:=UInt8.toNat_lt _
  rw[List.length_cons] at hl
  simp only[abd,sE,yq,acq,List.length_cons,Int.toNat_zero,List.getD_cons_zero]
  by_cases h1:c.toNat<128
  ·simp(disch:=omega) only[jx,]
   rfl
  by_cases h0:c.toNat<192
  ·simp(disch:=omega) only[jx,]
   rfl
  by_cases h2:c.toNat<224
  ·have e:c.toNat / 32=6:=by omega
   match t with
   | []=>simp(disch:=omega) only[jx,lM,List.length_cons,List.length_nil];rfl
   |b::t=>
    rw[List.length_cons] at hl
    simp(disch:=omega) only[jx,e,List.length_cons]
    rw[show (c.toNat:Int)-192=((c.toNat%32:Nat):Int) by omega]
    exact awo M c b t _ (by omega) (by omega)
  by_cases h3:c.toNat<240
  ·have e:c.toNat / 16=14:=by omega
   match t with
   | []=>simp(disch:=omega) only[jx,lM,List.length_cons,List.length_nil];rfl
   | [b]=>simp(disch:=omega) only[jx,lM,List.length_cons,List.length_nil];rfl
   |b::d::t=>
    rw[List.length_cons,List.length_cons] at hl
    simp(disch:=omega) only[jx,e,List.length_cons]
    rw[show (c.toNat:Int)-224=((c.toNat%16:Nat):Int) by omega]
    exact awp M c b d t _ (by omega) (by omega)
  by_cases h4:c.toNat<248
  ·have e:c.toNat / 8=30:=by omega
   match t with
   | []=>simp(disch:=omega) only[jx,lM,List.length_cons,List.length_nil];rfl
   | [b]=>simp(disch:=omega) only[jx,lM,List.length_cons,List.length_nil];rfl
   | [b,d]=>simp(disch:=omega) only[jx,lM,List.length_cons,List.length_nil];rfl
   |b::d::f::t=>
    rw[List.length_cons,List.length_cons,List.length_cons] at hl
    simp(disch:=omega) only[jx,e,List.length_cons]
    rw[show (c.toNat:Int)-240=((c.toNat%8:Nat):Int) by omega]
    exact awq M c b d f t _ (by omega) (by omega)
  ·simp(disch:=omega) only[jx,]
   rfl
end Go.Proofs.Ytdpajabhmmmjoaa
end
noncomputable section
namespace Go.Proofs.Ytdpajabhmmmjoaa
open Go.AM
set_option autoImplicit false
set_option linter.unusedVariables false
set_option linter.unusedSimpArgs false
set_option maxRecDepth 100000
theorem auF(c:Int):∃r,sh c r:=by
 apply ana 1
 unfold afq afp
 dsimp only
 repeat' (first|(with_reducible refine aC ?_ ?_<;>(intro hb;(try simp only[bnl] at hb);(try revert hb;intro _)))|with_reducible refine aH ?_ ?_|with_reducible refine aE ?_|fail)
 all_goals exact⟨_,_,rfl,rfl⟩
theorem avu(c:Int):∃r,uw c r:=by
 apply aoH 1
 unfold ahO ahN
 repeat' (first|(with_reducible refine aC ?_ ?_<;>(intro hb;(try simp only[bnl] at hb);(try revert hb;intro _)))|with_reducible refine aH ?_ ?_|with_reducible refine aE ?_|fail)
 all_goals exact⟨_,_,rfl,rfl⟩
theorem agI(s:List UInt8)(hs:s.length≤1000000):∃r,kG s r:=by
 apply aqu 2000000
 unfold ajO uL
 refine aT (fun x=>x.1=s∧0≤x.2∧x.2≤(s.length:Int)) (fun x=>((s.length:Int)-x.2).toNat) ?_ _ _ ⟨rfl,by simp,by simp⟩ (by simp;omega)
 rintro again ⟨a,i⟩ ⟨rfl,i1,i2⟩ ih
 simp only at i1 i2 ih hs ⊢
 have next:i<a.length→Tot (again (a,IntKind.i64.wrap (i+1))) _:=fun h=>ih (a,IntKind.i64.wrap (i+1)) (by simp only[aI (i+1) (by omega)];exact⟨trivial,by omega,by omega⟩) (by simp only[aI (i+1) (by omega)];omega)
 unfold w7
 dsimp only
 repeat' (first|(with_reducible refine aC ?_ ?_<;>(intro hb;(try simp only[bnl] at hb);(try revert hb;intro _)))|with_reducible refine aH ?_ ?_|with_reducible refine aE ?_|(refine aD (auF _) ?_;intro _ _)|(refine aD (avu _) ?_;intro _ _)|(exact next (by assumption))|fail)
 all_goals first|exact⟨_,_,rfl,rfl⟩|(simp only[bnl];omega)
theorem awr(a b:List UInt8)(ha:a.length≤1000000)(hb:b.length≤1000000):∃r,wj a b r:=by
 apply aqz 1
 unfold ajQ ajP
 dsimp only
 repeat' (first|(with_reducible refine aC ?_ ?_<;>(intro hb;(try simp only[bnl] at hb);(try revert hb;intro _)))|with_reducible refine aH ?_ ?_|with_reducible refine aE ?_|fail)
 all_goals first|exact⟨_,_,rfl,rfl,by simp only[va,List.length_append,List.length_cons,List.length_nil];omega⟩|(simp only[bnl,List.length_append,List.length_cons,List.length_nil];omega)
theorem avv(s:List UInt8)(hs:s.length≤1000000):∃r,uu s r:=by
 apply aoJ 2000000
 unfold ahQ sD
 refine aT (fun x=>x.1=s∧0≤x.2.2∧x.2.2≤(s.length:Int)+1∧(x.2.1.length:Int)≤x.2.2) (fun x=>((s.length:Int)+1-x.2.2).toNat) ?_ _ _ ⟨rfl,by simp,by simp;omega,by simp⟩ (by simp;omega)
 rintro again ⟨a,p,i⟩ ⟨rfl,i1,i2,i3⟩ ih
 simp only at i1 i2 i3 ih hs ⊢
 have next:∀q:List UInt8,i≤a.length→(q.length:Int)≤i+1→Tot (again (a,q,IntKind.i64.wrap (i+1))) _:=fun q h hq=>ih (a,q,IntKind.i64.wrap (i+1)) (by simp only[aI (i+1) (by omega)];exact⟨trivial,by omega,by omega,by omega⟩) (by simp only[aI (i+1) (by omega)];omega)
 unfold vp
 dsimp only
 repeat' (first|(with_reducible refine aC ?_ ?_<;>(intro hb;(try simp only[bnl] at hb);(try revert hb;intro _)))|with_reducible refine aH ?_ ?_|with_reducible refine aE ?_|(refine aD (agI _ (by omega)) ?_;intro _ _)|fail)
 all_goals first|exact⟨_,_,rfl,rfl⟩|(refine next _ (by omega) ?_)|skip
 all_goals try simp(disch:=omega) only[jx,bnl,List.length_append,List.length_cons,List.length_nil,List.length_drop,List.length_take]
 all_goals first|omega|skip
theorem axP(v k:Int)(hk:0≤k)(h:(xi .u64 v k==0)=true)(hv:0<v):0<k:=by
 rcases Int.lt_or_eq_of_le hk with h1|h1
 ·exact h1
 ·subst h1
  simp[xi] at h
  omega
theorem axE:∀k:Nat,k<64→(!(nH .u64 1 (k:Int)==0))=true:=by
 intro k hk
 have:∀k:Fin 64,(!(nH .u64 1 ((k:Nat):Int)==0))=true:=by decide
 exact this ⟨k,hk⟩
theorem asy(v a b:Int)(hv:0≤v)(ha:0≤a)(ha2:a≤60)(hb:0≤b)(hb2:b≤2000):∃r,nA v a b r:=by
 apply aqI 100
 unfold ajS uM
 repeat' (first|(with_reducible refine aC ?_ ?_<;>(intro hb;(try simp only[bnl] at hb);(try revert hb;intro _)))|with_reducible refine aH ?_ ?_|with_reducible refine aE ?_|fail)
 ·exact⟨_,_,rfl,rfl⟩
 rename_i hne
 refine aT (fun x=>x.1=v∧x.2.1=a∧x.2.2.1=b∧0≤x.2.2.2∧x.2.2.2≤63) (fun x=>x.2.2.2.toNat) ?_ _ _ ⟨rfl,rfl,rfl,by simp,by simp⟩ (by simp)
 rintro again ⟨v,a,b,k⟩ ⟨rfl,rfl,rfl,i1,i2⟩ ih
 simp only at i1 i2 ih hne hv ha ha2 hb hb2 ⊢
 unfold xa
 dsimp only
 have e1:=aI (k-1) (by omega)
 have e2:=aI (a-k) (by omega)
 have e3:=aI (k-a) (by omega)
 refine aH (by simp only[bnl];omega) (aC (fun h=>?_) (fun h=>aC (fun h1=>?_) (fun h1=>?_)))
 ·have:=axP v k i1 h (by omega)
  exact ih (v,a,b,_) (by simp only[e1];exact⟨trivial,trivial,trivial,by omega,by omega⟩) (by simp only[e1];omega)
 ·simp only[bnl] at h1
  repeat' (first|(with_reducible refine aC ?_ ?_<;>(intro hb;(try simp only[bnl] at hb);(try revert hb;intro _)))|with_reducible refine aH ?_ ?_|with_reducible refine aE ?_|fail)
  all_goals first|exact⟨_,_,rfl,rfl⟩|(simp only[bnl,e2];omega)
 ·simp only[bnl] at h1
  have e4:=aI (k-a-1) (by omega)
  have:=axE (k-a).toNat (by omega)
  rw[Int.toNat_of_nonneg (by omega)] at this
  simp only[e3,e4]
  repeat' (first|(with_reducible refine aC ?_ ?_<;>(intro hb;(try simp only[bnl] at hb);(try revert hb;intro _)))|with_reducible refine aH ?_ ?_|with_reducible refine aE ?_|fail)
  all_goals first|exact⟨_,_,rfl,rfl⟩|exact this|(simp only[bnl];omega)
theorem aef(n:Int):0≤IntKind.u64.wrap n:=by
 simp only[IntKind.wrap,IntKind.signed,IntKind.bits,Bool.false_and,Bool.false_eq_true,if_false]
 exact Int.emod_nonneg _ (by decide)
theorem avw(n:Int):∃r,uo n r:=by
 apply aoO 1
 unfold ahV ahU
 dsimp only
 repeat' (first|(with_reducible refine aC ?_ ?_<;>(intro hb;(try simp only[bnl] at hb);(try revert hb;intro _)))|with_reducible refine aH ?_ ?_|with_reducible refine aE ?_|(refine aD (asy _ _ _ (aef _) (by omega) (by omega) (by omega) (by omega)) ?_;intro _ _)|fail)
 all_goals exact⟨_,_,rfl,rfl⟩
theorem auG(n:Int):∃r,oC n r:=by
 apply ane 1
 unfold afu afs
 dsimp only
 repeat' (first|(with_reducible refine aC ?_ ?_<;>(intro hb;(try simp only[bnl] at hb);(try revert hb;intro _)))|with_reducible refine aH ?_ ?_|with_reducible refine aE ?_|(refine aD (asy _ _ _ (aef _) (by omega) (by omega) (by omega) (by omega)) ?_;intro _ _)|fail)
 all_goals exact⟨_,_,rfl,rfl⟩
theorem avx(s:List UInt8)(hs:s.length≤1000000):∃r,um s r:=by
 apply aoM 100
 exact⟨_,alQ 95 s (by omega),_,_,_,rfl,rfl,rfl⟩
theorem avy(s:List UInt8):0≤(yq s).2 ∧(yq s).2 ≤s.length:=by
 have:=awn s
 simp only[yq]
 omega
theorem avz(s:List UInt8)(hs:s.length≤1000000):∃r,uv s r:=by
 apply aoK 1
 unfold ahS ahR
 refine aD (avx s hs) ?_
 rintro⟨a,b⟩ ⟨-,h⟩
 exact aE ⟨_,_,_,rfl,rfl,h⟩
theorem qv(k n:Int)(s:List UInt8)(l:List aB)(names:List (List UInt8))(name:List UInt8)(hl:names.length≤1000):∃r,dx k n s l names name r:=by
 apply asn 2000
 unfold ala wt
 refine aT (fun x=>x.1=name∧x.2.1=k∧x.2.2.2.2.1=l∧x.2.2.2.2.2.1=names∧0≤x.2.2.2.2.2.2.1∧x.2.2.2.2.2.2.1≤(names.length:Int)∧∀j:Nat,(j:Int)<x.2.2.2.2.2.2.1→names.getD j []≠name)
  (fun x=>((names.length:Int)-x.2.2.2.2.2.2.1).toNat) ?_ _ _ ⟨rfl,rfl,rfl,rfl,by simp,by simp,fun j hj=>by simp at hj;omega⟩ (by simp;omega)
 rintro again ⟨a0,a1,a2,a3,a4,a5,i,b0,b1,b2,b3,b4⟩ ⟨rfl,rfl,rfl,rfl,i1,i2,i3⟩ ih
 simp only at i1 i2 i3 ih hl ⊢
 unfold yR
 dsimp only
 repeat' (first|(with_reducible refine aC ?_ ?_<;>(intro hb;(try simp only[bnl] at hb);(try revert hb;intro _)))|with_reducible refine aH ?_ ?_|with_reducible refine aE ?_|fail)
 ·simp only[bnl];omega
 ·simp only[bnl];omega
 ·rename_i hk hb hc hb2
  have e:=ash (names:=a5) (l:=a4) (name:=a0) (i:=i.toNat) (by omega) (by omega) (fun j hj=>i3 j (by omega)) hb2
  refine⟨_,_,_,_,_,_,_,rfl,rfl,?_⟩
  simp only[cX]
  rw[if_pos hk,e];rfl
 ·rename_i hk hb hc hb2
  have ew:=aI (i+1) (by omega)
  refine ih _ ⟨rfl,rfl,rfl,rfl,?_,?_,?_⟩ ?_
  ·simp only[ew];omega
  ·simp only[ew];omega
  ·simp only[ew]
   intro j hj
   by_cases e:(j:Int)=i
   ·have:i.toNat=j:=by omega
    rw[this] at hb2
    exact hb2
   ·exact i3 j (by omega)
  ·simp only[ew];omega
 ·rename_i hk hb hc
  refine⟨_,_,_,_,_,_,_,rfl,rfl,?_⟩
  simp only[cX]
  rw[if_pos hk,ajK (i:=i.toNat) (fun j hj=>i3 j (by omega)) (.inr (by omega))]
  rfl
 ·rename_i hk hb
  refine⟨_,_,_,_,_,_,_,rfl,rfl,?_⟩
  simp only[cX]
  rw[if_pos hk,ajK (i:=i.toNat) (fun j hj=>i3 j (by omega)) (.inl (by omega))]
  rfl
 ·rename_i hk
  refine⟨_,_,_,_,_,_,_,rfl,rfl,?_⟩
  simp only[cX]
  rw[if_neg hk];rfl
end Go.Proofs.Ytdpajabhmmmjoaa
end
noncomputable section
namespace Go.Proofs.Ytdpajabhmmmjoaa
open Go.AM
set_option autoImplicit false
set_option linter.unusedVariables false
set_option maxRecDepth 100000
end Go.Proofs.Ytdpajabhmmmjoaa
end
noncomputable section
namespace Go.AM
set_option autoImplicit false
set_option linter.unusedSimpArgs false
set_option linter.unusedVariables false
end Go.AM
end
noncomputable section
namespace Go.Proofs.Ytdpajabhmmmjoaa
open Go.AM
set_option autoImplicit false
set_option linter.unusedSimpArgs false
set_option linter.unusedVariables false
end Go.Proofs.Ytdpajabhmmmjoaa
end
noncomputable section
namespace Go.Proofs.Ytdpajabhmmmjoaa
open Go.AM
set_option autoImplicit false
set_option linter.unusedSimpArgs false
set_option linter.unusedVariables false
end Go.Proofs.Ytdpajabhmmmjoaa
end
noncomputable section
namespace Go.Proofs.Ytdpajabhmmmjoaa
open Go.AM
set_option autoImplicit false
set_option linter.unusedVariables false
set_option maxRecDepth 100000
end Go.Proofs.Ytdpajabhmmmjoaa
end
noncomputable section
namespace Go.Proofs.Ytdpajabhmmmjoaa
open Go.AM
set_option autoImplicit false
set_option linter.unusedSimpArgs false
set_option linter.unusedVariables false
theorem aO.eta(v:aO):aO.mk v.n v.s v.l v.keys v.branch=v:=by cases v;rfl
end Go.Proofs.Ytdpajabhmmmjoaa
end
noncomputable section
namespace Go.Proofs.Ytdpajabhmmmjoaa
open Go.AM
set_option autoImplicit false
set_option linter.unusedSimpArgs false
set_option linter.unusedVariables false
set_option maxRecDepth 100000
end Go.Proofs.Ytdpajabhmmmjoaa
end
noncomputable section
namespace Go.Proofs.Ytdpajabhmmmjoaa
open Go.AM
set_option autoImplicit false
set_option linter.unusedVariables false
set_option linter.unusedSimpArgs false
set_option maxRecDepth 100000
theorem agJ{P:Program}{f:FuncId}{vs:List V}{R:Type}{ret:R→V}{r0:R}(h:(∀x∈vs,x.fits)→∃r,aU P f vs (ret r)∧r=r0):∃r,aU P f vs (ret r)∧r=r0:=
 ⟨r0,aU.fits fun hf=>by obtain⟨r,h1,rfl⟩:=h hf;exact h1,rfl⟩
end Go.Proofs.Ytdpajabhmmmjoaa
end
