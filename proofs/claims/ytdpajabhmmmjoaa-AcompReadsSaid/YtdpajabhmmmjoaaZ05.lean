import Derived.KernelRfl
import Derived.Test.YtdpajabhmmmjoaaZ02
import Derived.Test.YtdpajabhmmmjoaaZ03
import Derived.Test.YtdpajabhmmmjoaaZ04
noncomputable section
namespace Go.Proofs.Ytdpajabhmmmjoaa
open Go.AM
set_option autoImplicit false
set_option linter.unusedSimpArgs false
set_option linter.unusedVariables false
set_option maxRecDepth 100000
theorem aA3{α:Type}(p:α→Bool)(d:α)(l:List α)(i:Int)(h0:0≤i)(h:i<l.length):(l.drop i.toNat).all p=(p (l.getD i.toNat d)&&(l.drop (i+1).toNat).all p):=by
 rw[List.drop_eq_getElem_cons (by omega),List.all_cons,show (i+1).toNat=i.toNat+1 by omega]
 simp[List.getD,show i.toNat<l.length by omega]
theorem amM(l:List aM):∀ns,lA l ns=-1∨(0≤lA l ns∧lA l ns<l.length)
 | []=>.inl rfl
 |s::r=>by
  rw[lA]
  split
  ·rename_i h
   rcases aaH (fun f:aM=>decide (f.name=s)) l 0 with e|e
   ·rw[agI,e] at h;simp at h
   ·right;rw[agI];omega
  ·exact amM l r
theorem ac7.of{r:List aA}(h:cw r):ac7 r:=fun x hx=>by have:=(h.2 x hx).na;omega
section
variable(m:af5)(w r:List aA)(has:List Bool)
theorem ay9(t q:Int):∃x,ge m w r has t q x:=by
 apply ac9 1
 unfold n8 ve
 exact aF ⟨_,rfl,rfl,rfl⟩
theorem awR(l:List Int)(q:Int)(hl:l.length≤1000):∃x,bI m w r has l q x:=by
 apply nH (l.length+1)
 unfold dy bG
 dsimp only
 refine aU (fun x=>match x with|(l',q',n,i,m',w',r',h')=>l'=l∧q'=q∧n=(l.length:Int)∧m'=m∧w'=w∧r'=r∧h'=has∧Fst (fun t=>noS m (t,q)) l i) (fun x=>(l.length-x.2.2.2.1:Int).toNat) ?_ _ _ ⟨rfl,rfl,rfl,rfl,rfl,rfl,rfl,.zero _ _⟩ (by simp only;omega)
 rintro again ⟨l',q',n,i,m',w',r',h'⟩ ⟨rfl,rfl,rfl,rfl,rfl,rfl,rfl,i2⟩ ih
 dsimp only at i2 ih
 have h0:=i2.nn
 unfold cg
 dsimp only
 refine aC (fun h=>?_) (fun h=>aF ⟨_,rfl,rfl,(i2.none (of_decide_eq_false h)).symm⟩)
 have h:=of_decide_eq_true h
 rw[aI (i+1) (by omega)]
 refine aJ (ixt (by omega)) (aE (ay9 _ _ _ _ _ _) ?_)
 rintro(x:Bool) ⟨-,hx⟩
 have hx:x=noS m' (l'.getD i.toNat (aB (.num .i64)),q'):=hx
 exact aC (fun hb=>aF ⟨_,rfl,rfl,(i2.hit _ h (hx.symm.trans hb)).symm⟩) (fun hb=>ih _ ⟨rfl,rfl,rfl,rfl,rfl,rfl,rfl,i2.next _ h (hx.symm.trans hb)⟩ (by simp only;omega))
theorem auX(l:List Int)(q:Int)(hl:l.length≤1000):∃x,bB m w r has l q x:=by
 apply mj 1
 unfold da fg
 refine aE (awR m w r has l q hl) ?_
 rintro(x:Int) ⟨-,hx⟩
 have hx:x=cG _ l 0:=hx
 exact aF ⟨_,rfl,rfl,by rw[hx];exact tb _ _ _⟩
theorem axY(a b:aA)(h1:a.fields.length≤8)(h2:b.fields.length≤8)(h3:∀f∈b.fields,f.aliases.length≤100):∃x,gW m w r has a b x:=by
 apply afc 20
 unfold pC gA
 dsimp only
 refine aU (fun x=>match x with|(a',fs,n,i,m',w',r',h')=>a'=a∧fs=b.fields∧n=(b.fields.length:Int)∧m'=m∧w'=w∧r'=r∧h'=has∧0≤i∧i≤(b.fields.length:Int)∧b.fields.all (tP (noS m) a)=(b.fields.drop i.toNat).all (tP (noS m) a)) (fun x=>(b.fields.length-x.2.2.2.1:Int).toNat) ?_ _ _ ⟨rfl,rfl,rfl,rfl,rfl,rfl,rfl,by omega,by omega,rfl⟩ (by simp only;omega)
 rintro again ⟨a',fs,n,i,m',w',r',h'⟩ ⟨rfl,rfl,rfl,rfl,rfl,rfl,rfl,i1,i2,i3⟩ ih
 dsimp only at i3 ih
 unfold jq
 dsimp only
 refine aC (fun h=>?_) (fun h=>aF ⟨_,rfl,rfl,?_⟩)
 ·have h:=of_decide_eq_true h
  rw[aA3 _ (aB .afield) _ _ i1 h] at i3
  have hf:=h3 _ (cA b.fields i.toNat (aB .afield) (by omega))
  rw[aI (i+1) (by omega),av1]
  refine aJ (ixt (by omega)) ?_
  have hN:tP (noS m') a' (b.fields.getD i.toNat (aB .afield))=tP (noS m') a' (b.fields.getD i.toNat (aB .afield)):=rfl
  generalize b.fields.getD i.toNat (aB .afield)=f at i3 hf ⊢
  refine aE (az5 a' f (by omega) (by omega)) ?_
  rintro(x:Int) ⟨-,hx⟩
  have hx:x=lA a'.fields (f.name::f.aliases):=hx
  have hr:=amM a'.fields (f.name::f.aliases)
  rw[←hx] at hr
  have hF:tP (noS m') a' f= !((decide (x<0)&& !f.hasdef)||(decide (0≤x)&&noS m' ((a'.fields.getD x.toNat (aB .afield)).typ,f.typ))):=by rw[hx];rfl
  have next:tP (noS m') a' f=true→Tot (again (a',b.fields,(b.fields.length:Int),i+1,m',w',r',h')) _:=fun e=>ih _ ⟨rfl,rfl,rfl,rfl,rfl,rfl,rfl,by simp only;omega,by simp only;omega,by rw[i3,e];rfl⟩ (by simp only;omega)
  have stop:tP (noS m') a' f=false→nU m' w' r' h' a' b false:=fun e=>by
   show false=_
   rw[i3,e];rfl
  refine aC (fun hx0=>aC (fun hd=>aF ⟨_,rfl,rfl,stop ?_⟩) (fun hd=>aC (fun hx1=>?_) (fun hx1=>next ?_))) (fun hx0=>aC (fun hx1=>aJ (ixt (by have:=of_decide_eq_true hx1;omega)) (aC (fun hq=>aF ⟨_,rfl,rfl,stop ?_⟩) (fun hq=>next ?_))) (fun hx1=>?_))
  ·rw[hF,hx0,hd];rfl
  ·have:=of_decide_eq_true hx0;have:=of_decide_eq_true hx1;omega
  ·rw[hF,hx0,hd,hx1];rfl
  ·rw[hF,hx0,hx1,show noS m' ((a'.fields.getD x.toNat (aB .afield)).typ,f.typ)=true from hq];rfl
  ·rw[hF,hx0,hx1,show noS m' ((a'.fields.getD x.toNat (aB .afield)).typ,f.typ)=false from hq];rfl
  ·have:=of_decide_eq_false hx0;have:=of_decide_eq_false hx1;omega
 ·have h:=of_decide_eq_false h
  show true=_
  rw[i3,List.drop_eq_nil_of_le (by omega)];rfl
theorem az7(hw:cw w)(hr:cw r)(t q:Int)(ht:0≤t∧t<w.length)(hq:0≤q∧q<r.length)(hh:has.length=w.length):∃x,iH m w r has t q x:=by
 apply afy 1
 unfold qo yv
 dsimp only
 have ka:=hw.at (i:=t.toNat) (by omega)
 have kb:=hr.at (i:=q.toNat) (by omega)
 have hbr:(r.getD q.toNat (aB .atype)).branches.length≤1000:=by have:=kb.nb;omega
 have hS:acq has (noS m) w r t q=(!(has.getD t.toNat (aB .bool))||gw (noS m) w r t q (w.getD t.toNat (aB .atype)) (r.getD q.toNat (aB .atype))):=rfl
 have hB:rB w r t q=cG (fun b=>dl w r t b) (r.getD q.toNat (aB .atype)).branches 0:=rfl
 have hBr:=aaH (fun b=>dl w r t b) (r.getD q.toNat (aB .atype)).branches 0
 rw[←hB] at hBr
 have hnb:=ka.nb
 have hns:=ka.ns
 have hna:=ka.nf
 have hns2:=kb.ns
 have hnf2:=kb.nf
 have hfal:=kb.fal
 refine aJ (ixt (by omega)) (aJ (ixt (by omega)) (aJ (ixt (by omega)) ?_))
 have bcall:=fun(Q:Go.AM.V×List aK→Prop)(K:Int→Ro)(h:∀x,x=rB w r t q→Tot (K x) Q)=>aE (K:=K) (Q:=Q) (axW w r t q (ac7.of hr) hq hbr) (fun x hx=>h x hx.2)
 generalize has.getD t.toNat (aB .bool)=hb at hS ⊢
 generalize w.getD t.toNat (aB .atype)=a at hS hnb hns hna ⊢
 generalize r.getD q.toNat (aB .atype)=b at hS hBr hns2 hnf2 hfal ⊢
 have fin:∀x:Bool,x=(!hb||gw (noS m) w r t q a b)→jk m w r has t q x:=fun x h=>h.trans hS.symm
 refine aC (fun h=>aF ⟨_,rfl,rfl,fin _ (by rw[h];rfl)⟩) (fun h=>?_)
 have fin:∀x:Bool,x=gw (noS m) w r t q a b→jk m w r has t q x:=fun x hx=>fin x (by rw[h];exact hx)
 refine aC (fun h14=>?_) (fun h14=>?_)
 ·have h14:a.kind=14:=by simpa using h14
  refine aE (auX _ _ _ _ _ _ (by omega)) ?_
  rintro(x:Bool) ⟨-,hx⟩
  have hx:x=a.branches.any fun t=>noS m (t,q):=hx
  refine aF ⟨_,rfl,rfl,fin _ ?_⟩
  rw[gw,if_pos h14,hx,List.not_any_eq_all_not]
 have h14:a.kind≠14:=by simpa using h14
 refine aC (fun h15=>bcall _ _ fun x hx=>?_) (fun h15=>?_)
 ·have h15:b.kind=14:=by simpa using h15
  refine aC (fun h0=>aJ (ixt (by have:=of_decide_eq_true h0;omega)) (aF ⟨_,rfl,rfl,fin _ ?_⟩)) (fun h0=>aF ⟨_,rfl,rfl,fin _ ?_⟩)
  ·rw[gw,if_neg h14,if_pos h15,←hx,h0];rfl
  ·rw[gw,if_neg h14,if_pos h15,←hx,h0];rfl
 have h15:b.kind≠14:=by simpa using h15
 refine aE (ad1 w r t q (ac7.of hr)) ?_
 rintro(x:Bool) ⟨-,hx⟩
 have hx:x=dl w r t q:=hx
 refine aC (fun h0=>aF ⟨_,rfl,rfl,fin _ ?_⟩) (fun h0=>?_)
 ·have h0:x=false:=by simpa using h0
  rw[gw,if_neg h14,if_neg h15,←hx,h0];rfl
 have h0:x=true:=by simpa using h0
 have hm:¬dl w r t q=false:=by rw[←hx,h0];decide
 refine aC (fun h12=>aF ⟨_,rfl,rfl,fin _ ?_⟩) (fun h12=>aC (fun h13=>aF ⟨_,rfl,rfl,fin _ ?_⟩) (fun h13=>aC (fun h10=>aC (fun hd=>aF ⟨_,rfl,rfl,fin _ ?_⟩) (fun hd=>?_)) (fun h10=>aC (fun h9=>?_) (fun h9=>aF ⟨_,rfl,rfl,fin _ ?_⟩))))
 all_goals simp only[beq_iff_eq,beq_eq_false_iff_ne,ne_eq] at*
 ·rw[gw,if_neg h14,if_neg h15,if_neg hm,if_pos (.inl h12)];rfl
 ·rw[gw,if_neg h14,if_neg h15,if_neg hm,if_pos (.inr h13)];rfl
 ·rw[gw,if_neg h14,if_neg h15,if_neg hm,if_neg (by omega),if_pos h10,hd];rfl
 ·refine aE (auW _ _ _ _ _ _ _ _ _ _ _ (by omega) (by omega)) ?_
  rintro(y:Bool) ⟨-,hy⟩
  have hy:y=a.syms.any fun s=> !decide (s∈b.syms):=hy
  refine aF ⟨_,rfl,rfl,fin _ ?_⟩
  rw[gw,if_neg h14,if_neg h15,if_neg hm,if_neg (by omega),if_pos h10,hd,hy,List.not_any_eq_all_not]
  simp
 ·refine aE (axY _ _ _ _ a b hna hnf2 hfal) ?_
  rintro(y:Bool) ⟨-,hy⟩
  have hy:y=b.fields.all (tP (noS m) a):=hy
  refine aF ⟨_,rfl,rfl,fin _ ?_⟩
  rw[gw,if_neg h14,if_neg h15,if_neg hm,if_neg (by omega),if_neg h10,if_pos h9,hy]
 ·rw[gw,if_neg h14,if_neg h15,if_neg hm,if_neg (by omega),if_neg h10,if_neg h9]
end
end Go.Proofs.Ytdpajabhmmmjoaa
end
noncomputable section
namespace Go.Proofs.Ytdpajabhmmmjoaa
open Go.AM
set_option autoImplicit false
set_option linter.unusedVariables false
set_option maxRecDepth 100000
abbrev aq8:FuncId:=16
abbrev aza:=List Bool
noncomputable def xx(a:List aA)(r:aza):Prop:=aV Try.prog aq8 [.agg [.sl .atype (.may false) a]] (.sl .bool (.may false) r)∧ajR a r
noncomputable def azb:bA Try.prog:=.mk 16 fun us=>match us with
 | [.agg [.sl .atype (.may _) a]]=>let r:=pick (xx a);some (can (xx a),.sl .bool (.may false) r)
 |_=>none
end Go.Proofs.Ytdpajabhmmmjoaa
end
noncomputable section
namespace Go.Proofs.Ytdpajabhmmmjoaa
open Go.AM
set_option autoImplicit false
set_option linter.unusedVariables false
set_option maxRecDepth 100000
def xy:aN:=fun f us hp=>match f,us,hp with
 |66,[.ptr 1 0,.int .i64 a1,.int .i64 a2],[some [.mp .pb o0_0],some [.sl .atype (.may false) o1_0,.sl .atype (.may false) o1_1,.sl .bool (.may false) o1_2,.mr 0]]=>some (can (iH o0_0 o1_0 o1_1 o1_2 a1 a2),.bool (pick (iH o0_0 o1_0 o1_1 o1_2 a1 a2)),[some [.mp .pb o0_0],some [.sl .atype (.may false) o1_0,.sl .atype (.may false) o1_1,.sl .bool (.may false) o1_2,.mr 0]])
 |_,_,_=>none
noncomputable def ca:aN:=(adR xy (w7 (agG (P:=Try.prog) [azb,aqh])))
theorem anN:ep ca [66]:=(adS (by
 intro f us hp hf
 unfold xy
 split<;>first|rfl|(simp at hf)) (by
 intro f us hp hf
 unfold xy
 split<;>first|rfl|(simp at hf)) (sH _ _))
theorem apv:dR Try.prog ca:=by
 refine aiZ ?_ ?_
 ·intro f us hp v hp' h
  unfold xy at h
  split at h
  ·simp only[Option.some.injEq,Prod.mk.injEq] at h
   obtain⟨hc,rfl,rfl⟩:=h
   exact((aad hc).1).dim rfl
  ·simp at h
 exact aiR _
def aff:IR:=Rs [Bi 42 .lss 41 40] (Sq (Cn 42 .skip (.exit 4)) (Sq (.block 5 (Rs [Mv 43 41,Mv 12 43] (Rs [Mv 44 11,Mv 45 12,Pp (.bld 46 [vI 0,vI 0] [(0,1,44),(1,1,45)]),Pp (.alr 13 2),Fz 13 2 46] (Sq (.reg [Mv 47 9,Nk 48 47,Fa 49 3 48,Fo [1] [] (.ld 50 1 false false 49),Ld 51 2 true 13,Pp (.mget 52 .pb false (.t 50) (.t 51)),Un 53 52,Mv 54 53,Gt 54 (.mov 55 9),Gt 54 (.mov 56 11),Gt 54 (.mov 57 12),⟨some (54,true),.call 58 66 [55,56,57],some ([],[1])⟩,Gt 54 (.un 59 .not 58),Pa 60 54 59] [[],[0],[0,1],[0,1,2],[],rg 0 4,rg 0 5,rg 0 6,rg 0 7,rg 0 7,rg 0 7,rg 0 10,rg 0 11,rg 0 12]) (Cn 60 (.reg [Mv 61 9,Nk 62 61,Fa 63 3 62,Fo [1] [] (.ld 64 1 false false 63),Ld 65 2 true 13,Pp (.ment 66 .pb (.t 64) (.t 65)),Ex_ 67 1 66,Pp (.mest none (.t 64) (.t 67) (.c (.bool true))),Mb 10 true] [[],[0],[0,1],[0,1,2],[],rg 0 4,rg 0 5,rg 0 6,rg 0 7]) .skip))))) (Rg [Bc 68 .add 41 1,Mv 41 68])))
def adH:IR:=Rg [Bc 69 .add 35 1,Mv 35 69]
def rf:IR:=Rs [Bi 36 .lss 35 34] (Sq (Cn 36 .skip (.exit 2)) (Sq (.block 3 (Rs [Mv 37 35,Mv 11 37] (Rs [Fa 38 0 5,Lq 39 38,Ll 40 39,Mi 41 0] (.block 4 (.loop [2,3,4,5,9,10,11,34,35,40,41,1000000] 2 aff))))) adH))
def rh:IR:=Sq (Rs [Mv 31 10] (Cn 31 .skip (.exit 0))) (.block 1 (Rs [Mb 10 false] (Rs [Fa 32 0 4,Lq 33 32,Ll 34 33,Mi 35 0] (.block 2 (.loop [2,3,4,5,9,10,34,35,1000001] 2 rf)))))
def ri:IR:=Rs [Mv 70 9,Nk 71 70,Fa 72 3 71,Lo 73 72,Mv 74 2,Mv 75 3,Pp (.bld 76 [vI 0,vI 0] [(0,1,74),(1,1,75)]),Pp (.mget 77 .pb false (.t 73) (.t 76)),Un 78 77,Mv 8 78] .ret
def asS:IR:=Rs [Bx 4 0,Bx 5 1,Mb 8 false] (Sq (Rs [Ld 14 1 true 4,Mv 15 2,Ca 16 63 [14,15],Un 17 16,Mv 18 17,Gf 18 (.lde 19 1 true 5),Gf 18 (.mov 20 3),Gf 18 (.call 21 63 [19,20]),Gf 18 (.un 22 .not 21),Po 23 18 22] (Cn 23 (Rs [Mb 8 false] .ret) .skip)) (Sq (.reg [Ld 24 1 true 4,Ld 25 1 true 5,Ld 26 1 true 4,Ca 27 16 [26],Pp (.mkm 28 .pb),Pp (.bld 29 [fu .atype true,fu .atype true,fu .bool true,.nilm] [(0,1,24),(1,1,25),(2,1,27),(3,1,28)]),Pp (.box 30 29),Mv 9 30] [[],[],[],[2],[],rg 0 4,rg 0 5,rg 0 6]) (Sq (Rs [Mb 10 true] (.block 0 (.loop [2,3,4,5,9,10,1000002] 2 rh))) ri)))
def xz:List RV:=[.t 8]
theorem asT:FnC Try.prog ca [66] 0 ajT Try.f32 asS xz:=⟨apv,anN,Try.func32,by kernel_rfl,by kernel_rfl,by decide⟩
def vn(R:IR→(Ex→St→Ro)→St→Ro)(again0:St→Ro):Ex→St→Ro:=(bj again0 [2,3,4,5,9,10,1000002] 2 (aP 0 (bg (R ri) (fin xz))))
abbrev eO:Type:=(Int×Int×List aA×List aA×Bool×List ((Int×Int)×Bool)×List aA×List aA×List Bool)
def bM(x:eO):St:={env:=(.undef::.undef::.int .i64 x.1::.int .i64 x.2.1::.ea [.sl .atype (.may false) x.2.2.1]::.ea [.sl .atype (.may false) x.2.2.2.1]::(U 3 (.ptr 1 0::.bool x.2.2.2.2.1::(U 68 [])))),hp:=[some [.mp .pb x.2.2.2.2.2.1],some [.sl .atype (.may false) x.2.2.2.2.2.2.1,.sl .atype (.may false) x.2.2.2.2.2.2.2.1,.sl .bool (.may false) x.2.2.2.2.2.2.2.2,.mr 0]]}
def vo(R:IR→(Ex→St→Ro)→St→Ro)(again0 again1:St→Ro):Ex→St→Ro:=(bj again1 [2,3,4,5,9,10,34,35,1000001] 2 (aP 2 (aP 1 (vn R again0))))
abbrev gP:Type:=(Int×Int×List aA×List aA×Bool×Int×Int×List ((Int×Int)×Bool)×List aA×List aA×List Bool)
def cN(x:gP):St:={env:=(.undef::.undef::.int .i64 x.1::.int .i64 x.2.1::.ea [.sl .atype (.may false) x.2.2.1]::.ea [.sl .atype (.may false) x.2.2.2.1]::(U 3 (.ptr 1 0::.bool x.2.2.2.2.1::(U 23 (.int .i64 x.2.2.2.2.2.1::.int .i64 x.2.2.2.2.2.2.1::(U 43 [])))))),hp:=[some [.mp .pb x.2.2.2.2.2.2.2.1],some [.sl .atype (.may false) x.2.2.2.2.2.2.2.2.1,.sl .atype (.may false) x.2.2.2.2.2.2.2.2.2.1,.sl .bool (.may false) x.2.2.2.2.2.2.2.2.2.2,.mr 0]]}
def aq9(R:IR→(Ex→St→Ro)→St→Ro)(again0 again1 again2:St→Ro):Ex→St→Ro:=(bj again2 [2,3,4,5,9,10,11,34,35,40,41,1000000] 2 (aP 4 (aP 3 (bg (R adH) (vo R again0 again1)))))
abbrev vp:Type:=(Int×Int×List aA×List aA×Bool×Int×Int×Int×Int×Int×List ((Int×Int)×Bool)×List aA×List aA×List Bool)
def ph(x:vp):St:={env:=(.undef::.undef::.int .i64 x.1::.int .i64 x.2.1::.ea [.sl .atype (.may false) x.2.2.1]::.ea [.sl .atype (.may false) x.2.2.2.1]::(U 3 (.ptr 1 0::.bool x.2.2.2.2.1::.int .i64 x.2.2.2.2.2.1::(U 22 (.int .i64 x.2.2.2.2.2.2.1::.int .i64 x.2.2.2.2.2.2.2.1::(U 4 (.int .i64 x.2.2.2.2.2.2.2.2.1::.int .i64 x.2.2.2.2.2.2.2.2.2.1::(U 37 [])))))))),hp:=[some [.mp .pb x.2.2.2.2.2.2.2.2.2.2.1],some [.sl .atype (.may false) x.2.2.2.2.2.2.2.2.2.2.2.1,.sl .atype (.may false) x.2.2.2.2.2.2.2.2.2.2.2.2.1,.sl .bool (.may false) x.2.2.2.2.2.2.2.2.2.2.2.2.2,.mr 0]]}
def vq(N:Nat)(again0 again1:St→Ro):(St→Ro)→St→Ro:=fun again2 s=>run ca N aff (aq9 (run ca N) again0 again1 again2) s
def qd(N:Nat)(again0:eO→Ro)(again1:gP→Ro)(again2:vp→Ro)(x:vp):Ro:=
 let v2:Int:=x.1
 let v3:Int:=x.2.1
 let v4_0:List aA:=x.2.2.1
 let v5_0:List aA:=x.2.2.2.1
 let v10:Bool:=x.2.2.2.2.1
 let v11:Int:=x.2.2.2.2.2.1
 let v34:Int:=x.2.2.2.2.2.2.1
 let v35:Int:=x.2.2.2.2.2.2.2.1
 let v40:Int:=x.2.2.2.2.2.2.2.2.1
 let v41:Int:=x.2.2.2.2.2.2.2.2.2.1
 let o0_0:List ((Int×Int)×Bool):=x.2.2.2.2.2.2.2.2.2.2.1
 let o1_0:List aA:=x.2.2.2.2.2.2.2.2.2.2.2.1
 let o1_1:List aA:=x.2.2.2.2.2.2.2.2.2.2.2.2.1
 let o1_2:List Bool:=x.2.2.2.2.2.2.2.2.2.2.2.2.2
 let z0:=fun g0 g1 g2=>again2 (v2,v3,v4_0,v5_0,g0,v11,v34,v35,v40,g1,g2,o1_0,o1_1,o1_2)
 cond (decide (v41<v40)) (
  let x3:=(abA (k:=.pb) o0_0 (v11,v41))
  cond (!x3) (
   aG (iH o0_0 o1_0 o1_1 o1_2 v11 v41) (fun(r4:Bool)=>
    cond (!r4) (
     chk (decide (List.length o0_0≤140737488355328)) (
      let x4:=(abA (k:=.pb) o0_0 (v11,v41))
      let x5:=(↑(iW (k:=.pb) o0_0 (v11,v41)):Int)
      let x6:=(wX (k:=.pb) o0_0 (v11,v41) (abA (k:=.pb) o0_0 (v11,v41)))
      chk (ixl x5 x6) (
       let x7:=(ali (k:=.pb) x6 (Int.toNat x5) true)
       let x8:=(IntKind.wrap .i64 (v41+1))
       z0 true x8 x7))) (
     let x9:=(IntKind.wrap .i64 (v41+1))
     z0 v10 x9 o0_0))) (
   let x10:=(IntKind.wrap .i64 (v41+1))
   z0 v10 x10 o0_0)) (
  let x11:=(IntKind.wrap .i64 (v35+1))
  again1 (v2,v3,v4_0,v5_0,v10,v34,x11,o0_0,o1_0,o1_1,o1_2))
theorem apy(N:Nat)(again0 again1:St→Ro):LB (vq N again0 again1) ph (qd N (fun y=>again0 (bM y)) (fun y=>again1 (cN y))):=fun _ _=>by kernel_rfl
def qe(N:Nat)(again0:St→Ro):(St→Ro)→St→Ro:=fun again1 s=>run ca N rf (vo (run ca N) again0 again1) s
def tn(N:Nat)(again0:eO→Ro)(again1:gP→Ro)(q2:vp→Ro)(x:gP):Ro:=
 let v2:Int:=x.1
 let v3:Int:=x.2.1
 let v4_0:List aA:=x.2.2.1
 let v5_0:List aA:=x.2.2.2.1
 let v10:Bool:=x.2.2.2.2.1
 let v34:Int:=x.2.2.2.2.2.1
 let v35:Int:=x.2.2.2.2.2.2.1
 let o0_0:List ((Int×Int)×Bool):=x.2.2.2.2.2.2.2.1
 let o1_0:List aA:=x.2.2.2.2.2.2.2.2.1
 let o1_1:List aA:=x.2.2.2.2.2.2.2.2.2.1
 let o1_2:List Bool:=x.2.2.2.2.2.2.2.2.2.2
 cond (decide (v35<v34)) (
  let x2:=(↑(List.length v5_0):Int)
  q2 (v2,v3,v4_0,v5_0,v10,v35,v34,v35,x2,0,o0_0,o1_0,o1_1,o1_2)) (
  again0 (v2,v3,v4_0,v5_0,v10,o0_0,o1_0,o1_1,o1_2))
def qf(N:Nat)(again0:eO→Ro)(again1:gP→Ro)(x:gP):Ro:=tn N again0 again1 (fun z=>aR N (qd N again0 again1) z) x
def aaM(N:Nat)(again0 again1:St→Ro):List (Nat×(St→Ro)):=(bR ca N rf (vo (run ca N) again0 again1)++(bR ca N ri (fin xz)++[]))
theorem apz(N:Nat)(again0:St→Ro):∀(again1:St→Ro)(x:gP),qe N again0 again1 (cN x)=qf N (fun y=>again0 (bM y)) (fun y=>again1 (cN y)) x:=by
 intro again1 x
 have hX:∀C:Nat→St→Ro,bY C ca N rf (vo (bY C ca N) again0 again1) (cN x)=tn N (fun y=>again0 (bM y)) (fun y=>again1 (cN y)) (fun z=>C 1000000 (ph z)) x:=by
  intro C
  kernel_rfl
 have h:qe N again0 again1 (cN x)=tn N (fun y=>again0 (bM y)) (fun y=>again1 (cN y)) (fun z=>aX N (vq N again0 again1) (ph z)) x:=(cW (C:=eZ (aaM N again0 again1)) (bS (aY (l:=(aaM N again0 again1)) (by kernel_rfl))) (jd (cD (cD (jd (cD (fL (bS (dP (aY (l:=(aaM N again0 again1)) (by kernel_rfl)))) rfl)))))) _).trans ((hX _).trans (by kernel_rfl))
 have e2:(fun z=>aX N (vq N again0 again1) (ph z))=(fun z=>aR N (qd N (fun y=>again0 (bM y)) (fun y=>again1 (cN y))) z):=funext fun z=>aW (ph) (vq N again0 again1) (qd N (fun y=>again0 (bM y)) (fun y=>again1 (cN y))) (apy N again0 again1) N z
 rw[h,e2]
 rfl
def vr(N:Nat):(St→Ro)→St→Ro:=fun again0 s=>run ca N rh (vn (run ca N) again0) s
def tp(N:Nat)(again0:eO→Ro)(q1:gP→Ro)(x:eO):Ro:=
 let v2:Int:=x.1
 let v3:Int:=x.2.1
 let v4_0:List aA:=x.2.2.1
 let v5_0:List aA:=x.2.2.2.1
 let v10:Bool:=x.2.2.2.2.1
 let o0_0:List ((Int×Int)×Bool):=x.2.2.2.2.2.1
 let o1_0:List aA:=x.2.2.2.2.2.2.1
 let o1_1:List aA:=x.2.2.2.2.2.2.2.1
 let o1_2:List Bool:=x.2.2.2.2.2.2.2.2
 cond v10 (
  let x1:=(↑(List.length v4_0):Int)
  q1 (v2,v3,v4_0,v5_0,false,x1,0,o0_0,o1_0,o1_1,o1_2)) (
  let x12:=(abA (k:=.pb) o0_0 (v2,v3))
  some (.bool (!x12),[some [.mp .pb o0_0],some [.sl .atype (.may false) o1_0,.sl .atype (.may false) o1_1,.sl .bool (.may false) o1_2,.mr 0]]))
def vt(N:Nat)(again0:eO→Ro)(x:eO):Ro:=tp N again0 (fun z=>aR N (qf N again0) z) x
def aaN(N:Nat)(again0:St→Ro):List (Nat×(St→Ro)):=(bR ca N rh (vn (run ca N) again0)++(bR ca N ri (fin xz)++[]))
theorem apA(N:Nat):∀(again0:St→Ro)(x:eO),vr N again0 (bM x)=vt N (fun y=>again0 (bM y)) x:=by
 intro again0 x
 have hX:∀C:Nat→St→Ro,bY C ca N rh (vn (bY C ca N) again0) (bM x)=tp N (fun y=>again0 (bM y)) (fun z=>C 1000001 (cN z)) x:=by
  intro C
  kernel_rfl
 have h:vr N again0 (bM x)=tp N (fun y=>again0 (bM y)) (fun z=>aX N (qe N again0) (cN z)) x:=(cW (C:=eZ (aaN N again0)) (bS (aY (l:=(aaN N again0)) (by kernel_rfl))) (jd (cD (fL (bS (dP (aY (l:=(aaN N again0)) (by kernel_rfl)))) rfl))) _).trans ((hX _).trans (by kernel_rfl))
 have e1:(fun z=>aX N (qe N again0) (cN z))=(fun z=>aR N (qf N (fun y=>again0 (bM y))) z):=funext fun z=>aW (cN) (qe N again0) (qf N (fun y=>again0 (bM y))) (apz N again0) N z
 rw[h,e1]
 rfl
def rX(N:Nat)(p0_0 p1_0:List aA)(p2 p3:Int)(q0:eO→Ro):Ro:=
 aG (pR p0_0 p2) (fun(r1:Bool)=>
  cond (!r1) (
   some (.bool false,[])) (
   aG (pR p1_0 p3) (fun(r2:Bool)=>
    cond (!r2) (
     some (.bool false,[])) (
     aG (xx p0_0) (fun(r3:List Bool)=>
      q0 (p2,p3,p0_0,p1_0,true,([]:List ((Int×Int)×Bool)),p0_0,p1_0,r3))))))
def ahY(N:Nat)(p0_0 p1_0:List aA)(p2 p3:Int):Ro:=rX N p0_0 p1_0 p2 p3 (fun z=>aR N (vt N) z)
theorem ara(N:Nat)(p0_0 p1_0:List aA)(p2 p3:Int)(h:Tot (ahY N p0_0 p1_0 p2 p3) (fun z=>∃(y0:Bool)(rest:List aK),z.1.dimR=.bool y0∧z.2=rest∧zg p0_0 p1_0 p2 p3 (y0))):∃r,jU p0_0 p1_0 p2 p3 r:=asT.finP (N:=N) ((bo _ (by kernel_rfl) rfl (fun C=>rX N p0_0 p1_0 p2 p3 (fun z=>C 1000002 (bM z))) (fun C=>by kernel_rfl)).trans (Eq.trans (b:=rX N p0_0 p1_0 p2 p3 (fun z=>aX N (vr N) (bM z))) (by kernel_rfl) (congrArg (rX N p0_0 p1_0 p2 p3) (funext fun z=>aW (bM) (vr N) (vt N) (apA N) N z)))) h fun _ ⟨y0,_,e,_,q⟩=>⟨(y0),e,q⟩
end Go.Proofs.Ytdpajabhmmmjoaa
end
noncomputable section
namespace Go.Proofs.Ytdpajabhmmmjoaa
open Go.AM
set_option autoImplicit false
set_option linter.unusedSimpArgs false
set_option linter.unusedVariables false
set_option maxRecDepth 100000
def pD(L:List (Int×Int)):af5:=L.map fun p=>(p,true)
theorem aje:∀(L:List (Int×Int))(p:Int×Int),noS (pD L) p=inL L p
 | [],p=>rfl
 |a::L,p=>by
  have ih:=aje L p
  simp only[noS,abA,pD,List.map_cons,eX,inL] at ih ⊢
  by_cases h:a=p
  ·subst h;simp
  ·rw[if_neg h,ih]
   rw[Bool.eq_iff_iff,decide_eq_true_iff,decide_eq_true_iff,List.mem_cons]
   constructor
   ·exact fun h=>.inr h
   ·rintro(e|e)
    ·exact absurd e.symm h
    ·exact e
theorem awS:∀(L:List (Int×Int))(p:Int×Int)(v:Bool),p ∉ L→wX (k:=.pb) (pD L) p v=pD L++[(p,v)]
 | [],p,v,_=>rfl
 |a::L,p,v,h=>by
  have ih:=awS L p v (fun e=>h (List.mem_cons_of_mem _ e))
  simp only[pD,List.map_cons,wX] at ih ⊢
  rw[if_neg (fun e:a=p=>h (e▸List.mem_cons_self ..)),ih]
  rfl
theorem awT:∀(L:List (Int×Int))(p:Int×Int),p ∉ L→iW (k:=.pb) (pD L) p=L.length
 | [],p,_=>rfl
 |a::L,p,h=>by
  have ih:=awT L p (fun e=>h (List.mem_cons_of_mem _ e))
  simp only[pD,List.map_cons,iW] at ih ⊢
  rw[if_neg (fun e:a=p=>h (e▸List.mem_cons_self ..)),ih]
  rfl
theorem ayo:∀(L:List (Int×Int))(p:Int×Int)(v:Bool),ali (k:=.pb) (pD L++[(p,v)]) L.length true=pD (L++[p])
 | [],p,v=>rfl
 |a::L,p,v=>by
  have ih:=ayo L p v
  simp only[pD,List.map_cons,List.cons_append,List.length_cons,ali] at ih ⊢
  rw[ih]
theorem az8(i k:Nat):al3 i (k+1)=al3 i k++[((i:Int),(k:Int))]:=by simp[al3,List.range_succ]
theorem atz(i m:Nat):iz (i+1) m=iz i m++al3 i m:=by simp[iz,List.range_succ,List.flatMap_append]
theorem awU(n m:Nat):(iz n m).length=n*m:=by
 induction n with
 |zero=>simp[iz]
 |succ n ih=>rw[atz,List.length_append,ih,al3,List.length_map,List.length_range,Nat.add_mul,Nat.one_mul]
theorem awV{n m i k:Nat}(hi:i<n)(hk:k<m):((i:Int),(k:Int))∈iz n m:=by
 simp only[iz,List.mem_flatMap,List.mem_range,al3,List.mem_map]
 exact⟨i,hi,k,hk,rfl⟩
def left(A L:List (Int×Int)):Nat:=(A.filter fun p=> !inL L p).length
theorem aBD(A L:List (Int×Int))(p:Int×Int):left A (L++[p])≤left A L:=by
 induction A with
 |nil=>simp[left]
 |cons a A ih=>
  simp only[left,List.filter_cons,inL,List.mem_append,List.mem_singleton] at ih ⊢
  by_cases h:a∈L
  ·simpa [h] using ih
  ·by_cases h2:a=p
   ·subst h2
    simp only[h,or_true,decide_true,Bool.not_true,Bool.false_eq_true,if_false,decide_false,Bool.not_false,if_true,List.length_cons];omega
   ·simp only[h,h2,or_false,decide_false,Bool.not_false,if_true,List.length_cons];omega
theorem ayp(A L:List (Int×Int))(p:Int×Int)(hp:p∈A)(hL:p ∉ L):left A (L++[p])<left A L:=by
 induction A with
 |nil=>cases hp
 |cons a A ih=>
  have hle:=aBD A L p
  by_cases h2:a=p
  ·subst h2
   simp only[left,List.filter_cons,inL,List.mem_append,List.mem_singleton] at hle ⊢
   simp only[hL,or_true,decide_true,Bool.not_true,Bool.false_eq_true,if_false,decide_false,Bool.not_false,if_true,List.length_cons]
   omega
  ·have ih:=ih (by rcases List.mem_cons.1 hp with e|e;exact absurd e.symm h2;exact e)
   clear hle
   simp only[left,List.filter_cons,inL,List.mem_append,List.mem_singleton] at ih ⊢
   by_cases h:a∈L
   ·simpa [h] using ih
   ·simp only[h,h2,or_false,decide_false,Bool.not_false,if_true,List.length_cons];omega
section
variable{has:List Bool}{w r:List aA}
theorem asU(A:List (Int×Int)):∀(ps L:List (Int×Int)),(∀p∈ps,p∈A)→
  ps.foldl (fM has w r) L=L∨(L.length<(ps.foldl (fM has w r) L).length∧left A (ps.foldl (fM has w r) L)<left A L)
 | [],L,_=>.inl rfl
 |p::ps,L,h=>by
  rw[List.foldl_cons]
  have ih:=fun L=>asU A ps L (fun q hq=>h q (List.mem_cons_of_mem _ hq))
  have ev:fM has w r L p=if inL L p||acq has (inL L) w r p.1 p.2 then L else L++[p]:=rfl
  rw[ev]
  by_cases hv:(inL L p||acq has (inL L) w r p.1 p.2)=true
  ·rw[if_pos hv];exact ih L
  ·rw[if_neg hv]
   simp only[Bool.or_eq_true,not_or] at hv
   have hp:p ∉ L:=fun e=>hv.1 (by simp[inL,e])
   have hlt:=ayp A L p (h p (List.mem_cons_self ..)) hp
   right
   rcases ih (L++[p]) with e|⟨e1,e2⟩
   ·rw[show List.foldl (fM has w r) (L++[p]) ps=L++[p] from e]
    exact⟨by simp,hlt⟩
   ·refine⟨by simp only[List.length_append,List.length_singleton] at e1;exact Nat.lt_of_succ_lt e1,Nat.lt_trans e2 hlt⟩
def PS(has:List Bool)(w r:List aA)(L0:List (Int×Int))(i k:Nat):List (Int×Int):=(al3 i k).foldl (fM has w r) ((iz i r.length).foldl (fM has w r) L0)
theorem ayq(L0:List (Int×Int)):PS has w r L0 0 0=L0:=rfl
theorem aBE(L0:List (Int×Int))(i k:Nat):PS has w r L0 i (k+1)=fM has w r (PS has w r L0 i k) ((i:Int),(k:Int)):=by
 rw[PS,az8,List.foldl_append];rfl
theorem aCt(L0:List (Int×Int))(i:Nat):PS has w r L0 i r.length=PS has w r L0 (i+1) 0:=by
 rw[PS,PS,atz,List.foldl_append];rfl
theorem aCu(L0:List (Int×Int)):PS has w r L0 w.length 0=pP has w r L0:=rfl
def Btw(has:List Bool)(w r:List aA)(fin:List (Int×Int))(more:Bool)(L:List (Int×Int)):Prop:=
 (more=true∧∃f,left (iz w.length r.length) L<f∧oG has w r f L=fin)∨(more=false∧L=fin)
theorem Btw.next{fin L0:List (Int×Int)}(h:Btw has w r fin true L0):
  Btw has w r fin (decide (L0.length<(pP has w r L0).length)) (pP has w r L0)∧
  2*left (iz w.length r.length) (pP has w r L0)+(if decide (L0.length<(pP has w r L0).length)=true then 1 else 0)<2*left (iz w.length r.length) L0+1:=by
 obtain⟨-,f,h1,h2⟩|⟨h, -⟩:=h
 ·obtain⟨f,rfl⟩:∃g,f=g+1:=⟨f-1,by omega⟩
  rw[oG] at h2
  rcases asU (has:=has) (w:=w) (r:=r) (iz w.length r.length) (iz w.length r.length) L0 (fun _ h=>h) with e|⟨e1,e2⟩
  ·have e:pP has w r L0=L0:=e
   rw[e] at h2 ⊢
   rw[if_pos rfl] at h2
   simp only[Nat.lt_irrefl,decide_false]
   exact⟨.inr ⟨rfl,h2⟩,by simp⟩
  ·have e1:L0.length<(pP has w r L0).length:=e1
   have e2:left (iz w.length r.length) (pP has w r L0)<left (iz w.length r.length) L0:=e2
   rw[if_neg (by omega)] at h2
   simp only[e1,decide_true,if_true]
   exact⟨.inl ⟨rfl,f,by omega,h2⟩,by omega⟩
 ·cases h
end
section
variable{w r:List aA}(hw:cw w)(hr:cw r)(t q:Int)
include hw hr
theorem azc(hB:∃l,xx w l)(hlen:(sM w).length=w.length):∃x,jU w r t q x:=by
 have hn:=hw.1
 have hm:=hr.1
 apply ara (2*(w.length*r.length)+200)
 unfold ahY rX
 refine aE (aqX w t) ?_
 rintro(r1:Bool) ⟨-,h1⟩
 have h1:r1=isT w t:=h1
 refine aC (fun h=>aF ⟨_,_,rfl,rfl,?_⟩) (fun h=>?_)
 ·have h:r1=false:=by simpa using h
  show false=nu _ w r t q
  rw[nu,←h1,h];rfl
 have h:r1=true:=by simpa using h
 rw[h] at h1
 refine aE (aqX r q) ?_
 rintro(r2:Bool) ⟨-,h2⟩
 have h2:r2=isT r q:=h2
 refine aC (fun h=>aF ⟨_,_,rfl,rfl,?_⟩) (fun h=>?_)
 ·have h:r2=false:=by simpa using h
  show false=nu _ w r t q
  rw[nu,←h1,←h2,h];rfl
 have h:r2=true:=by simpa using h
 rw[h] at h2
 refine aE hB ?_
 rintro(has:List Bool) ⟨-,hh⟩
 have hh:has=sM w:=hh
 rw[←hh] at hlen
 have hpost:∀x:Bool,x=(!inL (oG has w r (w.length*r.length+1) []) (t,q))→zg w r t q x:=fun x hx=>by
  show x=nu (sM w) w r t q
  rw[nu,←h1,←h2,←hh,hx];rfl
 generalize hfin:oG has w r (w.length*r.length+1) []=fin at hpost
 have hl0:left (iz w.length r.length) []=w.length*r.length:=by
  rw[left,←awU];congr 1;simp[inL]
 have h60:w.length*r.length≤60*60:=Nat.mul_le_mul hn.2 hm.2
 refine aU (fun x=>match x with|(a,b,w',r',more,es,w2,r2,has')=>a=t∧b=q∧w'=w∧r'=r∧w2=w∧r2=r∧has'=has∧∃L,es=pD L∧left (iz w.length r.length) L+L.length≤w.length*r.length∧Btw has w r fin more L)
  (fun x=>2*left (iz w.length r.length) (x.2.2.2.2.2.1.map (·.1))+(if x.2.2.2.2.1=true then 1 else 0)) ?_ _ _ ⟨rfl,rfl,rfl,rfl,rfl,rfl,rfl,[],rfl,by simp;omega,.inl ⟨rfl,_,by omega,hfin⟩⟩ (by simp only[List.map_nil,hl0,if_true];omega)
 rintro again0 ⟨a,b,w',r',more,es,w2,r2,has'⟩ ⟨rfl,rfl,rfl,rfl,rfl,rfl,rfl,L0,rfl,hle,hb⟩ ih0
 have hmap:∀L:List (Int×Int),(pD L).map (·.1)=L:=fun L=>by simp[pD,Function.comp_def]
 dsimp only at ih0
 rw[hmap] at ih0
 unfold vt tp
 dsimp only
 refine aC (fun hmore=>?_) (fun hmore=>aF ⟨_,_,rfl,rfl,hpost _ ?_⟩)
 rotate_left
 ·have hmore:more=false:=hmore
  subst hmore
  obtain⟨h, -⟩|⟨-,rfl⟩:=hb
  ·cases h
  ·show (!noS (pD L0) (a,b))=_
   rw[aje]
 have hmore:more=true:=hmore
 subst hmore
 have hbn:=hb.next
 simp only[if_true] at ih0
 refine aU (fun x=>match x with|(a',b',w3,r3,mo,n,i,es,w4,r4,has2)=>a'=a∧b'=b∧w3=w2∧r3=r2∧w4=w2∧r4=r2∧has2=has'∧n=(w2.length:Int)∧∃i':Nat,i=(i':Int)∧i'≤w2.length∧es=pD (PS has' w2 r2 L0 i' 0)∧mo=decide (L0.length<(PS has' w2 r2 L0 i' 0).length)∧L0.length≤(PS has' w2 r2 L0 i' 0).length∧left (iz w2.length r2.length) (PS has' w2 r2 L0 i' 0)+(PS has' w2 r2 L0 i' 0).length≤w2.length*r2.length)
  (fun x=>(w2.length-x.2.2.2.2.2.2.1:Int).toNat) ?_ _ _ ⟨rfl,rfl,rfl,rfl,rfl,rfl,rfl,rfl,0,rfl,by omega,rfl,by simp[ayq],by simp[ayq],hle⟩ (by simp only;omega)
 rintro again1 ⟨a',b',w3,r3,mo,n,i,es,w4,r4,has2⟩ ⟨rfl,rfl,rfl,rfl,rfl,rfl,rfl,rfl,i',rfl,hi,rfl,rfl,hge,hll⟩ ih1
 dsimp only at ih1
 unfold qf tn
 dsimp only
 refine aC (fun hlt=>?_) (fun hlt=>?_)
 rotate_left
 ·have hlt:=of_decide_eq_false hlt
  obtain rfl:i'=w4.length:=by omega
  rw[aCu] at hge hll ⊢
  exact ih0 _ ⟨rfl,rfl,rfl,rfl,rfl,rfl,rfl,_,rfl,hll,hbn.1⟩ (by rw[hmap];exact hbn.2)
 have hlt:=of_decide_eq_true hlt
 refine aU (fun x=>match x with|(a3,b3,w5,r5,mo,v11,n,i,m,k,es,w6,r6,has3)=>a3=a'∧b3=b'∧w5=w4∧r5=r4∧w6=w4∧r6=r4∧has3=has2∧v11=(i':Int)∧n=(w4.length:Int)∧i=(i':Int)∧m=(r4.length:Int)∧∃k':Nat,k=(k':Int)∧k'≤r4.length∧es=pD (PS has2 w4 r4 L0 i' k')∧mo=decide (L0.length<(PS has2 w4 r4 L0 i' k').length)∧L0.length≤(PS has2 w4 r4 L0 i' k').length∧left (iz w4.length r4.length) (PS has2 w4 r4 L0 i' k')+(PS has2 w4 r4 L0 i' k').length≤w4.length*r4.length)
  (fun x=>(r4.length-x.2.2.2.2.2.2.2.2.2.1:Int).toNat) ?_ _ _ ⟨rfl,rfl,rfl,rfl,rfl,rfl,rfl,rfl,rfl,rfl,rfl,0,rfl,by omega,rfl,rfl,hge,hll⟩ (by simp only;omega)
 rintro again2 ⟨a3,b3,w5,r5,mo,v11,n,i,m,k,es,w6,r6,has3⟩ ⟨rfl,rfl,rfl,rfl,rfl,rfl,rfl,rfl,rfl,rfl,rfl,k',rfl,hk,rfl,rfl,hge2,hll2⟩ ih2
 dsimp only at ih2
 unfold qd
 dsimp only
 refine aC (fun hlk=>?_) (fun hlk=>?_)
 rotate_left
 ·have hlk:=of_decide_eq_false hlk
  obtain rfl:k'=r6.length:=by omega
  rw[aCt] at hge2 hll2 ⊢
  rw[aI ((i':Int)+1) (by omega)]
  exact ih1 _ ⟨rfl,rfl,rfl,rfl,rfl,rfl,rfl,rfl,i'+1,by simp,by omega,rfl,rfl,hge2,hll2⟩ (by simp only;omega)
 have hlk:=of_decide_eq_true hlk
 rw[aI ((k':Int)+1) (by omega)]
 have hnx:=aBE (has:=has3) (w:=w6) (r:=r6) L0 i' k'
 have hno:abA (k:=.pb) (pD (PS has3 w6 r6 L0 i' k')) ((i':Int),(k':Int))=inL (PS has3 w6 r6 L0 i' k') ((i':Int),(k':Int)):=aje _ _
 have hmem:((i':Int),(k':Int))∈iz w6.length r6.length:=awV (by omega) (by omega)
 rw[hno]
 generalize PS has3 w6 r6 L0 i' k'=L at*
 have keep:fM has3 w6 r6 L ((i':Int),(k':Int))=L→Tot (again2 (a3,b3,w6,r6,decide (L0.length<L.length),(i':Int),(w6.length:Int),(i':Int),(r6.length:Int),(k':Int)+1,pD L,w6,r6,has3)) _:=fun e=>
  ih2 _ ⟨rfl,rfl,rfl,rfl,rfl,rfl,rfl,rfl,rfl,rfl,rfl,k'+1,by simp,by omega,by rw[hnx,e],by rw[hnx,e],by rw[hnx,e];exact hge2,by rw[hnx,e];exact hll2⟩ (by simp only;omega)
 refine aC (fun hin=>?_) (fun hin=>keep ?_)
 rotate_left
 ·have hin:inL L ((i':Int),(k':Int))=true:=by simpa using hin
  rw[fM,hin];rfl
 have hin:inL L ((i':Int),(k':Int))=false:=by simpa using hin
 refine aE (az7 _ _ _ _ hw hr _ _ (by omega) (by omega) hlen) ?_
 rintro(x:Bool) ⟨-,hx⟩
 have hx:x=acq has3 (noS (pD L)) w6 r6 (i':Int) (k':Int):=hx
 rw[show noS (pD L)=inL L from funext (aje L)] at hx
 refine aC (fun h0=>?_) (fun h0=>keep ?_)
 rotate_left
 ·have h0:x=true:=by simpa using h0
  rw[fM,←hx,h0];simp
 have h0:x=false:=by simpa using h0
 have hv:fM has3 w6 r6 L ((i':Int),(k':Int))=L++[((i':Int),(k':Int))]:=by rw[fM,←hx,h0,hin];simp
 rw[hv] at hnx
 have hnin:((i':Int),(k':Int)) ∉ L:=by simpa [inL] using hin
 have hlt2:=ayp (iz w6.length r6.length) L _ hmem hnin
 have hml:(pD L).length=L.length:=by simp[pD]
 refine aJ (by rw[hml];simp;omega) ?_
 rw[awS _ _ _ hnin,awT _ _ hnin,Int.toNat_natCast,ayo]
 refine aJ (ixt ⟨by omega,by simp[hml];omega⟩) ?_
 refine ih2 _ ⟨rfl,rfl,rfl,rfl,rfl,rfl,rfl,rfl,rfl,rfl,rfl,k'+1,by simp,by omega,by rw[hnx],?_,by rw[hnx];simp;omega,by rw[hnx];simp;omega⟩ (by simp only;omega)
 rw[hnx,decide_eq_true (by simp;omega)]
end
end Go.Proofs.Ytdpajabhmmmjoaa
end
noncomputable section
namespace Go.Proofs.Ytdpajabhmmmjoaa
open Go.AM
set_option autoImplicit false
set_option linter.unusedVariables false
set_option maxRecDepth 100000
end Go.Proofs.Ytdpajabhmmmjoaa
end
noncomputable section
namespace Go.Proofs.Ytdpajabhmmmjoaa
open Go.AM
set_option autoImplicit false
set_option linter.unusedVariables false
set_option maxRecDepth 100000
noncomputable def agP:aN:=tab (P:=Try.prog) [] [] [] [atV]
def ahZ:IR:=Rs [Bi 17 .lss 16 15] (Sq (Cn 17 .skip (.exit 1)) (Sq (.block 2 (Rs [Ix 18 .afield 14 16,Ld 19 9 true 18,Pp (.alr 7 9),Fz 7 9 19] (Sq (Rs [Mv 20 1,Fa 21 2 7,Lq 22 21,Ix 23 (.num .i64) 20 22,Lq 24 23,Bc 25 .lss 24 0] (Cn 25 (Rs [Mi 4 (-1)] .ret) .skip)) (Rg [Mv 26 5,Mv 27 1,Fa 28 2 7,Lq 29 28,Ix 30 (.num .i64) 27 29,Lq 31 30,Pp (.mx 32 false 26 31),Mv 5 32])))) (Rg [Bc 33 .add 16 1,Mv 16 33])))
def agC:IR:=Sq (Rs [Mv 49 5,Bc 50 .lss 49 0] (Cn 50 (Rs [Mi 4 (-1)] .ret) .skip)) (Rs [Mv 51 5,Bc 52 .add 51 1,Mv 4 52] .ret)
def awW:IR:=Rs [Bx 2 0,Mi 4 0] (Rs [Mi 5 (-1)] (Sq (Rs [Fa 9 0 2,Lq 10 9] (.block 0 (Rs [Bc 12 .eql 10 9,Mv 11 12] (Cn 11 (Rs [Mi 5 0] (Rs [Fa 13 8 2,Lq 14 13,Ll 15 14,Mi 16 0] (.block 1 (.loop [1,5,14,15,16,1000000] 0 ahZ)))) (Rs [Bc 35 .eql 10 14,Mv 34 35] (Cn 34 (Rs [Ld 36 10 true 2,Mv 37 1,Ca 38 78 [36,37],Mv 8 38] (Rs [Mv 39 8,Bc 40 .geq 39 0] (Cn 40 (Rg [Mv 41 1,Fa 42 9 2,Lq 43 42,Mv 44 8,Ix 45 (.num .i64) 43 44,Lq 46 45,Ix 47 (.num .i64) 41 46,Lq 48 47,Mv 5 48]) .skip))) (Rs [Mi 4 0] .ret))))))) agC))
def amN:List RV:=[.t 4]
theorem awX:FnC Try.prog agP [] 0 aob Try.f76 awW amN:=fnC Try.func76
def auY(R:IR→(Ex→St→Ro)→St→Ro)(a:St→Ro):Ex→St→Ro:=(bj a [1,5,14,15,16,1000000] 0 (aP 1 (aP 0 (bg (R agC) (fin amN)))))
abbrev yX:Type:=(List Int×Int×List aM×Int×Int)
def xA:yX→St:=fun(a,b,c,d,e)=>{env:=(.undef::.sl (.num .i64) (.may false) a::(U 3 (.int .i64 b::(U 8 (.sl .afield (.may false) c::.int .i64 d::.int .i64 e::(U 36 [])))))),hp:=[]}
def ada(N:Nat):(St→Ro)→St→Ro:=fun a s=>run agP N ahZ (auY (run agP N) a) s
def yY(N:Nat)(a:yX→Ro):yX→Ro:=fun(d,f,c,e,b)=>
 cond (decide (b<e)) (
 chk (ixl b c) (
 let g:=(List.getD c (Int.toNat b) (aB .afield))
 chk (ixl g.typ d) (
 let i:=List.getD d (Int.toNat g.typ) (aB (.num .i64))
 cond (decide (i<0)) (
 some (.int .i64 (-1),[])) (
 chk (ixl g.typ d) (
 let h:=List.getD d (Int.toNat g.typ) (aB (.num .i64))
 let j:=(if f<h then h else f)
 let k:=(IntKind.wrap .i64 (b+1))
 a (d,j,c,e,k)))))) (
 cond (decide (f<0)) (
 some (.int .i64 (-1),[])) (
 let l:=(IntKind.wrap .i64 (f+1))
 some (.int .i64 l,[])))
theorem asV(N:Nat):LB (ada N) xA (yY N):=fun _ _=>by kernel_rfl
def wH(N:Nat)(a:aA)(b:List Int)(h:yX→Ro):Ro:=
 cond (a.kind==9) (
 let i:=(↑(List.length a.fields):Int)
 h (b,0,a.fields,i,0)) (
 cond (a.kind==14) (
 aG (tN a b) (fun(c:Int)=>
 cond (decide (0≤c)) (
 chk (ixl c a.branches) (
 let f:=List.getD a.branches (Int.toNat c) (aB (.num .i64))
 chk (ixl f b) (
 let g:=List.getD b (Int.toNat f) (aB (.num .i64))
 cond (decide (g<0)) (
 some (.int .i64 (-1),[])) (
 let d:=(IntKind.wrap .i64 (g+1))
 some (.int .i64 d,[]))))) (
 cond (decide ((-1)<0)) (
 some (.int .i64 (-1),[])) (
 let e:=(IntKind.wrap .i64 ((-1)+1))
 some (.int .i64 e,[]))))) (
 some (.int .i64 0,[])))
def amO(N:Nat)(a:aA)(b:List Int):Ro:=wH N a b (fun z=>aR N (yY N) z)
theorem auZ(N:Nat)(a:aA)(c:List Int)(h:Tot (amO N a c) (fun z=>∃(d:Int)(rest:List aK),z.1.dimR=.int .i64 d∧z.2=rest∧abF a c (d))):∃r,yl a c r:=awX.finP (N:=N) ((bo _ (by kernel_rfl) rfl (fun C=>wH N a c (fun z=>C 1000000 (xA z))) (fun C=>by kernel_rfl)).trans (Eq.trans (b:=wH N a c (fun z=>aX N (ada N) (xA z))) (by kernel_rfl) (congrArg (wH N a c) (funext fun z=>aW (xA) (ada N) (yY N) (asV N) N z)))) h fun _ ⟨d,_,e,_,q⟩=>⟨(d),e,q⟩
noncomputable def adb:aN:=tab (P:=Try.prog) [] [] [] []
def afg:IR:=Rs [Bi 12 .lss 11 10] (Sq (Cn 12 .skip (.exit 0)) (Sq (.block 1 (Rs [Mv 13 11,Ix 14 (.num .i64) 9 11,Lq 15 14,Mv 6 13,Mv 7 15] (Sq (.reg [Mv 16 1,Mv 17 7,Ix 18 (.num .i64) 16 17,Lq 19 18,Bc 20 .geq 19 0,Mv 21 20,Gt 21 (.mov 22 5),Gt 21 (.bin 23 .lss 22 (kI 0)),Gt 21 (.mov 24 23),Gf 24 (.mov 25 1),Gf 24 (.mov 26 7),Gf 24 (.ixa 27 (.num .i64) 25 26),Gf 24 (.lde 28 1 false 27),Gf 24 (.mov 29 1),Gf 24 (.fad 30 9 2),Gf 24 (.lde 31 1 false 30),Gf 24 (.mov 32 5),Gf 24 (.ixa 33 (.num .i64) 31 32),Gf 24 (.lde 34 1 false 33),Gf 24 (.ixa 35 (.num .i64) 29 34),Gf 24 (.lde 36 1 false 35),Gf 24 (.bin 37 .lss 28 36),Gt 21 (.pick 38 24 (kB true) 37),Pa 39 21 38] [[],[],[0,1],[0,1,2],rg 0 3,rg 0 4,rg 0 5,rg 0 6,rg 0 7,rg 0 8,rg 0 8,rg 0 10,rg 0 11,rg 0 8,rg 0 8,rg 0 8++[14],rg 0 8,rg 0 8++[14,15,16],rg 0 8++rg 14 17,rg 0 8++rg 13 18,rg 0 8++rg 13 19,rg 0 20,rg 0 21,rg 0 22]) (Cn 39 (Rg [Mv 40 6,Mv 5 40]) .skip)))) (Rg [Bc 41 .add 11 1,Mv 11 41])))
def afh:IR:=Rs [Mv 42 5,Mv 4 42] .ret
def asW:IR:=Rs [Bx 2 0,Mi 4 0] (Rs [Mi 5 (-1)] (Sq (Rs [Fa 8 9 2,Lq 9 8,Ll 10 9,Mi 11 0] (.block 0 (.loop [1,2,5,9,10,11,1000000] 0 afg))) afh))
def ah0:List RV:=[.t 4]
theorem asX:FnC Try.prog adb [] 0 ajQ Try.f78 asW ah0:=fnC Try.func78
def arb(R:IR→(Ex→St→Ro)→St→Ro)(a:St→Ro):Ex→St→Ro:=(bj a [1,2,5,9,10,11,1000000] 0 (aP 0 (bg (R afh) (fin ah0))))
abbrev vu:Type:=(List Int×aA×Int×List Int×Int×Int)
def tq:vu→St:=fun(a,b,c,d,e,f)=>{env:=(.undef::.sl (.num .i64) (.may false) a::.ea (enc .atype b)::.undef::.undef::.int .i64 c::(U 3 (.sl (.num .i64) (.may false) d::.int .i64 e::.int .i64 f::(U 31 [])))),hp:=[]}
def aaO(N:Nat):(St→Ro)→St→Ro:=fun a s=>run adb N afg (arb (run adb N) a) s
def vv(N:Nat)(a:vu→Ro):vu→Ro:=fun(d,e,f,g,c,b)=>
 cond (decide (b<c)) (
 chk (ixl b g) (
 let h:=List.getD g (Int.toNat b) (aB (.num .i64))
 chk (ixl h d) (
 let k:=List.getD d (Int.toNat h) (aB (.num .i64))
 cond (decide (0≤k)) (
 cond (decide (f<0)) (
 let l:=(IntKind.wrap .i64 (b+1))
 a (d,e,b,g,c,l)) (
 chk (ixl h d) (
 let m:=List.getD d (Int.toNat h) (aB (.num .i64))
 chk (ixl f e.branches) (
 let j:=List.getD e.branches (Int.toNat f) (aB (.num .i64))
 chk (ixl j d) (
 let n:=List.getD d (Int.toNat j) (aB (.num .i64))
 cond (decide (m<n)) (
 let o:=(IntKind.wrap .i64 (b+1))
 a (d,e,b,g,c,o)) (
 let p:=(IntKind.wrap .i64 (b+1))
 a (d,e,f,g,c,p))))))) (
 let i:=(IntKind.wrap .i64 (b+1))
 a (d,e,f,g,c,i))))) (
 some (.int .i64 f,[]))
theorem apB(N:Nat):LB (aaO N) tq (vv N):=fun _ _=>by kernel_rfl
def rY(N:Nat)(a:aA)(b:List Int)(c:vu→Ro):Ro:=
 let d:=(↑(List.length a.branches):Int)
 c (b,a,(-1),a.branches,d,0)
def ah1(N:Nat)(a:aA)(b:List Int):Ro:=rY N a b (fun z=>aR N (vv N) z)
theorem arc(N:Nat)(a:aA)(c:List Int)(h:Tot (ah1 N a c) (fun z=>∃(d:Int)(rest:List aK),z.1.dimR=.int .i64 d∧z.2=rest∧ze a c (d))):∃r,tN a c r:=asX.finP (N:=N) ((bo _ (by kernel_rfl) rfl (fun C=>rY N a c (fun z=>C 1000000 (tq z))) (fun C=>by kernel_rfl)).trans (Eq.trans (b:=rY N a c (fun z=>aX N (aaO N) (tq z))) (by kernel_rfl) (congrArg (rY N a c) (funext fun z=>aW (tq) (aaO N) (vv N) (apB N) N z)))) h fun _ ⟨d,_,e,_,q⟩=>⟨(d),e,q⟩
def yZ:avh:=fun f us=>match f,us with
 |75,[.sl (.num .i64) (.may _) a]=>some ((decide (0<List.length a)&&decide (List.length a≤1000)),none,⟨(.num .i64),a⟩)
 |_,_=>none
noncomputable def cu:aN:=(af4 yZ (w7 (agG (P:=Try.prog) [axG])))
theorem apC:ep cu [75]:=(ayW (by
 intro f us hf
 unfold yZ
 split<;>first|rfl|(simp at hf)) (by
 intro f us hf
 unfold yZ
 split<;>first|rfl|(simp at hf)) (sH _ _))
theorem ard:dR Try.prog cu:=by
 refine aAS ?_ ?_
 ·intro f us o k xs h
  unfold yZ at h
  split at h
  ·simp only[Option.some.injEq,Prod.mk.injEq] at h
   obtain⟨hc,rfl,h2⟩:=h
   cases h2
   exact(ayX _ hc).dim rfl
  ·simp at h
 exact aiR _
def vw:IR:=Rs [Bi 16 .lss 15 14] (Sq (Cn 16 .skip (.exit 0)) (Sq (.block 1 (Rs [Mv 17 15,Mv 4 17] (.gh (.opn (.slot 3)) (.ghp (.cls (.slot 3)) (Rg [Mv 18 3,Mv 19 4,Pp (.ixw 20 (.num .i64) 18 19),Pp (.stw none 1 20 (kI (-1)))]))))) (Rg [Bc 21 .add 15 1,Mv 15 21])))
def afi:IR:=Rs [Bi 29 .lss 28 27] (Sq (Cn 29 .skip (.exit 4)) (Sq (.block 5 (Rs [Mv 30 28,Ix 31 .atype 26 28,Ld 32 10 true 31,Pp (.alr 8 10),Mv 7 30,Fz 8 10 32] (Rs [Mv 33 3,Mv 34 7,Ix 35 (.num .i64) 33 34,Lq 36 35,Bc 37 .lss 36 0] (Cn 37 (Sq (.gh (.opn (.slot 6)) (.ghp (.cls (.slot 6)) (Rg [Mv 38 6,Mv 39 7,Ld 40 10 true 8,Mv 41 3,Ca 42 76 [40,41],Pp (.ixw 43 (.num .i64) 38 39),Pp (.stw none 1 43 42)]))) (.gh (.opn (.slot 6)) (.ghp (.cls (.slot 6)) (Rg [Mv 44 5,Mv 45 44,Gf 45 (.mov 46 6),Gf 45 (.mov 47 7),Gf 45 (.ixw 48 (.num .i64) 46 47),Gf 45 (.ldw 49 1 false 48),Gf 45 (.bin 50 .geq 49 (kI 0)),Po 51 45 50,Mv 5 51])))) .skip)))) (Rg [Bc 52 .add 28 1,Mv 28 52])))
def afj:IR:=Rg [Pp (.mov 53 (.tk 6)),Pp (.mov 3 (.tk 53))]
def tr:IR:=Sq (Rs [Mv 22 5] (Cn 22 .skip (.exit 2))) (.block 3 (Sq (.gh (.fz (.slot 3)) (.ghp (.cls (.slot 6)) (Rg [Mv 23 3,Ca 24 75 [23],Pp (.mov 6 (.tk 24))]))) (Rs [Mb 5 false] (Sq (Rs [Fa 25 0 1,Lq 26 25,Ll 27 26,Mi 28 0] (.block 4 (.loop [1,3,5,6,26,27,28,1000001] 0 afi))) afj))))
def zv:IR:=Rs [Pp (.mov 54 (.tk 3)),Pp (.mov 2 (.tk 54))] (.gh (.fz (.slot 2)) .ret)
def zw:IR:=Sq (Rs [Mb 5 true] (.block 2 (.loop [1,3,5,1000002] 0 tr))) zv
def au0:IR:=Rs [Bx 1 0,Pp (.mov 2 (.c (.ul (.num .i64) ([]:List Int))))] (Rs [Fa 9 0 1,Lq 10 9,Ll 11 10,Pp (.mku 12 (.num .i64) 11),Pp (.mov 3 (.tk 12))] (Sq (Rs [Mv 13 3,Pp (.lnw 14 13),Mi 15 0] (.block 0 (.loop [1,3,14,15,1000000] 0 vw))) zw))
def uc:List RV:=[.t 2]
theorem au1:FnC Try.prog cu [75] 0 al1 Try.f42 au0 uc:=⟨ard,apC,Try.func42,by kernel_rfl,by kernel_rfl,by decide⟩
def abX(R:IR→(Ex→St→Ro)→St→Ro)(a:St→Ro):Ex→St→Ro:=(bj a [1,3,14,15,1000000] 0 (aP 0 (bg (R zw) (fin uc))))
abbrev lr:Type:=(List aA×List Int×Int×Int)
def fQ:lr→St:=fun(a,b,c,d)=>{env:=(.undef::.ea [.sl .atype (.may false) a]::.undef::.ul (.num .i64) b::(U 10 (.int .i64 c::.int .i64 d::(U 39 [])))),hp:=[]}
def xB(R:IR→(Ex→St→Ro)→St→Ro)(a:St→Ro):Ex→St→Ro:=(bj a [1,3,5,1000002] 0 (aP 2 (bg (R zv) (fin uc))))
abbrev iJ:Type:=(List aA×List Int×Bool)
def dc:iJ→St:=fun(a,b,c)=>{env:=(.undef::.ea [.sl .atype (.may false) a]::.undef::.ul (.num .i64) b::.undef::.bool c::(U 49 [])),hp:=[]}
def asY(R:IR→(Ex→St→Ro)→St→Ro)(a b:St→Ro):Ex→St→Ro:=(bj b [1,3,5,6,26,27,28,1000001] 0 (aP 4 (bg (R afj) (aP 3 (xB R a)))))
abbrev xC:Type:=(List aA×List Int×Bool×List Int×List aA×Int×Int)
def qg:xC→St:=fun(a,b,c,d,e,f,g)=>{env:=(.undef::.ea [.sl .atype (.may false) a]::.undef::.sl (.num .i64) .own b::.undef::.bool c::.ul (.num .i64) d::(U 19 (.sl .atype (.may false) e::.int .i64 f::.int .i64 g::(U 26 [])))),hp:=[]}
def xD(N:Nat)(a:St→Ro):(St→Ro)→St→Ro:=fun b s=>run cu N afi (asY (run cu N) a b) s
def rZ(N:Nat)(f:iJ→Ro)(b:xC→Ro):xC→Ro:=fun(c,i,j,h,d,g,a)=>
 cond (decide (a<g)) (
 chk (ixl a d) (
 let o:=(List.getD d (Int.toNat a) (aB .atype))
 chk (ixl a i) (
 let p:=List.getD i (Int.toNat a) (aB (.num .i64))
 cond (decide (p<0)) (
 chk (decide (0<List.length h)) (
 aG (yl o i) (fun(q:Int)=>
 chk (decide (0≤a)&&decide (a<↑(List.length h))) (
 chk (decide ((Int.toNat a)<List.length h)) (
 let e:=(List.set h (Int.toNat a) q)
 chk (Nat.beq (List.length h) (List.length e)) (
 chk (decide (0<List.length e)) (
 cond j (
 chk (Nat.beq (List.length e) (List.length e)) (
 let k:=(IntKind.wrap .i64 (a+1))
 b (c,i,true,e,d,g,k))) (
 chk (decide (0≤a)&&decide (a<↑(List.length e))) (
 chk (decide ((Int.toNat a)<List.length e)) (
 let l:=List.getD e (Int.toNat a) (aB (.num .i64))
 chk (Nat.beq (List.length e) (List.length e)) (
 let m:=(IntKind.wrap .i64 (a+1))
 b (c,i,decide (0≤l),e,d,g,m)))))))))))) (
 let n:=(IntKind.wrap .i64 (a+1))
 b (c,i,j,h,d,g,n))))) (
 f (c,h,j))
theorem are(N:Nat)(a:St→Ro):LB (xD N a) qg (rZ N (fun y=>a (dc y))):=fun _ _=>by kernel_rfl
def sa(N:Nat):(St→Ro)→St→Ro:=fun a s=>run cu N tr (xB (run cu N) a) s
def vx(N:Nat)(c:iJ→Ro)(d:xC→Ro):iJ→Ro:=fun(a,b,e)=>
 cond e (
 chk (decide (0<List.length b)&&decide (List.length b≤1000)) (
 chk (Nat.beq (List.length b) (List.length b)) (
 let f:=(↑(List.length a):Int)
 d (a,b,false,b,a,f,0)))) (
 some (.sl (.num .i64) .own b,[]))
def oN(N:Nat)(a:iJ→Ro)(x:iJ):Ro:=vx N a (fun z=>aR N (rZ N a) z) x
def abY(N:Nat)(a:St→Ro):List (Nat×(St→Ro)):=(bR cu N tr (xB (run cu N) a)++(bR cu N zv (fin uc)++[]))
theorem arf(N:Nat):∀(a:St→Ro)(x:iJ),sa N a (dc x)=oN N (fun y=>a (dc y)) x:=by
 intro a x
 have hX:∀C:Nat→St→Ro,bY C cu N tr (xB (bY C cu N) a) (dc x)=vx N (fun y=>a (dc y)) (fun z=>C 1000001 (qg z)) x:=by
  intro C
  kernel_rfl
 have h:sa N a (dc x)=vx N (fun y=>a (dc y)) (fun z=>aX N (xD N a) (qg z)) x:=(cW (C:=eZ (abY N a)) (bS (aY (l:=(abY N a)) (by kernel_rfl))) (jd (cD (fL (bS (dP (aY (l:=(abY N a)) (by kernel_rfl)))) rfl))) _).trans ((hX _).trans (by kernel_rfl))
 have e2:(fun z=>aX N (xD N a) (qg z))=(fun z=>aR N (rZ N (fun y=>a (dc y))) z):=funext fun z=>aW (qg) (xD N a) (rZ N (fun y=>a (dc y))) (are N a) N z
 rw[h,e2]
 rfl
def xE(N:Nat):(St→Ro)→St→Ro:=fun a s=>run cu N vw (abX (run cu N) a) s
def vy(N:Nat)(b:lr→Ro)(g:iJ→Ro):lr→Ro:=fun(c,d,e,a)=>
 cond (decide (a<e)) (
 chk (decide (0<List.length d)) (
 chk (decide (0≤a)&&decide (a<↑(List.length d))) (
 chk (decide ((Int.toNat a)<List.length d)) (
 let f:=(List.set d (Int.toNat a) (-1))
 chk (Nat.beq (List.length d) (List.length f)) (
 let h:=(IntKind.wrap .i64 (a+1))
 b (c,f,e,h)))))) (
 g (c,d,true))
def xF(N:Nat)(a:lr→Ro)(x:lr):Ro:=vy N a (fun z=>aR N (oN N) z) x
def abZ(N:Nat)(a:St→Ro):List (Nat×(St→Ro)):=(bR cu N vw (abX (run cu N) a)++(bR cu N zw (fin uc)++[]))
theorem arg(N:Nat):∀(a:St→Ro)(x:lr),xE N a (fQ x)=xF N (fun y=>a (fQ y)) x:=by
 intro a x
 have hX:∀C:Nat→St→Ro,bY C cu N vw (abX (bY C cu N) a) (fQ x)=vy N (fun y=>a (fQ y)) (fun z=>C 1000002 (dc z)) x:=by
  intro C
  kernel_rfl
 have h:xE N a (fQ x)=vy N (fun y=>a (fQ y)) (fun z=>aX N (sa N) (dc z)) x:=(cW (C:=eZ (abZ N a)) (bS (aY (l:=(abZ N a)) (by kernel_rfl))) (jd (cD (fL (bS (dP (aY (l:=(abZ N a)) (by kernel_rfl)))) rfl))) _).trans ((hX _).trans (by kernel_rfl))
 have e1:(fun z=>aX N (sa N) (dc z))=(fun z=>aR N (oN N) z):=funext fun z=>aW (dc) (sa N) (oN N) (arf N) N z
 rw[h,e1]
 rfl
def ud(N:Nat)(a:List aA)(d:lr→Ro):Ro:=
 let b:=(↑(List.length a):Int)
 chk (decide (0≤b)&&decide (b*8≤140737488355328)) (
 let c:=(List.replicate (Int.toNat b) (aB (.num .i64)))
 let e:=(↑(List.length c):Int)
 d (a,c,e,0))
def aky(N:Nat)(a:List aA):Ro:=ud N a (fun z=>aR N (xF N) z)
theorem asZ(N:Nat)(a:List aA)(h:Tot (aky N a) (fun z=>∃(c:List Int)(rest:List aK),z.1.dimR=.sl (.num .i64) (.may false) c∧z.2=rest∧uJ a (c))):∃r,rA a r:=au1.finP (N:=N) ((bo _ (by kernel_rfl) rfl (fun C=>ud N a (fun z=>C 1000000 (fQ z))) (fun C=>by kernel_rfl)).trans (Eq.trans (b:=ud N a (fun z=>aX N (xE N) (fQ z))) (by kernel_rfl) (congrArg (ud N a) (funext fun z=>aW (fQ) (xE N) (xF N) (arg N) N z)))) h fun _ ⟨c,_,e,_,q⟩=>⟨(c),e,q⟩
end Go.Proofs.Ytdpajabhmmmjoaa
end
noncomputable section
namespace Go.Proofs.Ytdpajabhmmmjoaa
open Go.AM
set_option autoImplicit false
set_option linter.unusedVariables false
set_option linter.unusedSimpArgs false
set_option maxRecDepth 100000
theorem axZ(k:aA)(m:Nat)(hk:gu m k)(r:List Int)(hr:r.length=m):∃b,tN k r b:=by
 apply arc 1000
 unfold ah1 rY
 dsimp only
 have hnb:=hk.nb
 refine aU (fun x=>match x with
  |(r',k',b,l,n,i)=>r'=r∧k'=k∧l=k.branches∧n=(k.branches.length:Int)∧0≤i∧i≤(k.branches.length:Int)∧((b=-1∧∀j:Nat,(j:Int)<i→rk r (brT k j)<0)∨
    (0≤b∧b<i∧0≤rk r (brT k b.toNat)∧(∀j:Nat,(j:Int)<i→0≤rk r (brT k j)→rk r (brT k b.toNat)≤rk r (brT k j))∧(∀j,j<b.toNat→0≤rk r (brT k j)→rk r (brT k b.toNat)<rk r (brT k j)))))
  (fun x=>((k.branches.length:Int)-x.2.2.2.2.2).toNat) ?_ _ _ ⟨rfl,rfl,rfl,rfl,by simp,by simp,.inl ⟨rfl,fun j hj=>by omega⟩⟩ (by simp;omega)
 rintro again ⟨r',k',b,l,n,i⟩ ⟨rfl,rfl,rfl,rfl,i1,i2,i3⟩ ih
 dsimp only at ih
 unfold vv
 dsimp only
 refine aC (fun h=>?_) (fun h=>?_)
 ·have h:=of_decide_eq_true h
  have hi:i.toNat<k'.branches.length:=by omega
  have hbr:=hk.branches _ (cA k'.branches i.toNat 0 hi)
  have ew:IntKind.i64.wrap (i+1)=i+1:=aI (i+1) (by omega)
  have keep:(0≤rk r' (brT k' i.toNat)→0≤b∧rk r' (brT k' b.toNat)≤rk r' (brT k' i.toNat))→Tot (again (r',k',b,k'.branches,(k'.branches.length:Int),IntKind.i64.wrap (i+1))) _:=fun hk'=>ih (r',k',b,k'.branches,_,IntKind.i64.wrap (i+1)) (by
   simp only[ew]
   refine⟨trivial,trivial,trivial,trivial,by omega,by omega,?_⟩
   rcases i3 with⟨rfl,j1⟩|⟨j1,j2,j3,j4,j5⟩
   ·refine .inl ⟨rfl,fun j hj=>?_⟩
    by_cases hji:(j:Int)<i
    ·exact j1 j hji
    ·have e:j=i.toNat:=by omega
     rw[e]
     by_cases h0:0≤rk r' (brT k' i.toNat)
     ·have:=(hk' h0).1;omega
     ·omega
   ·refine .inr ⟨j1,by omega,j3,fun j hj h0=>?_,j5⟩
    by_cases hji:(j:Int)<i
    ·exact j4 j hji h0
    ·have e:j=i.toNat:=by omega
     rw[e] at h0 ⊢;exact(hk' h0).2) (by simp only[ew];omega)
  have turn:0≤rk r' (brT k' i.toNat)→(0≤b→rk r' (brT k' i.toNat)<rk r' (brT k' b.toNat))→Tot (again (r',k',i,k'.branches,(k'.branches.length:Int),IntKind.i64.wrap (i+1))) _:=fun h0 hlt=>ih (r',k',i,k'.branches,_,IntKind.i64.wrap (i+1)) (by
   simp only[ew]
   refine⟨trivial,trivial,trivial,trivial,by omega,by omega,.inr ⟨i1,by omega,h0,fun j hj h0'=>?_,fun j hj h0'=>?_⟩⟩
   ·by_cases hji:(j:Int)<i
    ·rcases i3 with⟨rfl,j1⟩|⟨j1,j2,j3,j4,j5⟩
     ·have:=j1 j hji;omega
     ·have:=j4 j hji h0'
      have:=hlt j1
      omega
    ·have e:j=i.toNat:=by omega
     rw[e];exact Int.le_refl _
   ·rcases i3 with⟨rfl,j1⟩|⟨j1,j2,j3,j4,j5⟩
    ·have:=j1 j (by omega);omega
    ·have:=j4 j (by omega) h0'
     have:=hlt j1
     omega) (by simp only[ew];omega)
  refine vck ?_
  change Tot (chk (decide (0≤brT k' i.toNat)&&decide (brT k' i.toNat<(r'.length:Int))) (cond (decide (0≤rk r' (brT k' i.toNat))) (cond (decide (b<0)) _
   (chk (decide (0≤brT k' i.toNat)&&decide (brT k' i.toNat<(r'.length:Int))) (chk _ (chk (decide (0≤brT k' b.toNat)&&decide (brT k' b.toNat<(r'.length:Int))) (cond (decide (rk r' (brT k' i.toNat)<rk r' (brT k' b.toNat))) _ _))))) _)) _
  have hbr:0≤brT k' i.toNat∧brT k' i.toNat<(m:Int):=hbr
  refine vck (aC (fun h0=>?_) (fun h0=>keep fun h0'=>absurd h0' (of_decide_eq_false h0)))
  have h0:=of_decide_eq_true h0
  refine aC (fun h1=>turn h0 fun h1'=>absurd h1' (Int.not_le.2 (of_decide_eq_true h1))) (fun h1=>?_)
  have h1:=of_decide_eq_false h1
  have hbl:b<i:=by
   rcases i3 with⟨rfl,j1⟩|⟨j1,j2,j3,j4,j5⟩<;>omega
  have hbb:=hk.branches _ (cA k'.branches b.toNat 0 (by omega))
  have hbb:0≤brT k' b.toNat∧brT k' b.toNat<(m:Int):=hbb
  refine vck (vck (vck (aC (fun h2=>turn h0 fun _=>of_decide_eq_true h2) (fun h2=>keep fun _=>?_))))
  have h2:=of_decide_eq_false h2
  omega
 ·have h:=of_decide_eq_false h
  refine aF ⟨_,_,rfl,rfl,?_⟩
  rcases i3 with⟨rfl,j1⟩|⟨j1,j2,j3,j4,j5⟩
  ·exact .inl ⟨rfl,fun j hj=>j1 j (by omega)⟩
  ·exact .inr ⟨⟨j1,by omega,fun j hj h0=>⟨j3,j4 j (by omega) h0⟩,j5⟩,j3⟩
theorem az9(k:aA)(m:Nat)(hk:gu m k)(r:List Int)(hr:r.length=m)(hb:∀i,i<r.length→-1≤r.getD i 0∧r.getD i 0≤1000):∃q,yl k r q:=by
 apply auZ 1000
 unfold amO wH
 dsimp only
 have hpost:∀q,abF k r q=((q=-1∧aew k r)∨af3 k r q):=fun _=>rfl
 simp only[hpost]
 refine aC (fun h9=>?_) (fun h9=>aC (fun h14=>?_) (fun h14=>?_))
 ·have h9:k.kind=9:=by simp only[bnl] at h9;exact h9
  have hnf:=hk.nf
  refine aU (fun x=>match x with
   |(r',best,l,n,i)=>r'=r∧l=k.fields∧n=(k.fields.length:Int)∧0≤i∧i≤(k.fields.length:Int)∧0≤best∧best≤1000∧(∀f∈k.fields.take i.toNat,0≤rk r f.typ∧rk r f.typ≤best)∧(1≤best→∃j,j<r.length∧r.getD j 0=best))
   (fun x=>((k.fields.length:Int)-x.2.2.2.2).toNat) ?_ _ _ ⟨rfl,rfl,rfl,by simp,by simp,by simp,by simp,by simp,by simp⟩ (by simp;omega)
  rintro again ⟨r',best,l,n,i⟩ ⟨rfl,rfl,rfl,i1,i2,i3,i4,i5,i6⟩ ih
  dsimp only at ih
  unfold yY
  dsimp only
  refine aC (fun h=>?_) (fun h=>?_)
  ·have h:=of_decide_eq_true h
   have hi:i.toNat<k.fields.length:=by omega
   have hm:=cA k.fields i.toNat (aB .afield) hi
   have hf:=hk.fields _ hm
   have ew:IntKind.i64.wrap (i+1)=i+1:=aI (i+1) (by omega)
   have ht:=wE k.fields i.toNat (aB .afield) hi
   refine vck ?_
   generalize k.fields.getD i.toNat (aB .afield)=f at*
   refine vck ?_
   have hq:=hb f.typ.toNat (by omega)
   refine aC (fun h0=>aF ⟨_,_,rfl,rfl,.inl ⟨rfl,.inl ⟨h9,f,hm,of_decide_eq_true h0⟩⟩⟩) (fun h0=>?_)
   have h0:¬r'.getD f.typ.toNat 0<0:=of_decide_eq_false h0
   refine vck ?_
   refine ih (r',_,k.fields,_,_) ?_ (by simp only[ew];omega)
   simp only[ew]
   have ei:(i+1).toNat=i.toNat+1:=by omega
   have em:(if best<r'.getD f.typ.toNat (aB (.num .i64)) then r'.getD f.typ.toNat (aB (.num .i64)) else best)=(if best<r'.getD f.typ.toNat 0 then r'.getD f.typ.toNat 0 else best):=rfl
   rw[em,ei,ht]
   refine⟨trivial,trivial,trivial,by omega,by omega,by split<;>omega,by split<;>omega,fun g hg=>?_,fun h1=>?_⟩
   ·rcases List.mem_append.1 hg with hg|hg
    ·have:=i5 g hg;split<;>omega
    ·rw[List.mem_singleton] at hg
     subst hg
     have:rk r' g.typ=r'.getD g.typ.toNat 0:=rfl
     rw[this];split<;>omega
   ·split
    ·exact⟨f.typ.toNat,by omega,rfl⟩
    ·rename_i hh;rw[if_neg hh] at h1;exact i6 h1
  ·have h:=of_decide_eq_false h
   refine aC (fun h1=>by have:=of_decide_eq_true h1;omega) (fun h1=>aF ⟨_,_,rfl,rfl,.inr ?_⟩)
   rw[aI _ (by omega)]
   rw[List.take_of_length_le (by omega)] at i5
   exact⟨by omega,fun _=>by omega,fun h'=>by omega,fun _ f hf=>by have:=i5 f hf;omega,fun h2=>by
    obtain⟨j,hj,e⟩:=i6 (by omega)
    exact⟨j,hj,by omega⟩⟩
 ·have h9:k.kind≠9:=by simp only[bnl] at h9;exact h9
  have h14:k.kind=14:=by simp only[bnl] at h14;exact h14
  refine aE (axZ k m hk r hr) ?_
  rintro(b:Int) ⟨-,hbp⟩
  refine aC (fun h0=>?_) (fun h0=>aC (fun _=>aF ⟨_,_,rfl,rfl,.inl ⟨rfl,.inr ⟨h14,fun c hc=>?_⟩⟩⟩) (fun h1=>absurd (of_decide_eq_false h1) (by decide)))
  rotate_left
  ·have h0:=of_decide_eq_false h0
   rcases hbp with⟨-,hall⟩|⟨hc', -⟩
   ·obtain⟨j,hj,rfl⟩:=List.mem_iff_getElem.1 hc
    have:=hall j hj
    unfold brT at this
    rwa [List.getD_eq_getElem?_getD,List.getElem?_eq_getElem hj] at this
   ·have:=hc'.nn;omega
  have h0:=of_decide_eq_true h0
  rcases hbp with⟨rfl,_⟩|⟨hc,hr0⟩
  ·omega
  have hlt:=hc.lt
  have hmem:=cA k.branches b.toNat 0 (by omega)
  have hbr:=hk.branches _ hmem
  refine vck ?_
  change Tot (chk (decide (0≤brT k b.toNat)&&decide (brT k b.toNat<(r.length:Int))) (cond (decide (rk r (brT k b.toNat)<0)) _ (some (V.int .i64 (IntKind.wrap .i64 (rk r (brT k b.toNat)+1)),([]:List aK))))) _
  have hbr:0≤brT k b.toNat∧brT k b.toNat<(m:Int):=hbr
  have hq:-1≤rk r (brT k b.toNat)∧rk r (brT k b.toNat)≤1000:=hb (brT k b.toNat).toNat (by omega)
  refine vck (aC (fun h1=>by have h1:rk r (brT k b.toNat)<0:=of_decide_eq_true h1;omega) (fun h1=>aF ⟨_,_,rfl,rfl,.inr ?_⟩))
  rw[aI _ (by omega)]
  exact⟨by omega,fun _=>by omega,fun _=>⟨brT k b.toNat,hmem,hr0,by omega⟩,fun h'=>absurd h' h9,fun h2=>⟨(brT k b.toNat).toNat,by omega,rfl⟩⟩
 ·have h9:k.kind≠9:=by simp only[bnl] at h9;exact h9
  have h14:k.kind≠14:=by simp only[bnl] at h14;exact h14
  exact aF ⟨_,_,rfl,rfl,.inr ⟨by omega,fun h'=>by omega,fun h'=>absurd h' h14,fun h'=>absurd h' h9,fun h2=>by omega⟩⟩
end Go.Proofs.Ytdpajabhmmmjoaa
end
noncomputable section
namespace Go.Proofs.Ytdpajabhmmmjoaa
open Go.AM
set_option autoImplicit false
set_option linter.unusedVariables false
set_option linter.unusedSimpArgs false
set_option maxRecDepth 100000
theorem af3.mono{k:aA}{r r':List Int}{m:Int}(h:af3 k r m)(hl:r'.length=r.length)(hr:∀i,0≤r.getD i 0→r'.getD i 0=r.getD i 0):af3 k r' m where
 low:=h.low
 pos:=h.pos
 uni h14:=by
  obtain⟨b,hb,h0,h1⟩:=h.uni h14
  exact⟨b,hb,by unfold rk at *;rw[hr _ h0];exact h0,by unfold rk at *;rw[hr _ h0];exact h1⟩
 rcd h9 f hf:=by
  obtain⟨h0,h1⟩:=h.rcd h9 f hf
  exact⟨by unfold rk at *;rw[hr _ h0];exact h0,by unfold rk at *;rw[hr _ h0];exact h1⟩
 pre h2:=by
  obtain⟨j,hj,e⟩:=h.pre h2
  exact⟨j,by omega,by rw[hr _ (by omega)];exact e⟩
theorem ahs.step{ts:List aA}{r next:List Int}{m:Int}(h:ahs ts r m)(hm:0≤m)(hl:next.length=ts.length)(h1:∀j,j<ts.length→0≤r.getD j 0→next.getD j 0=r.getD j 0)
  (h2:∀j,j<ts.length→r.getD j 0<0→next.getD j 0=-1∨af3 (ts.getD j (aB .atype)) r (next.getD j 0)):ahs ts next (m+1):=by
 have hrl:=h.len
 have hmono:∀i,0≤r.getD i 0→next.getD i 0=r.getD i 0:=fun i hi=>by
  by_cases hil:i<ts.length
  ·exact h1 i hil hi
  ·simp[List.getD_eq_getElem?_getD,List.getElem?_eq_none (show next.length≤i by omega),List.getElem?_eq_none (show r.length≤i by omega)]
 refine⟨hl,fun i hi=>?_,fun i hi=>?_,fun i hi h'=>?_⟩
 ·by_cases h0:0≤r.getD i 0
  ·rw[hmono i h0];omega
  ·rcases h2 i (by omega) (by omega) with e|e
   ·omega
   ·have:=e.low;omega
 ·by_cases h0:0≤r.getD i 0
  ·rw[hmono i h0];have:=h.top i (by omega);omega
  ·rcases h2 i (by omega) (by omega) with e|e
   ·omega
   ·by_cases hp:2≤next.getD i 0
    ·obtain⟨j,hj,ej⟩:=e.pre hp
     have:=h.top j hj;omega
    ·omega
 ·by_cases h0:0≤r.getD i 0
  ·rw[hmono i h0] at h' ⊢;exact(h.ok i (by omega) h').mono (by omega) hmono
  ·rcases h2 i (by omega) (by omega) with e|e
   ·omega
   ·exact e.mono (by omega) hmono
theorem arh(ts:List aA)(hs:cw ts):∃r,rA ts r:=by
 apply asZ 1000
 unfold aky ud
 dsimp only
 obtain⟨⟨hn0,hn⟩,hall⟩:=hs
 have hs:cw ts:=⟨⟨hn0,hn⟩,hall⟩
 refine vck ?_
 have rounds:∀r,ahs ts r 0→Tot (aR 1000 (oN 1000) (ts,r,true)) (fun z=>∃(y0:List Int)(rest:List aK),z.1.dimR=.sl (.num .i64) (.may false) y0∧z.2=rest∧uJ ts y0):=by
  intro r hr
  have hnl:=api r
  have hrl:=hr.len
  refine aU (fun x=>match x with|(ts',r,more)=>ts'=ts∧(more=false→∀j,j<ts.length→r.getD j 0<0→aew (ts.getD j (aB .atype)) r)∧∃m:Int,0≤m∧m+(wF r:Int)≤ts.length∧ahs ts r m)
   (fun x=>wF x.2.1+(if x.2.2 then 1 else 0)) ?_ _ _ ⟨rfl,(fun h=>by cases h),0,by omega,by omega,hr⟩ (by simp only[if_true];omega)
  rintro again ⟨ts',r,more⟩ ⟨rfl,i0,m,i1,i2,i3⟩ ih
  dsimp only at ih
  unfold oN vx
  dsimp only
  have hrl:=i3.len
  have hnn:(0:Int)≤(wF r:Int):=by omega
  refine aC (fun hmore=>?_) (fun hmore=>aF ⟨_,_,rfl,rfl,⟨i3.len,i3.low,fun i hi=>by have:=i3.top i hi;omega,i3.ok⟩,i0 hmore⟩)
  subst hmore
  refine vck (vck ?_)
  refine aU (fun x=>match x with|(ts2,r2,mo,next,ts3,n2,i)=>ts2=ts'∧r2=r∧ts3=ts'∧n2=(ts'.length:Int)∧0≤i∧i≤(ts'.length:Int)∧next.length=ts'.length∧(∀j,j<ts'.length→(0≤r.getD j 0∨i≤(j:Int))→next.getD j 0=r.getD j 0)∧
    (∀j,j<ts'.length→(j:Int)<i→r.getD j 0<0→(next.getD j 0=-1∧aew (ts'.getD j (aB .atype)) r)∨af3 (ts'.getD j (aB .atype)) r (next.getD j 0))∧
    (mo=true→∃j,j<ts'.length∧r.getD j 0<0∧0≤next.getD j 0)∧(mo=false→∀j,j<ts'.length→r.getD j 0<0→next.getD j 0<0))
   (fun x=>((ts'.length:Int)-x.2.2.2.2.2.2).toNat) ?_ _ _ ⟨rfl,rfl,rfl,rfl,by simp,by simp,by simpa using hrl,fun j _ _=>rfl,fun j _ hj=>by omega,by simp,fun _ j _ h=>h⟩ (by simp;omega)
  rintro again2 ⟨ts2,r2,mo,next,ts3,n2,i⟩ ⟨rfl,rfl,rfl,rfl,j1,j2,j3,j4,j5,j6,j7⟩ ih2
  dsimp only at ih2
  unfold rZ
  dsimp only
  refine aC (fun h'=>?_) (fun h'=>?_)
  ·have h':=of_decide_eq_true h'
   have ei:IntKind.i64.wrap (i+1)=i+1:=aI (i+1) (by omega)
   have hil:i.toNat<ts3.length:=by omega
   have hty:=hs.at hil
   refine vck (vck (aC (fun h0=>?_) (fun h0=>?_)))
   ·have h0:r2.getD i.toNat 0<0:=of_decide_eq_true h0
    have hold:next.getD i.toNat 0=r2.getD i.toNat 0:=j4 _ hil (.inr (by omega))
    refine vck (aE (az9 _ ts3.length hty r2 hrl fun q hq=>⟨i3.low q hq,by have:=i3.top q hq;omega⟩) ?_)
    rintro(q:Int) ⟨-,hq⟩
    have hlen:(next.set i.toNat q).length=ts3.length:=by simpa using j3
    have hq1:-1≤q:=by
     rcases hq with e|e
     ·omega
     ·have:=e.low;omega
    have nx:∀mo':Bool,(mo'=true→(mo=true∨0≤q))→(mo'=false→mo=false∧q<0)→Tot (again2 (ts3,r2,mo',next.set i.toNat q,ts3,(ts3.length:Int),IntKind.i64.wrap (i+1))) _:=fun mo' hmo hmf=>ih2 (ts3,r2,mo',next.set i.toNat q,ts3,_,IntKind.i64.wrap (i+1)) (by
     simp only[ei]
     refine⟨trivial,trivial,trivial,trivial,by omega,by omega,hlen,fun j hj hc=>?_,fun j hj hji hneg=>?_,fun hm=>?_,fun hm j hj hneg=>?_⟩
     ·have hne:i.toNat≠j:=fun e=>by rw[e] at h0;omega
      rw[eH _ _ _ _ _ hne]
      exact j4 j hj (by omega)
     ·by_cases hh:(j:Int)<i
      ·rw[eH _ _ _ _ _ (by omega)]
       exact j5 j hj hh hneg
      ·have e:j=i.toNat:=by omega
       rw[e,gr _ _ _ _ (by omega)]
       exact hq
     ·rcases hmo hm with hm|hm
      ·obtain⟨j,a1,a2,a3⟩:=j6 hm
       have hne:i.toNat≠j:=fun e=>by rw[←e,hold] at a3;omega
       exact⟨j,a1,a2,by rw[eH _ _ _ _ _ hne];exact a3⟩
      ·exact⟨i.toNat,hil,h0,by rw[gr _ _ _ _ (by omega)];exact hm⟩
     ·by_cases hh:i.toNat=j
      ·rw[←hh,gr _ _ _ _ (by omega)];exact(hmf hm).2
      ·rw[eH _ _ _ _ _ hh];exact j7 (hmf hm).1 j hj hneg) (by simp only[ei];omega)
    refine vck (vck (aJ (by simp) (aJ (by rw[hlen];first|(simp only[bnl,lnl];done)|(simp only[bnl,lnl];omega)) ?_)))
    refine aC (fun hm=>?_) (fun hm=>?_)
    ·exact aJ (by simp) (nx true (fun _=>.inl hm) (fun h=>by cases h))
    ·refine aJ (by rw[hlen];first|(simp only[bnl,lnl];done)|(simp only[bnl,lnl];omega)) (aJ (by rw[hlen];first|(simp only[bnl,lnl];done)|(simp only[bnl,lnl];omega)) (aJ (by simp) ?_))
     have eg:(next.set i.toNat q).getD i.toNat (aB (.num .i64))=q:=gr _ _ _ _ (by omega)
     rw[eg]
     exact nx _ (fun h=>.inr (of_decide_eq_true h)) (fun h=>⟨hm,by have:=of_decide_eq_false h;omega⟩)
   ·have h0:¬r2.getD i.toNat 0<0:=of_decide_eq_false h0
    refine ih2 (ts3,r2,mo,next,ts3,_,_) ?_ (by simp only[ei];omega)
    simp only[ei]
    refine⟨trivial,trivial,trivial,trivial,by omega,by omega,j3,fun j hj hc=>j4 j hj (by omega),fun j hj hji hneg=>?_,j6,j7⟩
    by_cases hh:(j:Int)<i
    ·exact j5 j hj hh hneg
    ·have:j=i.toNat:=by omega
     rw[this] at hneg;omega
  ·have h':=of_decide_eq_false h'
   have hst:=i3.step i1 j3 (fun j hj h0=>j4 j hj (.inl h0)) fun j hj h0=>(j5 j hj (by omega) h0).imp And.left id
   have hsub:∀j,j<next.length→next.getD j 0<0→r2.getD j 0<0:=fun j hj hx=>by
    by_cases h0:0≤r2.getD j 0
    ·rw[j4 j (by omega) (.inl h0)] at hx;omega
    ·omega
   cases hmo:mo with
   |true=>
    obtain⟨j,a1,a2,a3⟩:=j6 hmo
    have hlt:=asO next r2 (by omega) hsub j (by omega) a3 a2
    exact ih (ts3,next,true) ⟨rfl,(fun h=>by cases h),m+1,by omega,(by dsimp only;omega),hst⟩ (by simp only[if_true];omega)
   |false=>
    have hle:=asN next r2 (by omega) hsub
    have hj7:=j7 hmo
    refine ih (ts3,next,false) ⟨rfl,(fun _ j hj hx=>?_),m,by omega,(by dsimp only;omega),hst.len,hst.low,fun j hj=>?_,hst.ok⟩ (by simp;omega)
    ·have hx:next.getD j 0<0:=hx
     have hj:j<ts3.length:=hj
     rcases j5 j hj (by omega) (hsub j (by omega) hx) with⟨_,e⟩|e
     ·have hty:=hs.at hj
      rcases e with⟨e1,f,hf,e2⟩|⟨e1,e2⟩
      ·have:=hty.fields f hf
       exact .inl ⟨e1,f,hf,hj7 f.typ.toNat (by omega) e2⟩
      ·refine .inr ⟨e1,fun b hb=>?_⟩
       have:=hty.branches b hb
       exact hj7 b.toNat (by omega) (e2 b hb)
     ·have:=e.low;omega
    have hj:j<next.length:=hj
    show next.getD j 0≤m
    by_cases h0:0≤r2.getD j 0
    ·rw[j4 j (by omega) (.inl h0)];exact i3.top j (by omega)
    ·have:=hj7 j (by omega) (by omega);omega
 have hr0:(List.replicate (ts.length:Int).toNat (aB (.num .i64))).length=ts.length:=by simp
 refine aU (fun x=>match x with|(ts',r,n,i)=>ts'=ts∧n=(ts.length:Int)∧0≤i∧i≤(ts.length:Int)∧r.length=ts.length∧∀j,j<ts.length→(j:Int)<i→r.getD j 0=-1)
  (fun x=>((ts.length:Int)-x.2.2.2).toNat) ?_ _ _ ⟨rfl,by rw[hr0],by simp,by simp,hr0,fun j _ hj=>by omega⟩ (by simp;omega)
 rintro again ⟨ts',r,n,i⟩ ⟨rfl,rfl,i1,i2,i3,i4⟩ ih
 dsimp only at ih
 unfold xF vy
 dsimp only
 refine aC (fun h=>?_) (fun h=>?_)
 ·have h:=of_decide_eq_true h
  have ei:IntKind.i64.wrap (i+1)=i+1:=aI (i+1) (by omega)
  refine vck (vck (vck (aJ (by simp) ?_)))
  refine ih (ts',_,_,_) ?_ (by simp only[ei];omega)
  simp only[ei]
  refine⟨trivial,trivial,by omega,by omega,by simpa using i3,fun j hj hji=>?_⟩
  by_cases hh:i.toNat=j
  ·rw[←hh,gr _ _ _ _ (by omega)]
  ·rw[eH _ _ _ _ _ hh];exact i4 j hj (by omega)
 ·have h:=of_decide_eq_false h
  refine rounds r ⟨i3,fun j hj=>?_,fun j hj=>?_,fun j hj h1=>?_⟩
  all_goals have:=i4 j (by omega) (by omega)
  all_goals omega
end Go.Proofs.Ytdpajabhmmmjoaa
end
noncomputable section
namespace Go.Proofs.Ytdpajabhmmmjoaa
open Go.AM
set_option autoImplicit false
set_option linter.unusedVariables false
set_option linter.unusedSimpArgs false
set_option maxRecDepth 100000
theorem apD(w:List Int)(i:Nat)(x:Int):∀l:List Int,(∀p∈l,p.toNat≠i)→arR (w.set i x) l=arR w l
 | [],_=>rfl
 |p::l,h=>by
  have:=apD w i x l fun p hp=>h p (by simp[hp])
  simp only[arR,this,rk]
  rw[eH _ _ _ _ _ (fun e=>h p (by simp) e.symm)]
theorem av2.set{ts:List aA}{r w:List Int}(h:av2 ts r w){t:Nat}(ht:t<ts.length)(h0:w.getD t 0=0)(hr:0≤r.getD t 0){n:Int}(hn:1≤n∧n≤1000000){l:List Int}(hl:aBk (ts.getD t (aB .atype)) r l)
  (hp:∀p∈l,rk w p≠0) (hsum:n=aCq (1+arR w l)):av2 ts r (w.set t n):=by
 have hwl:=h.len
 have key:∀l:List Int,(∀p∈l,rk w p≠0)→(∀p∈l,p.toNat≠t):=fun l hl p hp e=>by
  have:=hl p hp
  unfold rk at this
  rw[e] at this;exact this h0
 have keep:∀l:List Int,(∀p∈l,rk w p≠0)→(∀p∈l,rk (w.set t n) p≠0):=fun l hl p hp=>by
  unfold rk
  rw[eH _ _ _ _ _ (fun e=>key l hl p hp e.symm)]
  exact hl p hp
 refine⟨by simpa using hwl,fun i hi=>?_,fun i hi hne=>?_⟩
 ·by_cases e:t=i
  ·rw[←e,gr _ _ _ _ (by omega)];omega
  ·rw[eH _ _ _ _ _ e];exact h.low i hi
 ·by_cases e:t=i
  ·rw[←e,gr _ _ _ _ (by omega)]
   exact⟨hr,l,hl,keep l hp,by rw[apD _ _ _ _ (key l hp)];exact hsum⟩
  ·rw[eH _ _ _ _ _ e] at hne ⊢
   obtain⟨a1,l',a2,a3,a4⟩:=h.ok i hi hne
   exact⟨a1,l',a2,keep l' a3,by rw[apD _ _ _ _ (key l' a3)];exact a4⟩
end Go.Proofs.Ytdpajabhmmmjoaa
end
noncomputable section
namespace Go.Proofs.Ytdpajabhmmmjoaa
open Go.AM
set_option autoImplicit false
set_option linter.unusedVariables false
set_option maxRecDepth 100000
noncomputable def ajf:aN:=tab (P:=Try.prog) [] [] [] [av5]
def akz:IR:=Rs [Bi 10 .lss 9 8] (Sq (Cn 10 .skip (.exit 0)) (Sq (.block 1 (Rs [Ix 11 (.num .i64) 7 9,Lq 12 11,Mv 5 12] (Rg [Pp (.mov 13 (.tk 3)),Mv 14 5,Bc 15 .geq 14 0,Pp (.bsl 16 .bool [15] true),Pp (.app 17 .bool (.tk 13) 16),Pp (.mov 3 (.tk 17))]))) (Rg [Bc 18 .add 9 1,Mv 9 18])))
def akA:IR:=Rs [Pp (.mov 19 (.tk 3)),Pp (.mov 2 (.tk 19))] .ret
def ax0:IR:=Rs [Bx 1 0,Pp (.mov 2 (.c (nl .bool)))] (Rs [Pp (.mov 3 (.c (nl .bool)))] (Sq (Rs [Ld 6 1 true 1,Ca 7 42 [6],Ll 8 7,Mi 9 0] (.block 0 (.loop [3,7,8,9,1000000] 0 akz))) akA))
def aoo:List RV:=[.t 2]
theorem ax1:FnC Try.prog ajf [] 0 aq8 Try.f16 ax0 aoo:=fnC Try.func16
def awY(R:IR→(Ex→St→Ro)→St→Ro)(a:St→Ro):Ex→St→Ro:=(bj a [3,7,8,9,1000000] 0 (aP 0 (bg (R akA) (fin aoo))))
abbrev aaP:Type:=(List Bool×List Int×Int×Int)
def y8:aaP→St:=fun(a,b,c,d)=>{env:=(U 3 (.sl .bool .own a::(U 3 (.sl (.num .i64) (.may false) b::.int .i64 c::.int .i64 d::(U 10 []))))),hp:=[]}
def afk(N:Nat):(St→Ro)→St→Ro:=fun a s=>run ajf N akz (awY (run ajf N) a) s
def wI(N:Nat)(a:aaP→Ro):aaP→Ro:=fun(c,d,e,b)=>
 cond (decide (b<e)) (
 chk (ixl b d) (
 let f:=List.getD d (Int.toNat b) (aB (.num .i64))
 chk (decide ((List.length c+List.length ([decide (0≤f)]:List Bool))*1≤140737488355328)) (
 let g:=(c++([decide (0≤f)]:List Bool))
 let h:=(IntKind.wrap .i64 (b+1))
 a (g,d,e,h)))) (
 some (.sl .bool .own c,[]))
theorem au2(N:Nat):LB (afk N) y8 (wI N):=fun _ _=>by kernel_rfl
def yw(N:Nat)(a:List aA)(c:aaP→Ro):Ro:=
 aG (rA a) (fun(b:List Int)=>
 let d:=(↑(List.length b):Int)
 c (([]:List Bool),b,d,0))
def aop(N:Nat)(a:List aA):Ro:=yw N a (fun z=>aR N (wI N) z)
theorem awZ(N:Nat)(a:List aA)(h:Tot (aop N a) (fun z=>∃(c:List Bool)(rest:List aK),z.1.dimR=.sl .bool (.may false) c∧z.2=rest∧ajR a (c))):∃r,xx a r:=ax1.finP (N:=N) ((bo _ (by kernel_rfl) rfl (fun C=>yw N a (fun z=>C 1000000 (y8 z))) (fun C=>by kernel_rfl)).trans (Eq.trans (b:=yw N a (fun z=>aX N (afk N) (y8 z))) (by kernel_rfl) (congrArg (yw N a) (funext fun z=>aW (y8) (afk N) (wI N) (au2 N) N z)))) h fun _ ⟨c,_,e,_,q⟩=>⟨(c),e,q⟩
end Go.Proofs.Ytdpajabhmmmjoaa
end
noncomputable section
namespace Go.Proofs.Ytdpajabhmmmjoaa
open Go.AM
set_option autoImplicit false
set_option linter.unusedVariables false
set_option maxRecDepth 100000
noncomputable def uf:aN:=tab (P:=Try.prog) [] [] [] [aj3,ahr]
def afl:IR:=Sq (Rs [Mv 28 9,Fa 29 8 7,Lq 30 29,Ll 31 30,Bi 32 .lss 28 31] (Cn 32 .skip (.exit 1))) (Sq (.block 2 (.reg [Fa 35 2 8,Fo [] [1] (.ld 36 1 false true 35),Ld 37 1 true 3,Fa 38 8 7,Lq 39 38,Mv 40 9,Ix 41 .afield 39 40,Fa 42 2 41,Fo [] [] (.ld 43 1 false false 42),Mv 44 2,Ca 45 85 [37,43,44],Pp (.bsl 46 .aval [45] true),Pp (.app 47 .aval (.tk 36) 46),Fa 48 2 8,Fo [] [1] (.st none 1 48 (.tk 47))] [[],[0],[],[],[3],[],[3,4,5],rg 3 6,rg 3 7,[],rg 2 9,rg 2 10,rg 0 11,rg 0 12,rg 0 13])) (Rg [Mv 33 9,Bc 34 .add 33 1,Mv 9 34]))
def afm:IR:=Rs [Pp (.ld 49 5 true false 8),Sv 5 6 49] .ret
def adI:IR:=Rs [Pp (.bld 66 [vU 0,vS,fu .aval true,fu .str true,vI 0] []),Sv 5 6 66] .ret
def ab0:IR:=Rs [Bx 3 0,Pp (.new 6 [vU 0,vS,nl .aval,nl .str,vI 0])] (Rs [Fa 11 0 3,Lq 12 11,Mv 13 1,Ix 14 .atype 12 13,Ld 15 10 true 14,Pp (.alr 7 10),Fz 7 10 15] (Sq (Rs [Fa 16 0 7,Lq 17 16] (.block 0 (Rs [Bc 19 .eql 17 11,Mv 18 19] (Cn 18 (Rs [Fa 20 7 7,Lq 21 20,Pp (.mks 22 .u8 21),Pp (.b2s 23 22),Pp (.bld 24 [vU 0,vS,fu .aval true,fu .str true,vI 0] [(1,1,23)]),Sv 5 6 24] .ret) (Rs [Bc 26 .eql 17 9,Mv 25 26] (Cn 25 (Rs [Pp (.bld 27 [vU 0,vS,nl .aval,nl .str,vI 0] []),Pp (.new 8 [vU 0,vS,nl .aval,nl .str,vI 0]),Sv 5 8 27] (Sq (Rs [Mi 9 0] (.block 1 (.loop [2,3,6,7,8,9,1000000] 2 afl))) afm)) (Rs [Bc 51 .eql 17 14,Mv 50 51] (Cn 50 (Rs [Ld 52 10 true 7,Mv 53 2,Ca 54 124 [52,53],Mv 10 54] (Sq (.reg [Mv 55 10,Ld 56 1 true 3,Fa 57 9 7,Lq 58 57,Mv 59 10,Ix 60 (.num .i64) 58 59,Lq 61 60,Mv 62 2,Ca 63 85 [56,61,62],Pp (.bsl 64 .aval [63] true),Pp (.bld 65 [vU 0,vS,fu .aval true,fu .str true,vI 0] [(4,1,55),(2,1,64)]),Fo [] [0] (.st none 5 6 65)] [[],[],[],[2],[],[2,3,4],rg 2 5,[],rg 1 7,rg 1 8,rg 0 9,rg 0 10]) .ret)) .skip)))))))) adI))
def xG:List RV:=[.cell 6 5 true]
theorem as0:FnC Try.prog uf [] 0 aj2 Try.f85 ab0 xG:=fnC Try.func85
def ari(R:IR→(Ex→St→Ro)→St→Ro)(a:St→Ro):Ex→St→Ro:=(bj a [2,3,6,7,8,9,1000000] 2 (aP 1 (bg (R afm) (aP 0 (bg (R adI) (fin xG))))))
abbrev vz:Type:=(List Int×List aA×aA×Int×Int×Bs×List aH×Bss×Int×Int×Bs×List aH×Bss×Int)
def tt:vz→St:=fun(e,f,g,h,i,j,k,l,m,n,a,b,c,d)=>{env:=(.undef::.undef::.sl (.num .i64) (.may false) e::.ea [.sl .atype (.may false) f]::.undef::.undef::.ptr 0 0::.ea (enc .atype g)::.ptr 1 0::.int .i64 h::(U 57 [])),hp:=[some [.int .u64 i,.str j,.sl .aval .own k,.sl .str .own l,.int .i64 m],some [.int .u64 n,.str a,.sl .aval .own b,.sl .str .own c,.int .i64 d]]}
def aaQ(N:Nat):(St→Ro)→St→Ro:=fun a s=>run uf N afl (ari (run uf N) a) s
def vA(N:Nat)(g:vz→Ro):vz→Ro:=fun(p,h,n,o,i,j,k,l,m,b,c,a,d,e)=>
 let q:=(↑(List.length n.fields):Int)
 cond (decide (o<q)) (
 chk (ixl o n.fields) (
 let r:=(List.getD n.fields (Int.toNat o) (aB .afield))
 aG (jW h r.typ p) (fun f=>
 chk (decide ((List.length a+List.length ([⟨f.1,f.2.1,f.2.2.2.1,f.2.2.2.2.2.1,f.2.2.2.2.2.2⟩]:List aH))*80≤140737488355328)) (
 let s:=(a++([⟨f.1,f.2.1,f.2.2.2.1,f.2.2.2.2.2.1,f.2.2.2.2.2.2⟩]:List aH))
 let t:=(IntKind.wrap .i64 (o+1))
 g (p,h,n,t,i,j,k,l,m,b,c,s,d,e))))) (
 some (.agg [.int .u64 b,.str c,.sl .aval (.may false) a,.sl .str (.may false) d,.int .i64 e],[some [.int .u64 b,.str c,.sl .aval (.may false) a,.sl .str (.may false) d,.int .i64 e],some [.int .u64 b,.str c,.sl .aval .own a,.sl .str .own d,.int .i64 e]]))
theorem apE(N:Nat):LB (aaQ N) tt (vA N):=fun _ _=>by kernel_rfl
def sb(N:Nat)(a:List aA)(g:Int)(d:List Int)(k:vz→Ro):Ro:=
 let e:=fun h i j=>(some (.agg [.int .u64 0,.str h,.sl .aval (.may true) i,.sl .str (.may true) ([]:Bss),.int .i64 j],[some [.int .u64 0,.str h,.sl .aval (.may true) i,.sl .str (.may true) ([]:Bss),.int .i64 j]]):Ro)
 chk (ixl g a) (
 let b:=(List.getD a (Int.toNat g) (aB .atype))
 cond (b.kind==11) (
 chk (decide (0≤b.size)&&decide (b.size*1≤140737488355328)) (
 let l:=(List.replicate (Int.toNat b.size) (aB .u8))
 e l ([]:List aH) 0)) (
 cond (b.kind==9) (
 k (d,a,b,0,0,([]:Bs),([]:List aH),([]:Bss),0,0,([]:Bs),([]:List aH),([]:Bss),0)) (
 cond (b.kind==14) (
 aG (oF b d) (fun(f:Int)=>
 chk (ixl f b.branches) (
 let m:=List.getD b.branches (Int.toNat f) (aB (.num .i64))
 aG (jW a m d) (fun c=>
 e ([]:Bs) ([⟨c.1,c.2.1,c.2.2.2.1,c.2.2.2.2.2.1,c.2.2.2.2.2.2⟩]:List aH) f)))) (
 e ([]:Bs) ([]:List aH) 0))))
def ab1(N:Nat)(a:List aA)(b:Int)(c:List Int):Ro:=sb N a b c (fun z=>aR N (vA N) z)
def au3(N:Nat):List (Nat×(St→Ro)):=bR uf N ab0 (fin xG)++[]
theorem arj(N:Nat)(a:List aA)(c:Int)(d:List Int):nO uf N 67 xG ab0 [.agg [.sl .atype (.may false) a],.int .i64 c,.sl (.num .i64) (.may false) d] []=ab1 N a c d:=
 ((bo (au3 N) (by kernel_rfl) rfl (fun C=>sb N a c d (fun z=>C 1000000 (tt z))) (fun C=>by kernel_rfl)).trans (Eq.trans (b:=sb N a c d (fun z=>aX N (aaQ N) (tt z))) (by kernel_rfl) (congrArg (sb N a c d) (funext fun z=>aW (tt) (aaQ N) (vA N) (apE N) N z))))
theorem ark(N:Nat)(a:List aA)(b:Int)(c:List Int)(h:Tot (ab1 N a b c) (fun z=>∃(d:Int)(e:Bs)(f:Bool)(g:List aH)(i:Bool)(j:Bss)(k:Int)(rest:List aK),z.1=.agg [.int .u64 d,.str e,.sl .aval (.may f) g,.sl .str (.may i) j,.int .i64 k]∧z.2=rest∧aeu a b c (d,e,f,g,i,j,k))):∃r,jW a b c r:=by
 obtain⟨⟨v,hp⟩,hz,d,e,f,g,i,j,k,rest,e1,e2,hq⟩:=h
 simp only at e1 e2
 subst e2
 subst e1
 exact⟨(d,e,f,g,i,j,k),as0.pure (arj N a b c) hz,hq⟩
noncomputable def akB:aN:=tab (P:=Try.prog) [] [] [] [aal,atT,aqe,aj3]
def ah2:IR:=Rs [Bx 2 0,Pp (.new 4 [vU 0,vS,nl .aval,nl .str,vI 0]),Mb 5 false] (Rs [Ld 7 1 true 2,Ca 8 83 [7],Mv 6 8] (Sq (Rs [Ld 9 1 true 2,Mv 10 1,Ca 11 45 [9,10],Un 12 11,Mv 13 12,Gf 13 (.mov 14 6),Gf 13 (.mov 15 1),Gf 13 (.ixa 16 (.num .i64) 14 15),Gf 13 (.lde 17 1 false 16),Gf 13 (.bin 18 .lss 17 (kI 0)),Po 19 13 18,Mv 20 19,Gf 20 (.lde 21 1 true 2),Gf 20 (.mov 22 6),Gf 20 (.call 23 84 [21,22]),Gf 20 (.mov 24 1),Gf 20 (.ixa 25 (.num .i64) 23 24),Gf 20 (.lde 26 1 false 25),Gf 20 (.bin 27 .gtr 26 (kI 2000)),Po 28 20 27] (Cn 28 (Rs [Pp (.bld 29 [vU 0,vS,fu .aval true,fu .str true,vI 0] []),Sv 5 4 29,Mb 5 false] .ret) .skip)) (Rs [Ld 30 1 true 2,Mv 31 1,Mv 32 6,Ca 33 85 [30,31,32],Sv 5 4 33,Mb 5 true] .ret)))
def ah3:List RV:=[.cell 4 5 true,.t 5]
theorem as1:FnC Try.prog akB [] 0 aj1 Try.f58 ah2 ah3:=fnC Try.func58
def ah4(N:Nat)(a:List aA)(c:Int):Ro:=
 let d:=fun f g h i j k l n=>(some (.tup [.agg [.int .u64 f,.str g,.sl .aval (.may h) i,.sl .str (.may j) k,.int .i64 l],.bool n],[some [.int .u64 f,.str g,.sl .aval (.may h) i,.sl .str (.may j) k,.int .i64 l]]):Ro)
 aG (pK a) (fun(e:List Int)=>
 aG (iv a c) (fun(o:Bool)=>
 cond (!o) (
 d 0 ([]:Bs) true ([]:List aH) true ([]:Bss) 0 false) (
 chk (ixl c e) (
 let p:=List.getD e (Int.toNat c) (aB (.num .i64))
 cond (decide (p<0)) (
 d 0 ([]:Bs) true ([]:List aH) true ([]:Bss) 0 false) (
 aG (ji a e) (fun(m:List Int)=>
 chk (ixl c m) (
 let q:=List.getD m (Int.toNat c) (aB (.num .i64))
 cond (decide (2000<q)) (
 d 0 ([]:Bs) true ([]:List aH) true ([]:Bss) 0 false) (
 aG (jW a c e) (fun b=>
 d b.1 b.2.1 b.2.2.1 b.2.2.2.1 b.2.2.2.2.1 b.2.2.2.2.2.1 b.2.2.2.2.2.2 true)))))))))
def ab2(N:Nat)(a:List aA)(b:Int):Ro:=ah4 N a b
theorem arl(N:Nat)(a:List aA)(b:Int):nO akB N 34 ah3 ah2 [.agg [.sl .atype (.may false) a],.int .i64 b] []=ab2 N a b:=by kernel_rfl
theorem arm(N:Nat)(a:List aA)(b:Int)(h:Tot (ab2 N a b) (fun z=>∃(c:Int)(d:Bs)(e:Bool)(f:List aH)(g:Bool)(i:Bss)(j:Int)(k:Bool)(rest:List aK),z.1=.tup [.agg [.int .u64 c,.str d,.sl .aval (.may e) f,.sl .str (.may g) i,.int .i64 j],.bool k]∧z.2=rest∧aev a b (c,d,e,f,g,i,j,k))):∃r,tS a b r:=by
 obtain⟨⟨v,hp⟩,hz,c,d,e,f,g,i,j,k,rest,e1,e2,hq⟩:=h
 simp only at e1 e2
 subst e2
 subst e1
 exact⟨(c,d,e,f,g,i,j,k),as1.pure (arl N a b) hz,hq⟩
end Go.Proofs.Ytdpajabhmmmjoaa
end
noncomputable section
namespace Go.Proofs.Ytdpajabhmmmjoaa
open Go.AM
set_option autoImplicit false
set_option linter.unusedVariables false
set_option linter.unusedSimpArgs false
set_option maxRecDepth 100000
theorem as2{R R':Type}{Q:R→Prop}[Inhabited R']{C:R'→Prop}{K:R'→Option R}(h:∃r,C r)(hK:C (pick C)→Tot (K (pick C)) Q):Tot (aG C K) Q:=aJ (ap4 h) (hK (aeb h))
theorem azd{m:Nat}{k:aA}(hk:gu m k):k.kind=1∨k.kind=2∨k.kind=3∨k.kind=4∨k.kind=5∨k.kind=6∨k.kind=7∨k.kind=8∨k.kind=9∨k.kind=10∨k.kind=11∨k.kind=12∨k.kind=13∨k.kind=14:=by
 have:=hk.kind;omega
theorem arn{ts:List aA}{t:Int}(h:0≤t∧t<ts.length):isT ts t=true:=by
 simp only[isT,Bool.and_eq_true,decide_eq_true_eq];exact h
theorem aAa{m:Nat}(ts:List aA)(t:Int)(ht:isT ts t=true)(hk:gu m (ts.getD t.toNat (aB .atype)))(h9:(ts.getD t.toNat (aB .atype)).kind≠9)(h11:(ts.getD t.toNat (aB .atype)).kind≠11)(h14:(ts.getD t.toNat (aB .atype)).kind≠14):
  bm ts t (.mk 0 [] [] [] 0)=true:=by
 rw[bm,ht]
 simp only[Bool.true_and]
 generalize ts.getD t.toNat (aB .atype)=k at*
 have he:=hk.enum
 have hns:=hk.ns
 rcases azd hk with e|e|e|e|e|e|e|e|e|e|e|e|e|e
 all_goals first|exact absurd e h9|exact absurd e h11|exact absurd e h14|skip
 all_goals rw[e]
 all_goals first|rfl|skip
 ·have h0:0<k.syms.length:=List.length_pos_iff.2 (he e)
  have hw:IntKind.wrap .u64 (k.syms.length:Int)=(k.syms.length:Int):=oD _ (by omega)
  show ((decide ((0:Int)≤0)&&decide ((0:Int)<IntKind.wrap .u64 (k.syms.length:Int)))&&true)=true
  rw[hw];simp;omega
theorem aze{m:Nat}(ts:List aA)(t:Int)(ht:isT ts t=true)(hk:gu m (ts.getD t.toNat (aB .atype)))(h11:(ts.getD t.toNat (aB .atype)).kind=11)(s:List UInt8)(hs:(s.length:Int)=(ts.getD t.toNat (aB .atype)).size):
  bm ts t (.mk 0 s [] [] 0)=true:=by
 rw[bm,ht]
 simp only[Bool.true_and]
 rw[h11,←hs]
 show (((s.length:Int)==(s.length:Int))&&true)=true
 simp
theorem aw0(ts:List aA)(t:Int)(ht:isT ts t=true)(h9:(ts.getD t.toNat (aB .atype)).kind=9)(l:List aH)(hl:l.length=(ts.getD t.toNat (aB .atype)).fields.length)(hf:oQ ts (ts.getD t.toNat (aB .atype)).fields l=true):
  bm ts t (.mk 0 [] l [] 0)=true:=by
 rw[bm,ht]
 simp only[Bool.true_and]
 rw[h9]
 show ((decide (l.length=(ts.getD t.toNat (aB .atype)).fields.length)&&oQ ts (ts.getD t.toNat (aB .atype)).fields l)&&true)=true
 rw[hf,hl];simp
theorem aw1(ts:List aA)(t:Int)(ht:isT ts t=true)(h14:(ts.getD t.toNat (aB .atype)).kind=14)(b:Int)(v:aH)(hb:0≤b∧b<(ts.getD t.toNat (aB .atype)).branches.length)(hv:bm ts ((ts.getD t.toNat (aB .atype)).branches.getD b.toNat 0) v=true):
  bm ts t (.mk 0 [] [v] [] b)=true:=by
 rw[bm,ht]
 simp only[Bool.true_and]
 rw[h14]
 show ((decide (0≤b)&&(decide (b<((ts.getD t.toNat (aB .atype)).branches.length:Int))&&(((([v]:List aH).length:Int)==1)&&bV ts ((ts.getD t.toNat (aB .atype)).branches.getD b.toNat 0) [v])))&&true)=true
 generalize ts.getD t.toNat (aB .atype)=k at*
 simp only[bV,hv,decide_eq_true hb.1,decide_eq_true hb.2,Bool.and_true,Bool.true_and,List.length_singleton]
 rfl
theorem amP(ts:List aA):∀(fs:List aM)(l:List aH)(f:aM)(v:aH),fs.length=l.length→oQ ts fs l=true→bm ts f.typ v=true→oQ ts (fs++[f]) (l++[v])=true
 | [],[],f,v,_,_,hv=>by simp[oQ,hv]
 |f'::fs,v'::l,f,v,hl,h,hv=>by
  simp only[oQ,List.headD_cons,List.tail_cons,Bool.and_eq_true] at h
  simp[oQ,h.1,amP ts fs l f v (by simpa using hl) h.2 hv]
theorem ab3:rp []=0:=rfl
theorem amQ(ts:List aA)(hs:cw ts)(r:List Int)(hR:jO ts r ts.length):∀(n:Nat)(t:Int),0≤t∧t<ts.length→0≤rk r t→rk r t<n→∃v,jW ts t r v
 |0=>fun t _ h1 h2=>by omega
 |n+1=>by
  intro t ht h1 h2
  have hrl:=hR.len
  have hk:=hs.at (i:=t.toNat) (by omega)
  have hT:=arn ht
  have hok:=hR.ok t.toNat (by omega)
  have hnul:=hR.nul t.toNat (by omega)
  have ewt:r.getD t.toNat 0=rk r t:=rfl
  rw[ewt] at hok hnul
  have hw:∀w,zI ts r w→nh (ts.getD t.toNat (aB .atype)) r w (rk w t):=fun w hw=>hw.ok t.toNat (by omega) h1
  apply ark 1000
  unfold ab1 sb
  dsimp only
  refine vck (aC (fun h11=>?_) (fun h11=>aC (fun h9=>?_) (fun h9=>aC (fun h14=>?_) (fun h14=>?_))))
  ·have h11:(ts.getD t.toNat (aB .atype)).kind=11:=by simp only[bnl] at h11;exact h11
   have hz:=hk.size
   refine vck ?_
   refine aF ⟨_,_,_,_,_,_,_,_,rfl,rfl,aze ts t hT hk h11 _ (by rw[List.length_replicate];omega),fun _=>⟨rfl,fun _=>⟨rfl,rfl⟩⟩,fun w hwo _=>?_⟩
   have:=(hw w hwo).pos
   simp only[wV,wL,ab3,List.length_replicate]
   omega
  ·have h9:(ts.getD t.toNat (aB .atype)).kind=9:=by simp only[bnl] at h9;exact h9
   have h1':1≤rk r t:=by
    by_cases h0:rk r t=0
    ·exact absurd h9 (hnul h0).1
    ·omega
   have hro:=hok h1'
   have hrc:=hro.rcd (by omega)
   have hnf:=hk.nf
   generalize hkk:ts.getD t.toNat (aB .atype)=k at*
   refine aU (fun x=>match x with
    |(r',ts',k',i,a0,a1,a2,a3,a4,b0,b1,l,ks,b4)=>r'=r∧ts'=ts∧k'=k∧0≤i∧i≤(k.fields.length:Int)∧b0=0∧b1=[]∧ks=[]∧b4=0∧(l.length:Int)=i∧oQ ts (k.fields.take i.toNat) l=true∧
     ∀w,zI ts r w→rk w t≤2000→(wL l:Int)≤6000*oU w (k.fields.take i.toNat))
    (fun x=>((k.fields.length:Int)-x.2.2.2.1).toNat) ?_ _ _ ⟨rfl,rfl,rfl,by simp,by simp,rfl,rfl,rfl,rfl,rfl,rfl,fun w _ _=>by simp[wL,oU]⟩ (by simp;omega)
   rintro again ⟨r',ts',k',i,a0,a1,a2,a3,a4,b0,b1,l,ks,b4⟩ ⟨rfl,rfl,rfl,i1,i2,rfl,rfl,rfl,rfl,i3,i4,i5⟩ ih
   dsimp only at ih
   unfold vA
   dsimp only
   refine aC (fun h=>?_) (fun h=>?_)
   ·have h:=of_decide_eq_true h
    have hi:i.toNat<k'.fields.length:=by omega
    have hmem:=cA k'.fields i.toNat (aB .afield) hi
    have hf:=hk.fields _ hmem
    have hfr:=hrc _ hmem
    have htk:=wE k'.fields i.toNat (aB .afield) hi
    generalize k'.fields.getD i.toNat (aB .afield)=f at*
    refine vck ?_
    refine aE (amQ ts' hs r' hR n f.typ ⟨hf.1,hf.2.1⟩ hfr.1 (by omega)) ?_
    rintro⟨v0,v1,vf,v2,vg,v3,v4⟩ ⟨-,q1,q2,q3⟩
    dsimp only at q1 q3 ⊢
    have ei:IntKind.i64.wrap (i+1)=i+1:=aI (i+1) (by omega)
    have eit:(i+1).toNat=i.toNat+1:=by omega
    refine vck ?_
    refine ih (r',ts',k',_,a0,a1,a2,a3,a4,0,[],_,[],0) ?_ (by simp only[ei];omega)
    simp only[ei]
    rw[eit,htk]
    refine⟨trivial,trivial,trivial,by omega,by omega,trivial,trivial,trivial,trivial,by simp;omega,amP ts' _ _ _ _ (by simp;omega) i4 q1,fun w hw1 hw2=>?_⟩
    rw[aph,ahL]
    have:=i5 w hw1 hw2
    have hwf:=hw w hw1
    have hsum:=hwf.rcd h9
    have hpos:∀g∈k'.fields,0≤rk w g.typ:=fun g hg=>by
     have hg1:=hrc g hg
     have hg2:=hk.fields g hg
     have:=(hw1.ok g.typ.toNat (by omega) hg1.1).pos
     unfold rk;omega
    have hle:=apg hpos f hmem
    have hq:=q3 w hw1 (by omega)
    simp only[wL,oU] at hq ⊢
    omega
   ·have h:=of_decide_eq_false h
    rw[List.take_of_length_le (by omega)] at i4 i5
    refine aF ⟨_,_,_,_,_,_,_,_,rfl,rfl,aw0 ts' t hT (by rw[hkk];exact h9) l (by rw[hkk];omega) (by rw[hkk];exact i4),fun hh=>absurd h9 (by rw[hkk] at hh;exact hh),fun w hw1 hw2=>?_⟩
    have hwf:=hw w hw1
    have hsum:=hwf.rcd h9
    have:=i5 w hw1 hw2
    simp only[wV,ab3,List.length_nil]
    omega
  ·have h14:(ts.getD t.toNat (aB .atype)).kind=14:=by simp only[bnl] at h14;exact h14
   have h1':1≤rk r t:=by
    by_cases h0:rk r t=0
    ·exact absurd h14 (hnul h0).2
    ·omega
   have hro:=hok h1'
   refine aE (aq7 _ _ hk h14 r hrl) ?_
   rintro(b:Int) ⟨-,hb⟩
   have hbl:=hb.lt
   have hbn:=hb.nn
   have hbm:=hk.branches _ (cA _ b.toNat 0 (by omega))
   have hc:=acI (ts:=ts) (m:=0) hro h14 hb
   refine vck ?_
   refine aE (amQ ts hs r hR n (brT (ts.getD t.toNat (aB .atype)) b.toNat) hbm hc.1 (by omega)) ?_
   rintro⟨v0,v1,vf,v2,vg,v3,v4⟩ ⟨-,q1,q2,q3⟩
   dsimp only at q1 q3 ⊢
   refine aF ⟨_,_,_,_,_,_,_,_,rfl,rfl,aw1 ts t hT h14 b _ ⟨hbn,hbl⟩ q1,fun _=>⟨rfl,fun h=>absurd h14 h⟩,fun w hw1 hw2=>?_⟩
   have hwf:=hw w hw1
   have hu:=hwf.uni h14 b hb
   have q3:∀w,zI ts r w→rk w (brT (ts.getD t.toNat (aB .atype)) b.toNat)≤2000→(wV (.mk v0 v1 v2 v3 v4):Int)≤6000*rk w (brT (ts.getD t.toNat (aB .atype)) b.toNat):=q3
   have hq:=q3 w hw1 (by omega)
   simp only[wV,wL,ab3,List.length_nil] at hq ⊢
   omega
  ·have h11:(ts.getD t.toNat (aB .atype)).kind≠11:=by simp only[bnl] at h11;exact h11
   have h9:(ts.getD t.toNat (aB .atype)).kind≠9:=by simp only[bnl] at h9;exact h9
   have h14:(ts.getD t.toNat (aB .atype)).kind≠14:=by simp only[bnl] at h14;exact h14
   refine aF ⟨_,_,_,_,_,_,_,_,rfl,rfl,aAa ts t hT hk h9 h11 h14,fun _=>⟨rfl,fun _=>⟨rfl,rfl⟩⟩,fun w hwo _=>?_⟩
   have:=(hw w hwo).pos
   simp only[wV,wL,ab3,List.length_nil]
   omega
theorem aw2(ts:List aA)(hs:cw ts):jO ts (rkS ts) ts.length:=(aeb (aty ts hs)).2.1
theorem aAb(ts:List aA)(hs:cw ts):zI ts (rkS ts) (wtS ts):=(aeb (aon ts hs (rkS ts) (aw2 ts hs))).2
theorem aAc(ts:List aA)(hs:cw ts)(t:Int):∃v,tS ts t v:=by
 apply arm 1
 unfold ab2 ah4
 dsimp only
 have hR:=aw2 ts hs
 have hW:=aAb ts hs
 refine as2 (aty ts hs) ?_
 rintro -
 change Tot (aG (iv ts t) _) _
 refine aE (ae0 ts t) ?_
 rintro r ⟨-,hr⟩
 have hr:r=isT ts t:=hr
 have hrl:=hR.len
 have hwl:=hW.len
 refine aC (fun h=>aF ⟨_,_,_,_,_,_,_,_,_,rfl,rfl,?_,fun hh=>by cases hh⟩) (fun h=>?_)
 ·have:isT ts t=false:=by rw[←hr];simpa using h
  simp[zd,this]
 have hT:isT ts t=true:=by rw[←hr];simpa using h
 have ht:0≤t∧t<(ts.length:Int):=by simpa [isT] using hT
 change Tot (chk (decide (0≤t)&&decide (t<((rkS ts).length:Int))) (cond (decide (rk (rkS ts) t<0)) _ (aG (ji ts (rkS ts)) _))) _
 refine vck (aC (fun h0=>aF ⟨_,_,_,_,_,_,_,_,_,rfl,rfl,?_,fun hh=>by cases hh⟩) (fun h0=>?_))
 ·have h0:=of_decide_eq_true h0
  simp only[zd]
  rw[decide_eq_false (show ¬0≤rk (rkS ts) t by omega)];simp
 have h0:=of_decide_eq_false h0
 refine as2 (aon ts hs (rkS ts) hR) ?_
 rintro -
 change Tot (chk (decide (0≤t)&&decide (t<((wtS ts).length:Int))) (cond (decide (2000<rk (wtS ts) t)) _ (aG (jW ts t (rkS ts)) _))) _
 refine vck (aC (fun h1=>aF ⟨_,_,_,_,_,_,_,_,_,rfl,rfl,?_,fun hh=>by cases hh⟩) (fun h1=>?_))
 ·have h1:=of_decide_eq_true h1
  simp only[zd]
  rw[decide_eq_false (show ¬rk (wtS ts) t≤2000 by omega)];simp
 have h1:=of_decide_eq_false h1
 have hrt:=hR.top t.toNat (by omega)
 have e:rk (rkS ts) t=(rkS ts).getD t.toNat 0:=rfl
 refine aE (amQ ts hs (rkS ts) hR 100 t ht (by omega) (by have:=hs.1;omega)) ?_
 rintro⟨v0,v1,vf,v2,vg,v3,v4⟩ ⟨-,q1,q2,q3⟩
 refine aF ⟨_,_,_,_,_,_,_,_,_,rfl,rfl,?_,fun _=>⟨⟨q1,?_⟩,q2⟩⟩
 ·simp only[zd,hT]
  rw[decide_eq_true (show 0≤rk (rkS ts) t by omega),decide_eq_true (show rk (wtS ts) t≤2000 by omega)];rfl
 ·have:=q3 (wtS ts) hW (by omega)
  dsimp only at this ⊢
  omega
end Go.Proofs.Ytdpajabhmmmjoaa
end
noncomputable section
namespace Go.Proofs.Ytdpajabhmmmjoaa
open Go.AM
set_option autoImplicit false
set_option linter.unusedVariables false
set_option linter.unusedSimpArgs false
set_option maxRecDepth 100000
end Go.Proofs.Ytdpajabhmmmjoaa
end
noncomputable section
namespace Go.Proofs.Ytdpajabhmmmjoaa
open Go.AM
set_option autoImplicit false
set_option linter.unusedVariables false
set_option maxRecDepth 100000
end Go.Proofs.Ytdpajabhmmmjoaa
end
noncomputable section
namespace Go.Proofs.Ytdpajabhmmmjoaa
open Go.AM
set_option autoImplicit false
set_option linter.unusedVariables false
set_option maxRecDepth 100000
noncomputable def tu:aN:=tab (P:=Try.prog) [] [nS] [] [an9]
def xK:IR:=Sq (Rs [Mv 15 11,Fa 16 3 6,Lq 17 16,Ll 18 17,Bi 19 .lss 15 18] (Cn 19 .skip (.exit 0))) (Sq (.block 1 (Sq (.reg [Mv 23 0,Fa 24 3 5,Lq 25 24,Fa 26 3 6,Lq 27 26,Mv 28 11,Ix 29 .jnode 27 28,Ld 30 5 true 29,Mv 31 3,Bc 32 .add 31 1,Fo [] [0] (.call 33 120 [23,25,30,32]),Mv 22 33,Ex_ 34 0 22,Ex_ 35 1 22,Pp (.alr 12 5),Fz 12 5 34,Mv 13 35] [[],[],[1],[],[3],[],[3,4,5],rg 3 6,[],[8],rg 0 9,rg 0 10,rg 0 11,rg 0 11,[],rg 0 12++[14],rg 0 15]) (Sq (Rs [Mv 36 13,Bc 37 .neq 36 0] (Cn 37 (Rs [Pp (.bld 38 [vU 0,vS,nl .aval,nl .str,vI 0] []),Mv 39 13,Sv 5 8 38,Mv 9 39] .ret) .skip)) (Rs [Fa 40 0 5,Lq 41 40,Bc 42 .eql 41 12] (Cn 42 (Rg [Fa 43 2 10,Pp (.ld 44 1 false true 43),Ld 45 5 true 12,Pp (.bsl 46 .aval [45] true),Pp (.app 47 .aval (.tk 44) 46),Fa 48 2 10,Sk 1 48 47]) (.reg [Fo [2] [] (.ld 49 5 true false 10),Fa 50 4 6,Lq 51 50,Mv 52 11,Ix 53 .str 51 52,Lq 54 53,Ld 55 5 true 12,Ca 56 61 [49,54,55],Fo [] [2] (.st none 5 10 56)] [[],[],[1],[],[1,2,3],rg 1 4,[],rg 0 6,rg 0 7])))))) (Rg [Mv 20 11,Bc 21 .add 20 1,Mv 11 21]))
def wJ:IR:=Rs [Pp (.ld 57 5 true false 10),Sv 5 8 57,Mi 9 0] .ret
def ah5:IR:=Rs [Bx 5 1,Bx 6 2,Pp (.new 8 [vU 0,vS,nl .aval,nl .str,vI 0]),Mi 9 0] (Rs [Pp (.bld 14 [vU 0,vS,nl .aval,nl .str,vI 0] []),Pp (.new 10 [vU 0,vS,nl .aval,nl .str,vI 0]),Sv 5 10 14] (Sq (Rs [Mi 11 0] (.block 0 (.loop [0,3,5,6,8,10,11,1000000] 3 xK))) wJ))
def zN:List RV:=[.cell 8 5 true,.t 9]
theorem ah6:FnC Try.prog tu [120,2000120] 1 aaj Try.f148 ah5 zN:=fnC Try.func148
def agQ(R:IR→(Ex→St→Ro)→St→Ro)(a:St→Ro):Ex→St→Ro:=(bj a [0,3,5,6,8,10,11,1000000] 3 (aP 0 (bg (R wJ) (fin zN))))
abbrev gZ:Type:=(Int×Int×Bs×Bss×Int×Bss×Bool×Bs×Int×List aM×List Int×Int×Int×Bs×List aD×Bss×Int×List aA×Int×Int×Bs×List aH×Bss×Int×Int×Bs×List aH×Bss×Int)⊕(Int×Int×Bs×Bss×Int×Bss×Bool×Bs×Int×List aM×List Int×Int×Int×Bs×List aD×Bss×Int×List aA×Int×Int×Bs×List aH×Bss×Int×Int×Bs×List aH×Bss×Int)
def ad5:(Int×Int×Bs×Bss×Int×Bss×Bool×Bs×Int×List aM×List Int×Int×Int×Bs×List aD×Bss×Int×List aA×Int×Int×Bs×List aH×Bss×Int×Int×Bs×List aH×Bss×Int)→St:=fun(t,u,v,w,x,y,z,x7,x8,x9,a,b,c,d,e,f,g,h,i,j,k,l,m,n,o,p,q,r,s)=>{env:=(.ptr 0 0::.undef::.undef::.int .i64 t::.undef::.ea [.int .i64 u,.str v,.sl .str (.may false) w,.int .i64 x,.sl .str (.may false) y,.bool z,.str x7,.int .i64 x8,.sl .afield (.may false) x9,.sl (.num .i64) (.may false) a]::.ea [.int .i64 b,.int .i64 c,.str d,.sl .jnode (.may false) e,.sl .str (.may false) f]::.undef::.ptr 1 0::.undef::.ptr 2 0::.int .i64 g::(U 46 [])),hp:=[some [.sl .atype (.may false) h,.int .i64 i],some [.int .u64 j,.str k,.sl .aval .own l,.sl .str .own m,.int .i64 n],some [.int .u64 o,.str p,.sl .aval .own q,.sl .str .own r,.int .i64 s]]}
def ad6:(Int×Int×Bs×Bss×Int×Bss×Bool×Bs×Int×List aM×List Int×Int×Int×Bs×List aD×Bss×Int×List aA×Int×Int×Bs×List aH×Bss×Int×Int×Bs×List aH×Bss×Int)→St:=fun(t,u,v,w,x,y,z,x7,x8,x9,a,b,c,d,e,f,g,h,i,j,k,l,m,n,o,p,q,r,s)=>{env:=(.ptr 0 0::.undef::.undef::.int .i64 t::.undef::.ea [.int .i64 u,.str v,.sl .str (.may false) w,.int .i64 x,.sl .str (.may false) y,.bool z,.str x7,.int .i64 x8,.sl .afield (.may false) x9,.sl (.num .i64) (.may false) a]::.ea [.int .i64 b,.int .i64 c,.str d,.sl .jnode (.may false) e,.sl .str (.may false) f]::.undef::.ptr 1 0::.undef::.ptr 2 0::.int .i64 g::(U 46 [])),hp:=[some [.sl .atype (.may false) h,.int .i64 i],some [.int .u64 j,.str k,.sl .aval .own l,.sl .str .own m,.int .i64 n],some [.int .u64 o,.str p,.sl .aval (.may false) q,.sl .str (.may false) r,.int .i64 s]]}
def gB:gZ→St
 |(Sum.inl x)=>ad5 x
 |(Sum.inr x)=>ad6 x
def qp(N:Nat):(St→Ro)→St→Ro:=fun a s=>run tu N xK (agQ (run tu N) a) s
def hH(N:Nat)(m:gZ→Ro)(x:gZ):Ro:=
 match x with
 |(Sum.inl (v3,j,q,r,k,t,u,v,w,y,z,aa,ab,ac,b,e,d,o,p,ad,ae,af,ag,ah,f,g,a,c,h))=>
  let x1:=(↑(List.length b):Int)
  let z0:=fun g0 g1 g2 g3 g4 g5 g6 g7 g8 g9=>(some (.tup [.agg [.int .u64 g0,.str g1,.sl .aval (.may false) g2,.sl .str (.may false) g3,.int .i64 g4],.int .i64 g5],[some [.sl .atype (.may false) g6,.int .i64 g7],some [.int .u64 g0,.str g1,g8,g9,.int .i64 g4],some [.int .u64 f,.str g,.sl .aval .own a,.sl .str .own c,.int .i64 h]]):Ro)
  cond (decide (d<x1)) (
   chk (ixl d b) (
    let x2:=(List.getD b (Int.toNat d) (aB .jnode))
    let x3:=(IntKind.wrap .i64 (v3+1))
    aG (ct o p k x2.kind x2.n x2.s x2.l x2.names x3) (fun i=>
     cond (!(i.2.2.2.2.2.1==0)) (
      z0 0 ([]:Bs) ([]:List aH) ([]:Bss) 0 i.2.2.2.2.2.1 i.2.2.2.2.2.2.1 i.2.2.2.2.2.2.2 (.sl .aval .own ([]:List aH)) (.sl .str .own ([]:Bss))) (
      cond (j==12) (
       chk (decide ((List.length a+List.length ([⟨i.1,i.2.1,i.2.2.1,i.2.2.2.1,i.2.2.2.2.1⟩]:List aH))*80≤140737488355328)) (
        let x4:=(a++([⟨i.1,i.2.1,i.2.2.1,i.2.2.2.1,i.2.2.2.2.1⟩]:List aH))
        let x5:=(IntKind.wrap .i64 (d+1))
        m (Sum.inl (v3,j,q,r,k,t,u,v,w,y,z,aa,ab,ac,b,e,x5,i.2.2.2.2.2.2.1,i.2.2.2.2.2.2.2,ad,ae,af,ag,ah,f,g,x4,c,h)))) (
       chk (ixl d e) (
        let x6:=List.getD e (Int.toNat d) (aB .str)
        aG (lw f g a c h x6 i.1 i.2.1 i.2.2.1 i.2.2.2.1 i.2.2.2.2.1) (fun r2=>
         let x7:=(IntKind.wrap .i64 (d+1))
         m (Sum.inr (v3,j,q,r,k,t,u,v,w,y,z,aa,ab,ac,b,e,x7,i.2.2.2.2.2.2.1,i.2.2.2.2.2.2.2,ad,ae,af,ag,ah,r2.1,r2.2.1,r2.2.2.1,r2.2.2.2.1,r2.2.2.2.2))))))))) (
   z0 f g a c h 0 o p (.sl .aval (.may false) a) (.sl .str (.may false) c))
 |(Sum.inr (v3,j,q,r,k,t,u,v,w,y,z,aa,ab,ac,b,e,d,o,p,ad,ae,af,ag,ah,f,g,a,c,h))=>
  let x8:=(↑(List.length b):Int)
  let z0:=fun g0 g1 g2 g3 g4 g5 g6 g7 g8 g9=>(some (.tup [.agg [.int .u64 g0,.str g1,.sl .aval (.may false) g2,.sl .str (.may false) g3,.int .i64 g4],.int .i64 g5],[some [.sl .atype (.may false) g6,.int .i64 g7],some [.int .u64 g0,.str g1,g8,g9,.int .i64 g4],some [.int .u64 f,.str g,.sl .aval (.may false) a,.sl .str (.may false) c,.int .i64 h]]):Ro)
  cond (decide (d<x8)) (
   chk (ixl d b) (
    let x9:=(List.getD b (Int.toNat d) (aB .jnode))
    let a1:=(IntKind.wrap .i64 (v3+1))
    aG (ct o p k x9.kind x9.n x9.s x9.l x9.names a1) (fun r3=>
     cond (!(r3.2.2.2.2.2.1==0)) (
      z0 0 ([]:Bs) ([]:List aH) ([]:Bss) 0 r3.2.2.2.2.2.1 r3.2.2.2.2.2.2.1 r3.2.2.2.2.2.2.2 (.sl .aval .own ([]:List aH)) (.sl .str .own ([]:Bss))) (
      cond (j==12) (
       none) (
       chk (ixl d e) (
        let a2:=List.getD e (Int.toNat d) (aB .str)
        aG (lw f g a c h a2 r3.1 r3.2.1 r3.2.2.1 r3.2.2.2.1 r3.2.2.2.2.1) (fun r4=>
         let a3:=(IntKind.wrap .i64 (d+1))
         m (Sum.inr (v3,j,q,r,k,t,u,v,w,y,z,aa,ab,ac,b,e,a3,r3.2.2.2.2.2.2.1,r3.2.2.2.2.2.2.2,ad,ae,af,ag,ah,r4.1,r4.2.1,r4.2.2.1,r4.2.2.2.1,r4.2.2.2.2))))))))) (
   z0 f g a c h 0 o p (.sl .aval (.may false) a) (.sl .str (.may false) c))
theorem afz(N:Nat):∀(a:St→Ro)(x:gZ),qp N a (gB x)=hH N (fun y=>a (gB y)) x:=by
 intro a x
 rcases x with x|x<;>kernel_rfl
def iK(N:Nat)(a:List aA)(b c:Int)(d:Bs)(e:Bss)(f:Int)(g:Bss)(h:Bool)(i:Bs)(j:Int)(k:List aM)(l:List Int)(m n:Int)(o:Bs)(p:List aD)(q:Bss)(r:Int)(s:gZ→Ro):Ro:=
 s (Sum.inl (r,c,d,e,f,g,h,i,j,k,l,m,n,o,p,q,0,a,b,0,([]:Bs),([]:List aH),([]:Bss),0,0,([]:Bs),([]:List aH),([]:Bss),0))
def zO(N:Nat)(a:List aA)(b c:Int)(d:Bs)(e:Bss)(f:Int)(g:Bss)(h:Bool)(i:Bs)(j:Int)(k:List aM)(l:List Int)(m n:Int)(o:Bs)(p:List aD)(q:Bss)(r:Int):Ro:=iK N a b c d e f g h i j k l m n o p q r (fun z=>aR N (hH N) z)
theorem agR(N:Nat)(a:List aA)(c d:Int)(g:Bs)(i:Bss)(j:Int)(k:Bss)(l:Bool)(m:Bs)(n:Int)(o:List aM)(p:List Int)(s t:Int)(u:Bs)(v:List aD)(w:Bss)(x:Int)(h:Tot (zO N a c d g i j k l m n o p s t u v w x) (fun z=>∃(y:Int)(y1:Bs)(y2:List aH)(y3:Bss)(y4:Int)(y5:Int)(y6:List aA)(y7:Int)(rest:List aK),z.1.dimR=.tup [.agg [.int .u64 y,.str y1,.sl .aval (.may false) y2,.sl .str (.may false) y3,.int .i64 y4],.int .i64 y5]∧z.2=some [.sl .atype (.may false) y6,.int .i64 y7]::rest∧xI a c d g i j k l m n o p s t u v w x (y,y1,y2,y3,y4,y5,y6,y7))):∃r,jh a c d g i j k l m n o p s t u v w x r:=FnC.finO (css:=[[.sl .atype (.may false) a,.int .i64 c]]) ah6 (N:=N) ((bo _ (by kernel_rfl) rfl (fun C=>iK N a c d g i j k l m n o p s t u v w x (fun z=>C 1000000 (gB z))) (fun C=>by kernel_rfl)).trans (Eq.trans (b:=iK N a c d g i j k l m n o p s t u v w x (fun z=>aX N (qp N) (gB z))) (by kernel_rfl) (congrArg (iK N a c d g i j k l m n o p s t u v w x) (funext fun z=>aW (gB) (qp N) (hH N) (afz N) N z)))) h fun _ ⟨y,y1,y2,y3,y4,y5,y6,y7,_,e,f,q⟩=>⟨(y,y1,y2,y3,y4,y5,y6,y7),e,⟨_,f⟩,q⟩
noncomputable def sc:aN:=tab (P:=Try.prog) [] [nS] [] [sL]
def vB:IR:=Sq (Rs [Mv 18 11,Fa 19 8 5,Lq 20 19,Ll 21 20,Bi 22 .lss 18 21] (Cn 22 .skip (.exit 0))) (Sq (.block 1 (Rs [Fa 25 8 5,Lq 26 25,Mv 27 11,Ix 28 .afield 26 27,Ld 29 9 true 28,Pp (.alr 12 9),Fz 12 9 29] (Rs [Ld 31 5 true 6,Fa 32 0 12,Lq 33 32,Ca 34 113 [31,33],Mv 30 34,Ex_ 35 0 30,Ex_ 36 1 30,Pp (.new 13 [vI 0,vI 0,vS,nl .jnode,nl .str]),Sv 5 13 35,Mv 14 36] (Sq (Rs [Mv 37 14,Un 38 37] (Cn 38 (Sq (Rs [Fa 39 3 12,Lq 40 39,Un 41 40] (Cn 41 (Rs [Pp (.bld 42 [vU 0,vS,nl .aval,nl .str,vI 0] []),Sv 5 8 42,Mi 9 7] .ret) .skip)) (Rg [Fa 43 4 12,Ld 44 5 true 43,Sv 5 13 44])) .skip)) (Rs [Mv 46 0,Fa 47 2 12,Lq 48 47,Pp (.ld 49 5 true false 13),Mv 50 3,Bc 51 .add 50 1,Ca 52 120 [46,48,49,51],Mv 45 52,Ex_ 53 0 45,Ex_ 54 1 45,Pp (.alr 15 5),Fz 15 5 53,Mv 16 54] (Sq (Rs [Mv 55 16,Bc 56 .neq 55 0] (Cn 56 (Rs [Pp (.bld 57 [vU 0,vS,nl .aval,nl .str,vI 0] []),Mv 58 16,Sv 5 8 57,Mv 9 58] .ret) .skip)) (Rg [Fa 59 2 10,Pp (.ld 60 1 false true 59),Ld 61 5 true 15,Pp (.bsl 62 .aval [61] true),Pp (.app 63 .aval (.tk 60) 62),Fa 64 2 10,Sk 1 64 63]))))))) (Rg [Mv 23 11,Bc 24 .add 23 1,Mv 11 24]))
def vC:IR:=Rs [Pp (.ld 65 5 true false 10),Sv 5 8 65,Mi 9 0] .ret
def agS:IR:=Rs [Bx 5 1,Bx 6 2,Pp (.new 8 [vU 0,vS,nl .aval,nl .str,vI 0]),Mi 9 0] (Rs [Pp (.bld 17 [vU 0,vS,nl .aval,nl .str,vI 0] []),Pp (.new 10 [vU 0,vS,nl .aval,nl .str,vI 0]),Sv 5 10 17] (Sq (Rs [Mi 11 0] (.block 0 (.loop [0,3,5,6,8,10,11,1000000] 3 vB))) vC))
def yx:List RV:=[.cell 8 5 true,.t 9]
theorem agT:FnC Try.prog sc [120,2000120] 1 zH Try.f149 agS yx:=fnC Try.func149
def afA(R:IR→(Ex→St→Ro)→St→Ro)(a:St→Ro):Ex→St→Ro:=(bj a [0,3,5,6,8,10,11,1000000] 3 (aP 0 (bg (R vC) (fin yx))))
abbrev kg:Type:=(Int×Int×Bs×Bss×Int×Bss×Bool×Bs×Int×List aM×List Int×Int×Int×Bs×List aD×Bss×Int×List aA×Int×Int×Bs×List aH×Bss×Int×Int×Bs×List aH×Bss×Int)
def js:kg→St:=fun(t,u,v,w,x,y,z,x7,x8,x9,a,b,c,d,e,f,g,h,i,j,k,l,m,n,o,p,q,r,s)=>{env:=(.ptr 0 0::.undef::.undef::.int .i64 t::.undef::.ea [.int .i64 u,.str v,.sl .str (.may false) w,.int .i64 x,.sl .str (.may false) y,.bool z,.str x7,.int .i64 x8,.sl .afield (.may false) x9,.sl (.num .i64) (.may false) a]::.ea [.int .i64 b,.int .i64 c,.str d,.sl .jnode (.may false) e,.sl .str (.may false) f]::.undef::.ptr 1 0::.undef::.ptr 2 0::.int .i64 g::(U 54 [])),hp:=[some [.sl .atype (.may false) h,.int .i64 i],some [.int .u64 j,.str k,.sl .aval .own l,.sl .str .own m,.int .i64 n],some [.int .u64 o,.str p,.sl .aval .own q,.sl .str .own r,.int .i64 s]]}
def pE(N:Nat):(St→Ro)→St→Ro:=fun a s=>run sc N vB (afA (run sc N) a) s
def kh(N:Nat)(p:kg→Ro):kg→Ro:=fun(v3,w,x,y,z,aa,ab,ac,ad,i,ae,q,r,t,u,v,o,j,k,af,ag,ah,ai,aj,b,c,a,d,e)=>
 let x1:=(↑(List.length i):Int)
 let z0:=fun g0 g1 g2 g3 g4 g5 g6 g7=>(some (.tup [.agg [.int .u64 0,.str ([]:Bs),.sl .aval (.may false) ([]:List aH),.sl .str (.may false) ([]:Bss),.int .i64 0],.int .i64 g0],[some [.sl .atype (.may false) g1,.int .i64 g2],some [.int .u64 0,.str ([]:Bs),.sl .aval .own ([]:List aH),.sl .str .own ([]:Bss),.int .i64 0],some [.int .u64 b,.str c,.sl .aval .own a,.sl .str .own d,.int .i64 e],some [.int .i64 g3,.int .i64 g4,.str g5,.sl .jnode (.may false) g6,.sl .str (.may false) g7]]):Ro)
 let z1:=fun g0 g1 g2 g3=>p (v3,w,x,y,z,aa,ab,ac,ad,i,ae,q,r,t,u,v,g0,g1,g2,af,ag,ah,ai,aj,b,c,g3,d,e)
 cond (decide (o<x1)) (
 chk (ixl o i) (
 let m:=(List.getD i (Int.toNat o) (aB .afield))
 aG (dJ q r t u v m.name) (fun f=>
 cond (!f.2.2.2.2.2) (
 cond (!m.hasdef) (
 z0 7 j k f.1 f.2.1 f.2.2.1 f.2.2.2.1 f.2.2.2.2.1) (
 let x3:=(IntKind.wrap .i64 (v3+1))
 aG (ct j k m.typ m.df.kind m.df.n m.df.s m.df.l m.df.names x3) (fun g=>
 cond (!(g.2.2.2.2.2.1==0)) (
 z0 g.2.2.2.2.2.1 g.2.2.2.2.2.2.1 g.2.2.2.2.2.2.2 m.df.kind m.df.n m.df.s m.df.l m.df.names) (
 chk (decide ((List.length a+List.length ([⟨g.1,g.2.1,g.2.2.1,g.2.2.2.1,g.2.2.2.2.1⟩]:List aH))*80≤140737488355328)) (
 let x4:=(a++([⟨g.1,g.2.1,g.2.2.1,g.2.2.2.1,g.2.2.2.2.1⟩]:List aH))
 let x5:=(IntKind.wrap .i64 (o+1))
 z1 x5 g.2.2.2.2.2.2.1 g.2.2.2.2.2.2.2 x4))))) (
 let x6:=(IntKind.wrap .i64 (v3+1))
 aG (ct j k m.typ f.1 f.2.1 f.2.2.1 f.2.2.2.1 f.2.2.2.2.1 x6) (fun h=>
 cond (!(h.2.2.2.2.2.1==0)) (
 z0 h.2.2.2.2.2.1 h.2.2.2.2.2.2.1 h.2.2.2.2.2.2.2 f.1 f.2.1 f.2.2.1 f.2.2.2.1 f.2.2.2.2.1) (
 chk (decide ((List.length a+List.length ([⟨h.1,h.2.1,h.2.2.1,h.2.2.2.1,h.2.2.2.2.1⟩]:List aH))*80≤140737488355328)) (
 let x7:=(a++([⟨h.1,h.2.1,h.2.2.1,h.2.2.2.1,h.2.2.2.2.1⟩]:List aH))
 let x8:=(IntKind.wrap .i64 (o+1))
 z1 x8 h.2.2.2.2.2.2.1 h.2.2.2.2.2.2.2 x7))))))) (
 some (.tup [.agg [.int .u64 b,.str c,.sl .aval (.may false) a,.sl .str (.may false) d,.int .i64 e],.int .i64 0],[some [.sl .atype (.may false) j,.int .i64 k],some [.int .u64 b,.str c,.sl .aval (.may false) a,.sl .str (.may false) d,.int .i64 e],some [.int .u64 b,.str c,.sl .aval .own a,.sl .str .own d,.int .i64 e]]))
theorem afn(N:Nat):LB (pE N) js (kh N):=fun _ _=>by kernel_rfl
def hJ(N:Nat)(a:List aA)(b c:Int)(d:Bs)(e:Bss)(f:Int)(g:Bss)(h:Bool)(i:Bs)(j:Int)(k:List aM)(l:List Int)(m n:Int)(o:Bs)(p:List aD)(q:Bss)(r:Int)(s:kg→Ro):Ro:=
 s (r,c,d,e,f,g,h,i,j,k,l,m,n,o,p,q,0,a,b,0,([]:Bs),([]:List aH),([]:Bss),0,0,([]:Bs),([]:List aH),([]:Bss),0)
def yy(N:Nat)(a:List aA)(b c:Int)(d:Bs)(e:Bss)(f:Int)(g:Bss)(h:Bool)(i:Bs)(j:Int)(k:List aM)(l:List Int)(m n:Int)(o:Bs)(p:List aD)(q:Bss)(r:Int):Ro:=hJ N a b c d e f g h i j k l m n o p q r (fun z=>aR N (kh N) z)
theorem afB(N:Nat)(a:List aA)(c d:Int)(g:Bs)(i:Bss)(j:Int)(k:Bss)(l:Bool)(m:Bs)(n:Int)(o:List aM)(p:List Int)(s t:Int)(u:Bs)(v:List aD)(w:Bss)(x:Int)(h:Tot (yy N a c d g i j k l m n o p s t u v w x) (fun z=>∃(y:Int)(y1:Bs)(y2:List aH)(y3:Bss)(y4:Int)(y5:Int)(y6:List aA)(y7:Int)(rest:List aK),z.1.dimR=.tup [.agg [.int .u64 y,.str y1,.sl .aval (.may false) y2,.sl .str (.may false) y3,.int .i64 y4],.int .i64 y5]∧z.2=some [.sl .atype (.may false) y6,.int .i64 y7]::rest∧vX a c d g i j k l m n o p s t u v w x (y,y1,y2,y3,y4,y5,y6,y7))):∃r,iE a c d g i j k l m n o p s t u v w x r:=FnC.finO (css:=[[.sl .atype (.may false) a,.int .i64 c]]) agT (N:=N) ((bo _ (by kernel_rfl) rfl (fun C=>hJ N a c d g i j k l m n o p s t u v w x (fun z=>C 1000000 (js z))) (fun C=>by kernel_rfl)).trans (Eq.trans (b:=hJ N a c d g i j k l m n o p s t u v w x (fun z=>aX N (pE N) (js z))) (by kernel_rfl) (congrArg (hJ N a c d g i j k l m n o p s t u v w x) (funext fun z=>aW (js) (pE N) (kh N) (afn N) N z)))) h fun _ ⟨y,y1,y2,y3,y4,y5,y6,y7,_,e,f,q⟩=>⟨(y,y1,y2,y3,y4,y5,y6,y7),e,⟨_,f⟩,q⟩
noncomputable def aS:aN:=tab (P:=Try.prog) [] [nS,aiY,aho] [] [alW,ajO,axA]
def kj:IR:=Cn 68 .skip (Rg [Fa 85 0 10,Lq 86 85,Bc 87 .eql 86 4,Mv 88 87,Gt 88 (.mov 89 11),Pa 90 88 89,Mv 68 90])
def wK:IR:=Cn 162 (Rs [Mv 163 12,Pp (.bld 164 [vU 0,vS,nl .aval,nl .str,vI 0] [(1,1,163)]),Sv 5 8 164,Mi 9 0] .ret) .skip
def wM:IR:=Sq (Rs [Mv 174 14,Fa 175 4 10,Lq 176 175,Ll 177 176,Bi 178 .lss 174 177] (Cn 178 .skip (.exit 1))) (Sq (.block 2 (Sq (.reg [Fa 181 4 10,Lq 182 181,Mv 183 14,Ix 184 .str 182 183,Lq 185 184,Fa 186 2 6,Lq 187 186,Bi 188 .eql 185 187] [[],[0],[],[0,1,2],rg 0 3,[],[5],rg 0 6]) (Cn 188 (Rs [Mv 189 14,Pp (.cvi 190 .u64 189),Pp (.bld 191 [vU 0,vS,nl .aval,nl .str,vI 0] [(0,1,190)]),Sv 5 8 191,Mi 9 0] .ret) .skip))) (Rg [Mv 179 14,Bc 180 .add 179 1,Mv 14 180]))
def wN:IR:=Cn 192 (Rs [Mv 209 0,Ld 210 10 true 10,Ld 211 5 true 6,Mv 212 3,Ca 213 148 [209,210,211,212],Ex_ 214 0 213,Ex_ 215 1 213,Sv 5 8 214,Mv 9 215] .ret) (Rs [Fa 217 0 10,Lq 218 217,Bc 219 .eql 218 9,Mv 220 219,Gt 220 (.fad 221 0 6),Gt 220 (.lde 222 1 false 221),Gt 220 (.bin 223 .eql 222 (kI 6)),Pa 224 220 223,Mv 216 224] (Cn 216 (Rs [Mv 225 0,Ld 226 10 true 10,Ld 227 5 true 6,Mv 228 3,Ca 229 149 [225,226,227,228],Ex_ 230 0 229,Ex_ 231 1 229,Sv 5 8 230,Mv 9 231] .ret) (Rs [Fa 233 0 10,Lq 234 233,Bc 235 .eql 234 14,Mv 232 235] (Cn 232 (Sq (.reg [Mv 237 0,Fa 238 9 10,Lq 239 238,Pp (.ixa 240 (.num .i64) 239 (kI 0)),Lq 241 240,Ld 242 5 true 6,Mv 243 3,Bc 244 .add 243 1,Fo [] [0] (.call 245 120 [237,241,242,244]),Mv 236 245,Ex_ 246 0 236,Ex_ 247 1 236,Pp (.alr 15 5),Fz 15 5 246,Mv 16 247] [[],[],[1],[1,2],[1,2,3],[],[],[6],rg 0 7,rg 0 8,rg 0 9,rg 0 9,[],rg 0 10++[12],rg 0 13]) (Rs [Ld 248 5 true 15,Pp (.bsl 249 .aval [248] true),Pp (.bld 250 [vU 0,vS,nl .aval,nl .str,vI 0] [(2,1,249)]),Mv 251 16,Sv 5 8 250,Mv 9 251] .ret)) .skip))))
def jt:IR:=Cn 130 (Rs [Fa 145 2 6,Lq 146 145,Ca 147 147 [146],Mv 144 147,Ex_ 148 0 144,Ex_ 149 1 144,Mv 12 148,Mv 13 149] (Rs [Mv 150 13,Mv 151 150,Gt 151 (.fad 152 0 10),Gt 151 (.lde 153 1 false 152),Gt 151 (.bin 154 .eql 153 (kI 7)),Gt 151 (.mov 155 154),Gf 155 (.mov 156 12),Gf 155 (.lens 157 156),Gf 155 (.fad 158 7 10),Gf 155 (.lde 159 1 false 158),Gf 155 (.bin 160 .eql 157 159),Gt 151 (.pick 161 155 (kB true) 160),Pa 162 151 161] (.cut [8,12,162,1000001] 2 wK))) (Rs [Fa 166 0 10,Lq 167 166,Bc 168 .eql 167 10,Mv 169 168,Gt 169 (.fad 170 0 6),Gt 169 (.lde 171 1 false 170),Gt 169 (.bin 172 .eql 171 (kI 4)),Pa 173 169 172,Mv 165 173] (Cn 165 (Rs [Mi 14 0] (.block 1 (.loop [6,8,10,14,1000002] 2 wM))) (Sq (Rs [Fa 193 0 10,Lq 194 193,Bc 195 .eql 194 12,Mv 196 195,Gt 196 (.fad 197 0 6),Gt 196 (.lde 198 1 false 197),Gt 196 (.bin 199 .eql 198 (kI 5)),Pa 200 196 199,Mv 192 200] (Cn 192 .skip (Rg [Fa 201 0 10,Lq 202 201,Bc 203 .eql 202 13,Mv 204 203,Gt 204 (.fad 205 0 6),Gt 204 (.lde 206 1 false 205),Gt 204 (.bin 207 .eql 206 (kI 6)),Pa 208 204 207,Mv 192 208]))) (.cut [0,3,6,8,10,192,1000003] 2 wN))))
def ju:IR:=Cn 68 (Rs [Fa 91 1 6,Lq 92 91,Pp (.cvi 93 .u64 92),Pp (.bld 94 [vU 0,vS,nl .aval,nl .str,vI 0] [(0,1,93)]),Sv 5 8 94,Mi 9 0] .ret) (Rs [Fa 96 0 10,Lq 97 96,Bc 98 .eql 97 5,Mv 99 98,Gt 99 (.mov 100 11),Pa 101 99 100,Mv 95 101] (Cn 95 (Rs [Fa 102 1 6,Lq 103 102,Ca 104 132 [103],Pp (.cvi 105 .u64 104),Pp (.bld 106 [vU 0,vS,nl .aval,nl .str,vI 0] [(0,1,105)]),Sv 5 8 106,Mi 9 0] .ret) (Rs [Fa 108 0 10,Lq 109 108,Bc 110 .eql 109 6,Mv 111 110,Gt 111 (.mov 112 11),Pa 113 111 112,Mv 107 113] (Cn 107 (Rs [Fa 114 1 6,Lq 115 114,Ca 116 133 [115],Pp (.bld 117 [vU 0,vS,nl .aval,nl .str,vI 0] [(0,1,116)]),Sv 5 8 117,Mi 9 0] .ret) (Rs [Fa 119 0 10,Lq 120 119,Bc 121 .eql 120 8,Mv 122 121,Gt 122 (.fad 123 0 6),Gt 122 (.lde 124 1 false 123),Gt 122 (.bin 125 .eql 124 (kI 4)),Pa 126 122 125,Mv 118 126] (Cn 118 (Rs [Fa 127 2 6,Lq 128 127,Pp (.bld 129 [vU 0,vS,nl .aval,nl .str,vI 0] [(1,1,128)]),Sv 5 8 129,Mi 9 0] .ret) (Rs [Fa 131 0 10,Lq 132 131,Bc 133 .eql 132 7,Mv 134 133,Gf 134 (.fad 135 0 10),Gf 134 (.lde 136 1 false 135),Gf 134 (.bin 137 .eql 136 (kI 11)),Po 138 134 137,Mv 139 138,Gt 139 (.fad 140 0 6),Gt 139 (.lde 141 1 false 140),Gt 139 (.bin 142 .eql 141 (kI 4)),Pa 143 139 142,Mv 130 143] (.cut [0,3,6,8,10,130,1000004] 2 jt))))))))
def pi:IR:=.cut [0,3,6,8,10,11,68,1000005] 2 ju
def dI:IR:=Rs [Pp (.bld 252 [vU 0,vS,nl .aval,nl .str,vI 0] []),Sv 5 8 252,Mi 9 7] .ret
def ah7:IR:=Rs [Bx 6 2,Pp (.new 8 [vU 0,vS,nl .aval,nl .str,vI 0]),Mi 9 0] (Rs [Mv 17 0,Nk 18 17,Fa 19 1 18,Lo 20 19,Bc 21 .add 20 1,Nk 22 17,Fa 23 1 22,Sv 1 23 21] (Sq (Rs [Mv 24 3,Bc 25 .gtr 24 20,Mv 26 25,Gf 26 (.mov 27 0),Gf 26 (.nck 28 27),Gf 26 (.fad 29 1 28),Gf 26 (.ld 30 1 false false 29),Gf 26 (.bin 31 .gtr 30 (kI 2000)),Po 32 26 31] (Cn 32 (Rs [Pp (.bld 33 [vU 0,vS,nl .aval,nl .str,vI 0] []),Sv 5 8 33,Mi 9 3] .ret) .skip)) (Rs [Mv 34 0,Nk 35 34,Fa 36 0 35,Fa 37 0 36,Lo 38 37,Mv 39 1,Ix 40 .atype 38 39,Ld 41 10 true 40,Pp (.alr 10 10),Fz 10 10 41] (Rs [Fa 42 0 6,Lq 43 42,Bc 44 .eql 43 3,Mv 11 44] (Sq (.block 0 (Rs [Fa 46 0 10,Lq 47 46,Bc 48 .eql 47 1,Mv 49 48,Gt 49 (.fad 50 0 6),Gt 49 (.lde 51 1 false 50),Gt 49 (.bin 52 .eql 51 (kI 1)),Pa 53 49 52,Mv 45 53] (Cn 45 (Rs [Pp (.bld 54 [vU 0,vS,nl .aval,nl .str,vI 0] []),Sv 5 8 54,Mi 9 0] .ret) (Rs [Fa 56 0 10,Lq 57 56,Bc 58 .eql 57 2,Mv 59 58,Gt 59 (.fad 60 0 6),Gt 59 (.lde 61 1 false 60),Gt 59 (.bin 62 .eql 61 (kI 2)),Pa 63 59 62,Mv 55 63] (Cn 55 (Rs [Fa 64 1 6,Lq 65 64,Pp (.cvi 66 .u64 65),Pp (.bld 67 [vU 0,vS,nl .aval,nl .str,vI 0] [(0,1,66)]),Sv 5 8 67,Mi 9 0] .ret) (Sq (Rs [Fa 69 0 10,Lq 70 69,Bc 71 .eql 70 3,Mv 72 71,Gt 72 (.mov 73 11),Pa 74 72 73,Mv 75 74,Gt 75 (.fad 76 1 6),Gt 75 (.lde 77 1 false 76),Gt 75 (.bin 78 .geq 77 (kI (-2147483648))),Pa 79 75 78,Mv 80 79,Gt 80 (.fad 81 1 6),Gt 80 (.lde 82 1 false 81),Gt 80 (.bin 83 .lss 82 (kI 2147483648)),Pa 84 80 83,Mv 68 84] (.cut [0,3,6,8,10,11,68,1000000] 2 kj)) pi)))))) dI)))))
def eI:List RV:=[.cell 8 5 true,.t 9]
theorem ah8:FnC Try.prog aS [120,148,149,2000120,2000148,2000149] 1 aak Try.f120 ah7 eI:=fnC Try.func120
abbrev hM:Type:=(Int×Int×Int×Bs×List aD×Bss×Int×Bs×Bss×Int×Bss×Bool×Bs×Int×List aM×List Int×Bool×Bool×List aA×Int×Int×Bs×List aH×Bss×Int)
def gD:hM→St:=fun(p,q,r,s,t,u,v,w,x,y,a,b,c,d,e,f,g,h,i,j,k,l,m,n,o)=>{env:=(.ptr 0 0::.undef::.undef::.int .i64 p::.undef::.undef::.ea [.int .i64 q,.int .i64 r,.str s,.sl .jnode (.may false) t,.sl .str (.may false) u]::.undef::.ptr 1 0::.undef::.ea [.int .i64 v,.str w,.sl .str (.may false) x,.int .i64 y,.sl .str (.may false) a,.bool b,.str c,.int .i64 d,.sl .afield (.may false) e,.sl (.num .i64) (.may false) f]::.bool g::(U 56 (.bool h::(U 184 [])))),hp:=[some [.sl .atype (.may false) i,.int .i64 j],some [.int .u64 k,.str l,.sl .aval .own m,.sl .str .own n,.int .i64 o]]}
def qq(R:IR→(Ex→St→Ro)→St→Ro):Ex→St→Ro:=(bg (R pi) (aP 0 (bg (R dI) (fin eI))))
abbrev hU:Type:=(Int×Int×Int×Bs×List aD×Bss×Int×Bs×Bss×Int×Bss×Bool×Bs×Int×List aM×List Int×Bool×Bool×List aA×Int×Int×Bs×List aH×Bss×Int)
def eT:hU→St:=fun(p,q,r,s,t,u,v,w,x,y,a,b,c,d,e,f,g,h,i,j,k,l,m,n,o)=>{env:=(.ptr 0 0::.undef::.undef::.int .i64 p::.undef::.undef::.ea [.int .i64 q,.int .i64 r,.str s,.sl .jnode (.may false) t,.sl .str (.may false) u]::.undef::.ptr 1 0::.undef::.ea [.int .i64 v,.str w,.sl .str (.may false) x,.int .i64 y,.sl .str (.may false) a,.bool b,.str c,.int .i64 d,.sl .afield (.may false) e,.sl (.num .i64) (.may false) f]::.bool g::(U 56 (.bool h::(U 184 [])))),hp:=[some [.sl .atype (.may false) i,.int .i64 j],some [.int .u64 k,.str l,.sl .aval .own m,.sl .str .own n,.int .i64 o]]}
def cU(R:IR→(Ex→St→Ro)→St→Ro):Ex→St→Ro:=(aP 0 (bg (R dI) (fin eI)))
abbrev hY:Type:=(Int×Int×Int×Bs×List aD×Bss×Int×Bs×Bss×Int×Bss×Bool×Bs×Int×List aM×List Int×Bool×List aA×Int×Int×Bs×List aH×Bss×Int)
def eU:hY→St:=fun(o,p,q,r,s,t,u,v,w,x,a,b,c,d,e,f,g,h,i,j,k,l,m,n)=>{env:=(.ptr 0 0::.undef::.undef::.int .i64 o::.undef::.undef::.ea [.int .i64 p,.int .i64 q,.str r,.sl .jnode (.may false) s,.sl .str (.may false) t]::.undef::.ptr 1 0::.undef::.ea [.int .i64 u,.str v,.sl .str (.may false) w,.int .i64 x,.sl .str (.may false) a,.bool b,.str c,.int .i64 d,.sl .afield (.may false) e,.sl (.num .i64) (.may false) f]::(U 119 (.bool g::(U 122 [])))),hp:=[some [.sl .atype (.may false) h,.int .i64 i],some [.int .u64 j,.str k,.sl .aval .own l,.sl .str .own m,.int .i64 n]]}
abbrev qr:Type:=(Bs×Bool×List aA×Int×Int×Bs×List aH×Bss×Int)
def km:qr→St:=fun(a,b,c,d,e,f,g,h,i)=>{env:=(U 8 (.ptr 1 0::(U 3 (.str a::(U 149 (.bool b::(U 90 []))))))),hp:=[some [.sl .atype (.may false) c,.int .i64 d],some [.int .u64 e,.str f,.sl .aval .own g,.sl .str .own h,.int .i64 i]]}
def qt(N:Nat):St→Ro:=fun s=>run aS N wK (cU (run aS N)) s
def hZ(N:Nat):qr→Ro:=fun(d,a,b,c,_,_,_,_,_)=>
 let e:=fun f g=>(some (.tup [.agg [.int .u64 0,.str f,.sl .aval (.may false) ([]:List aH),.sl .str (.may false) ([]:Bss),.int .i64 0],.int .i64 g],[some [.sl .atype (.may false) b,.int .i64 c],some [.int .u64 0,.str f,.sl .aval .own ([]:List aH),.sl .str .own ([]:Bss),.int .i64 0]]):Ro)
 cond a (
 e d 0) (
 e ([]:Bs) 7)
theorem afC(N:Nat):LJ (qt N) km (hZ N):=fun _=>by kernel_rfl
def agU(R:IR→(Ex→St→Ro)→St→Ro)(a:St→Ro):Ex→St→Ro:=(bj a [6,8,10,14,1000002] 2 (aP 1 (cU R)))
abbrev lH:Type:=(Int×Int×Bs×List aD×Bss×Int×Bs×Bss×Int×Bss×Bool×Bs×Int×List aM×List Int×Int×List aA×Int×Int×Bs×List aH×Bss×Int)
def gE:lH→St:=fun(n,o,p,q,r,s,t,u,v,w,a,b,c,d,e,f,g,h,i,j,k,l,m)=>{env:=(U 6 (.ea [.int .i64 n,.int .i64 o,.str p,.sl .jnode (.may false) q,.sl .str (.may false) r]::.undef::.ptr 1 0::.undef::.ea [.int .i64 s,.str t,.sl .str (.may false) u,.int .i64 v,.sl .str (.may false) w,.bool a,.str b,.int .i64 c,.sl .afield (.may false) d,.sl (.num .i64) (.may false) e]::(U 3 (.int .i64 f::(U 238 []))))),hp:=[some [.sl .atype (.may false) g,.int .i64 h],some [.int .u64 i,.str j,.sl .aval .own k,.sl .str .own l,.int .i64 m]]}
def lI(N:Nat):(St→Ro)→St→Ro:=fun a s=>run aS N wM (agU (run aS N) a) s
def fy(N:Nat)(c:lH→Ro):lH→Ro:=fun(p,q,d,r,s,g,h,i,j,a,k,l,m,n,o,b,e,f,t,u,v,w,x)=>
 let x6:=(↑(List.length a):Int)
 let y:=fun z g1=>(some (.tup [.agg [.int .u64 z,.str ([]:Bs),.sl .aval (.may false) ([]:List aH),.sl .str (.may false) ([]:Bss),.int .i64 0],.int .i64 g1],[some [.sl .atype (.may false) e,.int .i64 f],some [.int .u64 z,.str ([]:Bs),.sl .aval .own ([]:List aH),.sl .str .own ([]:Bss),.int .i64 0]]):Ro)
 cond (decide (b<x6)) (
 chk (ixl b a) (
 let x7:=List.getD a (Int.toNat b) (aB .str)
 cond (decide (x7=d)) (
 y (IntKind.wrap .u64 b) 0) (
 let x8:=(IntKind.wrap .i64 (b+1))
 c (p,q,d,r,s,g,h,i,j,a,k,l,m,n,o,x8,e,f,t,u,v,w,x)))) (
 y 0 7)
theorem afD(N:Nat):LB (lI N) gE (fy N):=fun _ _=>by kernel_rfl
abbrev qu:Type:=(Int×Int×Int×Bs×List aD×Bss×Int×Bs×Bss×Int×Bss×Bool×Bs×Int×List aM×List Int×Bool×List aA×Int×Int×Bs×List aH×Bss×Int)
def kn:qu→St:=fun(o,p,q,r,s,t,u,v,w,x,a,b,c,d,e,f,g,h,i,j,k,l,m,n)=>{env:=(.ptr 0 0::.undef::.undef::.int .i64 o::.undef::.undef::.ea [.int .i64 p,.int .i64 q,.str r,.sl .jnode (.may false) s,.sl .str (.may false) t]::.undef::.ptr 1 0::.undef::.ea [.int .i64 u,.str v,.sl .str (.may false) w,.int .i64 x,.sl .str (.may false) a,.bool b,.str c,.int .i64 d,.sl .afield (.may false) e,.sl (.num .i64) (.may false) f]::(U 181 (.bool g::(U 60 [])))),hp:=[some [.sl .atype (.may false) h,.int .i64 i],some [.int .u64 j,.str k,.sl .aval .own l,.sl .str .own m,.int .i64 n]]}
def qv(N:Nat):St→Ro:=fun s=>run aS N wN (cU (run aS N)) s
def ia(N:Nat):qu→Ro:=fun(w,e,f,g,h,i,b,n,o,p,q,r,s,t,u,a,v,c,d,_,_,_,_,_)=>
 cond v (
 aG (jh c d b n o p q r s t u a e f g h i w) (fun j=>
 some (.tup [.agg [.int .u64 j.1,.str j.2.1,.sl .aval (.may false) j.2.2.1,.sl .str (.may false) j.2.2.2.1,.int .i64 j.2.2.2.2.1],.int .i64 j.2.2.2.2.2.1],[some [.sl .atype (.may false) j.2.2.2.2.2.2.1,.int .i64 j.2.2.2.2.2.2.2],some [.int .u64 j.1,.str j.2.1,.sl .aval (.may false) j.2.2.1,.sl .str (.may false) j.2.2.2.1,.int .i64 j.2.2.2.2.1]]))) (
 cond (b==9) (
 cond (e==6) (
 aG (iE c d b n o p q r s t u a e f g h i w) (fun k=>
 some (.tup [.agg [.int .u64 k.1,.str k.2.1,.sl .aval (.may false) k.2.2.1,.sl .str (.may false) k.2.2.2.1,.int .i64 k.2.2.2.2.1],.int .i64 k.2.2.2.2.2.1],[some [.sl .atype (.may false) k.2.2.2.2.2.2.1,.int .i64 k.2.2.2.2.2.2.2],some [.int .u64 k.1,.str k.2.1,.sl .aval (.may false) k.2.2.1,.sl .str (.may false) k.2.2.2.1,.int .i64 k.2.2.2.2.1]]))) (
 cond (b==14) (
 chk (decide ((0:Int)<↑(List.length a))) (
 let x9:=List.getD a (Int.toNat 0) (aB (.num .i64))
 let x:=(IntKind.wrap .i64 (w+1))
 aG (ct c d x9 e f g h i x) (fun l=>
 some (.tup [.agg [.int .u64 0,.str ([]:Bs),.sl .aval (.may true) ([⟨l.1,l.2.1,l.2.2.1,l.2.2.2.1,l.2.2.2.2.1⟩]:List aH),.sl .str (.may false) ([]:Bss),.int .i64 0],.int .i64 l.2.2.2.2.2.1],[some [.sl .atype (.may false) l.2.2.2.2.2.2.1,.int .i64 l.2.2.2.2.2.2.2],some [.int .u64 0,.str ([]:Bs),.sl .aval (.may true) ([⟨l.1,l.2.1,l.2.2.1,l.2.2.2.1,l.2.2.2.2.1⟩]:List aH),.sl .str .own ([]:Bss),.int .i64 0]])))) (
 some (.tup [.agg [.int .u64 0,.str ([]:Bs),.sl .aval (.may false) ([]:List aH),.sl .str (.may false) ([]:Bss),.int .i64 0],.int .i64 7],[some [.sl .atype (.may false) c,.int .i64 d],some [.int .u64 0,.str ([]:Bs),.sl .aval .own ([]:List aH),.sl .str .own ([]:Bss),.int .i64 0]])))) (
 cond (b==14) (
 chk (decide ((0:Int)<↑(List.length a))) (
 let y:=List.getD a (Int.toNat 0) (aB (.num .i64))
 let z:=(IntKind.wrap .i64 (w+1))
 aG (ct c d y e f g h i z) (fun m=>
 some (.tup [.agg [.int .u64 0,.str ([]:Bs),.sl .aval (.may true) ([⟨m.1,m.2.1,m.2.2.1,m.2.2.2.1,m.2.2.2.2.1⟩]:List aH),.sl .str (.may false) ([]:Bss),.int .i64 0],.int .i64 m.2.2.2.2.2.1],[some [.sl .atype (.may false) m.2.2.2.2.2.2.1,.int .i64 m.2.2.2.2.2.2.2],some [.int .u64 0,.str ([]:Bs),.sl .aval (.may true) ([⟨m.1,m.2.1,m.2.2.1,m.2.2.2.1,m.2.2.2.2.1⟩]:List aH),.sl .str .own ([]:Bss),.int .i64 0]])))) (
 some (.tup [.agg [.int .u64 0,.str ([]:Bs),.sl .aval (.may false) ([]:List aH),.sl .str (.may false) ([]:Bss),.int .i64 0],.int .i64 7],[some [.sl .atype (.may false) c,.int .i64 d],some [.int .u64 0,.str ([]:Bs),.sl .aval .own ([]:List aH),.sl .str .own ([]:Bss),.int .i64 0]]))))
theorem afE(N:Nat):LJ (qv N) kn (ia N):=fun _=>by kernel_rfl
def lJ(N:Nat):St→Ro:=fun s=>run aS N jt (cU (run aS N)) s
def ko(N:Nat)(q3:qr→Ro)(q4:lH→Ro)(q5:qu→Ro):hY→Ro:=fun(v3,b,u,d,v,w,a,e,f,g,h,i,j,c,k,l,x,m,n,o,p,q,r,s)=>
 let z:=fun g0 g1=>q3 (g0,g1,m,n,o,p,q,r,s)
 let t:=fun g0=>q5 (v3,b,u,d,v,w,a,e,f,g,h,i,j,c,k,l,g0,m,n,o,p,q,r,s)
 cond x (
 aG (yj d) (fun y=>
 cond y.2 (
 cond (a==7) (
 z y.1 true) (
 let x5:=(↑(List.length y.1):Int)
 z y.1 (x5==c))) (
 z y.1 false))) (
 cond (a==10) (
 cond (b==4) (
 q4 (b,u,d,v,w,a,e,f,g,h,i,j,c,k,l,0,m,n,o,p,q,r,s)) (
 cond (a==12) (
 cond (b==5) (
 t true) (
 cond (a==13) (
 t (b==6)) (
 t false))) (
 cond (a==13) (
 t (b==6)) (
 t false)))) (
 cond (a==12) (
 cond (b==5) (
 t true) (
 cond (a==13) (
 t (b==6)) (
 t false))) (
 cond (a==13) (
 t (b==6)) (
 t false))))
def ic(N:Nat)(x:hY):Ro:=ko N (fun z=>hZ N z) (fun z=>aR N (fy N) z) (fun z=>ia N z) x
def qw(N:Nat):List (Nat×(St→Ro)):=(bR aS N jt (cU (run aS N))++(bR aS N dI (fin eI)++[]))
theorem afF(N:Nat):∀(x:hY),lJ N (eU x)=ic N x:=by
 intro x
 have hX:∀C:Nat→St→Ro,bY C aS N jt (cU (bY C aS N)) (eU x)=ko N (fun z=>C 1000001 (km z)) (fun z=>C 1000002 (gE z)) (fun z=>C 1000003 (kn z)) x:=by
  intro C
  kernel_rfl
 have h:lJ N (eU x)=ko N (fun z=>qt N (km z)) (fun z=>aX N (lI N) (gE z)) (fun z=>qv N (kn z)) x:=(cW (C:=eZ (qw N)) (bS (aY (l:=(qw N)) (by kernel_rfl))) (cD (fL (bS (dP (aY (l:=(qw N)) (by kernel_rfl)))) rfl)) _).trans ((hX _).trans (by kernel_rfl))
 have e3:(fun z=>qt N (km z))=(fun z=>hZ N z):=funext fun z=>afC N z
 have e4:(fun z=>aX N (lI N) (gE z))=(fun z=>aR N (fy N) z):=funext fun z=>aW (gE) (lI N) (fy N) (afD N) N z
 have e5:(fun z=>qv N (kn z))=(fun z=>ia N z):=funext fun z=>afE N z
 rw[h,e3,e4,e5]
 rfl
def lK(N:Nat):St→Ro:=fun s=>run aS N ju (cU (run aS N)) s
def kp(N:Nat)(q2:hY→Ro):hU→Ro:=fun(v3,b,d,e,s,t,a,i,j,k,l,m,n,o,p,q,r,aa,f,g,u,v,w,x,y)=>
 let h:=fun z g1=>(some (.tup [.agg [.int .u64 z,.str g1,.sl .aval (.may false) ([]:List aH),.sl .str (.may false) ([]:Bss),.int .i64 0],.int .i64 0],[some [.sl .atype (.may false) f,.int .i64 g],some [.int .u64 z,.str g1,.sl .aval .own ([]:List aH),.sl .str .own ([]:Bss),.int .i64 0]]):Ro)
 let c:=fun z=>q2 (v3,b,d,e,s,t,a,i,j,k,l,m,n,o,p,q,z,f,g,u,v,w,x,y)
 cond aa (
 h (IntKind.wrap .u64 d) ([]:Bs)) (
 cond (a==5) (
 cond r (
 aG (rx d) (fun(r1:Int)=>
 h (IntKind.wrap .u64 r1) ([]:Bs))) (
 cond (a==6) (
 cond r (
 aG (ng d) (fun(r2:Int)=>
 h r2 ([]:Bs))) (
 cond (a==8) (
 cond (b==4) (
 h 0 e) (
 cond (a==7) (
 c (b==4)) (
 cond (a==11) (
 c (b==4)) (
 c false)))) (
 cond (a==7) (
 c (b==4)) (
 cond (a==11) (
 c (b==4)) (
 c false))))) (
 cond (a==8) (
 cond (b==4) (
 h 0 e) (
 cond (a==7) (
 c (b==4)) (
 cond (a==11) (
 c (b==4)) (
 c false)))) (
 cond (a==7) (
 c (b==4)) (
 cond (a==11) (
 c (b==4)) (
 c false)))))) (
 cond (a==6) (
 cond r (
 aG (ng d) (fun(r8:Int)=>
 h r8 ([]:Bs))) (
 cond (a==8) (
 cond (b==4) (
 h 0 e) (
 cond (a==7) (
 c (b==4)) (
 cond (a==11) (
 c (b==4)) (
 c false)))) (
 cond (a==7) (
 c (b==4)) (
 cond (a==11) (
 c (b==4)) (
 c false))))) (
 cond (a==8) (
 cond (b==4) (
 h 0 e) (
 cond (a==7) (
 c (b==4)) (
 cond (a==11) (
 c (b==4)) (
 c false)))) (
 cond (a==7) (
 c (b==4)) (
 cond (a==11) (
 c (b==4)) (
 c false))))))
def ig(N:Nat)(x:hU):Ro:=kp N (fun z=>ic N z) x
def qz(N:Nat):List (Nat×(St→Ro)):=(bR aS N ju (cU (run aS N))++(bR aS N dI (fin eI)++[]))
theorem afG(N:Nat):∀(x:hU),lK N (eT x)=ig N x:=by
 intro x
 have hX:∀C:Nat→St→Ro,bY C aS N ju (cU (bY C aS N)) (eT x)=kp N (fun z=>C 1000004 (eU z)) x:=by
  intro C
  kernel_rfl
 have h:lK N (eT x)=kp N (fun z=>lJ N (eU z)) x:=(cW (C:=eZ (qz N)) (bS (aY (l:=(qz N)) (by kernel_rfl))) (cD (fL (bS (dP (aY (l:=(qz N)) (by kernel_rfl)))) rfl)) _).trans ((hX _).trans (by kernel_rfl))
 have e2:(fun z=>lJ N (eU z))=(fun z=>ic N z):=funext fun z=>afF N z
 rw[h,e2]
 rfl
def qA(N:Nat):St→Ro:=fun s=>run aS N kj (qq (run aS N)) s
def kq(N:Nat)(z:hU→Ro):hM→Ro:=fun(v3,k,l,m,n,o,a,b,c,d,e,f,g,h,i,j,p,x,q,r,s,t,u,v,w)=>
 let y:=fun g0=>z (v3,k,l,m,n,o,a,b,c,d,e,f,g,h,i,j,p,g0,q,r,s,t,u,v,w)
 cond x (
 y true) (
 cond (a==4) (
 y p) (
 y false))
def lL(N:Nat)(x:hM):Ro:=kq N (fun z=>ig N z) x
def lM(N:Nat):List (Nat×(St→Ro)):=(bR aS N kj (qq (run aS N))++(bR aS N pi (aP 0 (bg (run aS N dI) (fin eI)))++(bR aS N dI (fin eI)++[])))
theorem afH(N:Nat):∀(x:hM),qA N (gD x)=lL N x:=by
 intro x
 have hX:∀C:Nat→St→Ro,bY C aS N kj (qq (bY C aS N)) (gD x)=kq N (fun z=>C 1000005 (eT z)) x:=by
  intro C
  kernel_rfl
 have h:qA N (gD x)=kq N (fun z=>lK N (eT z)) x:=(cW (C:=eZ (lM N)) (bS (aY (l:=(lM N)) (by kernel_rfl))) (fL (bS (dP (aY (l:=(lM N)) (by kernel_rfl)))) (cD (fL (bS (dP (dP (aY (l:=(lM N)) (by kernel_rfl))))) rfl))) _).trans ((hX _).trans (by kernel_rfl))
 have e1:(fun z=>lK N (eT z))=(fun z=>ig N z):=funext fun z=>afG N z
 rw[h,e1]
 rfl
def iL(N:Nat)(d:List aA)(k s b c:Int)(e:Bs)(f:List aD)(g:Bss)(i:Int)(j:hM→Ro):Ro:=
 let h:=(IntKind.wrap .i64 (k+1))
 let l:=fun t u=>(some (.tup [.agg [.int .u64 t,.str ([]:Bs),.sl .aval (.may false) ([]:List aH),.sl .str (.may false) ([]:Bss),.int .i64 0],.int .i64 u],[some [.sl .atype (.may false) d,.int .i64 h],some [.int .u64 t,.str ([]:Bs),.sl .aval .own ([]:List aH),.sl .str .own ([]:Bss),.int .i64 0]]):Ro)
 cond (decide (20<i)) (
 l 0 3) (
 cond (decide (2000<h)) (
 l 0 3) (
 chk (ixl s d) (
 let a:=(List.getD d (Int.toNat s) (aB .atype))
 cond (a.kind==1) (
 cond (b==1) (
 l 0 0) (
 cond (a.kind==2) (
 cond (b==2) (
 l (IntKind.wrap .u64 c) 0) (
 cond (a.kind==3) (
 cond (b==3) (
 let v:=decide ((-2147483648)≤c)
 cond v (
 let w:=decide (c<2147483648)
 j (i,b,c,e,f,g,a.kind,a.name,a.aliases,a.items,a.syms,a.hasdef,a.df,a.size,a.fields,a.branches,(b==3),w,d,h,0,([]:Bs),([]:List aH),([]:Bss),0)) (
 j (i,b,c,e,f,g,a.kind,a.name,a.aliases,a.items,a.syms,a.hasdef,a.df,a.size,a.fields,a.branches,(b==3),false,d,h,0,([]:Bs),([]:List aH),([]:Bss),0))) (
 j (i,b,c,e,f,g,a.kind,a.name,a.aliases,a.items,a.syms,a.hasdef,a.df,a.size,a.fields,a.branches,(b==3),false,d,h,0,([]:Bs),([]:List aH),([]:Bss),0))) (
 j (i,b,c,e,f,g,a.kind,a.name,a.aliases,a.items,a.syms,a.hasdef,a.df,a.size,a.fields,a.branches,(b==3),false,d,h,0,([]:Bs),([]:List aH),([]:Bss),0)))) (
 cond (a.kind==3) (
 cond (b==3) (
 let m:=decide ((-2147483648)≤c)
 cond m (
 let n:=decide (c<2147483648)
 j (i,b,c,e,f,g,a.kind,a.name,a.aliases,a.items,a.syms,a.hasdef,a.df,a.size,a.fields,a.branches,(b==3),n,d,h,0,([]:Bs),([]:List aH),([]:Bss),0)) (
 j (i,b,c,e,f,g,a.kind,a.name,a.aliases,a.items,a.syms,a.hasdef,a.df,a.size,a.fields,a.branches,(b==3),false,d,h,0,([]:Bs),([]:List aH),([]:Bss),0))) (
 j (i,b,c,e,f,g,a.kind,a.name,a.aliases,a.items,a.syms,a.hasdef,a.df,a.size,a.fields,a.branches,(b==3),false,d,h,0,([]:Bs),([]:List aH),([]:Bss),0))) (
 j (i,b,c,e,f,g,a.kind,a.name,a.aliases,a.items,a.syms,a.hasdef,a.df,a.size,a.fields,a.branches,(b==3),false,d,h,0,([]:Bs),([]:List aH),([]:Bss),0))))) (
 cond (a.kind==2) (
 cond (b==2) (
 l (IntKind.wrap .u64 c) 0) (
 cond (a.kind==3) (
 cond (b==3) (
 let o:=decide ((-2147483648)≤c)
 cond o (
 let p:=decide (c<2147483648)
 j (i,b,c,e,f,g,a.kind,a.name,a.aliases,a.items,a.syms,a.hasdef,a.df,a.size,a.fields,a.branches,(b==3),p,d,h,0,([]:Bs),([]:List aH),([]:Bss),0)) (
 j (i,b,c,e,f,g,a.kind,a.name,a.aliases,a.items,a.syms,a.hasdef,a.df,a.size,a.fields,a.branches,(b==3),false,d,h,0,([]:Bs),([]:List aH),([]:Bss),0))) (
 j (i,b,c,e,f,g,a.kind,a.name,a.aliases,a.items,a.syms,a.hasdef,a.df,a.size,a.fields,a.branches,(b==3),false,d,h,0,([]:Bs),([]:List aH),([]:Bss),0))) (
 j (i,b,c,e,f,g,a.kind,a.name,a.aliases,a.items,a.syms,a.hasdef,a.df,a.size,a.fields,a.branches,(b==3),false,d,h,0,([]:Bs),([]:List aH),([]:Bss),0)))) (
 cond (a.kind==3) (
 cond (b==3) (
 let q:=decide ((-2147483648)≤c)
 cond q (
 let r:=decide (c<2147483648)
 j (i,b,c,e,f,g,a.kind,a.name,a.aliases,a.items,a.syms,a.hasdef,a.df,a.size,a.fields,a.branches,(b==3),r,d,h,0,([]:Bs),([]:List aH),([]:Bss),0)) (
 j (i,b,c,e,f,g,a.kind,a.name,a.aliases,a.items,a.syms,a.hasdef,a.df,a.size,a.fields,a.branches,(b==3),false,d,h,0,([]:Bs),([]:List aH),([]:Bss),0))) (
 j (i,b,c,e,f,g,a.kind,a.name,a.aliases,a.items,a.syms,a.hasdef,a.df,a.size,a.fields,a.branches,(b==3),false,d,h,0,([]:Bs),([]:List aH),([]:Bss),0))) (
 j (i,b,c,e,f,g,a.kind,a.name,a.aliases,a.items,a.syms,a.hasdef,a.df,a.size,a.fields,a.branches,(b==3),false,d,h,0,([]:Bs),([]:List aH),([]:Bss),0)))))))
def zP(N:Nat)(a:List aA)(b h c d:Int)(e:Bs)(f:List aD)(g:Bss)(i:Int):Ro:=iL N a b h c d e f g i (fun z=>lL N z)
theorem agV(N:Nat)(a:List aA)(c l d g:Int)(i:Bs)(j:List aD)(k:Bss)(m:Int)(h:Tot (zP N a c l d g i j k m) (fun z=>∃(n:Int)(o:Bs)(p:List aH)(s:Bss)(t:Int)(u:Int)(v:List aA)(w:Int)(rest:List aK),z.1.dimR=.tup [.agg [.int .u64 n,.str o,.sl .aval (.may false) p,.sl .str (.may false) s,.int .i64 t],.int .i64 u]∧z.2=some [.sl .atype (.may false) v,.int .i64 w]::rest∧di a c l d g i j k m (n,o,p,s,t,u,v,w))):∃r,ct a c l d g i j k m r:=FnC.finO (css:=[[.sl .atype (.may false) a,.int .i64 c]]) ah8 (N:=N) ((bo _ (by kernel_rfl) rfl (fun C=>iL N a c l d g i j k m (fun z=>C 1000000 (gD z))) (fun C=>by kernel_rfl)).trans (Eq.trans (b:=iL N a c l d g i j k m (fun z=>qA N (gD z))) (by kernel_rfl) (congrArg (iL N a c l d g i j k m) (funext fun z=>afH N z)))) h fun _ ⟨n,o,p,s,t,u,v,w,_,e,f,q⟩=>⟨(n,o,p,s,t,u,v,w),e,⟨_,f⟩,q⟩
noncomputable def au4:aN:=tab (P:=Try.prog) [] [nS] [] [aal]
def as3:IR:=Rs [Bx 3 0,Bx 5 2,Pp (.new 6 [vU 0,vS,nl .aval,nl .str,vI 0]),Mi 7 0] (Sq (Rs [Ld 11 1 true 3,Mv 12 1,Ca 13 45 [11,12],Un 14 13] (Cn 14 (Rs [Pp (.bld 15 [vU 0,vS,nl .aval,nl .str,vI 0] []),Sv 5 6 15,Mi 7 1] .ret) .skip)) (Rs [Ld 16 1 true 3,Pp (.bld 17 [fu .atype true,vI 0] [(0,1,16)]),Pp (.box 18 17),Mv 8 18] (Rs [Mv 20 8,Mv 21 1,Ld 22 5 true 5,Ca 23 120 [20,21,22,kI 1],Mv 19 23,Ex_ 24 0 19,Ex_ 25 1 19,Pp (.alr 9 5),Fz 9 5 24,Mv 10 25] (Sq (Rs [Mv 26 10,Bc 27 .neq 26 0] (Cn 27 (Rs [Pp (.bld 28 [vU 0,vS,nl .aval,nl .str,vI 0] []),Mv 29 10,Sv 5 6 28,Mv 7 29] .ret) .skip)) (Rs [Ld 30 5 true 9,Sv 5 6 30,Mi 7 0] .ret)))))
def as4:List RV:=[.cell 6 5 true,.t 7]
theorem as5:FnC Try.prog au4 [120,2000120] 0 ajK Try.f74 as3 as4:=fnC Try.func74
def ah9(N:Nat)(b:List aA)(i c d:Int)(e:Bs)(f:List aD)(g:Bss):Ro:=
 let h:=fun j k l m n o p=>(some (.tup [.agg [.int .u64 j,.str k,.sl .aval (.may false) l,.sl .str (.may false) m,.int .i64 n],.int .i64 o],p):Ro)
 aG (iv b i) (fun(q:Bool)=>
 cond (!q) (
 h 0 ([]:Bs) ([]:List aH) ([]:Bss) 0 1 [some [.int .u64 0,.str ([]:Bs),.sl .aval .own ([]:List aH),.sl .str .own ([]:Bss),.int .i64 0]]) (
 aG (ct b 0 i c d e f g 1) (fun a=>
 cond (!(a.2.2.2.2.2.1==0)) (
 h 0 ([]:Bs) ([]:List aH) ([]:Bss) 0 a.2.2.2.2.2.1 [some [.int .u64 0,.str ([]:Bs),.sl .aval .own ([]:List aH),.sl .str .own ([]:Bss),.int .i64 0],some [.sl .atype (.may false) a.2.2.2.2.2.2.1,.int .i64 a.2.2.2.2.2.2.2]]) (
 h a.1 a.2.1 a.2.2.1 a.2.2.2.1 a.2.2.2.2.1 0 [some [.int .u64 a.1,.str a.2.1,.sl .aval (.may false) a.2.2.1,.sl .str (.may false) a.2.2.2.1,.int .i64 a.2.2.2.2.1],some [.sl .atype (.may false) a.2.2.2.2.2.2.1,.int .i64 a.2.2.2.2.2.2.2]]))))
def aia(N:Nat)(a:List aA)(g b c:Int)(d:Bs)(e:List aD)(f:Bss):Ro:=ah9 N a g b c d e f
theorem aro(N:Nat)(a:List aA)(o b c:Int)(d:Bs)(f:List aD)(g:Bss)(h:Tot (aia N a o b c d f g) (fun z=>∃(i:Int)(j:Bs)(k:List aH)(l:Bss)(m:Int)(n:Int)(rest:List aK),z.1.dimR=.tup [.agg [.int .u64 i,.str j,.sl .aval (.may false) k,.sl .str (.may false) l,.int .i64 m],.int .i64 n]∧z.2=rest∧aep a o b c d f g (i,j,k,l,m,n))):∃r,pJ a o b c d f g r:=as5.finP (N:=N) (by kernel_rfl) h fun _ ⟨i,j,k,l,m,n,_,e,_,q⟩=>⟨(i,j,k,l,m,n),e,q⟩
noncomputable def gm:aN:=tab (P:=Try.prog) [] [] [] [ajN]
def adJ:IR:=Sq (Rs [Mv 17 6,Fa 18 0 1,Lq 19 18,Mv 20 5,Ix 21 .atype 19 20,Fa 22 8 21,Lo 23 22,Ll 24 23,Bi 25 .lss 17 24] (Cn 25 .skip (.exit 2))) (Sq (.block 3 (Rs [Fa 28 0 1,Lq 29 28,Mv 30 5,Ix 31 .atype 29 30,Fa 32 8 31,Lo 33 32,Mv 34 6,Ix 35 .afield 33 34,Ld 36 9 true 35,Pp (.alr 7 9),Fz 7 9 36] (Sq (Rs [Fa 37 3 7,Lq 38 37,Un 39 38] (Cn 39 (.exit 3) .skip)) (Rs [Ld 41 1 true 1,Fa 42 2 7,Lq 43 42,Fa 44 4 7,Ld 45 5 true 44,Ca 46 74 [41,43,45],Mv 40 46,Ex_ 47 0 40,Ex_ 48 1 40,Pp (.alr 8 5),Fz 8 5 47,Mv 9 48] (Rs [Mv 49 9,Bc 50 .neq 49 0] (Cn 50 (Rs [Mv 51 9,Mv 52 5,Mv 53 6,Mv 2 51,Mv 3 52,Mv 4 53] .ret) .skip)))))) (Rg [Mv 26 6,Bc 27 .add 26 1,Mv 6 27]))
def adK:IR:=Rg [Mv 15 5,Bc 16 .add 15 1,Mv 5 16]
def rj:IR:=Sq (Rs [Mv 10 5,Fa 11 0 1,Lq 12 11,Ll 13 12,Bi 14 .lss 10 13] (Cn 14 .skip (.exit 0))) (Sq (.block 1 (Rs [Mi 6 0] (.block 2 (.loop [1,5,6,1000000] 0 adJ)))) adK)
def ya:IR:=Rs [Mi 2 0,Mi 3 0,Mi 4 0] .ret
def as6:IR:=Rs [Bx 1 0,Mi 2 0,Mi 3 0,Mi 4 0] (Sq (Rs [Mi 5 0] (.block 0 (.loop [1,5,1000001] 0 rj))) ya)
def ab4:List RV:=[.t 2,.t 3,.t 4]
theorem as7:FnC Try.prog gm [] 0 ajJ Try.f41 as6 ab4:=fnC Try.func41
def vD(R:IR→(Ex→St→Ro)→St→Ro)(a:St→Ro):Ex→St→Ro:=(bj a [1,5,1000001] 0 (aP 0 (bg (R ya) (fin ab4))))
abbrev gQ:Type:=(List aA×Int)
def dh:gQ→St:=fun(a,b)=>{env:=(.undef::.ea [.sl .atype (.may false) a]::(U 3 (.int .i64 b::(U 48 [])))),hp:=[]}
def arp(R:IR→(Ex→St→Ro)→St→Ro)(a b:St→Ro):Ex→St→Ro:=(bj b [1,5,6,1000000] 0 (aP 2 (aP 1 (bg (R adK) (vD R a)))))
abbrev vE:Type:=(List aA×Int×Int)
def pj:vE→St:=fun(a,b,c)=>{env:=(.undef::.ea [.sl .atype (.may false) a]::(U 3 (.int .i64 b::.int .i64 c::(U 47 [])))),hp:=[]}
def vF(N:Nat)(a:St→Ro):(St→Ro)→St→Ro:=fun b s=>run gm N adJ (arp (run gm N) a b) s
def qh(N:Nat)(c:gQ→Ro)(b:vE→Ro):vE→Ro:=fun(a,d,f)=>
 chk (ixl d a) (
 let i:=(List.getD a (Int.toNat d) (aB .atype))
 let j:=(↑(List.length i.fields):Int)
 cond (decide (f<j)) (
 chk (ixl d a) (
 let g:=(List.getD a (Int.toNat d) (aB .atype))
 chk (ixl f g.fields) (
 let e:=(List.getD g.fields (Int.toNat f) (aB .afield))
 cond (!e.hasdef) (
 let k:=(IntKind.wrap .i64 (f+1))
 b (a,d,k)) (
 aG (pJ a e.typ e.df.kind e.df.n e.df.s e.df.l e.df.names) (fun h=>
 cond (!(h.2.2.2.2.2==0)) (
 some (.tup [.int .i64 h.2.2.2.2.2,.int .i64 d,.int .i64 f],[])) (
 let m:=(IntKind.wrap .i64 (f+1))
 b (a,d,m))))))) (
 let o:=(IntKind.wrap .i64 (d+1))
 c (a,o)))
theorem apF(N:Nat)(a:St→Ro):LB (vF N a) pj (qh N (fun y=>a (dh y))):=fun _ _=>by kernel_rfl
def vG(N:Nat):(St→Ro)→St→Ro:=fun a s=>run gm N rj (vD (run gm N) a) s
def tv(N:Nat)(b:gQ→Ro)(d:vE→Ro):gQ→Ro:=fun(a,c)=>
 let e:=(↑(List.length a):Int)
 cond (decide (c<e)) (
 d (a,c,0)) (
 some (.tup [.int .i64 0,.int .i64 0,.int .i64 0],[]))
def vH(N:Nat)(a:gQ→Ro)(x:gQ):Ro:=tv N a (fun z=>aR N (qh N a) z) x
def aaR(N:Nat)(a:St→Ro):List (Nat×(St→Ro)):=(bR gm N rj (vD (run gm N) a)++(bR gm N ya (fin ab4)++[]))
theorem apG(N:Nat):∀(a:St→Ro)(x:gQ),vG N a (dh x)=vH N (fun y=>a (dh y)) x:=by
 intro a x
 have hX:∀C:Nat→St→Ro,bY C gm N rj (vD (bY C gm N) a) (dh x)=tv N (fun y=>a (dh y)) (fun z=>C 1000000 (pj z)) x:=by
  intro C
  kernel_rfl
 have h:vG N a (dh x)=tv N (fun y=>a (dh y)) (fun z=>aX N (vF N a) (pj z)) x:=(cW (C:=eZ (aaR N a)) (bS (aY (l:=(aaR N a)) (by kernel_rfl))) (jd (cD (fL (bS (dP (aY (l:=(aaR N a)) (by kernel_rfl)))) rfl))) _).trans ((hX _).trans (by kernel_rfl))
 have e1:(fun z=>aX N (vF N a) (pj z))=(fun z=>aR N (qh N (fun y=>a (dh y))) z):=funext fun z=>aW (pj) (vF N a) (qh N (fun y=>a (dh y))) (apF N a) N z
 rw[h,e1]
 rfl
def sd(N:Nat)(a:List aA)(b:gQ→Ro):Ro:=
 b (a,0)
def aib(N:Nat)(a:List aA):Ro:=sd N a (fun z=>aR N (vH N) z)
theorem arq(N:Nat)(a:List aA)(h:Tot (aib N a) (fun z=>∃(c:Int)(d:Int)(f:Int)(rest:List aK),z.1.dimR=.tup [.int .i64 c,.int .i64 d,.int .i64 f]∧z.2=rest∧aeq a (c,d,f))):∃r,tJ a r:=as7.finP (N:=N) ((bo _ (by kernel_rfl) rfl (fun C=>sd N a (fun z=>C 1000001 (dh z))) (fun C=>by kernel_rfl)).trans (Eq.trans (b:=sd N a (fun z=>aX N (vG N) (dh z))) (by kernel_rfl) (congrArg (sd N a) (funext fun z=>aW (dh) (vG N) (vH N) (apG N) N z)))) h fun _ ⟨c,d,f,_,e,_,q⟩=>⟨(c,d,f),e,q⟩
noncomputable def agW:aN:=tab (P:=Try.prog) [] [] [] [avY]
def aic:IR:=Sq (Rs [Mv 7 0,Pp (.lens 8 7),Bc 9 .gtr 8 0] (Cn 9 .skip (.exit 0))) (.block 1 (Rs [Mv 11 0,Ca 12 162 [11],Mv 10 12,Ex_ 13 0 10,Ex_ 14 1 10,Mv 5 13,Mv 6 14] (Sq (Rs [Mv 15 6,Bc 16 .eql 15 0,Mv 17 16,Gf 17 (.mov 18 5),Gf 17 (.bin 19 .gtr 18 (.c (.int .u32 255))),Po 20 17 19] (Cn 20 (Rs [Ms 2 [],Mb 3 false] .ret) .skip)) (.reg [Mv 21 4,Mv 22 5,Pp (.cvi 23 .u8 22),Pp (.bsl 24 .u8 [23] true),Pp (.b2s 25 24),Bi 26 .add 21 25,Mv 27 0,Mv 28 6,Pp (.subs 29 27 (some 28) none),Mv 4 26,Mv 0 29] [[],[],[1],[1,2],[1,2,3],rg 0 4,[],[],[6,7],rg 0 5,rg 0 9]))))
def aid:IR:=Rs [Mv 30 4,Mv 2 30,Mb 3 true] .ret
def aw3:IR:=Rs [Ms 2 [],Mb 3 false] (Rs [Ms 4 []] (Sq (.block 0 (.loop [0,4,1000000] 0 aic)) aid))
def amR:List RV:=[.t 2,.t 3]
theorem aw4:FnC Try.prog agW [] 0 an6 Try.f147 aw3 amR:=fnC Try.func147
def au5(R:IR→(Ex→St→Ro)→St→Ro)(a:St→Ro):Ex→St→Ro:=(bj a [0,4,1000000] 0 (aP 0 (bg (R aid) (fin amR))))
abbrev y9:Type:=(Bs×Bs)
def xH:y9→St:=fun(a,b)=>{env:=(.str a::(U 3 (.str b::(U 26 [])))),hp:=[]}
def adc(N:Nat):(St→Ro)→St→Ro:=fun a s=>run agW N aic (au5 (run agW N) a) s
def za(N:Nat)(a:y9→Ro):y9→Ro:=fun(c,d)=>
 let f:=(↑(List.length c):Int)
 let e:=(some (.tup [.str ([]:Bs),.bool false],[]):Ro)
 cond (decide (0<f)) (
 aG (wb c) (fun b=>
 cond (b.2==0) (
 e) (
 cond (decide (255<b.1)) (
 e) (
 chk (decide (List.length d+List.length ([(UInt8.ofNat (Int.toNat (IntKind.wrap .u8 b.1)))]:Bs)≤9223372036854775807)) (
 let g:=(d++([(UInt8.ofNat (Int.toNat (IntKind.wrap .u8 b.1)))]:Bs))
 chk (decide (0≤b.2)&&decide (b.2≤(↑(List.length c):Int))) (
 let h:=(List.drop (Int.toNat b.2) (List.take (List.length c) c))
 a (h,g))))))) (
 some (.tup [.str d,.bool true],[]))
theorem as8(N:Nat):LB (adc N) xH (za N):=fun _ _=>by kernel_rfl
def wO(N:Nat)(a:Bs)(b:y9→Ro):Ro:=
 b (a,([]:Bs))
def amS(N:Nat)(a:Bs):Ro:=wO N a (fun z=>aR N (za N) z)
theorem au6(N:Nat)(a:Bs)(h:Tot (amS N a) (fun z=>∃(c:Bs)(d:Bool)(rest:List aK),z.1.dimR=.tup [.str c,.bool d]∧z.2=rest)):∃r,yj a r:=aw4.finP0 (N:=N) ((bo _ (by kernel_rfl) rfl (fun C=>wO N a (fun z=>C 1000000 (xH z))) (fun C=>by kernel_rfl)).trans (Eq.trans (b:=wO N a (fun z=>aX N (adc N) (xH z))) (by kernel_rfl) (congrArg (wO N a) (funext fun z=>aW (xH) (adc N) (za N) (as8 N) N z)))) h fun _ ⟨c,d,_,e,_⟩=>⟨(c,d),e⟩
end Go.Proofs.Ytdpajabhmmmjoaa
end
noncomputable section
namespace Go.Proofs.Ytdpajabhmmmjoaa
open Go.AM
set_option autoImplicit false
set_option linter.unusedVariables false
set_option maxRecDepth 100000
noncomputable def cP:aN:=tab (P:=Try.prog) [] [adi,iy,abb,xR,al0] [] [um,aes]
def oa:IR:=Cn 62 (Sq (.reg [Mv 72 2,Nk 73 72,Fo [1] [] (.ld 74 1 false false 73),Mv 75 0,Mv 76 2,Nk 77 76,Fo [1] [] (.ld 78 1 false false 77),Ll 79 78,Fo [] [0] (.call 80 60 [75,79]),Ix 81 .str 74 80,Lq 82 81,Ca 83 86 [82],Fo [] [2] (.st none 5 6 83)] [[],[0],[0,1],[],[],[4],[4,5],[4,5,6],rg 3 7,rg 0 8,rg 0 9,rg 0 10,rg 0 11]) .ret) .skip
def zQ:IR:=Rs [Mv 84 2,Nk 85 84,Lo 86 85,Ll 87 86,Bc 88 .rem 87 26,Pp (.bin 89 .add (kI 97) 88),Pp (.cvi 90 .u8 89),Pp (.bsl 91 .u8 [90] true),Pp (.b2s 92 91),Pp (.bin 93 .add (kS [78]) 92),Mv 9 93] (Rs [Mv 94 2,Mv 95 2,Nk 96 95,Pp (.ld 97 1 false true 96),Mv 98 9,Pp (.bsl 99 .str [98] true),Pp (.app 100 .str (.tk 97) 99),Nk 101 94,Sk 1 101 100] (Sq (.block 1 (Rs [Mv 103 7,Bc 104 .eql 103 15,Mv 102 104] (Cn 102 (Rs [Pp (.bsl 105 .str [kS [116,121,112,101],kS [110,97,109,101],kS [115,105,122,101]] true),Ca 106 86 [kS [102,105,120,101,100]],Mv 107 9,Ca 108 86 [107],Mv 109 0,Ca 110 60 [109,kI 4],Pp (.bld 111 [vI 0,vI 0,vS,fu .jnode true,fu .str true] [(0,1,kI 3),(1,1,110)]),Pp (.bsl 112 .jnode [106,108,111] true),Ca 113 118 [105,112],Sv 5 6 113] .ret) (Rs [Mv 115 7,Bc 116 .eql 115 16,Mv 114 116] (Cn 114 (Rs [Ca 117 86 [kS [88]],Ca 118 86 [kS [89]],Ca 119 86 [kS [90]],Pp (.bsl 120 .jnode [117,118,119] true),Mv 121 0,Ca 122 60 [121,kI 3],Pp (.bin 123 .add (kI 1) 122),Pp (.subl 124 .jnode 120 none (some 123)),Mv 10 124] (Rs [Pp (.bsl 125 .str [kS [116,121,112,101],kS [110,97,109,101],kS [115,121,109,98,111,108,115]] true),Ca 126 86 [kS [101,110,117,109]],Mv 127 9,Ca 128 86 [127],Mv 129 10,Pp (.bld 130 [vI 0,vI 0,vS,fu .jnode true,fu .str true] [(0,1,kI 5),(3,1,129)]),Pp (.bsl 131 .jnode [126,128,130] true),Ca 132 118 [125,131],Pp (.new 11 [vI 0,vI 0,vS,nl .jnode,nl .str]),Sv 5 11 132] (Sq (Rs [Mv 133 0,Ca 134 60 [133,kI 2],Bc 135 .eql 134 0] (Cn 135 (.reg [Fa 136 4 11,Fo [3] [] (.ld 137 1 false false 136),Pp (.bsl 138 .str [kS [100,101,102,97,117,108,116]] true),Pp (.app 139 .str (.tk 137) 138),Fa 140 3 11,Fo [3] [] (.ld 141 1 false false 140),Ca 142 86 [kS [88]],Pp (.bsl 143 .jnode [142] true),Pp (.app 144 .jnode (.tk 141) 143),Fa 145 4 11,Fo [] [3] (.st none 1 145 (.tk 139)),Fa 146 3 11,Fo [] [3] (.st none 1 146 (.tk 144))] [[],[0],[],[0,1,2],[],[4],rg 0 3,[0,1,2,3,6],rg 0 7,rg 0 5,rg 0 9,rg 0 10,rg 0 11]) .skip)) (Rs [Pp (.ld 147 5 true false 11),Sv 5 6 147] .ret)))) .skip))))) (Rs [Mv 148 0,Mv 149 9,Mv 150 1,Mv 151 2,Ca 152 73 [148,149,150,151],Sv 5 6 152] .ret)))
def se:IR:=.cut [0,1,2,6,7,1000001] 3 zQ
def mH:IR:=Rs [Pp (.bsl 22 .str [kS [105,110,116],kS [108,111,110,103],kS [115,116,114,105,110,103],kS [98,121,116,101,115],kS [98,111,111,108,101,97,110],kS [110,117,108,108],kS [102,108,111,97,116],kS [100,111,117,98,108,101]] true),Mv 8 22] (Sq (.block 0 (Rs [Mv 24 7,Bc 25 .lss 24 8,Mv 23 25] (Cn 23 (Rs [Mv 26 8,Mv 27 7,Ix 28 .str 26 27,Lq 29 28,Ca 30 86 [29],Sv 5 6 30] .ret) (Rs [Mv 32 7,Bc 33 .lss 32 10,Mv 31 33] (Cn 31 (Rs [Pp (.bsl 34 .str [kS [116,121,112,101],kS [105,116,101,109,115]] true),Ca 35 86 [kS [97,114,114,97,121]],Mv 36 0,Mv 37 1,Bc 38 .add 37 1,Mv 39 2,Ca 40 117 [36,38,39],Pp (.bsl 41 .jnode [35,40] true),Ca 42 118 [34,41],Sv 5 6 42] .ret) (Rs [Mv 44 7,Bc 45 .eql 44 10,Mv 43 45] (Cn 43 (Rs [Pp (.bsl 46 .str [kS [116,121,112,101],kS [118,97,108,117,101,115]] true),Ca 47 86 [kS [109,97,112]],Mv 48 0,Mv 49 1,Bc 50 .add 49 1,Mv 51 2,Ca 52 117 [48,50,51],Pp (.bsl 53 .jnode [47,52] true),Ca 54 118 [46,53],Sv 5 6 54] .ret) (Rs [Mv 56 7,Bc 57 .lss 56 14,Mv 55 57] (Cn 55 (Rs [Mv 58 0,Mv 59 1,Mv 60 2,Ca 61 146 [58,59,60],Sv 5 6 61] .ret) (Rs [Mv 63 7,Bc 64 .eql 63 14,Mv 65 64,Gt 65 (.mov 66 2),Gt 65 (.nck 67 66),Gt 65 (.ld 68 1 false false 67),Gt 65 (.lenl 69 68),Gt 65 (.bin 70 .gtr 69 (kI 0)),Pa 71 65 70,Mv 62 71] (.cut [0,1,2,6,7,62,1000000] 3 oa))))))))))) se)
def amT:IR:=Rs [Pp (.new 6 [vI 0,vI 0,vS,nl .jnode,nl .str])] (Rs [Mv 12 0,Ca 13 60 [12,kI 20],Mv 7 13] (Sq (Rs [Mv 14 1,Bc 15 .gtr 14 3,Mv 16 15,Gf 16 (.mov 17 0),Gf 16 (.call 18 59 [17]),Po 19 16 18] (Cn 19 (Rg [Mv 20 7,Bc 21 .rem 20 8,Mv 7 21]) .skip)) (.cut [0,1,2,6,7,1000002] 3 mH)))
def gg:List RV:=[.cell 6 5 true]
theorem amU:FnC Try.prog cP [59,60,73,117,146,2000059,2000060,2000073,2000117,2000146] 2 adg Try.f117 amT gg:=fnC Try.func117
abbrev kT:Type:=(Int×Int×Bs×Int×Bss×Int×Int×Bs×List aD×Bss)
def jv:kT→St:=fun(a,b,c,d,e,f,g,h,i,j)=>{env:=(.ptr 0 0::.int .i64 a::.ptr 1 0::(U 3 (.ptr 2 0::.int .i64 b::(U 145 [])))),hp:=[some [.sl .u8 (.may false) c,.int .i64 d],some [.sl .str .own e],some [.int .i64 f,.int .i64 g,.str h,.sl .jnode .own i,.sl .str .own j]]}
abbrev kV:Type:=(Int×Int×Bool×Bs×Int×Bss×Int×Int×Bs×List aD×Bss)
def gt:kV→St:=fun(b,c,d,e,f,g,h,i,j,k,a)=>{env:=(.ptr 0 0::.int .i64 b::.ptr 1 0::(U 3 (.ptr 2 0::.int .i64 c::(U 54 (.bool d::(U 90 [])))))),hp:=[some [.sl .u8 (.may false) e,.int .i64 f],some [.sl .str .own g],some [.int .i64 h,.int .i64 i,.str j,.sl .jnode .own k,.sl .str .own a]]}
def uw(R:IR→(Ex→St→Ro)→St→Ro):Ex→St→Ro:=(aP 0 (bg (R se) (fin gg)))
abbrev uz:Type:=(Int×Int×Bs×Int×Bss×Int×Int×Bs×List aD×Bss)
def od:uz→St:=fun(a,b,c,d,e,f,g,h,i,j)=>{env:=(.ptr 0 0::.int .i64 a::.ptr 1 0::(U 3 (.ptr 2 0::.int .i64 b::(U 145 [])))),hp:=[some [.sl .u8 (.may false) c,.int .i64 d],some [.sl .str .own e],some [.int .i64 f,.int .i64 g,.str h,.sl .jnode .own i,.sl .str .own j]]}
def uA(N:Nat):St→Ro:=fun s=>run cP N zQ (fin gg) s
def kW(N:Nat):uz→Ro:=fun(v1,x,h,i,j,_,_,_,_,_)=>
 let x7:=(↑(List.length j):Int)
 let y:=(IntKind.wrap .i64 (97+(Int.tmod x7 26)))
 let z:=fun g0 g1 g2 g3 g4 g5 g6 g7 g8 g9=>(some (.agg [.int .i64 g0,.int .i64 g1,.str g2,.sl .jnode (.may g3) g4,.sl .str (.may g5) g6],[some [.sl .u8 (.may false) g7,.int .i64 g8],some [.sl .str .own g9],some [.int .i64 g0,.int .i64 g1,.str g2,.sl .jnode (.may g3) g4,.sl .str (.may g5) g6]]):Ro)
 chk (decide (List.length ([78]:Bs)+List.length ([(UInt8.ofNat (Int.toNat (IntKind.wrap .u8 y)))]:Bs)≤9223372036854775807)) (
 let v:=(([78]:Bs)++([(UInt8.ofNat (Int.toNat (IntKind.wrap .u8 y)))]:Bs))
 chk (decide ((List.length j+List.length ([v]:Bss))*16≤140737488355328)) (
 let p:=(j++([v]:Bss))
 cond (x==15) (
 aG (bk ([102,105,120,101,100]:Bs)) (fun k=>
 aG (bk v) (fun l=>
 aG (aQ h i 4) (fun q=>
 aG (eC true ([([116,121,112,101]:Bs),([110,97,109,101]:Bs),([115,105,122,101]:Bs)]:Bss) true ([⟨k.1,k.2.1,k.2.2.1,k.2.2.2.1,k.2.2.2.2⟩,⟨l.1,l.2.1,l.2.2.1,l.2.2.2.1,l.2.2.2.2⟩,⟨3,q.1,([]:Bs),([]:List aD),([]:Bss)⟩]:List aD)) (fun g=>
 z g.1 g.2.1 g.2.2.1 g.2.2.2.1 g.2.2.2.2.1 g.2.2.2.2.2.1 g.2.2.2.2.2.2 q.2.1 q.2.2 p))))) (
 cond (x==16) (
 aG (bk ([88]:Bs)) (fun c=>
 aG (bk ([89]:Bs)) (fun d=>
 aG (bk ([90]:Bs)) (fun e=>
 aG (aQ h i 3) (fun r=>
 let s:=(IntKind.wrap .i64 (1+r.1))
 chk (decide (0≤s)&&decide (s≤(↑(List.length ([⟨c.1,c.2.1,c.2.2.1,c.2.2.2.1,c.2.2.2.2⟩,⟨d.1,d.2.1,d.2.2.1,d.2.2.2.1,d.2.2.2.2⟩,⟨e.1,e.2.1,e.2.2.1,e.2.2.2.1,e.2.2.2.2⟩]:List aD)):Int))) (
 let w:=(List.drop 0 (List.take (Int.toNat s) ([⟨c.1,c.2.1,c.2.2.1,c.2.2.2.1,c.2.2.2.2⟩,⟨d.1,d.2.1,d.2.2.1,d.2.2.2.1,d.2.2.2.2⟩,⟨e.1,e.2.1,e.2.2.1,e.2.2.2.1,e.2.2.2.2⟩]:List aD)))
 aG (bk ([101,110,117,109]:Bs)) (fun m=>
 aG (bk v) (fun n=>
 aG (eC true ([([116,121,112,101]:Bs),([110,97,109,101]:Bs),([115,121,109,98,111,108,115]:Bs)]:Bss) true ([⟨m.1,m.2.1,m.2.2.1,m.2.2.2.1,m.2.2.2.2⟩,⟨n.1,n.2.1,n.2.2.1,n.2.2.2.1,n.2.2.2.2⟩,⟨5,0,([]:Bs),w,([]:Bss)⟩]:List aD)) (fun a=>
 aG (aQ r.2.1 r.2.2 2) (fun o=>
 cond (o.1==0) (
 chk ((a.2.2.2.2.2.1&&decide (0<List.length ([([100,101,102,97,117,108,116]:Bs)]:Bss)))&&decide ((List.length a.2.2.2.2.2.2+List.length ([([100,101,102,97,117,108,116]:Bs)]:Bss))*16≤140737488355328)) (
 let t:=(a.2.2.2.2.2.2++([([100,101,102,97,117,108,116]:Bs)]:Bss))
 aG (bk ([88]:Bs)) (fun b=>
 chk ((a.2.2.2.1&&decide (0<List.length ([⟨b.1,b.2.1,b.2.2.1,b.2.2.2.1,b.2.2.2.2⟩]:List aD)))&&decide ((List.length a.2.2.2.2.1+List.length ([⟨b.1,b.2.1,b.2.2.1,b.2.2.2.1,b.2.2.2.2⟩]:List aD))*80≤140737488355328)) (
 let u:=(a.2.2.2.2.1++([⟨b.1,b.2.1,b.2.2.1,b.2.2.2.1,b.2.2.2.2⟩]:List aD))
 some (.agg [.int .i64 a.1,.int .i64 a.2.1,.str a.2.2.1,.sl .jnode (.may false) u,.sl .str (.may false) t],[some [.sl .u8 (.may false) o.2.1,.int .i64 o.2.2],some [.sl .str .own p],some [.int .i64 a.1,.int .i64 a.2.1,.str a.2.2.1,.sl .jnode (.may false) u,.sl .str (.may false) t],some [.int .i64 a.1,.int .i64 a.2.1,.str a.2.2.1,.sl .jnode .own u,.sl .str .own t]]))))) (
 some (.agg [.int .i64 a.1,.int .i64 a.2.1,.str a.2.2.1,.sl .jnode (.may a.2.2.2.1) a.2.2.2.2.1,.sl .str (.may a.2.2.2.2.2.1) a.2.2.2.2.2.2],[some [.sl .u8 (.may false) o.2.1,.int .i64 o.2.2],some [.sl .str .own p],some [.int .i64 a.1,.int .i64 a.2.1,.str a.2.2.1,.sl .jnode (.may a.2.2.2.1) a.2.2.2.2.1,.sl .str (.may a.2.2.2.2.2.1) a.2.2.2.2.2.2],some [.int .i64 a.1,.int .i64 a.2.1,.str a.2.2.1,.sl .jnode (.may a.2.2.2.1) a.2.2.2.2.1,.sl .str (.may a.2.2.2.2.2.1) a.2.2.2.2.2.2]])))))))))))) (
 aG (gS h i p v v1) (fun f=>
 z f.1 f.2.1 f.2.2.1 false f.2.2.2.1 false f.2.2.2.2.1 f.2.2.2.2.2.1 f.2.2.2.2.2.2.1 f.2.2.2.2.2.2.2)))))
theorem ajg(N:Nat):LJ (uA N) od (kW N):=fun _=>by kernel_rfl
def pu(N:Nat):St→Ro:=fun s=>run cP N oa (uw (run cP N)) s
def oe(N:Nat)(l:uz→Ro):kV→Ro:=fun(m,n,k,d,e,b,f,g,h,i,j)=>
 cond k (
 let o:=(↑(List.length b):Int)
 aG (aQ d e o) (fun c=>
 chk (ixl c.1 b) (
 let p:=List.getD b (Int.toNat c.1) (aB .str)
 aG (bk p) (fun a=>
 some (.agg [.int .i64 a.1,.int .i64 a.2.1,.str a.2.2.1,.sl .jnode (.may false) a.2.2.2.1,.sl .str (.may false) a.2.2.2.2],[some [.sl .u8 (.may false) c.2.1,.int .i64 c.2.2],some [.sl .str .own b],some [.int .i64 a.1,.int .i64 a.2.1,.str a.2.2.1,.sl .jnode (.may false) a.2.2.2.1,.sl .str (.may false) a.2.2.2.2]]))))) (
 l (m,n,d,e,b,f,g,h,i,j))
def kX(N:Nat)(x:kV):Ro:=oe N (fun z=>kW N z) x
def uB(N:Nat):List (Nat×(St→Ro)):=(bR cP N oa (uw (run cP N))++(bR cP N se (fin gg)++[]))
theorem ajh(N:Nat):∀(x:kV),pu N (gt x)=kX N x:=by
 intro x
 have hX:∀C:Nat→St→Ro,bY C cP N oa (uw (bY C cP N)) (gt x)=oe N (fun z=>C 1000001 (od z)) x:=by
  intro C
  kernel_rfl
 have h:pu N (gt x)=oe N (fun z=>uA N (od z)) x:=(cW (C:=eZ (uB N)) (bS (aY (l:=(uB N)) (by kernel_rfl))) (cD (fL (bS (dP (aY (l:=(uB N)) (by kernel_rfl)))) rfl)) _).trans ((hX _).trans (by kernel_rfl))
 have e2:(fun z=>uA N (od z))=(fun z=>kW N z):=funext fun z=>ajg N z
 rw[h,e2]
 rfl
def uC(N:Nat):St→Ro:=fun s=>run cP N mH (fin gg) s
def og(N:Nat)(q1:kV→Ro):kT→Ro:=fun(r,d,b,c,a,j,k,l,m,n)=>
 let s:=fun t u v w x y z g7 g8 g9=>(some (.agg [.int .i64 t,.int .i64 u,.str v,.sl .jnode (.may w) x,.sl .str (.may y) z],[some [.sl .u8 (.may false) g7,.int .i64 g8],some [.sl .str .own g9],some [.int .i64 t,.int .i64 u,.str v,.sl .jnode (.may w) x,.sl .str (.may y) z]]):Ro)
 let z1:=fun t=>q1 (r,d,t,b,c,a,j,k,l,m,n)
 cond (decide (d<8)) (
 chk (ixl d ([([105,110,116]:Bs),([108,111,110,103]:Bs),([115,116,114,105,110,103]:Bs),([98,121,116,101,115]:Bs),([98,111,111,108,101,97,110]:Bs),([110,117,108,108]:Bs),([102,108,111,97,116]:Bs),([100,111,117,98,108,101]:Bs)]:Bss)) (
 let x1:=List.getD ([([105,110,116]:Bs),([108,111,110,103]:Bs),([115,116,114,105,110,103]:Bs),([98,121,116,101,115]:Bs),([98,111,111,108,101,97,110]:Bs),([110,117,108,108]:Bs),([102,108,111,97,116]:Bs),([100,111,117,98,108,101]:Bs)]:Bss) (Int.toNat d) (aB .str)
 aG (bk x1) (fun o=>
 s o.1 o.2.1 o.2.2.1 false o.2.2.2.1 false o.2.2.2.2 b c a))) (
 cond (decide (d<10)) (
 aG (bk ([97,114,114,97,121]:Bs)) (fun p=>
 let x2:=(IntKind.wrap .i64 (r+1))
 aG (dM b c a x2) (fun e=>
 aG (eC true ([([116,121,112,101]:Bs),([105,116,101,109,115]:Bs)]:Bss) true ([⟨p.1,p.2.1,p.2.2.1,p.2.2.2.1,p.2.2.2.2⟩,⟨e.1,e.2.1,e.2.2.1,e.2.2.2.1,e.2.2.2.2.1⟩]:List aD)) (fun h=>
 s h.1 h.2.1 h.2.2.1 h.2.2.2.1 h.2.2.2.2.1 h.2.2.2.2.2.1 h.2.2.2.2.2.2 e.2.2.2.2.2.1 e.2.2.2.2.2.2.1 e.2.2.2.2.2.2.2)))) (
 cond (d==10) (
 aG (bk ([109,97,112]:Bs)) (fun q=>
 let x3:=(IntKind.wrap .i64 (r+1))
 aG (dM b c a x3) (fun f=>
 aG (eC true ([([116,121,112,101]:Bs),([118,97,108,117,101,115]:Bs)]:Bss) true ([⟨q.1,q.2.1,q.2.2.1,q.2.2.2.1,q.2.2.2.2⟩,⟨f.1,f.2.1,f.2.2.1,f.2.2.2.1,f.2.2.2.2.1⟩]:List aD)) (fun i=>
 s i.1 i.2.1 i.2.2.1 i.2.2.2.1 i.2.2.2.2.1 i.2.2.2.2.2.1 i.2.2.2.2.2.2 f.2.2.2.2.2.1 f.2.2.2.2.2.2.1 f.2.2.2.2.2.2.2)))) (
 cond (decide (d<14)) (
 aG (me b c a r) (fun g=>
 s g.1 g.2.1 g.2.2.1 false g.2.2.2.1 false g.2.2.2.2.1 g.2.2.2.2.2.1 g.2.2.2.2.2.2.1 g.2.2.2.2.2.2.2)) (
 cond (d==14) (
 let x4:=(↑(List.length a):Int)
 z1 (decide (0<x4))) (
 z1 false)))))
def pv(N:Nat)(x:kT):Ro:=og N (fun z=>kX N z) x
def abn(N:Nat):List (Nat×(St→Ro)):=(bR cP N mH (fin gg)++[])
theorem aji(N:Nat):∀(x:kT),uC N (jv x)=pv N x:=by
 intro x
 have hX:∀C:Nat→St→Ro,bY C cP N mH (fin gg) (jv x)=og N (fun z=>C 1000000 (gt z)) x:=by
  intro C
  kernel_rfl
 have h:uC N (jv x)=og N (fun z=>pu N (gt z)) x:=(cW (C:=eZ (abn N)) (bS (aY (l:=(abn N)) (by kernel_rfl))) rfl _).trans ((hX _).trans (by kernel_rfl))
 have e1:(fun z=>pu N (gt z))=(fun z=>kX N z):=funext fun z=>ajh N z
 rw[h,e1]
 rfl
def mq(N:Nat)(c:Bs)(d:Int)(e:Bss)(g:Int)(h:kT→Ro):Ro:=
 let f:=fun i j k=>h (g,i,j,k,e,0,0,([]:Bs),([]:List aD),([]:Bss))
 aG (aQ c d 20) (fun b=>
 cond (decide (3<g)) (
 f (Int.tmod b.1 8) b.2.1 b.2.2) (
 aG (jN b.2.1 b.2.2) (fun a=>
 cond a.1 (
 f (Int.tmod b.1 8) a.2.1 a.2.2) (
 f b.1 a.2.1 a.2.2))))
def acO(N:Nat)(a:Bs)(b:Int)(c:Bss)(d:Int):Ro:=mq N a b c d (fun z=>pv N z)
theorem ak0(N:Nat)(a:Bs)(c:Int)(d:Bss)(g:Int)(h:Tot (acO N a c d g) (fun z=>∃(i:Int)(j:Int)(k:Bs)(l:List aD)(m:Bss)(n:Bs)(o:Int)(p:Bss)(rest:List aK),z.1.dimR=.agg [.int .i64 i,.int .i64 j,.str k,.sl .jnode (.may false) l,.sl .str (.may false) m]∧z.2=some [.sl .u8 (.may false) n,.int .i64 o]::some [.sl .str .own p]::rest∧gq a c d g (i,j,k,l,m,n,o,p))):∃r,dM a c d g r:=FnC.finO (css:=[[.sl .u8 (.may false) a,.int .i64 c],[.sl .str .own d]]) amU (N:=N) ((bo _ (by kernel_rfl) rfl (fun C=>mq N a c d g (fun z=>C 1000002 (jv z))) (fun C=>by kernel_rfl)).trans (Eq.trans (b:=mq N a c d g (fun z=>uC N (jv z))) (by kernel_rfl) (congrArg (mq N a c d g) (funext fun z=>aji N z)))) h fun _ ⟨i,j,k,l,m,n,o,p,_,e,f,q⟩=>⟨(i,j,k,l,m,n,o,p),e,⟨_,f⟩,q⟩
noncomputable def amV:aN:=tab (P:=Try.prog) [] [iy,xR] [] [um]
def ak1:IR:=Rs [Pp (.new 6 [vI 0,vI 0,vS,nl .jnode,nl .str])] (Rs [Ca 9 86 [kS [110,117,108,108]],Pp (.bsl 10 .jnode [9] true),Pp (.bld 11 [vI 0,vI 0,vS,nl .jnode,nl .str] [(0,1,kI 5),(3,1,10)]),Pp (.new 7 [vI 0,vI 0,vS,nl .jnode,nl .str]),Sv 5 7 11] (Sq (Rs [Mv 12 0,Ca 13 60 [12,kI 2],Bc 14 .eql 13 0] (Cn 14 (.reg [Fa 15 3 7,Fo [3] [] (.ld 16 1 false false 15),Pp (.bsl 17 .str [kS [105,110,116],kS [115,116,114,105,110,103]] true),Mv 18 0,Fo [] [0] (.call 19 60 [18,kI 2]),Ix 20 .str 17 19,Lq 21 20,Ca 22 86 [21],Pp (.bsl 23 .jnode [22] true),Pp (.app 24 .jnode (.tk 16) 23),Fa 25 3 7,Fo [] [3] (.st none 1 25 (.tk 24))] [[],[0],[],[],[3],[2,3,4],rg 2 5,rg 2 6,rg 2 7,rg 0 8,rg 0 9,rg 0 10]) .skip)) (Rs [Mv 26 0,Mv 27 1,Bc 28 .add 27 1,Mv 29 2,Ca 30 117 [26,28,29],Pp (.alr 8 5),Fz 8 5 30] (Sq (Rs [Fa 31 0 8,Lq 32 31,Bc 33 .eql 32 6] (Cn 33 (Rg [Fa 34 3 7,Pp (.ld 35 1 false true 34),Ld 36 5 true 8,Pp (.bsl 37 .jnode [36] true),Pp (.app 38 .jnode (.tk 35) 37),Fa 39 3 7,Sk 1 39 38]) .skip)) (Rs [Pp (.ld 40 5 true false 7),Sv 5 6 40] .ret)))))
def ak2:List RV:=[.cell 6 5 true]
theorem ak3:FnC Try.prog amV [60,117,2000060,2000117] 2 ach Try.f146 ak1 ak2:=fnC Try.func146
def abo(N:Nat)(f:Bs)(g:Int)(e:Bss)(l:Int):Ro:=
 let i:=fun m n q r s t=>(some (.agg [.int .i64 5,.int .i64 0,.str ([]:Bs),.sl .jnode (.may m) n,.sl .str (.may false) ([]:Bss)],[some [.sl .u8 (.may false) q,.int .i64 r],some [.sl .str .own s],some [.int .i64 5,.int .i64 0,.str ([]:Bs),.sl .jnode (.may m) n,.sl .str (.may false) ([]:Bss)],some [.int .i64 5,.int .i64 0,.str ([]:Bs),t,.sl .str .own ([]:Bss)]]):Ro)
 aG (bk ([110,117,108,108]:Bs)) (fun a=>
 aG (aQ f g 2) (fun h=>
 cond (h.1==0) (
 aG (aQ h.2.1 h.2.2 2) (fun j=>
 chk (ixl j.1 ([([105,110,116]:Bs),([115,116,114,105,110,103]:Bs)]:Bss)) (
 let u:=List.getD ([([105,110,116]:Bs),([115,116,114,105,110,103]:Bs)]:Bss) (Int.toNat j.1) (aB .str)
 aG (bk u) (fun d=>
 chk ((true&&decide (0<List.length ([⟨d.1,d.2.1,d.2.2.1,d.2.2.2.1,d.2.2.2.2⟩]:List aD)))&&decide ((List.length ([⟨a.1,a.2.1,a.2.2.1,a.2.2.2.1,a.2.2.2.2⟩]:List aD)+List.length ([⟨d.1,d.2.1,d.2.2.1,d.2.2.2.1,d.2.2.2.2⟩]:List aD))*80≤140737488355328)) (
 let k:=(([⟨a.1,a.2.1,a.2.2.1,a.2.2.2.1,a.2.2.2.2⟩]:List aD)++([⟨d.1,d.2.1,d.2.2.1,d.2.2.2.1,d.2.2.2.2⟩]:List aD))
 let v:=(IntKind.wrap .i64 (l+1))
 aG (dM j.2.1 j.2.2 e v) (fun c=>
 cond (c.1==6) (
 chk (decide ((List.length k+List.length ([⟨c.1,c.2.1,c.2.2.1,c.2.2.2.1,c.2.2.2.2.1⟩]:List aD))*80≤140737488355328)) (
 let o:=(k++([⟨c.1,c.2.1,c.2.2.1,c.2.2.2.1,c.2.2.2.2.1⟩]:List aD))
 i false o c.2.2.2.2.2.1 c.2.2.2.2.2.2.1 c.2.2.2.2.2.2.2 (.sl .jnode .own o))) (
 i false k c.2.2.2.2.2.1 c.2.2.2.2.2.2.1 c.2.2.2.2.2.2.2 (.sl .jnode .own k)))))))) (
 let w:=(IntKind.wrap .i64 (l+1))
 aG (dM h.2.1 h.2.2 e w) (fun b=>
 cond (b.1==6) (
 chk ((true&&decide (0<List.length ([⟨b.1,b.2.1,b.2.2.1,b.2.2.2.1,b.2.2.2.2.1⟩]:List aD)))&&decide ((List.length ([⟨a.1,a.2.1,a.2.2.1,a.2.2.2.1,a.2.2.2.2⟩]:List aD)+List.length ([⟨b.1,b.2.1,b.2.2.1,b.2.2.2.1,b.2.2.2.2.1⟩]:List aD))*80≤140737488355328)) (
 let p:=(([⟨a.1,a.2.1,a.2.2.1,a.2.2.2.1,a.2.2.2.2⟩]:List aD)++([⟨b.1,b.2.1,b.2.2.1,b.2.2.2.1,b.2.2.2.2.1⟩]:List aD))
 i false p b.2.2.2.2.2.1 b.2.2.2.2.2.2.1 b.2.2.2.2.2.2.2 (.sl .jnode .own p))) (
 i true ([⟨a.1,a.2.1,a.2.2.1,a.2.2.2.1,a.2.2.2.2⟩]:List aD) b.2.2.2.2.2.1 b.2.2.2.2.2.2.1 b.2.2.2.2.2.2.2 (.sl .jnode (.may true) ([⟨a.1,a.2.1,a.2.2.1,a.2.2.2.1,a.2.2.2.2⟩]:List aD)))))))
def abp(N:Nat)(a:Bs)(b:Int)(c:Bss)(d:Int):Ro:=abo N a b c d
theorem ajj(N:Nat)(a:Bs)(b:Int)(c:Bss)(o:Int)(h:Tot (abp N a b c o) (fun z=>∃(d:Int)(g:Int)(i:Bs)(j:List aD)(k:Bss)(l:Bs)(m:Int)(n:Bss)(rest:List aK),z.1.dimR=.agg [.int .i64 d,.int .i64 g,.str i,.sl .jnode (.may false) j,.sl .str (.may false) k]∧z.2=some [.sl .u8 (.may false) l,.int .i64 m]::some [.sl .str .own n]::rest∧zD a b c o (d,g,i,j,k,l,m,n))):∃r,me a b c o r:=FnC.finO (css:=[[.sl .u8 (.may false) a,.int .i64 b],[.sl .str .own c]]) ak3 (N:=N) (by kernel_rfl) h fun _ ⟨d,g,i,j,k,l,m,n,_,e,f,q⟩=>⟨(d,g,i,j,k,l,m,n),e,⟨_,f⟩,q⟩
noncomputable def uD:aN:=tab (P:=Try.prog) [] [iy,xR,aiT] [] [um,aes]
def yz:IR:=Sq (Rs [Mv 17 10,Mv 18 11,Bi 19 .lss 17 18] (Cn 19 .skip (.exit 0))) (Sq (.block 1 (Rs [Mv 22 0,Mv 23 2,Bc 24 .add 23 1,Mv 25 3,Ca 26 117 [22,24,25],Pp (.alr 12 5),Fz 12 5 26] (Sq (.reg [Pp (.bsl 27 .str [kS [110,97,109,101],kS [116,121,112,101]] true),Mv 28 10,Pp (.bin 29 .add (kI 97) 28),Pp (.cvi 30 .u8 29),Pp (.bsl 31 .u8 [30] true),Pp (.b2s 32 31),Pp (.bin 33 .add (kS [102]) 32),Ca 34 86 [33],Ld 35 5 true 12,Pp (.bsl 36 .jnode [34,35] true),Ca 37 118 [27,36],Pp (.new 13 [vI 0,vI 0,vS,nl .jnode,nl .str]),Fo [] [4] (.st none 5 13 37)] [[],[],[1],[1,2],[1,2,3],rg 1 4,rg 1 5,rg 1 6,[],rg 1 8,rg 0 9,[],rg 0 11]) (Sq (Rs [Mv 38 0,Ca 39 60 [38,kI 3],Bc 40 .eql 39 0] (Cn 40 (.reg [Fa 41 4 13,Fo [4] [] (.ld 42 1 false false 41),Pp (.bsl 43 .str [kS [100,101,102,97,117,108,116]] true),Pp (.app 44 .str (.tk 42) 43),Fa 45 3 13,Fo [4] [] (.ld 46 1 false false 45),Mv 47 0,Ld 48 5 true 12,Fo [] [0] (.call 49 119 [47,48]),Pp (.bsl 50 .jnode [49] true),Pp (.app 51 .jnode (.tk 46) 50),Fa 52 4 13,Fo [] [4] (.st none 1 52 (.tk 44)),Fa 53 3 13,Fo [] [4] (.st none 1 53 (.tk 51))] [[],[0],[],[0,1,2],[],[4],[],[],[0,1,2,3,6,7],[0,1,2,3,6,7,8],rg 0 9,rg 0 5,rg 0 11,rg 0 12,rg 0 13]) .skip)) (Rg [Fa 54 3 9,Pp (.ld 55 1 false true 54),Pp (.ld 56 5 true false 13),Pp (.bsl 57 .jnode [56] true),Pp (.app 58 .jnode (.tk 55) 57),Fa 59 3 9,Sk 1 59 58]))))) (Rg [Mv 20 10,Bc 21 .add 20 1,Mv 10 21]))
def xL:IR:=Sq (.reg [Pp (.bsl 60 .str [kS [116,121,112,101],kS [110,97,109,101],kS [110,97,109,101,115,112,97,99,101],kS [102,105,101,108,100,115]] true),Ca 61 86 [kS [114,101,99,111,114,100]],Mv 62 1,Ca 63 86 [62],Ca 64 86 [kS [115]],Fo [3] [] (.ld 65 5 true false 9),Pp (.bsl 66 .jnode [61,63,64,65] true),Ca 67 118 [60,66],Fo [] [2] (.st none 5 8 67)] [[],[],[],[1,2],[1,2,3],[],rg 1 5,rg 0 6,rg 0 7]) .ret
def ajk:IR:=Rs [Pp (.new 8 [vI 0,vI 0,vS,nl .jnode,nl .str])] (Rs [Pp (.bld 14 [vI 0,vI 0,vS,nl .jnode,nl .str] [(0,1,kI 5)]),Pp (.new 9 [vI 0,vI 0,vS,nl .jnode,nl .str]),Sv 5 9 14] (Sq (Rs [Mv 15 0,Ca 16 60 [15,kI 5],Mi 10 0,Mv 11 16] (.block 0 (.loop [0,1,2,3,8,9,10,11,1000000] 4 yz))) xL))
def aaS:List RV:=[.cell 8 5 true]
theorem ajl:FnC Try.prog uD [60,117,119,2000060,2000117,2000119] 2 aa6 Try.f73 ajk aaS:=fnC Try.func73
def aie(R:IR→(Ex→St→Ro)→St→Ro)(a:St→Ro):Ex→St→Ro:=(bj a [0,1,2,3,8,9,10,11,1000000] 4 (aP 0 (bg (R xL) (fin aaS))))
abbrev mI:Type:=(Bs×Int×Int×Int×Bs×Int×Bss×Int×Int×Bs×List aD×Bss×Int×Int×Bs×List aD×Bss)
def lN:mI→St:=fun(h,i,j,k,l,m,n,o,p,q,a,b,c,d,e,f,g)=>{env:=(.ptr 0 0::.str h::.int .i64 i::.ptr 1 0::(U 4 (.ptr 2 0::.ptr 3 0::.int .i64 j::.int .i64 k::(U 56 [])))),hp:=[some [.sl .u8 (.may false) l,.int .i64 m],some [.sl .str .own n],some [.int .i64 o,.int .i64 p,.str q,.sl .jnode .own a,.sl .str .own b],some [.int .i64 c,.int .i64 d,.str e,.sl .jnode .own f,.sl .str .own g]]}
def sf(N:Nat):(St→Ro)→St→Ro:=fun a s=>run uD N yz (aie (run uD N) a) s
def mJ(N:Nat)(j:mI→Ro):mI→Ro:=fun(z,v2,k,o,l,m,n,p,q,r,s,t,f,g,h,c,i)=>
 let z0:=fun g0 g1 g2 g3 g4=>j (z,v2,g0,o,g1,g2,g3,p,q,r,s,t,f,g,h,g4,i)
 cond (decide (k<o)) (
 let x1:=(IntKind.wrap .i64 (v2+1))
 aG (dM l m n x1) (fun e=>
 let x2:=(IntKind.wrap .i64 (97+k))
 chk (decide (List.length ([102]:Bs)+List.length ([(UInt8.ofNat (Int.toNat (IntKind.wrap .u8 x2)))]:Bs)≤9223372036854775807)) (
 let x3:=(([102]:Bs)++([(UInt8.ofNat (Int.toNat (IntKind.wrap .u8 x2)))]:Bs))
 aG (bk x3) (fun u=>
 aG (eC true ([([110,97,109,101]:Bs),([116,121,112,101]:Bs)]:Bss) true ([⟨u.1,u.2.1,u.2.2.1,u.2.2.2.1,u.2.2.2.2⟩,⟨e.1,e.2.1,e.2.2.1,e.2.2.2.1,e.2.2.2.2.1⟩]:List aD)) (fun b=>
 aG (aQ e.2.2.2.2.2.1 e.2.2.2.2.2.2.1 3) (fun v=>
 cond (v.1==0) (
 chk ((b.2.2.2.2.2.1&&decide (0<List.length ([([100,101,102,97,117,108,116]:Bs)]:Bss)))&&decide ((List.length b.2.2.2.2.2.2+List.length ([([100,101,102,97,117,108,116]:Bs)]:Bss))*16≤140737488355328)) (
 let x4:=(b.2.2.2.2.2.2++([([100,101,102,97,117,108,116]:Bs)]:Bss))
 aG (jf v.2.1 v.2.2 e.1 e.2.1 e.2.2.1 e.2.2.2.1 e.2.2.2.2.1) (fun d=>
 chk ((b.2.2.2.1&&decide (0<List.length ([⟨d.1,d.2.1,d.2.2.1,d.2.2.2.1,d.2.2.2.2.1⟩]:List aD)))&&decide ((List.length b.2.2.2.2.1+List.length ([⟨d.1,d.2.1,d.2.2.1,d.2.2.2.1,d.2.2.2.2.1⟩]:List aD))*80≤140737488355328)) (
 let x5:=(b.2.2.2.2.1++([⟨d.1,d.2.1,d.2.2.1,d.2.2.2.1,d.2.2.2.2.1⟩]:List aD))
 chk (decide ((List.length c+List.length ([⟨b.1,b.2.1,b.2.2.1,x5,x4⟩]:List aD))*80≤140737488355328)) (
 let x6:=(c++([⟨b.1,b.2.1,b.2.2.1,x5,x4⟩]:List aD))
 let x7:=(IntKind.wrap .i64 (k+1))
 z0 x7 d.2.2.2.2.2.1 d.2.2.2.2.2.2 e.2.2.2.2.2.2.2 x6))))) (
 chk (decide ((List.length c+List.length ([⟨b.1,b.2.1,b.2.2.1,b.2.2.2.2.1,b.2.2.2.2.2.2⟩]:List aD))*80≤140737488355328)) (
 let x8:=(c++([⟨b.1,b.2.1,b.2.2.1,b.2.2.2.2.1,b.2.2.2.2.2.2⟩]:List aD))
 let x9:=(IntKind.wrap .i64 (k+1))
 z0 x9 v.2.1 v.2.2 e.2.2.2.2.2.2.2 x8)))))))) (
 aG (bk ([114,101,99,111,114,100]:Bs)) (fun w=>
 aG (bk z) (fun x=>
 aG (bk ([115]:Bs)) (fun y=>
 aG (eC true ([([116,121,112,101]:Bs),([110,97,109,101]:Bs),([110,97,109,101,115,112,97,99,101]:Bs),([102,105,101,108,100,115]:Bs)]:Bss) true ([⟨w.1,w.2.1,w.2.2.1,w.2.2.2.1,w.2.2.2.2⟩,⟨x.1,x.2.1,x.2.2.1,x.2.2.2.1,x.2.2.2.2⟩,⟨y.1,y.2.1,y.2.2.1,y.2.2.2.1,y.2.2.2.2⟩,⟨f,g,h,c,i⟩]:List aD)) (fun a=>
 some (.agg [.int .i64 a.1,.int .i64 a.2.1,.str a.2.2.1,.sl .jnode (.may a.2.2.2.1) a.2.2.2.2.1,.sl .str (.may a.2.2.2.2.2.1) a.2.2.2.2.2.2],[some [.sl .u8 (.may false) l,.int .i64 m],some [.sl .str .own n],some [.int .i64 a.1,.int .i64 a.2.1,.str a.2.2.1,.sl .jnode (.may a.2.2.2.1) a.2.2.2.2.1,.sl .str (.may a.2.2.2.2.2.1) a.2.2.2.2.2.2],some [.int .i64 f,.int .i64 g,.str h,.sl .jnode .own c,.sl .str .own i]]))))))
theorem agX(N:Nat):LB (sf N) lN (mJ N):=fun _ _=>by kernel_rfl
def jw(N:Nat)(a:Bs)(b:Int)(c:Bss)(e:Bs)(f:Int)(g:mI→Ro):Ro:=
 aG (aQ a b 5) (fun d=>
 g (e,f,0,d.1,d.2.1,d.2.2,c,0,0,([]:Bs),([]:List aD),([]:Bss),5,0,([]:Bs),([]:List aD),([]:Bss)))
def aaT(N:Nat)(a:Bs)(b:Int)(c:Bss)(d:Bs)(e:Int):Ro:=jw N a b c d e (fun z=>aR N (mJ N) z)
theorem aif(N:Nat)(a:Bs)(c:Int)(d:Bss)(g:Bs)(i:Int)(h:Tot (aaT N a c d g i) (fun z=>∃(j:Int)(k:Int)(l:Bs)(m:List aD)(n:Bss)(o:Bs)(p:Int)(s:Bss)(rest:List aK),z.1.dimR=.agg [.int .i64 j,.int .i64 k,.str l,.sl .jnode (.may false) m,.sl .str (.may false) n]∧z.2=some [.sl .u8 (.may false) o,.int .i64 p]::some [.sl .str .own s]::rest∧yf a c d g i (j,k,l,m,n,o,p,s))):∃r,gS a c d g i r:=FnC.finO (css:=[[.sl .u8 (.may false) a,.int .i64 c],[.sl .str .own d]]) ajl (N:=N) ((bo _ (by kernel_rfl) rfl (fun C=>jw N a c d g i (fun z=>C 1000000 (lN z))) (fun C=>by kernel_rfl)).trans (Eq.trans (b:=jw N a c d g i (fun z=>aX N (sf N) (lN z))) (by kernel_rfl) (congrArg (jw N a c d g i) (funext fun z=>aW (lN) (sf N) (mJ N) (agX N) N z)))) h fun _ ⟨j,k,l,m,n,o,p,s,_,e,f,q⟩=>⟨(j,k,l,m,n,o,p,s),e,⟨_,f⟩,q⟩
noncomputable def cV:aN:=tab (P:=Try.prog) [] [iy] [] [um,aqb]
def jx:IR:=Cn 12 (Rs [Mv 17 0,Ca 18 60 [17,kI 200],Bc 19 .sub 18 50,Pp (.bld 20 [vI 0,vI 0,vS,nl .jnode,nl .str] [(0,1,kI 3),(1,1,19)]),Sv 5 4 20] .ret) (Sq (Rs [Pp (.bin 22 .eql 11 (kS [115,116,114,105,110,103])),Mv 21 22] (Cn 21 .skip (Rg [Pp (.bin 23 .eql 11 (kS [98,121,116,101,115])),Mv 21 23]))) (Cn 21 (Rs [Pp (.bsl 24 .str [kS [],kS [100],kS [195,164]] true),Mv 25 0,Ca 26 60 [25,kI 3],Ix 27 .str 24 26,Lq 28 27,Ca 29 86 [28],Sv 5 4 29] .ret) (Rs [Pp (.bin 31 .eql 11 (kS [98,111,111,108,101,97,110])),Mv 30 31] (Cn 30 (Rs [Mv 32 0,Ca 33 60 [32,kI 2],Pp (.bld 34 [vI 0,vI 0,vS,nl .jnode,nl .str] [(0,1,kI 2),(1,1,33)]),Sv 5 4 34] .ret) (Rs [Pp (.bin 36 .eql 11 (kS [110,117,108,108])),Mv 35 36] (Cn 35 (Rs [Pp (.bld 37 [vI 0,vI 0,vS,nl .jnode,nl .str] [(0,1,kI 1)]),Sv 5 4 37] .ret) .skip))))))
def pk:IR:=Sq (Rs [Fa 38 0 3,Lq 39 38,Bc 40 .eql 39 5] (Cn 40 (Rs [Pp (.bld 41 [vI 0,vI 0,vS,nl .jnode,nl .str] [(0,1,kI 1)]),Sv 5 4 41] .ret) .skip)) (Rs [Ld 43 5 true 3,Ca 44 87 [43,kS [116,121,112,101]],Mv 42 44,Ex_ 45 0 42,Ex_ 46 1 42,Pp (.alr 5 5),Fz 5 5 45,Mv 6 46] (Sq (Rs [Fa 47 2 5,Lq 48 47] (.block 1 (Rs [Pp (.bin 50 .eql 48 (kS [97,114,114,97,121])),Mv 49 50] (Cn 49 (Rs [Pp (.bld 51 [vI 0,vI 0,vS,nl .jnode,nl .str] [(0,1,kI 5)]),Sv 5 4 51] .ret) (Rs [Pp (.bin 53 .eql 48 (kS [101,110,117,109])),Mv 52 53] (Cn 52 (Rs [Ca 54 86 [kS [88]],Sv 5 4 54] .ret) .skip)))))) (Rs [Pp (.bld 55 [vI 0,vI 0,vS,nl .jnode,nl .str] [(0,1,kI 6)]),Sv 5 4 55] .ret)))
def pl:IR:=.cut [3,4,1000001] 2 pk
def aig:IR:=Rs [Bx 3 1,Pp (.new 4 [vI 0,vI 0,vS,nl .jnode,nl .str])] (Sq (Rs [Fa 7 0 3,Lq 8 7,Bc 9 .eql 8 4] (Cn 9 (Rs [Fa 10 2 3,Lq 11 10] (.block 0 (Sq (Rs [Pp (.bin 13 .eql 11 (kS [105,110,116])),Mv 12 13] (Cn 12 .skip (Rs [Pp (.bin 14 .eql 11 (kS [108,111,110,103])),Mv 12 14] (Cn 12 .skip (Rs [Pp (.bin 15 .eql 11 (kS [102,108,111,97,116])),Mv 12 15] (Cn 12 .skip (Rg [Pp (.bin 16 .eql 11 (kS [100,111,117,98,108,101])),Mv 12 16]))))))) (.cut [0,3,4,11,12,1000000] 2 jx)))) .skip)) pl)
def iM:List RV:=[.cell 4 5 true]
theorem aih:FnC Try.prog cV [60,2000060] 1 aah Try.f119 aig iM:=fnC Try.func119
abbrev ii:Type:=(Int×Int×Bs×List aD×Bss×Bs×Bool×Bs×Int×Int×Int×Bs×List aD×Bss)
def gF:ii→St:=fun(e,f,g,h,i,j,k,l,m,n,a,b,c,d)=>{env:=(.ptr 0 0::.undef::.undef::.ea [.int .i64 e,.int .i64 f,.str g,.sl .jnode (.may false) h,.sl .str (.may false) i]::.ptr 1 0::(U 6 (.str j::.bool k::(U 43 [])))),hp:=[some [.sl .u8 (.may false) l,.int .i64 m],some [.int .i64 n,.int .i64 a,.str b,.sl .jnode .own c,.sl .str .own d]]}
def qB(R:IR→(Ex→St→Ro)→St→Ro):Ex→St→Ro:=(aP 0 (bg (R pl) (fin iM)))
abbrev qC:Type:=(Int×Int×Bs×List aD×Bss×Bs×Int×Int×Int×Bs×List aD×Bss)
def kr:qC→St:=fun(c,d,e,f,g,h,i,j,k,l,a,b)=>{env:=(U 3 (.ea [.int .i64 c,.int .i64 d,.str e,.sl .jnode (.may false) f,.sl .str (.may false) g]::.ptr 1 0::(U 51 []))),hp:=[some [.sl .u8 (.may false) h,.int .i64 i],some [.int .i64 j,.int .i64 k,.str l,.sl .jnode .own a,.sl .str .own b]]}
def qD(N:Nat):St→Ro:=fun s=>run cV N pk (fin iM) s
def ij(N:Nat):qC→Ro:=fun(a,c,d,e,f,g,h,_,_,_,_,_)=>
 let i:=fun k l m o p q r=>(some (.agg [.int .i64 k,.int .i64 l,.str m,.sl .jnode (.may false) o,.sl .str (.may false) p],[some [.sl .u8 (.may false) g,.int .i64 h],some [.int .i64 k,.int .i64 l,.str m,q,r]]):Ro)
 cond (a==5) (
 i 1 0 ([]:Bs) ([]:List aD) ([]:Bss) (.sl .jnode .own ([]:List aD)) (.sl .str .own ([]:Bss))) (
 aG (sK a c d e f ([116,121,112,101]:Bs)) (fun n=>
 let s:=decide (n.2.2.1=([97,114,114,97,121]:Bs))
 cond s (
 i 5 0 ([]:Bs) ([]:List aD) ([]:Bss) (.sl .jnode .own ([]:List aD)) (.sl .str .own ([]:Bss))) (
 let j:=decide (n.2.2.1=([101,110,117,109]:Bs))
 cond j (
 aG (bk ([88]:Bs)) (fun b=>
 i b.1 b.2.1 b.2.2.1 b.2.2.2.1 b.2.2.2.2 (.sl .jnode (.may false) b.2.2.2.1) (.sl .str (.may false) b.2.2.2.2))) (
 i 6 0 ([]:Bs) ([]:List aD) ([]:Bss) (.sl .jnode .own ([]:List aD)) (.sl .str .own ([]:Bss))))))
theorem afI(N:Nat):LJ (qD N) kr (ij N):=fun _=>by kernel_rfl
def qE(N:Nat):St→Ro:=fun s=>run cV N jx (qB (run cV N)) s
def ku(N:Nat)(y:qC→Ro):ii→Ro:=fun(f,g,h,i,j,c,s,a,b,k,l,m,n,o)=>
 let p:=fun v w x z g4 g5 g6 g7 g8=>(some (.agg [.int .i64 v,.int .i64 w,.str x,.sl .jnode (.may false) z,.sl .str (.may false) g4],[some [.sl .u8 (.may false) g5,.int .i64 g6],some [.int .i64 v,.int .i64 w,.str x,g7,g8]]):Ro)
 cond s (
 aG (aQ a b 200) (fun t=>
 let x2:=(IntKind.wrap .i64 (t.1-50))
 p 3 x2 ([]:Bs) ([]:List aD) ([]:Bss) t.2.1 t.2.2 (.sl .jnode .own ([]:List aD)) (.sl .str .own ([]:Bss)))) (
 let x3:=decide (c=([115,116,114,105,110,103]:Bs))
 cond x3 (
 aG (aQ a b 3) (fun q=>
 chk (ixl q.1 ([([]:Bs),([100]:Bs),([195,164]:Bs)]:Bss)) (
 let x4:=List.getD ([([]:Bs),([100]:Bs),([195,164]:Bs)]:Bss) (Int.toNat q.1) (aB .str)
 aG (bk x4) (fun d=>
 p d.1 d.2.1 d.2.2.1 d.2.2.2.1 d.2.2.2.2 q.2.1 q.2.2 (.sl .jnode (.may false) d.2.2.2.1) (.sl .str (.may false) d.2.2.2.2))))) (
 let x5:=decide (c=([98,121,116,101,115]:Bs))
 cond x5 (
 aG (aQ a b 3) (fun r=>
 chk (ixl r.1 ([([]:Bs),([100]:Bs),([195,164]:Bs)]:Bss)) (
 let x6:=List.getD ([([]:Bs),([100]:Bs),([195,164]:Bs)]:Bss) (Int.toNat r.1) (aB .str)
 aG (bk x6) (fun e=>
 p e.1 e.2.1 e.2.2.1 e.2.2.2.1 e.2.2.2.2 r.2.1 r.2.2 (.sl .jnode (.may false) e.2.2.2.1) (.sl .str (.may false) e.2.2.2.2))))) (
 let x7:=decide (c=([98,111,111,108,101,97,110]:Bs))
 cond x7 (
 aG (aQ a b 2) (fun u=>
 p 2 u.1 ([]:Bs) ([]:List aD) ([]:Bss) u.2.1 u.2.2 (.sl .jnode .own ([]:List aD)) (.sl .str .own ([]:Bss)))) (
 let x8:=decide (c=([110,117,108,108]:Bs))
 cond x8 (
 p 1 0 ([]:Bs) ([]:List aD) ([]:Bss) a b (.sl .jnode .own ([]:List aD)) (.sl .str .own ([]:Bss))) (
 y (f,g,h,i,j,a,b,k,l,m,n,o))))))
def lO(N:Nat)(x:ii):Ro:=ku N (fun z=>ij N z) x
def qF(N:Nat):List (Nat×(St→Ro)):=(bR cV N jx (qB (run cV N))++(bR cV N pl (fin iM)++[]))
theorem afJ(N:Nat):∀(x:ii),qE N (gF x)=lO N x:=by
 intro x
 have hX:∀C:Nat→St→Ro,bY C cV N jx (qB (bY C cV N)) (gF x)=ku N (fun z=>C 1000001 (kr z)) x:=by
  intro C
  kernel_rfl
 have h:qE N (gF x)=ku N (fun z=>qD N (kr z)) x:=(cW (C:=eZ (qF N)) (bS (aY (l:=(qF N)) (by kernel_rfl))) (cD (fL (bS (dP (aY (l:=(qF N)) (by kernel_rfl)))) rfl)) _).trans ((hX _).trans (by kernel_rfl))
 have e1:(fun z=>qD N (kr z))=(fun z=>ij N z):=funext fun z=>afI N z
 rw[h,e1]
 rfl
abbrev qG:Type:=(Int×Int×Bs×List aD×Bss×Bs×Int×Int×Int×Bs×List aD×Bss)
def pF:qG→St:=fun(c,d,e,f,g,h,i,j,k,l,a,b)=>{env:=(U 3 (.ea [.int .i64 c,.int .i64 d,.str e,.sl .jnode (.may false) f,.sl .str (.may false) g]::.ptr 1 0::(U 51 []))),hp:=[some [.sl .u8 (.may false) h,.int .i64 i],some [.int .i64 j,.int .i64 k,.str l,.sl .jnode .own a,.sl .str .own b]]}
def yA(N:Nat):St→Ro:=fun s=>run cV N pk (fin iM) s
def lP(N:Nat):qG→Ro:=fun(b,c,d,e,f,g,h,_,_,_,_,_)=>
 let i:=fun l m n p q r s=>(some (.agg [.int .i64 l,.int .i64 m,.str n,.sl .jnode (.may false) p,.sl .str (.may false) q],[some [.sl .u8 (.may false) g,.int .i64 h],some [.int .i64 l,.int .i64 m,.str n,r,s]]):Ro)
 cond (b==5) (
 i 1 0 ([]:Bs) ([]:List aD) ([]:Bss) (.sl .jnode .own ([]:List aD)) (.sl .str .own ([]:Bss))) (
 aG (sK b c d e f ([116,121,112,101]:Bs)) (fun o=>
 let j:=decide (o.2.2.1=([97,114,114,97,121]:Bs))
 cond j (
 i 5 0 ([]:Bs) ([]:List aD) ([]:Bss) (.sl .jnode .own ([]:List aD)) (.sl .str .own ([]:Bss))) (
 let k:=decide (o.2.2.1=([101,110,117,109]:Bs))
 cond k (
 aG (bk ([88]:Bs)) (fun a=>
 i a.1 a.2.1 a.2.2.1 a.2.2.2.1 a.2.2.2.2 (.sl .jnode (.may false) a.2.2.2.1) (.sl .str (.may false) a.2.2.2.2))) (
 i 6 0 ([]:Bs) ([]:List aD) ([]:Bss) (.sl .jnode .own ([]:List aD)) (.sl .str .own ([]:Bss))))))
theorem afK(N:Nat):LJ (yA N) pF (lP N):=fun _=>by kernel_rfl
def iN(N:Nat)(c:Bs)(d b e:Int)(a:Bs)(f:List aD)(g:Bss)(l:ii→Ro)(m:qG→Ro):Ro:=
 let h:=fun n=>l (b,e,a,f,g,a,n,c,d,0,0,([]:Bs),([]:List aD),([]:Bss))
 cond (b==4) (
 let o:=decide (a=([105,110,116]:Bs))
 cond o (
 h true) (
 let i:=decide (a=([108,111,110,103]:Bs))
 cond i (
 h true) (
 let j:=decide (a=([102,108,111,97,116]:Bs))
 cond j (
 h true) (
 let k:=decide (a=([100,111,117,98,108,101]:Bs))
 h k)))) (
 m (b,e,a,f,g,c,d,0,0,([]:Bs),([]:List aD),([]:Bss)))
def zR(N:Nat)(a:Bs)(b c d:Int)(e:Bs)(f:List aD)(g:Bss):Ro:=iN N a b c d e f g (fun z=>lO N z) (fun z=>lP N z)
theorem agY(N:Nat)(a:Bs)(c d g:Int)(i:Bs)(j:List aD)(k:Bss)(h:Tot (zR N a c d g i j k) (fun z=>∃(l:Int)(m:Int)(n:Bs)(o:List aD)(p:Bss)(s:Bs)(t:Int)(rest:List aK),z.1.dimR=.agg [.int .i64 l,.int .i64 m,.str n,.sl .jnode (.may false) o,.sl .str (.may false) p]∧z.2=some [.sl .u8 (.may false) s,.int .i64 t]::rest∧gv a c d g i j k (l,m,n,o,p,s,t))):∃r,jf a c d g i j k r:=FnC.finO (css:=[[.sl .u8 (.may false) a,.int .i64 c]]) aih (N:=N) ((bo _ (by kernel_rfl) rfl (fun C=>iN N a c d g i j k (fun z=>C 1000000 (gF z)) (fun z=>C 1000001 (pF z))) (fun C=>by kernel_rfl)).trans (Eq.trans (b:=iN N a c d g i j k (fun z=>qE N (gF z)) (fun z=>yA N (pF z))) (by kernel_rfl) (congr (congrArg (iN N a c d g i j k) (funext fun z=>afJ N z)) (funext fun z=>afK N z)))) h fun _ ⟨l,m,n,o,p,s,t,_,e,f,q⟩=>⟨(l,m,n,o,p,s,t),e,⟨_,f⟩,q⟩
end Go.Proofs.Ytdpajabhmmmjoaa
end
