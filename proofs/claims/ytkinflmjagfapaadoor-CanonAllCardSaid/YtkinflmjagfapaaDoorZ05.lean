import Derived.KernelRfl
import Derived.Shelf.Strings.Builder1
import Derived.Shelf.Strings.Builder2
import Derived.Shelf.Strings.OnBuilder
import Derived.Shelf.Strconv.Itoa4
import Derived.Lib.AppendIntMem
import Derived.Test.YtkinflmjagfapaaDoorZ03
import Derived.Test.YtkinflmjagfapaaDoorZ04
noncomputable section
namespace Go.Proofs.YtkinflmjagfapaaDoor
open Go.AM
set_option autoImplicit false
set_option linter.unusedVariables false
set_option linter.unusedSimpArgs false
set_option maxRecDepth 100000
theorem cM(k n:Int)(s:List UInt8)(h:s.length≤100):iY (.mk k n s [] []):=.mk _ _ _ _ _ h (by simp) (by simp) (by simp) (by simp) (by simp) (by simp[aV]) (by simp[aV])
theorem vR(k n:Int)(l:List ak)(h:l.length≤7)(hl:∀c∈l,iY c)(hk:k≠6):iY (.mk k n [] l []):=.mk _ _ _ _ _ (by simp) h (by simp) (by simp) (fun h=>absurd h hk) hl (by simp[aV]) (by simp[aV])
theorem xy(k n:Int)(l:List ak)(names:List (List UInt8))(hn:names.length=l.length)(h:l.length≤7)(hs:bu names)(hl:∀c∈l,iY c)
  (h7:aV [115,105,122,101] (fun c=>c.n≤zH) names l) (h8:aV [110,97,109,101] (fun c=>dZ c.s) names l):iY (.mk k n [] l names):=.mk _ _ _ _ _ (by simp) h (by omega) hs (fun _=>hn) hl h7 h8
theorem db:∀l m:List ak,bJ (l++m)=bJ l+bJ m
 | [],m=>by simp[bJ]
 |c::l,m=>by simp only[List.cons_append,bJ,db l m];omega
theorem aiX(l:List ak)(n:Nat):bJ (List.drop 0 (List.take n l))≤bJ l:=by
 rw[List.drop_zero]
 have:=db (l.take n) (l.drop n)
 rw[List.take_append_drop] at this
 omega
theorem aa2{l:List (List UInt8)}(h:bu l)(i:Nat):(l.getD i (av .str)).length≤100:=xx h i
theorem ah3(a:List UInt8)(n c0 c1:Int)(c2:List UInt8)(c3:List ak)(c4:List (List UInt8))(hp:lC a n)(hn:iY (.mk c0 c1 c2 c3 c4)):∃r,ec a n c0 c1 c2 c3 c4 r:=by
 obtain⟨k1,k2,k3,k4,k5,k6⟩:=hn.kids
 apply uI 1
 unfold oY dR
 dsimp only
 have one:∀(n' x0 x1:Int)(x2:List UInt8)(x3:List ak)(x4:List (List UInt8)),lC a n'→Tot (dD 1 (c0,c1,c2,c3,c4,a,n',x0,x1,x2,x3,x4)) (fun z=>∃(y0 y1:Int)(y2:List UInt8)(y3:List ak)(y4:List (List UInt8))(y5:List UInt8)(y6:Int)(rest:List aq),z.1.dimR=.agg [.int .i64 y0,.int .i64 y1,.str y2,.sl .jnode (.may false) y3,.sl .str (.may false) y4]∧z.2=some [.sl .u8 (.may false) y5,.int .i64 y6]::rest∧di a n c0 c1 c2 c3 c4 (y0,y1,y2,y3,y4,y5,y6)):=by
  intro n' x0 x1 x2 x3 x4 hp'
  unfold dD
  dsimp only
  repeat' (first|(with_reducible refine au ?_ ?_<;>(intro hb;(try simp only[bnl] at hb);(try revert hb;intro _)))|with_reducible refine aA ?_ ?_|with_reducible refine ar ?_|(refine ao (ail _ _ _ _ _ _ k3 (by omega)) ?_;rintro r ⟨-,hr⟩;clear hr)|(refine ao (cw _) ?_;rintro _ ⟨-,rfl⟩;dsimp only)|fail)
  all_goals exact⟨_,_,_,_,_,_,_,_,rfl,rfl,cM _ _ _ (by simp),rfl,rfl,hp'⟩
 have two:∀(n' x0 x1:Int)(x2:List UInt8)(x3:List ak)(x4:List (List UInt8)),lC a n'→Tot (fU 1 (c0,c1,c2,c3,c4,a,n',x0,x1,x2,x3,x4)) (fun z=>∃(y0 y1:Int)(y2:List UInt8)(y3:List ak)(y4:List (List UInt8))(y5:List UInt8)(y6:Int)(rest:List aq),z.1.dimR=.agg [.int .i64 y0,.int .i64 y1,.str y2,.sl .jnode (.may false) y3,.sl .str (.may false) y4]∧z.2=some [.sl .u8 (.may false) y5,.int .i64 y6]::rest∧di a n c0 c1 c2 c3 c4 (y0,y1,y2,y3,y4,y5,y6)):=by
  intro n' x0 x1 x2 x3 x4 hp'
  unfold fU
  dsimp only
  repeat' (first|(with_reducible refine au ?_ ?_<;>(intro hb;(try simp only[bnl] at hb);(try revert hb;intro _)))|with_reducible refine aA ?_ ?_|with_reducible refine ar ?_|(refine ao (ail _ _ _ _ _ _ k3 (by omega)) ?_;rintro r ⟨-,hr⟩;clear hr)|(refine ao (cw _) ?_;rintro _ ⟨-,rfl⟩;dsimp only)|fail)
  all_goals exact⟨_,_,_,_,_,_,_,_,rfl,rfl,cM _ _ _ (by simp),rfl,rfl,hp'⟩
 have zero:∀(b:Bool),Tot (fT 1 (c0,c1,c2,c3,c4,c2,b,a,n,0,0,[],[],[])) (fun z=>∃(y0 y1:Int)(y2:List UInt8)(y3:List ak)(y4:List (List UInt8))(y5:List UInt8)(y6:Int)(rest:List aq),z.1.dimR=.agg [.int .i64 y0,.int .i64 y1,.str y2,.sl .jnode (.may false) y3,.sl .str (.may false) y4]∧z.2=some [.sl .u8 (.may false) y5,.int .i64 y6]::rest∧di a n c0 c1 c2 c3 c4 (y0,y1,y2,y3,y4,y5,y6)):=by
  intro b
  unfold fT eY
  dsimp only
  have w3:bu ([([]:List UInt8),([100]:List UInt8),([195,164]:List UInt8)]:List (List UInt8)):=by simp[bu]
  repeat' (first|(with_reducible refine au ?_ ?_<;>(intro hb;(try simp only[bnl] at hb);(try revert hb;intro _)))|with_reducible refine aA ?_ ?_|with_reducible refine ar ?_|(refine ao (nd _ _ _ hp (by omega) (by omega)) ?_;rintro⟨m,a',n'⟩ ⟨-,m1,m2,rfl,m3⟩;dsimp only at m1 m2 m3 ⊢)|(refine ao (cw _) ?_;rintro _ ⟨-,rfl⟩;dsimp only)|fail)
  all_goals first|exact⟨_,_,_,_,_,_,_,_,rfl,rfl,cM _ _ _ (Nat.zero_le _),rfl,rfl,hp⟩|exact⟨_,_,_,_,_,_,_,_,rfl,rfl,cM _ _ _ (Nat.zero_le _),rfl,rfl,m3⟩|exact⟨_,_,_,_,_,_,_,_,rfl,rfl,cM _ _ _ (aa2 w3 _),rfl,rfl,m3⟩|exact one _ _ _ _ _ _ hp|exact two _ _ _ _ _ _ hp|(first|(simp only[bnl,lnl];done)|(simp only[bnl,lnl];omega))|skip
 repeat' (first|(with_reducible refine au ?_ ?_<;>(intro hb;(try simp only[bnl] at hb);(try revert hb;intro _)))|with_reducible refine aA ?_ ?_|with_reducible refine ar ?_|fail)
 all_goals first|exact zero _|exact two _ _ _ _ _ _ hp
def ac3(deep:Int):Prop:=∀(a:List UInt8)(n:Int)(ns:List (List UInt8)),lC a n→bu ns→ns.length+mt (5-deep.toNat)≤100000→∃r,bZ a n ns deep r
theorem uV{deep:Int}(h:0≤deep∧deep≤4):mt (5-deep.toNat)=1+4*mt (5-(deep+1).toNat):=by
 have:5-deep.toNat=(5-(deep+1).toNat)+1:=by omega
 rw[this];rfl
theorem uW{deep:Int}(h:0≤deep∧deep≤4):pA (5-deep.toNat)=50+4*pA (5-(deep+1).toNat):=by
 have:5-deep.toNat=(5-(deep+1).toNat)+1:=by omega
 rw[this];rfl
theorem uo:∀n,20≤pA n
 |0=>Nat.le_refl _
 |n+1=>by have:=uo n;simp only[pA];omega
theorem aiY(deep:Int)(hd:0≤deep∧deep≤3)(hT:ac3 (deep+1))(a:List UInt8)(n:Int)(ns:List (List UInt8))(hp:lC a n)(hns:bu ns)(hl:ns.length+mt (5-deep.toNat)≤100000):∃r,gp a n ns deep r:=by
 have hN:=uV (deep:=deep) (by omega)
 have hM:=uW (deep:=deep) (by omega)
 have hM1:=uo (5-(deep+1).toNat)
 have ed:IntKind.i64.wrap (deep+1)=deep+1:=ay (deep+1) (by omega)
 apply wW 1
 unfold qB qA
 dsimp only
 have w2:bu ([([105,110,116]:List UInt8),([115,116,114,105,110,103]:List UInt8)]:List (List UInt8)):=by simp[bu]
 refine ao (cw _) ?_
 rintro _ ⟨-,rfl⟩
 refine ao (nd _ _ _ hp (by omega) (by omega)) ?_
 rintro⟨m,a',n'⟩ ⟨-,m1,m2,rfl,m3⟩
 dsimp only at m1 m2 m3 ⊢
 refine au (fun _=>?_) (fun _=>?_)
 ·refine ao (nd _ _ _ m3 (by omega) (by omega)) ?_
  rintro⟨m',a',n''⟩ ⟨-,m1',m2',rfl,m3'⟩
  dsimp only at m1' m2' m3' ⊢
  refine vck ?_
  refine ao (cw _) ?_
  rintro _ ⟨-,rfl⟩
  dsimp only
  refine vck ?_
  rw[ed]
  refine ao (hT _ _ _ m3' hns (by omega)) ?_
  rintro⟨t0,t1,t2,t3,t4,a'',n3,ns'⟩ ⟨-,⟨h1,hz1⟩,rfl,h3,h4,h5⟩
  dsimp only at h1 hz1 h3 h4 h5 ⊢
  rw[bR] at hz1
  have kids2:∀c∈([ak.mk 4 0 [110,117,108,108] [] []]++[ak.mk 4 0 (List.getD ([([105,110,116]:List UInt8),([115,116,114,105,110,103]:List UInt8)]:List (List UInt8)) (Int.toNat m') (av .str)) [] []]),iY c:=by
   intro c hc
   simp only[List.cons_append,List.nil_append,List.mem_cons,List.not_mem_nil,or_false] at hc
   rcases hc with rfl|rfl
   ·exact cM _ _ _ (by simp)
   ·exact cM _ _ _ (aa2 w2 _)
  repeat' (first|(with_reducible refine au ?_ ?_<;>(intro hb;(try simp only[bnl] at hb);(try revert hb;intro _)))|with_reducible refine aA ?_ ?_|with_reducible refine ar ?_|fail)
  ·first|(simp only[bnl,lnl];done)|(simp only[bnl,lnl];omega)
  ·refine⟨_,_,_,_,_,_,_,_,_,rfl,rfl,⟨vR _ _ _ (by simp) ?_ (by simp),by simp only[bR,db,bJ];omega⟩,rfl,h3,h4,by simp only;omega⟩
   intro c hc
   rcases List.mem_append.1 hc with hc|hc
   ·exact kids2 c hc
   ·simp only[List.mem_singleton] at hc
    subst hc;exact h1
  ·exact⟨_,_,_,_,_,_,_,_,_,rfl,rfl,⟨vR _ _ _ (by simp) kids2 (by simp),by simp only[bR,db,bJ];omega⟩,rfl,h3,h4,by simp only;omega⟩
 ·rw[ed]
  refine ao (hT _ _ _ m3 hns (by omega)) ?_
  rintro⟨t0,t1,t2,t3,t4,a'',n3,ns'⟩ ⟨-,⟨h1,hz1⟩,rfl,h3,h4,h5⟩
  dsimp only at h1 hz1 h3 h4 h5 ⊢
  rw[bR] at hz1
  repeat' (first|(with_reducible refine au ?_ ?_<;>(intro hb;(try simp only[bnl] at hb);(try revert hb;intro _)))|with_reducible refine aA ?_ ?_|with_reducible refine ar ?_|fail)
  ·first|(simp only[bnl,lnl];done)|(simp only[bnl,lnl];omega)
  ·refine⟨_,_,_,_,_,_,_,_,_,rfl,rfl,⟨vR _ _ _ (by simp) ?_ (by simp),by simp only[bR,db,bJ];omega⟩,rfl,h3,h4,by simp only;omega⟩
   intro c hc
   simp only[List.cons_append,List.nil_append,List.mem_cons,List.not_mem_nil,or_false] at hc
   rcases hc with rfl|rfl
   ·exact cM _ _ _ (by simp)
   ·exact h1
  ·refine⟨_,_,_,_,_,_,_,_,_,rfl,rfl,⟨vR _ _ _ (by simp) ?_ (by simp),by simp only[bR,db,bJ];omega⟩,rfl,h3,h4,by simp only;omega⟩
   intro c hc
   simp only[List.mem_singleton] at hc
   subst hc;exact cM _ _ _ (by simp)
theorem abN(deep:Int)(hd:0≤deep∧deep≤3)(hT:ac3 (deep+1))(a:List UInt8)(n:Int)(ns:List (List UInt8))(name:List UInt8)(hp:lC a n)(hns:bu ns)(hnm:name.length≤100∧dZ name)(hl:ns.length+mt (5-deep.toNat)≤100001):∃r,dx a n ns name deep r:=by
 have hN:=uV (deep:=deep) (by omega)
 have hM:=uW (deep:=deep) (by omega)
 have hM1:=uo (5-(deep+1).toNat)
 have ed:IntKind.i64.wrap (deep+1)=deep+1:=ay (deep+1) (by omega)
 apply vr 100
 unfold pQ eu
 refine ao (nd _ _ _ hp (by omega) (by omega)) ?_
 rintro⟨m,a',n'⟩ ⟨-,m1,m2,rfl,m3⟩
 dsimp only at m1 m2 m3 ⊢
 refine aX (fun x=>match x with|(nm,dp,i,m',a2,n2,ns2,x0,x1,x2,x3,x4,k0,k1,k2,l,k4)=>nm=name∧dp=deep∧0≤i∧i≤m∧m'=m∧a2=a'∧lC a' n2∧bu ns2∧(ns2.length:Int)≤ns.length+i*mt (5-(deep+1).toNat)∧k0=5∧k1=0∧k2=[]∧k4=[]∧(l.length:Int)=i∧(∀c∈l,iY c)∧(bJ l:Int)≤i*(pA (5-(deep+1).toNat)+3:Nat)) (fun x=>(m-x.2.2.1).toNat) ?_ _ _
  ⟨rfl,rfl,by simp,m1,rfl,rfl,m3,hns,by simp,rfl,rfl,rfl,rfl,rfl,by simp,by simp[bJ]⟩ (by simp only;omega)
 rintro again ⟨nm,dp,i,m',a2,n2,ns2,x0,x1,x2,x3,x4,k0,k1,k2,l,k4⟩ ⟨rfl,rfl,i1,i2,rfl,rfl,i3,i4,i5,rfl,rfl,rfl,rfl,i6,i7,i8⟩ ih
 dsimp only at ih
 have ei:i<m'→IntKind.i64.wrap (i+1)=i+1:=fun h=>ay (i+1) (by omega)
 generalize hq:mt (5-(dp+1).toNat)=q at*
 generalize hq3:pA (5-(dp+1).toNat)=q3 at*
 have hi8:i*((q3+3:Nat):Int)≤4*((q3+3:Nat):Int):=Int.mul_le_mul_of_nonneg_right (by omega) (by omega)
 have hi5:i*(q:Int)≤4*q:=Int.mul_le_mul_of_nonneg_right (by omega) (by omega)
 have nnil:bu ([]:List (List UInt8)):=by simp[bu]
 unfold gz
 dsimp only
 refine au (fun h=>?_) (fun h=>?_)
 ·have h:=of_decide_eq_true h
  rw[ed]
  have hi4:(i+1)*(q:Int)≤4*q:=Int.mul_le_mul_of_nonneg_right (by omega) (by omega)
  have hi6:(i+1)*(q:Int)=i*q+q:=by rw[Int.add_mul,Int.one_mul]
  have hi9:(i+1)*((q3+3:Nat):Int)=i*((q3+3:Nat):Int)+((q3+3:Nat):Int):=by rw[Int.add_mul,Int.one_mul]
  refine ao (hT _ _ _ i3 i4 (by rw[hq];omega)) ?_
  rintro⟨t0,t1,t2,t3,t4,a'',n3,ns'⟩ ⟨-,⟨h1,hz1⟩,rfl,h3,h4,h5⟩
  dsimp only at h1 hz1 h3 h4 h5 ⊢
  rw[bR] at hz1
  rw[hq] at h5
  rw[hq3] at hz1
  refine vck ?_
  refine ao (cw _) ?_
  rintro _ ⟨-,rfl⟩
  refine ao (rL _ _ _ _) ?_
  rintro _ ⟨-,rfl⟩
  dsimp only
  refine ao (nd _ _ _ h3 (by omega) (by omega)) ?_
  rintro⟨mm,a3,n4⟩ ⟨-,mm1,mm2,rfl,mm3⟩
  dsimp only at mm1 mm2 mm3 ⊢
  have next:∀(n5:Int)(c:ak),lC a3 n5→iY c→szJ c≤q3+3→Tot (again (nm,dp,IntKind.i64.wrap (i+1),m',a3,n5,ns',x0,x1,x2,x3,x4,5,0,[],l++[c],[])) _:=fun n5 c hp5 hc hcz=>ih (nm,dp,IntKind.i64.wrap (i+1),m',a3,n5,ns',x0,x1,x2,x3,x4,5,0,[],l++[c],[])
   (by
    simp only[ei h,List.length_append,List.length_cons,List.length_nil]
    refine⟨trivial,trivial,by omega,by omega,trivial,trivial,hp5,h4,by omega,trivial,trivial,trivial,trivial,by omega,?_,by rw[db,hi9];simp only[bJ];omega⟩
    intro d hd
    rcases List.mem_append.1 hd with hd|hd
    ·exact i7 d hd
    ·simp only[List.mem_singleton] at hd
     subst hd;exact hc) (by simp only[ei h];omega)
  have f1:iY (.mk 4 0 ([102]++[UInt8.ofNat (Int.toNat (IntKind.wrap .u8 (IntKind.wrap .i64 (97+i))))]) [] []):=cM _ _ _ (by simp)
  refine au (fun _=>?_) (fun _=>?_)
  ·refine vck ?_
   refine ao (ah3 _ _ _ _ _ _ _ mm3 h1) ?_
   rintro⟨d0,d1,d2,d3,d4,a4,n5⟩ ⟨-,q1,qz,rfl,q5⟩
   dsimp only at q1 qz q5 ⊢
   rw[bR] at qz
   refine vck ?_
   refine vck ?_
   refine next _ _ q5 (xy _ _ _ _ (by simp) (by simp) (by simp[bu]) ?_ (by simp[aV]) (by simp[aV,dZ,ak.s])) (by simp only[bR,db,bJ];omega)
   intro c hc
   simp only[List.cons_append,List.nil_append,List.mem_cons,List.not_mem_nil,or_false] at hc
   rcases hc with rfl|rfl|rfl
   ·exact f1
   ·exact h1
   ·exact q1
  ·refine vck ?_
   refine next _ _ mm3 (xy _ _ _ _ (by simp) (by simp) (by simp[bu]) ?_ (by simp[aV]) (by simp[aV,dZ,ak.s])) (by simp only[bR,db,bJ];omega)
   intro c hc
   simp only[List.mem_cons,List.not_mem_nil,or_false] at hc
   rcases hc with rfl|rfl
   ·exact f1
   ·exact h1
 ·refine ao (cw _) ?_
  rintro _ ⟨-,rfl⟩
  refine ao (cw _) ?_
  rintro _ ⟨-,rfl⟩
  refine ao (cw _) ?_
  rintro _ ⟨-,rfl⟩
  refine ao (rL _ _ _ _) ?_
  rintro _ ⟨-,rfl⟩
  dsimp only
  refine ar ⟨_,_,_,_,_,_,_,_,_,rfl,rfl,⟨⟨xy _ _ _ _ (by simp) (by simp) (by simp[bu]) ?_ (by simp[aV]) (by simp[aV];exact hnm.2),by simp only[bR,db,bJ];omega⟩,rfl,i3,i4,by simp only;omega⟩,by simp only;omega⟩
  intro c hc
  simp only[List.mem_cons,List.not_mem_nil,or_false] at hc
  rcases hc with rfl|rfl|rfl|rfl
  ·exact cM _ _ _ (by simp)
  ·exact cM _ _ _ hnm.1
  ·exact cM _ _ _ (by simp)
  ·exact vR _ _ _ (by omega) i7 (by decide)
theorem ac4(deep:Int)(hd:0≤deep∧deep≤4)(hT:deep≤3→ac3 (deep+1)):ac3 deep:=by
 intro a n ns hp hns hl
 have hN:=uV (deep:=deep) (by omega)
 have hM:=uW (deep:=deep) (by omega)
 have hM1:=uo (5-(deep+1).toNat)
 have ed:IntKind.i64.wrap (deep+1)=deep+1:=ay (deep+1) (by omega)
 apply yR 1
 unfold rG gq
 dsimp only
 have w8:bu ([([105,110,116]:List UInt8),([108,111,110,103]:List UInt8),([115,116,114,105,110,103]:List UInt8),([98,121,116,101,115]:List UInt8),([98,111,111,108,101,97,110]:List UInt8),([110,117,108,108]:List UInt8),([102,108,111,97,116]:List UInt8),([100,111,117,98,108,101]:List UInt8)]:List (List UInt8)):=by simp[bu]
 have two:∀(k n':Int),deep≤3→lC a n'→Tot (fw 1 (deep,k,a,n',ns,0,0,[],[],[])) (fun z=>∃(y0 y1:Int)(y2:List UInt8)(y3:List ak)(y4:List (List UInt8))(y5:List UInt8)(y6:Int)(y7:List (List UInt8))(rest:List aq),z.1.dimR=.agg [.int .i64 y0,.int .i64 y1,.str y2,.sl .jnode (.may false) y3,.sl .str (.may false) y4]∧z.2=some [.sl .u8 (.may false) y5,.int .i64 y6]::some [.sl .str .own y7]::rest∧dg a n ns deep (y0,y1,y2,y3,y4,y5,y6,y7)):=by
  intro k n' hd3 hp'
  have hT:=hT hd3
  unfold fw
  dsimp only
  refine vck ?_
  refine vck ?_
  generalize hnm:([78]:List UInt8)++[(UInt8.ofNat (Int.toNat (IntKind.wrap .u8 (IntKind.wrap .i64 (97+(Int.tmod (↑(List.length ns):Int) 26))))))]=nm
  have hnl:nm.length≤100:=by subst hnm;simp
  have hnk:dZ nm:=by subst hnm;simp[dZ]
  have hns2:bu (ns++[nm]):=by
   intro x hx
   rcases List.mem_append.1 hx with hx|hx
   ·exact hns x hx
   ·simp only[List.mem_singleton] at hx
    subst hx;exact hnl
  have hlen:(ns++[nm]).length=ns.length+1:=by simp
  refine au (fun _=>?_) (fun _=>au (fun _=>?_) (fun _=>?_))
  ·refine ao (cw _) ?_
   rintro _ ⟨-,rfl⟩
   refine ao (cw _) ?_
   rintro _ ⟨-,rfl⟩
   refine ao (nd _ _ _ hp' (by omega) (by omega)) ?_
   rintro⟨mm,a3,n4⟩ ⟨-,mm1,mm2,rfl,mm3⟩
   dsimp only at mm1 mm2 mm3 ⊢
   refine ao (rL _ _ _ _) ?_
   rintro _ ⟨-,rfl⟩
   dsimp only
   refine ar ⟨_,_,_,_,_,_,_,_,_,rfl,rfl,⟨xy _ _ _ _ (by simp) (by simp) (by simp[bu]) ?_ (by simp[aV];show _≤(255:Int);simp only[ak.n];omega) (by simp[aV];exact hnk),by simp only[bR,db,bJ];omega⟩,rfl,mm3,hns2,by simp only[hlen];omega⟩
   intro c hc
   simp only[List.mem_cons,List.not_mem_nil,or_false] at hc
   rcases hc with rfl|rfl|rfl
   ·exact cM _ _ _ (by simp)
   ·exact cM _ _ _ hnl
   ·exact cM _ _ _ (by simp)
  ·refine ao (cw _) ?_
   rintro _ ⟨-,rfl⟩
   refine ao (cw _) ?_
   rintro _ ⟨-,rfl⟩
   refine ao (cw _) ?_
   rintro _ ⟨-,rfl⟩
   refine ao (nd _ _ _ hp' (by omega) (by omega)) ?_
   rintro⟨mm,a3,n4⟩ ⟨-,mm1,mm2,rfl,mm3⟩
   dsimp only at mm1 mm2 mm3 ⊢
   have em:IntKind.i64.wrap (1+mm)=1+mm:=ay (1+mm) (by omega)
   rw[em]
   refine vck ?_
   refine ao (cw _) ?_
   rintro _ ⟨-,rfl⟩
   refine ao (cw _) ?_
   rintro _ ⟨-,rfl⟩
   refine ao (rL _ _ _ _) ?_
   rintro _ ⟨-,rfl⟩
   dsimp only
   refine ao (nd _ _ _ mm3 (by omega) (by omega)) ?_
   rintro⟨m5,a5,n5⟩ ⟨-,m51,m52,rfl,m53⟩
   dsimp only at m51 m52 m53 ⊢
   have hsub:∀c∈(List.drop 0 (List.take (Int.toNat (1+mm)) ([ak.mk 4 0 [88] [] [],ak.mk 4 0 [89] [] [],ak.mk 4 0 [90] [] []]:List ak))),iY c:=by
    intro c hc
    rw[List.drop_zero] at hc
    have hc:=List.mem_of_mem_take hc
    simp only[List.mem_cons,List.not_mem_nil,or_false] at hc
    rcases hc with rfl|rfl|rfl<;>exact cM _ _ _ (by simp)
   have hsl:(List.drop 0 (List.take (Int.toNat (1+mm)) ([ak.mk 4 0 [88] [] [],ak.mk 4 0 [89] [] [],ak.mk 4 0 [90] [] []]:List ak))).length≤7:=by
    simp only[List.length_drop,List.length_take,List.length_cons,List.length_nil];omega
   have hsy:=vR 5 0 _ hsl hsub (by decide)
   have hsz:=aiX ([ak.mk 4 0 [88] [] [],ak.mk 4 0 [89] [] [],ak.mk 4 0 [90] [] []]:List ak) (Int.toNat (1+mm))
   simp only[bJ,bR] at hsz
   refine au (fun _=>?_) (fun _=>?_)
   ·refine vck ?_
    refine ao (cw _) ?_
    rintro _ ⟨-,rfl⟩
    dsimp only
    refine vck ?_
    refine ar ⟨_,_,_,_,_,_,_,_,_,rfl,rfl,⟨xy _ _ _ _ (by simp) (by simp) (by simp[bu]) ?_ (by simp[aV]) (by simp[aV];exact hnk),by simp only[bR,db,bJ];have:=hsz;omega⟩,rfl,m53,hns2,by simp only[hlen];omega⟩
    intro c hc
    simp only[List.cons_append,List.nil_append,List.mem_cons,List.not_mem_nil,or_false] at hc
    rcases hc with rfl|rfl|rfl|rfl
    ·exact cM _ _ _ (by simp)
    ·exact cM _ _ _ hnl
    ·exact hsy
    ·exact cM _ _ _ (by simp)
   ·refine ar ⟨_,_,_,_,_,_,_,_,_,rfl,rfl,⟨xy _ _ _ _ (by simp) (by simp) (by simp[bu]) ?_ (by simp[aV]) (by simp[aV];exact hnk),by simp only[bR,db,bJ];have:=hsz;omega⟩,rfl,m53,hns2,by simp only[hlen];omega⟩
    intro c hc
    simp only[List.mem_cons,List.not_mem_nil,or_false] at hc
    rcases hc with rfl|rfl|rfl
    ·exact cM _ _ _ (by simp)
    ·exact cM _ _ _ hnl
    ·exact hsy
  ·refine ao (abN deep (by omega) hT _ _ _ _ hp' hns2 ⟨hnl,hnk⟩ ?_) ?_
   ·rw[hlen];omega
   rintro⟨t0,t1,t2,t3,t4,a'',n3,ns'⟩ ⟨-,⟨⟨h1,hz1⟩,rfl,h3,h4,h5⟩,h6⟩
   dsimp only at h1 hz1 h3 h4 h5 h6 ⊢
   rw[hlen] at h6
   exact ar ⟨_,_,_,_,_,_,_,_,_,rfl,rfl,⟨h1,hz1⟩,rfl,h3,h4,by simp only;omega⟩
 have one:∀(k n':Int)(b:Bool),deep≤3→lC a n'→(b=true→0<ns.length)→Tot (fx 1 (deep,k,b,a,n',ns,0,0,[],[],[])) (fun z=>∃(y0 y1:Int)(y2:List UInt8)(y3:List ak)(y4:List (List UInt8))(y5:List UInt8)(y6:Int)(y7:List (List UInt8))(rest:List aq),z.1.dimR=.agg [.int .i64 y0,.int .i64 y1,.str y2,.sl .jnode (.may false) y3,.sl .str (.may false) y4]∧z.2=some [.sl .u8 (.may false) y5,.int .i64 y6]::some [.sl .str .own y7]::rest∧dg a n ns deep (y0,y1,y2,y3,y4,y5,y6,y7)):=by
  intro k n' b hd3 hp' hb
  unfold fx ig
  dsimp only
  refine au (fun h1=>?_) (fun h1=>two _ _ hd3 hp')
  have hb:=hb h1
  have numTot:∃r,aO a n' (ns.length:Int) r:=agX _ _ _ hp' (by omega)
  refine ao numTot ?_
  rintro⟨mm,a3,n4⟩ ⟨-,mm1,mm2,rfl,mm3⟩
  dsimp only at mm1 mm2 mm3 ⊢
  refine vck ?_
  refine ao (cw _) ?_
  rintro _ ⟨-,rfl⟩
  exact ar ⟨_,_,_,_,_,_,_,_,_,rfl,rfl,⟨cM _ _ _ (aa2 hns _),by simp only[bR,db,bJ];omega⟩,rfl,mm3,hns,by simp only;omega⟩
 have zero:∀(k n':Int),0≤k→(8≤k→deep≤3)→lC a n'→Tot (jc 1 (deep,k,a,n',ns,0,0,[],[],[])) (fun z=>∃(y0 y1:Int)(y2:List UInt8)(y3:List ak)(y4:List (List UInt8))(y5:List UInt8)(y6:Int)(y7:List (List UInt8))(rest:List aq),z.1.dimR=.agg [.int .i64 y0,.int .i64 y1,.str y2,.sl .jnode (.may false) y3,.sl .str (.may false) y4]∧z.2=some [.sl .u8 (.may false) y5,.int .i64 y6]::some [.sl .str .own y7]::rest∧dg a n ns deep (y0,y1,y2,y3,y4,y5,y6,y7)):=by
  intro k n' hk hk2 hp'
  unfold jc ii
  dsimp only
  refine au (fun h1=>?_) (fun h1=>?_)
  ·have h1:=of_decide_eq_true h1
   refine vck ?_
   refine ao (cw _) ?_
   rintro _ ⟨-,rfl⟩
   exact ar ⟨_,_,_,_,_,_,_,_,_,rfl,rfl,⟨cM _ _ _ (aa2 w8 _),by simp only[bR,db,bJ];omega⟩,rfl,hp',hns,by simp only;omega⟩
  have hd3:=hk2 (by have:=of_decide_eq_false h1;omega)
  have hT:=hT hd3
  rw[ed]
  have tab:∀(word w2:List UInt8),word.length≤100→w2.length≤100→¬w2=[115,105,122,101]→¬w2=[110,97,109,101]→∀(nm:List UInt8),nm.length≤100→¬nm=[115,105,122,101]→¬nm=[110,97,109,101]→Tot (an (aR word) (fun r3=>an (bZ a n' ns (deep+1)) (fun r4=>
     an (c6 true ([nm,w2]:List (List UInt8)) true ([⟨r3.1,r3.2.1,r3.2.2.1,r3.2.2.2.1,r3.2.2.2.2⟩,⟨r4.1,r4.2.1,r4.2.2.1,r4.2.2.2.1,r4.2.2.2.2.1⟩]:List ak)) (fun r5=>
      some (V.agg [.int .i64 r5.1,.int .i64 r5.2.1,.str r5.2.2.1,.sl .jnode (.may r5.2.2.2.1) r5.2.2.2.2.1,.sl .str (.may r5.2.2.2.2.2.1) r5.2.2.2.2.2.2],([some [.sl .u8 (.may false) r4.2.2.2.2.2.1,.int .i64 r4.2.2.2.2.2.2.1],some [.sl .str .own r4.2.2.2.2.2.2.2],some [.int .i64 r5.1,.int .i64 r5.2.1,.str r5.2.2.1,.sl .jnode (.may r5.2.2.2.1) r5.2.2.2.2.1,.sl .str (.may r5.2.2.2.2.2.1) r5.2.2.2.2.2.2]]:List aq)))))) (fun z=>∃(y0 y1:Int)(y2:List UInt8)(y3:List ak)(y4:List (List UInt8))(y5:List UInt8)(y6:Int)(y7:List (List UInt8))(rest:List aq),z.1.dimR=.agg [.int .i64 y0,.int .i64 y1,.str y2,.sl .jnode (.may false) y3,.sl .str (.may false) y4]∧z.2=some [.sl .u8 (.may false) y5,.int .i64 y6]::some [.sl .str .own y7]::rest∧dg a n ns deep (y0,y1,y2,y3,y4,y5,y6,y7)):=by
   intro word w2 hw hw2 hw3 hw4 nm hnm hnm3 hnm4
   refine ao (cw _) ?_
   rintro _ ⟨-,rfl⟩
   refine ao (hT _ _ _ hp' hns (by omega)) ?_
   rintro⟨t0,t1,t2,t3,t4,a'',n3,ns'⟩ ⟨-,⟨h1,hz1⟩,rfl,h3,h4,h5⟩
   dsimp only at h1 hz1 h3 h4 h5 ⊢
   rw[bR] at hz1
   refine ao (rL _ _ _ _) ?_
   rintro _ ⟨-,rfl⟩
   dsimp only
   refine ar ⟨_,_,_,_,_,_,_,_,_,rfl,rfl,⟨xy _ _ _ _ (by simp) (by simp) ?_ ?_ (by simp[aV,hw3,hnm3]) (by simp[aV,hw4,hnm4]),by simp only[bR,db,bJ];omega⟩,rfl,h3,h4,by simp only;omega⟩
   ·intro x hx
    simp only[List.mem_cons,List.not_mem_nil,or_false] at hx
    rcases hx with rfl|rfl<;>assumption
   ·intro c hc
    simp only[List.mem_cons,List.not_mem_nil,or_false] at hc
    rcases hc with rfl|rfl
    ·exact cM _ _ _ hw
    ·exact h1
  refine au (fun _=>?_) (fun _=>au (fun _=>?_) (fun _=>au (fun _=>?_) (fun _=>au (fun _=>one _ _ _ hd3 hp' fun hb=>?_) (fun _=>one _ _ _ hd3 hp' fun hb=>by cases hb))))
  ·exact tab _ _ (by simp) (by simp) (by simp) (by simp) _ (by simp) (by simp) (by simp)
  ·exact tab _ _ (by simp) (by simp) (by simp) (by simp) _ (by simp) (by simp) (by simp)
  ·refine ao (aiY deep (by omega) hT _ _ _ hp' hns hl) ?_
   rintro⟨t0,t1,t2,t3,t4,a'',n3,ns'⟩ ⟨-,h1,rfl,h3,h4,h5⟩
   exact ar ⟨_,_,_,_,_,_,_,_,_,rfl,rfl,h1,rfl,h3,h4,h5⟩
  ·have:=of_decide_eq_true hb
   omega
 refine ao (nd _ _ _ hp (by omega) (by omega)) ?_
 rintro⟨m,a',n'⟩ ⟨-,m1,m2,rfl,m3⟩
 dsimp only at m1 m2 m3 ⊢
 have t8:0≤Int.tmod m 8∧Int.tmod m 8<8:=⟨Int.tmod_nonneg _ m1,Int.tmod_lt_of_pos _ (by omega)⟩
 refine au (fun h1=>zero _ _ t8.1 (fun h=>by omega) m3) (fun h1=>?_)
 have h1:=of_decide_eq_false h1
 refine ao (akq _ _) ?_
 rintro⟨b,a2,n2⟩ ⟨-,rfl,rfl⟩
 dsimp only
 exact au (fun _=>zero _ _ t8.1 (fun h=>by omega) m3) (fun _=>zero _ _ m1 (fun _=>by omega) m3)
theorem aeI:∀(k:Nat)(deep:Int),deep+k=4→0≤deep→ac3 deep
 |0,deep,h,h1=>ac4 deep (by omega) (fun h'=>by omega)
 |k+1,deep,h,h1=>ac4 deep (by omega) (fun _=>aeI k (deep+1) (by omega) (by omega))
theorem aiZ(a:List UInt8)(n:Int)(hp:lC a n):∃r,fo a n r:=by
 apply vL 1
 unfold p7 pZ
 refine ao (abN 0 (by omega) (aeI 3 1 (by omega) (by omega)) _ _ _ _ hp (by simp[bu]) ⟨by simp,by simp[dZ]⟩ (by simp[mt])) ?_
 rintro⟨t0,t1,t2,t3,t4,a'',n3,ns'⟩ ⟨-,⟨h1,rfl,h3,h4,h5⟩,h6⟩
 exact ar ⟨_,_,_,_,_,_,_,_,rfl,rfl,h1,rfl,h3⟩
end Go.Proofs.YtkinflmjagfapaaDoor
end
noncomputable section
namespace Go.Proofs.YtkinflmjagfapaaDoor
open Go.AM
set_option autoImplicit false
set_option linter.unusedVariables false
set_option maxRecDepth 100000
noncomputable def ahb:az:=tab (P:=Tryd.prog) [] [] [] []
def afv:IR:=Rs [Pp (.mov 0 (.c (nl .str)))] (Rs [Pp (.bsl 1 .str [kS [],kS [110,117,108,108],kS [98,111,111,108,101,97,110],kS [105,110,116],kS [108,111,110,103],kS [102,108,111,97,116],kS [100,111,117,98,108,101],kS [98,121,116,101,115],kS [115,116,114,105,110,103],kS [114,101,99,111,114,100],kS [101,110,117,109],kS [102,105,120,101,100],kS [97,114,114,97,121],kS [109,97,112],kS [117,110,105,111,110]] false),Pp (.mov 0 (.tk 1))] .ret)
def afw:List RV:=[.t 0]
theorem afx:FnC Tryd.prog ahb [] 0 z7 Tryd.f74 afv afw:=fnC Tryd.func74
def yn(N:Nat):Ro:=
 some (.sl .str .own ([([]:Bs),([110,117,108,108]:Bs),([98,111,111,108,101,97,110]:Bs),([105,110,116]:Bs),([108,111,110,103]:Bs),([102,108,111,97,116]:Bs),([100,111,117,98,108,101]:Bs),([98,121,116,101,115]:Bs),([115,116,114,105,110,103]:Bs),([114,101,99,111,114,100]:Bs),([101,110,117,109]:Bs),([102,105,120,101,100]:Bs),([97,114,114,97,121]:Bs),([109,97,112]:Bs),([117,110,105,111,110]:Bs)]:Bss),[])
def yo(N:Nat):Ro:=yn N
theorem ad0(N:Nat)(h:Tot (yo N ) (fun z=>∃(y0:Bss)(rest:List aq),z.1.dimR=.sl .str (.may false) y0∧z.2=rest∧uc  (y0))):∃r,mA  r:=afx.finP (N:=N) (by kernel_rfl) h fun _ ⟨y0,_,e,_,q⟩=>⟨(y0),e,q⟩
noncomputable def ah4:az:=tab (P:=Tryd.prog) [] [] [] [agI]
def ahc:IR:=Rs [Ms 2 []] (Sq (Rs [Mv 3 0,Bc 4 .lss 3 1,Mv 5 4,Gf 5 (.mov 6 0),Gf 5 (.bin 7 .gtr 6 (kI 14)),Po 8 5 7] (Cn 8 (Rs [Ms 2 []] .ret) .skip)) (Rs [Ca 9 74 [],Mv 10 0,Ix 11 .str 9 10,Lq 12 11,Mv 2 12] .ret))
def ahd:List RV:=[.t 2]
theorem ahe:FnC Tryd.prog ah4 [] 0 abD Tryd.f37 ahc ahd:=fnC Tryd.func37
def aaJ(N:Nat)(p0:Int):Ro:=
 cond (decide (p0<1)) (
  some (.str ([]:Bs),[])) (
  cond (decide (14<p0)) (
   some (.str ([]:Bs),[])) (
   an (mA) (fun(r1:Bss)=>
    chk (ixl p0 r1) (
     let x1:=List.getD r1 (Int.toNat p0) (av .str)
     some (.str x1,[])))))
def aaK(N:Nat)(p0:Int):Ro:=aaJ N p0
theorem afy(N:Nat)(p0:Int)(h:Tot (aaK N p0) (fun z=>∃(y0:Bs)(rest:List aq),z.1.dimR=.str y0∧z.2=rest∧kb p0 (y0))):∃r,iE p0 r:=ahe.finP (N:=N) (by kernel_rfl) h fun _ ⟨y0,_,e,_,q⟩=>⟨(y0),e,q⟩
noncomputable def ahf:az:=tab (P:=Tryd.prog) [] [] [] []
def afz:IR:=Rs [Pp (.new 2 [vI 0,vI 0,vS,nl .jnode,nl .str])] (Rs [Mv 3 0,Pp (.bld 4 [vI 0,vI 0,vS,fu .jnode true,fu .str true] [(0,1,kI 4),(2,1,3)]),Sv 5 2 4] .ret)
def afA:List RV:=[.cell 2 5 true]
theorem afB:FnC Tryd.prog ahf [] 0 aaa Tryd.f58 afz afA:=fnC Tryd.func58
def yp(N:Nat)(p0:Bs):Ro:=
 some (.agg [.int .i64 4,.int .i64 0,.str p0,.sl .jnode (.may true) ([]:List ak),.sl .str (.may true) ([]:Bss)],[some [.int .i64 4,.int .i64 0,.str p0,.sl .jnode (.may true) ([]:List ak),.sl .str (.may true) ([]:Bss)]])
def yq(N:Nat)(p0:Bs):Ro:=yp N p0
theorem ad1(N:Nat)(p0:Bs)(h:Tot (yq N p0) (fun z=>∃(y0:ak)(rest:List aq),z.1.dimR=.agg (enc .jnode y0)∧z.2=rest∧eb p0 (y0))):∃r,bp p0 r:=afB.finP (N:=N) (by kernel_rfl) h fun _ ⟨y0,_,e,_,q⟩=>⟨(y0),e,q⟩
noncomputable def yr:az:=tab (P:=Tryd.prog) [] [] [] []
def vT:IR:=Rs [Pp (.new 4 [vI 0,vI 0,vS,nl .jnode,nl .str])] (Rs [Mv 5 0,Mv 6 1,Pp (.bld 7 [vI 0,vI 0,vS,fu .jnode true,fu .str true] [(0,1,kI 6),(4,1,5),(3,1,6)]),Sv 5 4 7] .ret)
def vU:List RV:=[.cell 4 5 true]
theorem ad2:FnC Tryd.prog yr [] 0 xP Tryd.f57 vT vU:=fnC Tryd.func57
def vV(N:Nat)(p0f:Bool)(p0:Bss)(p1f:Bool)(p1:List ak):Ro:=
 some (.agg [.int .i64 6,.int .i64 0,.str ([]:Bs),.sl .jnode (.may p1f) p1,.sl .str (.may p0f) p0],[some [.int .i64 6,.int .i64 0,.str ([]:Bs),.sl .jnode (.may p1f) p1,.sl .str (.may p0f) p0]])
def qZ(N:Nat)(p0f:Bool)(p0:Bss)(p1f:Bool)(p1:List ak):Ro:=vV N p0f p0 p1f p1
theorem ac5(N:Nat)(p0f:Bool)(p0:Bss)(p1f:Bool)(p1:List ak):callF yr N 8 vU vT [.sl .str (.may p0f) p0,.sl .jnode (.may p1f) p1] []=qZ N p0f p0 p1f p1:=by kernel_rfl
theorem ac6(N:Nat)(p0f:Bool)(p0:Bss)(p1f:Bool)(p1:List ak)(h:Tot (qZ N p0f p0 p1f p1) (fun z=>∃(y0:Int)(y1:Int)(y2:Bs)(y3:Bool)(y4:List ak)(y5:Bool)(y6:Bss)(rest:List aq),z.1=.agg [.int .i64 y0,.int .i64 y1,.str y2,.sl .jnode (.may y3) y4,.sl .str (.may y5) y6]∧z.2=rest∧s0 p0f p0 p1f p1 (y0,y1,y2,y3,y4,y5,y6))):∃r,dd p0f p0 p1f p1 r:=by
 obtain⟨⟨v,hp⟩,hz,y0,y1,y2,y3,y4,y5,y6,rest,e1,e2,hq⟩:=h
 simp only at e1 e2
 subst e2
 subst e1
 exact⟨(y0,y1,y2,y3,y4,y5,y6),ad2.pure (ac5 N p0f p0 p1f p1) hz,hq⟩
noncomputable def xz:az:=tab (P:=Tryd.prog) [] [] [] [qj]
def vW:IR:=Rs [Ms 2 []] (Rs [Mv 3 0,Ca 4 86 [3],Mv 2 4] .ret)
def vX:List RV:=[.t 2]
theorem vY:FnC Tryd.prog xz [] 0 pL Tryd.f52 vW vX:=fnC Tryd.func52
def pg(N:Nat)(p0:Bool):Ro:=
 an (cY p0) (fun(r1:Bs)=>
  some (.str r1,[]))
def ph(N:Nat)(p0:Bool):Ro:=pg N p0
theorem uX(N:Nat)(p0:Bool)(h:Tot (ph N p0) (fun z=>∃(y0:Bs)(rest:List aq),z.1.dimR=.str y0∧z.2=rest∧nt p0 (y0))):∃r,eo p0 r:=vY.finP (N:=N) (by kernel_rfl) h fun _ ⟨y0,_,e,_,q⟩=>⟨(y0),e,q⟩
noncomputable def qk:az:=tab (P:=Tryd.prog) [] [] [] []
def qa:IR:=Rs [Ms 2 []] (Sq (Rs [Mv 3 0] (Cn 3 (Rs [Ms 2 [116,114,117,101]] .ret) .skip)) (Rs [Ms 2 [102,97,108,115,101]] .ret))
def qb:List RV:=[.t 2]
theorem qc:FnC Tryd.prog qk [] 0 jU Tryd.f86 qa qb:=fnC Tryd.func86
def jz(N:Nat)(p0:Bool):Ro:=
 cond p0 (
  some (.str ([116,114,117,101]:Bs),[])) (
  some (.str ([102,97,108,115,101]:Bs),[]))
def jA(N:Nat)(p0:Bool):Ro:=jz N p0
theorem pl(N:Nat)(p0:Bool)(h:Tot (jA N p0) (fun z=>∃(y0:Bs)(rest:List aq),z.1.dimR=.str y0∧z.2=rest∧iK p0 (y0))):∃r,cY p0 r:=qc.finP (N:=N) (by kernel_rfl) h fun _ ⟨y0,_,e,_,q⟩=>⟨(y0),e,q⟩
end Go.Proofs.YtkinflmjagfapaaDoor
end
noncomputable section
namespace Go.Proofs.YtkinflmjagfapaaDoor
open Go.AM
set_option autoImplicit false
set_option linter.unusedVariables false
set_option maxRecDepth 100000
def k8:j9:=fun f us css=>match f,us,css with
 |27,[.ptr 1 0,.int .i64 a1],[[.mp .ib o0_0],[.sl .atype (.may false) o1_0,.mr 0]]=>some (can (aw o0_0 o1_0 a1),.agg [.int .i64 (((pick (aw o0_0 o1_0 a1)).1).kind),.int .i64 (((pick (aw o0_0 o1_0 a1)).1).n),.str (((pick (aw o0_0 o1_0 a1)).1).s),.sl .jnode (.may false) (((pick (aw o0_0 o1_0 a1)).1).l),.sl .str (.may false) (((pick (aw o0_0 o1_0 a1)).1).names)],[[.mp .ib ((pick (aw o0_0 o1_0 a1)).2.1)],[.sl .atype (.may false) ((pick (aw o0_0 o1_0 a1)).2.2),.mr 0]])
 |59,[.ptr 1 0,.agg [.int .i64 a1_0,.str a1_1,.sl .str (.may _) a1_2,.int .i64 a1_3,.sl .str (.may _) a1_4,.bool a1_5,.str a1_6,.int .i64 a1_7,.sl .afield (.may _) a1_8,.sl (.num .i64) (.may _) a1_9]],[[.mp .ib o0_0],[.sl .atype (.may false) o1_0,.mr 0]]=>some (can (aS o0_0 o1_0 (⟨a1_0,a1_1,a1_2,a1_3,a1_4,a1_5,a1_6,a1_7,a1_8,a1_9⟩)),.agg [.int .i64 (((pick (aS o0_0 o1_0 (⟨a1_0,a1_1,a1_2,a1_3,a1_4,a1_5,a1_6,a1_7,a1_8,a1_9⟩))).1).kind),.int .i64 (((pick (aS o0_0 o1_0 (⟨a1_0,a1_1,a1_2,a1_3,a1_4,a1_5,a1_6,a1_7,a1_8,a1_9⟩))).1).n),.str (((pick (aS o0_0 o1_0 (⟨a1_0,a1_1,a1_2,a1_3,a1_4,a1_5,a1_6,a1_7,a1_8,a1_9⟩))).1).s),.sl .jnode (.may false) (((pick (aS o0_0 o1_0 (⟨a1_0,a1_1,a1_2,a1_3,a1_4,a1_5,a1_6,a1_7,a1_8,a1_9⟩))).1).l),.sl .str (.may false) (((pick (aS o0_0 o1_0 (⟨a1_0,a1_1,a1_2,a1_3,a1_4,a1_5,a1_6,a1_7,a1_8,a1_9⟩))).1).names)],[[.mp .ib ((pick (aS o0_0 o1_0 (⟨a1_0,a1_1,a1_2,a1_3,a1_4,a1_5,a1_6,a1_7,a1_8,a1_9⟩))).2.1)],[.sl .atype (.may false) ((pick (aS o0_0 o1_0 (⟨a1_0,a1_1,a1_2,a1_3,a1_4,a1_5,a1_6,a1_7,a1_8,a1_9⟩))).2.2),.mr 0]])
 |_,_,_=>none
noncomputable def fC:az:=(jt 2 k8 (kK (rR (P:=Tryd.prog) [abF,xU,aad])))
theorem tO:b7 fC [27,59,2000027,2000059]:=(mW (by
 intro f us css hf
 unfold k8
 split<;>first|rfl|(simp at hf)) (hU _ _))
theorem uY:bI Tryd.prog fC:=by
 refine qT ?_ ?_
 ·intro f us css v css' h
  unfold k8 at h
  split at h
  ·simp only[Option.some.injEq,Prod.mk.injEq] at h
   obtain⟨hc,rfl,rfl⟩:=h
   exact((lh hc).1).dim rfl
  ·simp only[Option.some.injEq,Prod.mk.injEq] at h
   obtain⟨hc,rfl,rfl⟩:=h
   exact((lh hc).1).dim rfl
  ·simp at h
 exact qR _
def oe:IR:=Rs [Bi 46 .lss 45 44] (Sq (Cn 46 .skip (.exit 1)) (Sq (.block 2 (Rs [Ix 47 (.num .i64) 43 45,Lq 48 47,Mv 8 48] (.reg [Fa 49 3 6,Fo [] [3] (.ld 50 1 false true 49),Mv 51 0,Mv 52 8,Fo [] [0,1] (.call 53 27 [51,52]),Pp (.bsl 54 .jnode [53] true),Pp (.app 55 .jnode (.tk 50) 54),Fa 56 3 6,Fo [] [3] (.st none 1 56 (.tk 55))] [[],[0],[],[],[2,3],[2,3,4],rg 0 5,rg 0 6,rg 0 7]))) (Rg [Bc 57 .add 45 1,Mv 45 57])))
def og:IR:=Rs [Pp (.ld 58 5 true false 6),Sv 5 4 58] .ret
def nB:IR:=Rs [Fa 80 0 5,Lq 81 80,Ca 82 37 [81],Ca 83 58 [82],Sv 5 4 83] .ret
def xA:IR:=Rs [Pp (.new 4 [vI 0,vI 0,vS,nl .jnode,nl .str])] (Rs [Mv 9 0,Nk 10 9,Fa 11 0 10,Fa 12 0 11,Lo 13 12,Mv 14 1,Ix 15 .atype 13 14,Ld 16 10 true 15,Pp (.alr 5 10),Fz 5 10 16] (Sq (Rs [Fa 17 0 5,Lq 18 17] (.block 0 (Rs [Bc 20 .eql 18 12,Mv 19 20] (Cn 19 (Sq (.reg [Pp (.bsl 21 .str [kS [116,121,112,101],kS [105,116,101,109,115]] true),Ca 22 58 [kS [97,114,114,97,121]],Mv 23 0,Fa 24 3 5,Lq 25 24,Fo [] [0,1] (.call 26 27 [23,25]),Pp (.bsl 27 .jnode [22,26] true),Ca 28 57 [21,27],Fo [] [2] (.st none 5 4 28)] [[],[],[],[],[3],rg 1 4,rg 1 5,rg 0 6,rg 0 7]) .ret) (Rs [Bc 30 .eql 18 13,Mv 29 30] (Cn 29 (Sq (.reg [Pp (.bsl 31 .str [kS [116,121,112,101],kS [118,97,108,117,101,115]] true),Ca 32 58 [kS [109,97,112]],Mv 33 0,Fa 34 3 5,Lq 35 34,Fo [] [0,1] (.call 36 27 [33,35]),Pp (.bsl 37 .jnode [32,36] true),Ca 38 57 [31,37],Fo [] [2] (.st none 5 4 38)] [[],[],[],[],[3],rg 1 4,rg 1 5,rg 0 6,rg 0 7]) .ret) (Rs [Bc 40 .eql 18 14,Mv 39 40] (Cn 39 (Rs [Pp (.bld 41 [vI 0,vI 0,vS,nl .jnode,nl .str] [(0,1,kI 5)]),Pp (.new 6 [vI 0,vI 0,vS,nl .jnode,nl .str]),Sv 5 6 41] (Sq (Rs [Fa 42 9 5,Lq 43 42,Ll 44 43,Mi 45 0] (.block 1 (.loop [0,4,6,43,44,45,1000000] 4 oe))) og)) (Sq (Rs [Bc 60 .eql 18 9,Mv 59 60] (Cn 59 .skip (Rs [Bc 61 .eql 18 10,Mv 59 61] (Cn 59 .skip (Rg [Bc 62 .eql 18 11,Mv 59 62]))))) (Cn 59 (Sq (Rs [Mv 63 0,Nk 64 63,Fa 65 1 64,Lo 66 65,Mv 67 1,Pp (.mget 68 .ib false (.t 66) (.t 67))] (Cn 68 (Rs [Fa 69 1 5,Lq 70 69,Ca 71 58 [70],Sv 5 4 71] .ret) .skip)) (Rs [Mv 72 0,Nk 73 72,Fa 74 1 73,Lo 75 74,Mv 76 1,Pp (.mput none .ib (.t 75) (.t 76) (.c (.bool true)))] (Rs [Mv 77 0,Ld 78 10 true 5,Ca 79 59 [77,78],Sv 5 4 79] .ret))) .skip)))))))))) nB))
def qd:List RV:=[.cell 4 5 true]
theorem xB:FnC Tryd.prog fC [27,59,2000027,2000059] 2 qv Tryd.f27 xA qd:=⟨uY,tO,Tryd.func27,by kernel_rfl,by kernel_rfl,by decide⟩
def vZ(R:IR→(Ex→St→Ro)→St→Ro)(again0:St→Ro):Ex→St→Ro:=(bG again0 [0,4,6,43,44,45,1000000] 4 (aJ 1 (kseq (R og) (aJ 0 (kseq (R nB) (fin qd))))))
abbrev gT:Type:=(List Int×Int×Int×List (Int×Bool)×List am×Int×Int×Bs×List ak×Bss×Int×Int×Bs×List ak×Bss)
def gj(x:gT):St:={env:=(.ptr 1 0::(U 3 (.ptr 2 0::.undef::.ptr 3 0::(U 36 (.sl (.num .i64) (.may false) x.1::.int .i64 x.2.1::.int .i64 x.2.2.1::(U 38 [])))))),hp:=[some [.mp .ib x.2.2.2.1],some [.sl .atype (.may false) x.2.2.2.2.1,.mr 0],some [.int .i64 x.2.2.2.2.2.1,.int .i64 x.2.2.2.2.2.2.1,.str x.2.2.2.2.2.2.2.1,.sl .jnode .own x.2.2.2.2.2.2.2.2.1,.sl .str .own x.2.2.2.2.2.2.2.2.2.1],some [.int .i64 x.2.2.2.2.2.2.2.2.2.2.1,.int .i64 x.2.2.2.2.2.2.2.2.2.2.2.1,.str x.2.2.2.2.2.2.2.2.2.2.2.2.1,.sl .jnode .own x.2.2.2.2.2.2.2.2.2.2.2.2.2.1,.sl .str .own x.2.2.2.2.2.2.2.2.2.2.2.2.2.2]]}
def kw(N:Nat):(St→Ro)→St→Ro:=fun again0 s=>run fC N oe (vZ (run fC N) again0) s
def gU(N:Nat)(again0:gT→Ro)(x:gT):Ro:=
 let v43:List Int:=x.1
 let v44:Int:=x.2.1
 let v45:Int:=x.2.2.1
 let o0_0:List (Int×Bool):=x.2.2.2.1
 let o1_0:List am:=x.2.2.2.2.1
 let o2_0:Int:=x.2.2.2.2.2.1
 let o2_1:Int:=x.2.2.2.2.2.2.1
 let o2_2:Bs:=x.2.2.2.2.2.2.2.1
 let o2_3:List ak:=x.2.2.2.2.2.2.2.2.1
 let o2_4:Bss:=x.2.2.2.2.2.2.2.2.2.1
 let o3_0:Int:=x.2.2.2.2.2.2.2.2.2.2.1
 let o3_1:Int:=x.2.2.2.2.2.2.2.2.2.2.2.1
 let o3_2:Bs:=x.2.2.2.2.2.2.2.2.2.2.2.2.1
 let o3_3:List ak:=x.2.2.2.2.2.2.2.2.2.2.2.2.2.1
 let o3_4:Bss:=x.2.2.2.2.2.2.2.2.2.2.2.2.2.2
 cond (decide (v45<v44)) (
  chk (ixl v45 v43) (
   let x3:=List.getD v43 (Int.toNat v45) (av (.num .i64))
   an (aw o0_0 o1_0 x3) (fun r7=>
    chk (decide ((List.length o3_3+List.length ([(reJ r7.1)]:List ak))*80≤140737488355328)) (
     let x4:=(o3_3++([(reJ r7.1)]:List ak))
     let x5:=(IntKind.wrap .i64 (v45+1))
     again0 (v43,v44,x5,r7.2.1,r7.2.2,o2_0,o2_1,o2_2,o2_3,o2_4,o3_0,o3_1,o3_2,x4,o3_4))))) (
  some (.agg [.int .i64 o3_0,.int .i64 o3_1,.str o3_2,.sl .jnode (.may false) o3_3,.sl .str (.may false) o3_4],[some [.mp .ib o0_0],some [.sl .atype (.may false) o1_0,.mr 0],some [.int .i64 o3_0,.int .i64 o3_1,.str o3_2,.sl .jnode (.may false) o3_3,.sl .str (.may false) o3_4],some [.int .i64 o3_0,.int .i64 o3_1,.str o3_2,.sl .jnode .own o3_3,.sl .str .own o3_4]]))
theorem uZ(N:Nat):LB (kw N) gj (gU N):=fun _ _=>by kernel_rfl
def cK(N:Nat)(o0_0:List (Int×Bool))(o1_0:List am)(p1:Int)(q0:gT→Ro):Ro:=
 let z0:=fun g0 g1 g2 g3 g4 g5 g6 g7 g8=>(some (.agg [.int .i64 g0,.int .i64 g1,.str g2,.sl .jnode (.may g3) g4,.sl .str (.may g5) g6],[some [.mp .ib g7],some [.sl .atype (.may false) g8,.mr 0],some [.int .i64 g0,.int .i64 g1,.str g2,.sl .jnode (.may g3) g4,.sl .str (.may g5) g6]]):Ro)
 chk (ixl p1 o1_0) (
  let x1:=(List.getD o1_0 (Int.toNat p1) (av .atype))
  cond (x1.kind==12) (
   an (bp ([97,114,114,97,121]:Bs)) (fun(r1:ak)=>
    an (aw o0_0 o1_0 x1.items) (fun r2=>
     an (dd true ([([116,121,112,101]:Bs),([105,116,101,109,115]:Bs)]:Bss) true ([(reJ r1),(reJ r2.1)]:List ak)) (fun r3=>
      z0 r3.1 r3.2.1 r3.2.2.1 r3.2.2.2.1 r3.2.2.2.2.1 r3.2.2.2.2.2.1 r3.2.2.2.2.2.2 r2.2.1 r2.2.2)))) (
   cond (x1.kind==13) (
    an (bp ([109,97,112]:Bs)) (fun(r4:ak)=>
     an (aw o0_0 o1_0 x1.items) (fun r5=>
      an (dd true ([([116,121,112,101]:Bs),([118,97,108,117,101,115]:Bs)]:Bss) true ([(reJ r4),(reJ r5.1)]:List ak)) (fun r6=>
       z0 r6.1 r6.2.1 r6.2.2.1 r6.2.2.2.1 r6.2.2.2.2.1 r6.2.2.2.2.2.1 r6.2.2.2.2.2.2 r5.2.1 r5.2.2)))) (
    cond (x1.kind==14) (
     let x2:=(↑(List.length x1.branches):Int)
     q0 (x1.branches,x2,0,o0_0,o1_0,0,0,([]:Bs),([]:List ak),([]:Bss),5,0,([]:Bs),([]:List ak),([]:Bss))) (
     cond (x1.kind==9) (
      let x6:=(zm (k:=.ib) o0_0 p1)
      cond x6 (
       an (bp x1.name) (fun(r8:ak)=>
        z0 r8.kind r8.n r8.s false r8.l false r8.names o0_0 o1_0)) (
       let x7:=(eV (k:=.ib) o0_0 p1 true)
       an (aS x7 o1_0 x1) (fun r9=>
        z0 r9.1.kind r9.1.n r9.1.s false r9.1.l false r9.1.names r9.2.1 r9.2.2))) (
      cond (x1.kind==10) (
       let x8:=(zm (k:=.ib) o0_0 p1)
       cond x8 (
        an (bp x1.name) (fun(r10:ak)=>
         z0 r10.kind r10.n r10.s false r10.l false r10.names o0_0 o1_0)) (
        let x9:=(eV (k:=.ib) o0_0 p1 true)
        an (aS x9 o1_0 x1) (fun r11=>
         z0 r11.1.kind r11.1.n r11.1.s false r11.1.l false r11.1.names r11.2.1 r11.2.2))) (
       cond (x1.kind==11) (
        let x10:=(zm (k:=.ib) o0_0 p1)
        cond x10 (
         an (bp x1.name) (fun(r12:ak)=>
          z0 r12.kind r12.n r12.s false r12.l false r12.names o0_0 o1_0)) (
         let x11:=(eV (k:=.ib) o0_0 p1 true)
         an (aS x11 o1_0 x1) (fun r13=>
          z0 r13.1.kind r13.1.n r13.1.s false r13.1.l false r13.1.names r13.2.1 r13.2.2))) (
        an (iE x1.kind) (fun(r14:Bs)=>
         an (bp r14) (fun(r15:ak)=>
          z0 r15.kind r15.n r15.s false r15.l false r15.names o0_0 o1_0)))))))))
def iy(N:Nat)(o0_0:List (Int×Bool))(o1_0:List am)(p1:Int):Ro:=cK N o0_0 o1_0 p1 (fun z=>aP N (gU N) z)
theorem kz(N:Nat)(o0_0:List (Int×Bool))(o1_0:List am)(p1:Int)(h:Tot (iy N o0_0 o1_0 p1) (fun z=>∃(y0:ak)(y1:List (Int×Bool))(y2:List am)(rest:List aq),z.1.dimR=.agg (enc .jnode y0)∧z.2=some [.mp .ib y1]::some [.sl .atype (.may false) y2,.mr 0]::rest∧dB o0_0 o1_0 p1 (y0,y1,y2))):∃r,aw o0_0 o1_0 p1 r:=FnC.finO (css:=[[.mp .ib o0_0],[.sl .atype (.may false) o1_0,.mr 0]]) xB (N:=N) ((cd _ (by kernel_rfl) rfl (fun C=>cK N o0_0 o1_0 p1 (fun z=>C 1000000 (gj z))) (fun C=>by kernel_rfl)).trans (Eq.trans (b:=cK N o0_0 o1_0 p1 (fun z=>bd N (kw N) (gj z))) (by kernel_rfl) (congrArg (cK N o0_0 o1_0 p1) (funext fun z=>be (gj) (kw N) (gU N) (uZ N) N z)))) h fun _ ⟨y0,y1,y2,_,e,f,q⟩=>⟨(y0,y1,y2),e,⟨_,f⟩,q⟩
def lO:j9:=fun f us css=>match f,us,css with
 |27,[.ptr 1 0,.int .i64 a1],[[.mp .ib o0_0],[.sl .atype (.may false) o1_0,.mr 0]]=>some (can (aw o0_0 o1_0 a1),.agg [.int .i64 (((pick (aw o0_0 o1_0 a1)).1).kind),.int .i64 (((pick (aw o0_0 o1_0 a1)).1).n),.str (((pick (aw o0_0 o1_0 a1)).1).s),.sl .jnode (.may false) (((pick (aw o0_0 o1_0 a1)).1).l),.sl .str (.may false) (((pick (aw o0_0 o1_0 a1)).1).names)],[[.mp .ib ((pick (aw o0_0 o1_0 a1)).2.1)],[.sl .atype (.may false) ((pick (aw o0_0 o1_0 a1)).2.2),.mr 0]])
 |_,_,_=>none
noncomputable def dc:az:=(jt 2 lO (kK (rR (P:=Tryd.prog) [abF,xU,aad])))
theorem u0:b7 dc [27,2000027]:=(mW (by
 intro f us css hf
 unfold lO
 split<;>first|rfl|(simp at hf)) (hU _ _))
theorem wa:bI Tryd.prog dc:=by
 refine qT ?_ ?_
 ·intro f us css v css' h
  unfold lO at h
  split at h
  ·simp only[Option.some.injEq,Prod.mk.injEq] at h
   obtain⟨hc,rfl,rfl⟩:=h
   exact((lh hc).1).dim rfl
  ·simp at h
 exact qR _
def pi:IR:=Rs [Bi 50 .lss 49 48] (Sq (Cn 50 .skip (.exit 3)) (Sq (.block 4 (Rs [Ix 51 .str 47 49,Lq 52 51,Mv 9 52] (.reg [Fa 53 3 5,Fo [] [3] (.ld 54 1 false true 53),Mv 55 9,Ca 56 58 [55],Pp (.bsl 57 .jnode [56] true),Pp (.app 58 .jnode (.tk 54) 57),Fa 59 3 5,Fo [] [3] (.st none 1 59 (.tk 58))] [[],[0],[],[2],[2,3],rg 0 4,rg 0 5,rg 0 6]))) (Rg [Bc 60 .add 49 1,Mv 49 60])))
def oh:IR:=Rs [Bi 20 .lss 19 18] (Sq (Cn 20 .skip (.exit 1)) (Sq (.block 2 (Rs [Ix 21 .afield 17 19,Ld 22 9 true 21,Pp (.alr 11 9),Fz 11 9 22] (.reg [Fa 23 3 5,Fo [] [3] (.ld 24 1 false true 23),Pp (.bsl 25 .str [kS [110,97,109,101],kS [116,121,112,101]] true),Fa 26 0 11,Lq 27 26,Ca 28 58 [27],Mv 29 0,Fa 30 2 11,Lq 31 30,Fo [] [0,1] (.call 32 27 [29,31]),Pp (.bsl 33 .jnode [28,32] true),Ca 34 57 [25,33],Pp (.bsl 35 .jnode [34] true),Pp (.app 36 .jnode (.tk 24) 35),Fa 37 3 5,Fo [] [3] (.st none 1 37 (.tk 36))] [[],[0],[],[],[3],[3,4],[],[],[7],rg 3 8,rg 3 9,rg 2 10,rg 2 11,rg 0 12,rg 0 13,rg 0 14]))) (Rg [Bc 38 .add 19 1,Mv 19 38])))
def jP:IR:=Sq (.reg [Pp (.mov 61 (.tk 6)),Mv 62 7,Pp (.bsl 63 .str [62] true),Pp (.app 64 .str (.tk 61) 63),Fa 65 1 3,Lq 66 65,Ca 67 58 [66],Fa 68 0 3,Lq 69 68,Ca 70 37 [69],Ca 71 58 [70],Fo [3] [] (.ld 72 5 true false 5),Pp (.bsl 73 .jnode [67,71,72] true),Ca 74 57 [64,73],Fo [] [2] (.st none 5 4 74)] [[],[],[1],[0,1,2],[],[4],rg 0 5,[],[7],rg 0 8,rg 0 9,[],rg 0 11,rg 0 12,rg 0 13]) .ret
def zk:IR:=Rs [Bx 3 1,Pp (.new 4 [vI 0,vI 0,vS,nl .jnode,nl .str])] (Rs [Pp (.bld 12 [vI 0,vI 0,vS,nl .jnode,nl .str] [(0,1,kI 5)]),Pp (.new 5 [vI 0,vI 0,vS,nl .jnode,nl .str]),Sv 5 5 12] (Rs [Pp (.bsl 13 .str [kS [110,97,109,101],kS [116,121,112,101]] false),Pp (.mov 6 (.tk 13)),Ms 7 []] (Sq (Rs [Fa 14 0 3,Lq 15 14] (.block 0 (Rs [Bc 40 .eql 15 11,Mv 39 40] (Cn 39 (.reg [Fa 41 7 3,Lq 42 41,Pp (.bld 43 [vI 0,vI 0,vS,nl .jnode,nl .str] [(0,1,kI 3),(1,1,42)]),Ms 7 [115,105,122,101],Fo [] [3] (.st none 5 5 43)] [[],[0],[0,1],[],rg 0 3]) (Rs [Bc 45 .eql 15 10,Mv 44 45] (Cn 44 (Rs [Ms 7 [115,121,109,98,111,108,115]] (Rs [Fa 46 4 3,Lq 47 46,Ll 48 47,Mi 49 0] (.block 3 (.loop [3,4,5,6,7,47,48,49,1000000] 4 pi)))) (Rs [Ms 7 [102,105,101,108,100,115]] (Rs [Fa 16 8 3,Lq 17 16,Ll 18 17,Mi 19 0] (.block 1 (.loop [0,3,4,5,6,7,17,18,19,1000001] 4 oh)))))))))) jP)))
def lP:List RV:=[.cell 4 5 true]
theorem zl:FnC Tryd.prog dc [27,2000027] 2 rF Tryd.f59 zk lP:=⟨wa,u0,Tryd.func59,by kernel_rfl,by kernel_rfl,by decide⟩
def xC(R:IR→(Ex→St→Ro)→St→Ro)(again0:St→Ro):Ex→St→Ro:=(bG again0 [3,4,5,6,7,47,48,49,1000000] 4 (aJ 3 (aJ 0 (kseq (R jP) (fin lP)))))
abbrev iz:Type:=(am×Bss×Bs×Bss×Int×Int×List (Int×Bool)×List am×Int×Int×Bs×List ak×Bss×Int×Int×Bs×List ak×Bss)
def gV(x:iz):St:={env:=(U 3 (.ea (enc .atype x.1)::.ptr 2 0::.ptr 3 0::.sl .str .own x.2.1::.str x.2.2.1::(U 39 (.sl .str (.may false) x.2.2.2.1::.int .i64 x.2.2.2.2.1::.int .i64 x.2.2.2.2.2.1::(U 25 []))))),hp:=[some [.mp .ib x.2.2.2.2.2.2.1],some [.sl .atype (.may false) x.2.2.2.2.2.2.2.1,.mr 0],some [.int .i64 x.2.2.2.2.2.2.2.2.1,.int .i64 x.2.2.2.2.2.2.2.2.2.1,.str x.2.2.2.2.2.2.2.2.2.2.1,.sl .jnode .own x.2.2.2.2.2.2.2.2.2.2.2.1,.sl .str .own x.2.2.2.2.2.2.2.2.2.2.2.2.1],some [.int .i64 x.2.2.2.2.2.2.2.2.2.2.2.2.2.1,.int .i64 x.2.2.2.2.2.2.2.2.2.2.2.2.2.2.1,.str x.2.2.2.2.2.2.2.2.2.2.2.2.2.2.2.1,.sl .jnode .own x.2.2.2.2.2.2.2.2.2.2.2.2.2.2.2.2.1,.sl .str .own x.2.2.2.2.2.2.2.2.2.2.2.2.2.2.2.2.2]]}
def k9(N:Nat):(St→Ro)→St→Ro:=fun again0 s=>run dc N pi (xC (run dc N) again0) s
def iA(N:Nat)(again0:iz→Ro)(x:iz):Ro:=
 let v3:am:=x.1
 let v6:Bss:=x.2.1
 let v7:Bs:=x.2.2.1
 let v47:Bss:=x.2.2.2.1
 let v48:Int:=x.2.2.2.2.1
 let v49:Int:=x.2.2.2.2.2.1
 let o0_0:List (Int×Bool):=x.2.2.2.2.2.2.1
 let o1_0:List am:=x.2.2.2.2.2.2.2.1
 let o2_0:Int:=x.2.2.2.2.2.2.2.2.1
 let o2_1:Int:=x.2.2.2.2.2.2.2.2.2.1
 let o2_2:Bs:=x.2.2.2.2.2.2.2.2.2.2.1
 let o2_3:List ak:=x.2.2.2.2.2.2.2.2.2.2.2.1
 let o2_4:Bss:=x.2.2.2.2.2.2.2.2.2.2.2.2.1
 let o3_0:Int:=x.2.2.2.2.2.2.2.2.2.2.2.2.2.1
 let o3_1:Int:=x.2.2.2.2.2.2.2.2.2.2.2.2.2.2.1
 let o3_2:Bs:=x.2.2.2.2.2.2.2.2.2.2.2.2.2.2.2.1
 let o3_3:List ak:=x.2.2.2.2.2.2.2.2.2.2.2.2.2.2.2.2.1
 let o3_4:Bss:=x.2.2.2.2.2.2.2.2.2.2.2.2.2.2.2.2.2
 cond (decide (v49<v48)) (
  chk (ixl v49 v47) (
   let x3:=List.getD v47 (Int.toNat v49) (av .str)
   an (bp x3) (fun(r5:ak)=>
    chk (decide ((List.length o3_3+List.length ([(reJ r5)]:List ak))*80≤140737488355328)) (
     let x4:=(o3_3++([(reJ r5)]:List ak))
     let x5:=(IntKind.wrap .i64 (v49+1))
     again0 (v3,v6,v7,v47,v48,x5,o0_0,o1_0,o2_0,o2_1,o2_2,o2_3,o2_4,o3_0,o3_1,o3_2,x4,o3_4))))) (
  chk (decide ((List.length v6+List.length ([v7]:Bss))*16≤140737488355328)) (
   let x6:=(v6++([v7]:Bss))
   an (bp v3.name) (fun(r6:ak)=>
    an (iE v3.kind) (fun(r7:Bs)=>
     an (bp r7) (fun(r8:ak)=>
      an (dd false x6 true ([(reJ r6),(reJ r8),⟨o3_0,o3_1,o3_2,o3_3,o3_4⟩]:List ak)) (fun r9=>
       some (.agg [.int .i64 r9.1,.int .i64 r9.2.1,.str r9.2.2.1,.sl .jnode (.may r9.2.2.2.1) r9.2.2.2.2.1,.sl .str (.may r9.2.2.2.2.2.1) r9.2.2.2.2.2.2],[some [.mp .ib o0_0],some [.sl .atype (.may false) o1_0,.mr 0],some [.int .i64 r9.1,.int .i64 r9.2.1,.str r9.2.2.1,.sl .jnode (.may r9.2.2.2.1) r9.2.2.2.2.1,.sl .str (.may r9.2.2.2.2.2.1) r9.2.2.2.2.2.2],some [.int .i64 o3_0,.int .i64 o3_1,.str o3_2,.sl .jnode .own o3_3,.sl .str .own o3_4]])))))))
theorem wb(N:Nat):LB (k9 N) gV (iA N):=fun _ _=>by kernel_rfl
def xD(R:IR→(Ex→St→Ro)→St→Ro)(again1:St→Ro):Ex→St→Ro:=(bG again1 [0,3,4,5,6,7,17,18,19,1000001] 4 (aJ 1 (aJ 0 (kseq (R jP) (fin lP)))))
abbrev iB:Type:=(am×Bss×Bs×List bo×Int×Int×List (Int×Bool)×List am×Int×Int×Bs×List ak×Bss×Int×Int×Bs×List ak×Bss)
def gW(x:iB):St:={env:=(.ptr 1 0::.undef::.undef::.ea (enc .atype x.1)::.ptr 2 0::.ptr 3 0::.sl .str .own x.2.1::.str x.2.2.1::(U 9 (.sl .afield (.may false) x.2.2.2.1::.int .i64 x.2.2.2.2.1::.int .i64 x.2.2.2.2.2.1::(U 55 [])))),hp:=[some [.mp .ib x.2.2.2.2.2.2.1],some [.sl .atype (.may false) x.2.2.2.2.2.2.2.1,.mr 0],some [.int .i64 x.2.2.2.2.2.2.2.2.1,.int .i64 x.2.2.2.2.2.2.2.2.2.1,.str x.2.2.2.2.2.2.2.2.2.2.1,.sl .jnode .own x.2.2.2.2.2.2.2.2.2.2.2.1,.sl .str .own x.2.2.2.2.2.2.2.2.2.2.2.2.1],some [.int .i64 x.2.2.2.2.2.2.2.2.2.2.2.2.2.1,.int .i64 x.2.2.2.2.2.2.2.2.2.2.2.2.2.2.1,.str x.2.2.2.2.2.2.2.2.2.2.2.2.2.2.2.1,.sl .jnode .own x.2.2.2.2.2.2.2.2.2.2.2.2.2.2.2.2.1,.sl .str .own x.2.2.2.2.2.2.2.2.2.2.2.2.2.2.2.2.2]]}
def la(N:Nat):(St→Ro)→St→Ro:=fun again1 s=>run dc N oh (xD (run dc N) again1) s
def iC(N:Nat)(again1:iB→Ro)(x:iB):Ro:=
 let v3:am:=x.1
 let v6:Bss:=x.2.1
 let v7:Bs:=x.2.2.1
 let v17:List bo:=x.2.2.2.1
 let v18:Int:=x.2.2.2.2.1
 let v19:Int:=x.2.2.2.2.2.1
 let o0_0:List (Int×Bool):=x.2.2.2.2.2.2.1
 let o1_0:List am:=x.2.2.2.2.2.2.2.1
 let o2_0:Int:=x.2.2.2.2.2.2.2.2.1
 let o2_1:Int:=x.2.2.2.2.2.2.2.2.2.1
 let o2_2:Bs:=x.2.2.2.2.2.2.2.2.2.2.1
 let o2_3:List ak:=x.2.2.2.2.2.2.2.2.2.2.2.1
 let o2_4:Bss:=x.2.2.2.2.2.2.2.2.2.2.2.2.1
 let o3_0:Int:=x.2.2.2.2.2.2.2.2.2.2.2.2.2.1
 let o3_1:Int:=x.2.2.2.2.2.2.2.2.2.2.2.2.2.2.1
 let o3_2:Bs:=x.2.2.2.2.2.2.2.2.2.2.2.2.2.2.2.1
 let o3_3:List ak:=x.2.2.2.2.2.2.2.2.2.2.2.2.2.2.2.2.1
 let o3_4:Bss:=x.2.2.2.2.2.2.2.2.2.2.2.2.2.2.2.2.2
 cond (decide (v19<v18)) (
  chk (ixl v19 v17) (
   let x8:=(List.getD v17 (Int.toNat v19) (av .afield))
   an (bp x8.name) (fun(r10:ak)=>
    an (aw o0_0 o1_0 x8.typ) (fun r11=>
     an (dd true ([([110,97,109,101]:Bs),([116,121,112,101]:Bs)]:Bss) true ([(reJ r10),(reJ r11.1)]:List ak)) (fun r12=>
      chk (decide ((List.length o3_3+List.length ([⟨r12.1,r12.2.1,r12.2.2.1,r12.2.2.2.2.1,r12.2.2.2.2.2.2⟩]:List ak))*80≤140737488355328)) (
       let x9:=(o3_3++([⟨r12.1,r12.2.1,r12.2.2.1,r12.2.2.2.2.1,r12.2.2.2.2.2.2⟩]:List ak))
       let x10:=(IntKind.wrap .i64 (v19+1))
       again1 (v3,v6,v7,v17,v18,x10,r11.2.1,r11.2.2,o2_0,o2_1,o2_2,o2_3,o2_4,o3_0,o3_1,o3_2,x9,o3_4))))))) (
  chk (decide ((List.length v6+List.length ([v7]:Bss))*16≤140737488355328)) (
   let x11:=(v6++([v7]:Bss))
   an (bp v3.name) (fun(r13:ak)=>
    an (iE v3.kind) (fun(r14:Bs)=>
     an (bp r14) (fun(r15:ak)=>
      an (dd false x11 true ([(reJ r13),(reJ r15),⟨o3_0,o3_1,o3_2,o3_3,o3_4⟩]:List ak)) (fun r16=>
       some (.agg [.int .i64 r16.1,.int .i64 r16.2.1,.str r16.2.2.1,.sl .jnode (.may r16.2.2.2.1) r16.2.2.2.2.1,.sl .str (.may r16.2.2.2.2.2.1) r16.2.2.2.2.2.2],[some [.mp .ib o0_0],some [.sl .atype (.may false) o1_0,.mr 0],some [.int .i64 r16.1,.int .i64 r16.2.1,.str r16.2.2.1,.sl .jnode (.may r16.2.2.2.1) r16.2.2.2.2.1,.sl .str (.may r16.2.2.2.2.2.1) r16.2.2.2.2.2.2],some [.int .i64 o3_0,.int .i64 o3_1,.str o3_2,.sl .jnode .own o3_3,.sl .str .own o3_4]])))))))
theorem wc(N:Nat):LB (la N) gW (iC N):=fun _ _=>by kernel_rfl
def fD(N:Nat)(o0_0:List (Int×Bool))(o1_0:List am)(p1:am)(q0:iz→Ro)(q1:iB→Ro):Ro:=
 cond (p1.kind==11) (
  chk (decide ((List.length ([([110,97,109,101]:Bs),([116,121,112,101]:Bs)]:Bss)+List.length ([([115,105,122,101]:Bs)]:Bss))*16≤140737488355328)) (
   let x1:=(([([110,97,109,101]:Bs),([116,121,112,101]:Bs)]:Bss)++([([115,105,122,101]:Bs)]:Bss))
   an (bp p1.name) (fun(r1:ak)=>
    an (iE p1.kind) (fun(r2:Bs)=>
     an (bp r2) (fun(r3:ak)=>
      an (dd false x1 true ([(reJ r1),(reJ r3),⟨3,p1.size,([]:Bs),([]:List ak),([]:Bss)⟩]:List ak)) (fun r4=>
       some (.agg [.int .i64 r4.1,.int .i64 r4.2.1,.str r4.2.2.1,.sl .jnode (.may r4.2.2.2.1) r4.2.2.2.2.1,.sl .str (.may r4.2.2.2.2.2.1) r4.2.2.2.2.2.2],[some [.mp .ib o0_0],some [.sl .atype (.may false) o1_0,.mr 0],some [.int .i64 r4.1,.int .i64 r4.2.1,.str r4.2.2.1,.sl .jnode (.may r4.2.2.2.1) r4.2.2.2.2.1,.sl .str (.may r4.2.2.2.2.2.1) r4.2.2.2.2.2.2],some [.int .i64 3,.int .i64 p1.size,.str ([]:Bs),.sl .jnode .own ([]:List ak),.sl .str .own ([]:Bss)]]))))))) (
  cond (p1.kind==10) (
   let x2:=(↑(List.length p1.syms):Int)
   q0 (p1,([([110,97,109,101]:Bs),([116,121,112,101]:Bs)]:Bss),([115,121,109,98,111,108,115]:Bs),p1.syms,x2,0,o0_0,o1_0,0,0,([]:Bs),([]:List ak),([]:Bss),5,0,([]:Bs),([]:List ak),([]:Bss))) (
   let x7:=(↑(List.length p1.fields):Int)
   q1 (p1,([([110,97,109,101]:Bs),([116,121,112,101]:Bs)]:Bss),([102,105,101,108,100,115]:Bs),p1.fields,x7,0,o0_0,o1_0,0,0,([]:Bs),([]:List ak),([]:Bss),5,0,([]:Bs),([]:List ak),([]:Bss))))
def qL(N:Nat)(o0_0:List (Int×Bool))(o1_0:List am)(p1:am):Ro:=fD N o0_0 o1_0 p1 (fun z=>aP N (iA N) z) (fun z=>aP N (iC N) z)
theorem xE(N:Nat)(o0_0:List (Int×Bool))(o1_0:List am)(p1:am)(h:Tot (qL N o0_0 o1_0 p1) (fun z=>∃(y0:ak)(y1:List (Int×Bool))(y2:List am)(rest:List aq),z.1.dimR=.agg (enc .jnode y0)∧z.2=some [.mp .ib y1]::some [.sl .atype (.may false) y2,.mr 0]::rest∧oU o0_0 o1_0 p1 (y0,y1,y2))):∃r,aS o0_0 o1_0 p1 r:=FnC.finO (css:=[[.mp .ib o0_0],[.sl .atype (.may false) o1_0,.mr 0]]) zl (N:=N) ((cd _ (by kernel_rfl) rfl (fun C=>fD N o0_0 o1_0 p1 (fun z=>C 1000000 (gV z)) (fun z=>C 1000001 (gW z))) (fun C=>by kernel_rfl)).trans (Eq.trans (b:=fD N o0_0 o1_0 p1 (fun z=>bd N (k9 N) (gV z)) (fun z=>bd N (la N) (gW z))) (by kernel_rfl) (congr (congrArg (fD N o0_0 o1_0 p1) (funext fun z=>be (gV) (k9 N) (iA N) (wb N) N z)) (funext fun z=>be (gW) (la N) (iC N) (wc N) N z)))) h fun _ ⟨y0,y1,y2,_,e,f,q⟩=>⟨(y0,y1,y2),e,⟨_,f⟩,q⟩
end Go.Proofs.YtkinflmjagfapaaDoor
end
noncomputable section
namespace Go.Proofs.YtkinflmjagfapaaDoor
open Go.AM
set_option autoImplicit false
set_option linter.unusedVariables false
set_option linter.unusedSimpArgs false
set_option maxRecDepth 100000
theorem rM(s:List UInt8):∃r,bp s r:=by
 apply ad1 1
 unfold yq yp
 exact ar ⟨bc s,_,rfl,rfl,rfl⟩
theorem sG(f0:Bool)(names:List (List UInt8))(f1:Bool)(l:List ak):∃r,dd f0 names f1 l r:=by
 apply ac6 1
 unfold qZ vV
 exact ar ⟨_,_,_,_,_,_,_,_,rfl,rfl,rfl⟩
theorem ai0:∃r,mA r:=by
 apply ad0 1
 unfold yo yn
 exact ar ⟨_,_,rfl,rfl,rfl⟩
theorem uq(k:Int):∃r,iE k r:=by
 apply afy 1
 unfold aaK aaJ
 have no:¬(1≤k∧k≤14)→(∃(y0:List UInt8)(rest:List aq),(V.str []).dimR=.str y0∧([]:List aq)=rest∧kb k y0):=fun h=>⟨_,_,rfl,rfl,by
  simp only[kb,cm,if_neg h]⟩
 repeat' (first|(with_reducible refine au ?_ ?_<;>(intro hb;(try simp only[bnl] at hb);(try revert hb;intro _)))|with_reducible refine aA ?_ ?_|with_reducible refine ar ?_|(refine ao ai0 ?_;rintro _ ⟨-,rfl⟩;try dsimp only)|fail)
 ·exact no (by omega)
 ·exact no (by omega)
 ·have:([]::jp:List (List UInt8)).length=15:=rfl
  simp only[bnl,this];omega
 ·rename_i h1 h2
  refine⟨_,_,rfl,rfl,?_⟩
  simp only[kb,cm]
  rw[if_pos (by omega)]
  have:k.toNat=(k-1).toNat+1:=by omega
  rw[this]
  rfl
theorem b8(L:List Int):(bm L).map (·.1)=L:=by
 unfold bm
 rw[List.map_map]
 exact List.map_id _
theorem ahg(L:List Int)(t:Int):zm (k:=.ib) (bm L) t=decide (t∈L):=by
 induction L with
 |nil=>rfl
 |cons x L ih=>
  simp only[zm,bm,List.map_cons,dL] at ih ⊢
  by_cases h:x=t
  ·subst h
   simp
  ·rw[if_neg h,ih]
   simp[Ne.symm h]
theorem xF(L:List Int)(t:Int)(h:t ∉ L):eV (k:=.ib) (bm L) t true=bm (L++[t]):=by
 induction L with
 |nil=>rfl
 |cons x L ih=>
  simp only[List.mem_cons,not_or] at h
  simp only[bm,List.map_cons,eV,List.cons_append] at ih ⊢
  rw[if_neg (Ne.symm h.1),ih h.2]
structure amd(t:am):Prop where
 nf:t.fields.length≤8
 fn:∀f∈t.fields,f.name.length≤100
 nb:t.branches.length≤100
 ns:t.syms.length≤100
 size:0≤t.size∧t.size≤zH
 nl:t.name.length≤5000
 sl:∀s∈t.syms,s.length≤100
def oN(ts:List am):Prop:=((0<ts.length∧ts.length≤60)∧∀t∈ts,amd t)∧(∀(i:Nat) t,ts[i]? =some t→sY ts i t)∧∃b,b≤fL∧cD ts 0 0 b
theorem aiJ.w{ts:List am}(h:aiJ ts):oN ts:=
 ⟨⟨h.1.1,fun t ht=>have k:=h.1.2 t ht;⟨k.nf,fun f hf=>(k.fields f hf).2.1,k.nb,k.ns,k.size,k.nl,k.sl⟩⟩,h.2⟩
def LOK(ts:List am)(L:List Int):Prop:=L.Nodup∧∀t∈L,0≤t∧t<(ts.length:Int)
theorem ahh:∀(n:Nat)(L:List Nat),L.Nodup→(∀t∈L,t<n)→L.length≤n
 |0,[],_,_=>Nat.le_refl _
 |0,t::_,_,h=>by have:=h t (List.mem_cons_self ..);omega
 |n+1,L,hn,h=>by
  have h1:=ahh n (L.erase n) (hn.erase n) fun t ht=>by
   have:=h t (List.mem_of_mem_erase ht)
   have:t≠n:=fun e=>by subst e;exact(hn.not_mem_erase) ht
   omega
  have:L.length≤(L.erase n).length+1:=by
   rw[List.length_erase]
   split<;>omega
  omega
theorem LOK.le{ts:List am}{L:List Int}(h:LOK ts L):L.length≤ts.length:=by
 have:=ahh ts.length (L.map Int.toNat) ?_ ?_
 ·simpa using this
 ·exact(List.pairwise_map.2 (List.Pairwise.imp_of_mem (fun{a b} ha hb (hne:a≠b) e=>hne (by have:=h.2 a ha;have:=h.2 b hb;omega)) h.1))
 ·intro t ht
  obtain⟨x,hx,rfl⟩:=List.mem_map.1 ht
  have:=h.2 x hx
  omega
theorem LOK.snoc{ts:List am}{L:List Int}{t:Int}(h:LOK ts L)(hm:t ∉ L)(h0:0≤t)(ht:t<(ts.length:Int)):LOK ts (L++[t]):=by
 refine⟨List.nodup_append.2 ⟨h.1,List.nodup_cons.2 ⟨by simp,List.nodup_nil⟩,fun a ha b hb=>?_⟩,fun x hx=>?_⟩
 ·simp at hb
  subst hb
  exact fun e=>hm (e▸ha)
 ·rcases List.mem_append.1 hx with hx|hx
  ·exact h.2 x hx
  ·simp at hx
   subst hx
   exact⟨h0,ht⟩
theorem ad3{ts:List am}{t k:Int}(h0:0≤t)(h:(tyA ts t).kind=k)(hk:0<k):t<(ts.length:Int):=by
 rcases Nat.lt_or_ge t.toNat ts.length with hl|hl
 ·omega
 ·have:(tyA ts t).kind=0:=by
   unfold tyA
   rw[List.getD_eq_getElem?_getD,List.getElem?_eq_none hl]
   rfl
  omega
theorem TR.keeps{ts:List am}{tk:Tk}{L L':List Int}{js:List ak}(h:TR ts tk L js L'):LOK ts L→LOK ts L'∧∃M,L'=L++M:=by
 induction h with
 |arr t L j L' hk h ih=>exact ih
 |map t L j L' hk h ih=>exact ih
 |uni t L js L' hk h ih=>exact ih
 |told t L hk hm=>exact fun hl=>⟨hl,[],by simp⟩
 |fix t L hk hm=>exact fun hl=>⟨hl.snoc hm.2 hm.1 (ad3 hm.1 hk (by omega)),_,rfl⟩
 |enum t L hk hm=>exact fun hl=>⟨hl.snoc hm.2 hm.1 (ad3 hm.1 hk (by omega)),_,rfl⟩
 |rcd t L js L' hk hm h ih=>
  intro hl
  obtain⟨h1,M,rfl⟩:=ih (hl.snoc hm.2 hm.1 (ad3 hm.1 hk (by omega)))
  exact⟨h1,t::M,by simp⟩
 |prim t L hk=>exact fun hl=>⟨hl,[],by simp⟩
 |rnil L=>exact fun hl=>⟨hl,[],by simp⟩
 |fnil L=>exact fun hl=>⟨hl,[],by simp⟩
 |rcons b bs L j L1 js L2 h hr ih1 ih2=>
  intro hl
  obtain⟨h1,M,rfl⟩:=ih1 hl
  obtain⟨h2,M2,rfl⟩:=ih2 h1
  exact⟨h2,M++M2,by simp⟩
 |fcons f fs L j L1 js L2 h hr ih1 ih2=>
  intro hl
  obtain⟨h1,M,rfl⟩:=ih1 hl
  obtain⟨h2,M2,rfl⟩:=ih2 h1
  exact⟨h2,M++M2,by simp⟩
theorem TR.snoc{ts:List am}{b:Int}{L1 L2:List Int}{j:ak}(hb:TR ts (.node b) L1 [j] L2):∀{bs L:List Int}{js:List ak},TR ts (.row bs) L js L1→TR ts (.row (bs++[b])) L (js++[j]) L2
 | [],L,js,h=>by
   cases h
   exact .rcons _ _ _ _ _ _ _ hb (.rnil _)
 |c::bs,L,js,h=>by
  cases h with
  |rcons _ _ _ j' M js' _ h1 h2=>exact .rcons _ _ _ _ _ _ _ h1 (TR.snoc hb h2)
theorem TR.snocF{ts:List am}{f:bo}{L1 L2:List Int}{j:ak}(hb:TR ts (.node f.typ) L1 [j] L2):∀{fs:List bo}{L:List Int}{js:List ak},TR ts (.flds fs) L js L1→TR ts (.flds (fs++[f])) L (js++[d9 [dr,cn] [bc f.name,j]]) L2
 | [],L,js,h=>by
   cases h
   exact .fcons _ _ _ _ _ _ _ hb (.fnil _)
 |c::bs,L,js,h=>by
  cases h with
  |fcons _ _ _ j' M js' _ h1 h2=>exact .fcons _ _ _ _ _ _ _ h1 (TR.snocF hb h2)
theorem jB{α:Type}{l:List α}{i:Int}(d:α)(h:0≤i∧i<(l.length:Int)):l.take (i+1).toNat=l.take i.toNat++[l.getD i.toNat d]:=by
 have h1:i.toNat<l.length:=by omega
 rw[show (i+1).toNat=i.toNat+1 by omega,List.take_add_one,List.getD_eq_getElem?_getD,List.getElem?_eq_getElem h1]
 rfl
def ai1(ts:List am)(K:Nat):Prop:=∀(L:List Int)(t:Int)(n b:Nat),LOK ts L→ts.length≤L.length+K→cD ts n t b→∃r,aw (bm L) ts t r
def alZ(ts:List am)(K:Nat):Prop:=∀(L:List Int)(k:am),k∈ts→9≤k.kind∧k.kind≤11→LOK ts L→ts.length≤L.length+K→∃r,aS (bm L) ts k r
theorem aa3{ts:List am}{L:List Int}{t:Int}{r:ak×List (Int×Bool)×List am}(h:aw (bm L) ts t r):∃L',r.2.1=bm L'∧r.2.2=ts∧TR ts (.node t) L [r.1] L':=by
 obtain⟨-,L',h1,h2,h3⟩:=h
 rw[b8] at h3
 exact⟨L',h1,h2,h3⟩
theorem al0{ts:List am}{L:List Int}{k:am}{r:ak×List (Int×Bool)×List am}(h:aS (bm L) ts k r):∃L',r.2.1=bm L'∧r.2.2=ts∧ab6 ts k L r.1 L':=by
 obtain⟨-,L',h1,h2,h3⟩:=h
 rw[b8] at h3
 exact⟨L',h1,h2,h3⟩
theorem akx{ts:List am}(hX:oN ts){K:Nat}(hT:ai1 ts K):alZ ts K:=by
 intro L k hk9 hkk hL hK
 obtain⟨⟨hs0,hs1⟩,hx, -⟩:=hX
 have tk:=hs1 k hk9
 apply xE 2000
 unfold qL fD
 dsimp only
 repeat' (first|(with_reducible refine au ?_ ?_<;>(intro hb;(try simp only[bnl] at hb);(try revert hb;intro _)))|with_reducible refine aA ?_ ?_|with_reducible refine ar ?_|(refine ao (rM _) ?_;rintro _ ⟨-,rfl⟩;try dsimp only[eb,reJ])|(refine ao (uq _) ?_;rintro _ ⟨-,rfl⟩;try dsimp only)|(refine ao (sG _ _ _ _) ?_;rintro _ ⟨-,rfl⟩;try dsimp only)|fail)
 ·first|(simp only[bnl,lnl];done)|(simp only[bnl,lnl];omega)
 ·rename_i h11
  refine⟨d9 [dr,cn,[115,105,122,101]] [bc k.name,bc (cm 11),.mk 3 k.size [] [] []],bm L,ts,_,?_,rfl,L,rfl,rfl,?_,?_,?_⟩
  ·simp only[h11];rfl
  ·rw[b8];exact fun _=>⟨rfl,rfl⟩
  ·intro h;omega
  ·intro h;omega
 ·rename_i h10
  have hns:=tk.ns
  refine aX (fun x=>match x with|(x0,x1,x2,x3,x4,x5,x6,x7,x8,x9,x10,x11,x12,x13,x14,x15,x16,x17)=>x0=k∧x1=[[110,97,109,101],[116,121,112,101]]∧x2=[115,121,109,98,111,108,115]∧x3=k.syms∧x4=k.syms.length∧(0≤x5∧x5≤k.syms.length)∧x6=bm L∧x7=ts∧x13=5∧x14=0∧x15=[]∧x16=(k.syms.take x5.toNat).map bc∧x17=[]) (fun x=>((k.syms.length:Int)-x.2.2.2.2.2.1).toNat) ?_ _ _
   ⟨rfl,rfl,rfl,rfl,rfl,by omega,rfl,rfl,rfl,rfl,rfl,rfl,rfl⟩ (by simp only;omega)
  rintro again ⟨x0,x1,x2,x3,x4,x5,x6,x7,x8,x9,x10,x11,x12,x13,x14,x15,x16,x17⟩ ⟨rfl,rfl,rfl,rfl,rfl,⟨i1,i2⟩,rfl,rfl,rfl,rfl,rfl,rfl,rfl⟩ ih
  unfold iA
  dsimp only at ih ⊢
  have ew:x5<x0.syms.length→IntKind.i64.wrap (x5+1)=x5+1:=fun h=>ay (x5+1) (by omega)
  have el:((x0.syms.take x5.toNat).map bc).length≤100:=by simp;omega
  repeat' (first|(with_reducible refine au ?_ ?_<;>(intro hb;(try simp only[bnl] at hb);(try revert hb;intro _)))|with_reducible refine aA ?_ ?_|with_reducible refine ar ?_|(refine ao (rM _) ?_;rintro _ ⟨-,rfl⟩;try dsimp only[eb])|(refine ao (uq _) ?_;rintro _ ⟨-,rfl⟩;try dsimp only)|(refine ao (sG _ _ _ _) ?_;rintro _ ⟨-,rfl⟩;try dsimp only)|fail)
  ·first|(simp only[bnl,lnl];done)|(simp only[bnl,lnl];omega)
  ·simp only[bnl,List.length_cons,List.length_nil];omega
  ·rename_i hi
   refine ih _ ⟨rfl,rfl,rfl,rfl,rfl,by simp only[ew hi];omega,rfl,rfl,rfl,rfl,rfl,?_,rfl⟩ (by simp only[ew hi];omega)
   simp only[ew hi,mB]
   rw[jB (av .str) ⟨i1,hi⟩,List.map_append]
   rfl
  ·first|(simp only[bnl,lnl];done)|(simp only[bnl,lnl];omega)
  ·rename_i hi
   have:x0.syms.take x5.toNat=x0.syms:=List.take_of_length_le (by omega)
   refine⟨d9 [dr,cn,[115,121,109,98,111,108,115]] [bc x0.name,bc (cm 10),nD (x0.syms.map bc)],bm L,x7,_,?_,rfl,L,rfl,rfl,?_,?_,?_⟩
   ·rw[this];simp only[h10,mB];rfl
   ·intro h;omega
   ·rw[b8];exact fun _=>⟨rfl,rfl⟩
   ·intro h;omega
 ·rename_i h11 h10
  have hnf:=tk.nf
  refine aX (fun x=>match x with|(x0,x1,x2,x3,x4,x5,x6,x7,x8,x9,x10,x11,x12,x13,x14,x15,x16,x17)=>x0=k∧x1=[[110,97,109,101],[116,121,112,101]]∧x2=[102,105,101,108,100,115]∧x3=k.fields∧x4=k.fields.length∧(0≤x5∧x5≤k.fields.length)∧x7=ts∧x13=5∧x14=0∧x15=[]∧x16.length=x5.toNat∧(∃L',x6=bm L'∧TR ts (.flds (k.fields.take x5.toNat)) L x16 L')∧x17=[]) (fun x=>((k.fields.length:Int)-x.2.2.2.2.2.1).toNat) ?_ _ _
   ⟨rfl,rfl,rfl,rfl,rfl,by omega,rfl,rfl,rfl,rfl,rfl,⟨L,rfl,.fnil L⟩,rfl⟩ (by simp only;omega)
  rintro again ⟨x0,x1,x2,x3,x4,x5,x6,x7,x8,x9,x10,x11,x12,x13,x14,x15,x16,x17⟩ ⟨rfl,rfl,rfl,rfl,rfl,⟨i1,i2⟩,rfl,rfl,rfl,rfl,il,⟨L1,rfl,hR⟩,rfl⟩ ih
  unfold iC
  dsimp only at ih il hR ⊢
  have ew:x5<x0.fields.length→IntKind.i64.wrap (x5+1)=x5+1:=fun h=>ay (x5+1) (by omega)
  have hL1:=(hR.keeps hL).1
  have hle:L.length≤L1.length:=by obtain⟨M,rfl⟩:=(hR.keeps hL).2;simp
  have tcall:x5<x0.fields.length→∃r,aw (bm L1) x7 (x0.fields.getD x5.toNat (av .afield)).typ r:=by
   intro hi
   have h1:x5.toNat<x0.fields.length:=by omega
   obtain⟨i,hi2⟩:=List.getElem?_of_mem hk9
   have hm:x0.fields.getD x5.toNat (av .afield)∈x0.fields:=by
    rw[List.getD_eq_getElem?_getD,List.getElem?_eq_getElem h1]
    exact List.getElem_mem h1
   obtain⟨b,hb,hB⟩:=hx i x0 hi2 _ hm
   exact hT L1 _ _ b hL1 (by omega) hB
  repeat' (first|(with_reducible refine au ?_ ?_<;>(intro hb;(try simp only[bnl] at hb);(try revert hb;intro _)))|with_reducible refine aA ?_ ?_|with_reducible refine ar ?_|(refine ao (rM _) ?_;rintro _ ⟨-,rfl⟩;try dsimp only[eb])|(refine ao (uq _) ?_;rintro _ ⟨-,rfl⟩;try dsimp only)|(refine ao (sG _ _ _ _) ?_;rintro _ ⟨-,rfl⟩;try dsimp only)|(refine ao (tcall (by omega)) ?_;intro r hr;obtain⟨L2,e1,e2,hR2⟩:=aa3 hr;try dsimp only)|fail)
  ·first|(simp only[bnl,lnl];done)|(simp only[bnl,lnl];omega)
  ·simp only[bnl,List.length_cons,List.length_nil];omega
  ·have hi:x5<(x0.fields.length:Int):=by assumption
   rw[e1,e2]
   refine ih _ ⟨rfl,rfl,rfl,rfl,rfl,by simp only[ew hi];omega,rfl,rfl,rfl,rfl,by simp only[ew hi,List.length_append,List.length_cons,List.length_nil];omega,⟨L2,rfl,?_⟩,rfl⟩ (by simp only[ew hi];omega)
   simp only[ew hi,mB]
   rw[jB (av .afield) ⟨i1,hi⟩]
   exact TR.snocF hR2 hR
  ·first|(simp only[bnl,lnl];done)|(simp only[bnl,lnl];omega)
  ·rename_i hi
   have:x0.fields.take x5.toNat=x0.fields:=List.take_of_length_le (by omega)
   rw[this] at hR
   refine⟨d9 [dr,cn,[102,105,101,108,100,115]] [bc x0.name,bc (cm 9),nD x16],bm L1,x7,_,?_,rfl,L1,rfl,rfl,?_,?_,?_⟩
   ·have h9:x0.kind=9:=by omega
    simp only[h9,mB];rfl
   ·intro h;omega
   ·intro h;omega
   ·rw[b8];exact fun _=>⟨_,hR,rfl⟩
theorem aa4{ts:List am}{i:Int}{t:am}(h0:0≤i)(h:ts[i.toNat]? =some t):ixl i ts=true∧ts.getD i.toNat (av .atype)=t:=by
 have:=(List.getElem?_eq_some_iff.1 h).1
 refine⟨ixt (by omega),kv h⟩
theorem ai2(j:ak):V.agg [V.int .i64 j.kind,V.int .i64 j.n,V.str j.s,V.sl .jnode (.may false) j.l,V.sl .str (.may false) j.names]=V.agg (enc .jnode j):=by cases j;rfl
theorem ac7{ts:List am}(hX:oN ts){K:Nat}(hO:∀K',K'+1=K→alZ ts K'):ai1 ts K:=by
 intro L t n b hL hK hB
 have hok:=hX.1.2
 induction hB generalizing L with
 |leaf i t h0 h hk=>
  obtain⟨x1,x2⟩:=aa4 h0 h
  have x3:tyA ts i=t:=x2
  have hlt:=(List.getElem?_eq_some_iff.1 h).1
  have hmem:t∈ts:=List.mem_of_getElem? h
  apply kz 2000
  unfold iy cK
  dsimp only
  rw[x2,ahg]
  have done:∀(r:ak×List (Int×Bool)×List am)(kd:9≤t.kind∧t.kind≤11)(hm:i ∉ L),(∃L',r.2.1=bm L'∧r.2.2=ts∧ab6 ts t (L++[i]) r.1 L')→dB (bm L) ts i r:=by
   rintro r kd hm ⟨L',e1,e2,e3,e4,e5⟩
   refine⟨L',e1,e2,?_⟩
   rw[b8]
   by_cases h11:t.kind=11
   ·obtain⟨rfl,e⟩:=e3 h11
    rw[e,←x3]
    exact .fix i L (by rw[x3];exact h11) ⟨h0,hm⟩
   by_cases h10:t.kind=10
   ·obtain⟨rfl,e⟩:=e4 h10
    rw[e,←x3]
    exact .enum i L (by rw[x3];exact h10) ⟨h0,hm⟩
   have h9:t.kind=9:=by omega
   obtain⟨js,hR,e⟩:=e5 h9
   rw[e,←x3]
   exact .rcd i L js L' (by rw[x3];exact h9) ⟨h0,hm⟩ (by rw[x3];exact hR)
  have own:9≤t.kind∧t.kind≤11→i ∉ L→∃r,aS (eV (k:=.ib) (bm L) i true) ts t r:=by
   intro kd hm
   rw[xF L i hm]
   have hL2:=hL.snoc hm h0 (by omega)
   have:=hL2.le
   simp only[List.length_append,List.length_cons,List.length_nil] at this
   exact hO (K-1) (by omega) _ t hmem kd hL2 (by simp only[List.length_append,List.length_cons,List.length_nil];omega)
  have ownof:∀{r},i ∉ L→aS (eV (k:=.ib) (bm L) i true) ts t r→∃L',r.2.1=bm L'∧r.2.2=ts∧ab6 ts t (L++[i]) r.1 L':=by
   intro r hm hr
   rw[xF L i hm] at hr
   exact al0 hr
  have told:9≤t.kind∧t.kind≤11→i∈L→dB (bm L) ts i (bc t.name,bm L,ts):=by
   intro kd hm
   refine⟨L,rfl,rfl,?_⟩
   rw[b8,←x3]
   exact .told i L (by rw[x3];exact kd) hm
  have prim:t.kind≤8→dB (bm L) ts i (bc (cm t.kind),bm L,ts):=by
   intro kd
   refine⟨L,rfl,rfl,?_⟩
   rw[b8,←x3]
   exact .prim i L (by rw[x3];exact kd)
  repeat' (first|(with_reducible refine au ?_ ?_<;>(intro hb;(try simp only[bnl] at hb);(try revert hb;intro _)))|with_reducible refine aA ?_ ?_|with_reducible refine ar ?_|(refine ao (rM _) ?_;rintro _ ⟨-,rfl⟩;try dsimp only[eb])|(refine ao (uq _) ?_;rintro _ ⟨-,rfl⟩;try dsimp only)|(refine ao (own (by omega) (by assumption)) ?_;intro r hr;try dsimp only)|fail)
  ·exact x1
  all_goals first|omega|skip
  ·exact⟨bc t.name,_,_,_,rfl,rfl,told (by omega) (by assumption)⟩
  ·rename_i r hr
   exact⟨r.1,_,_,_,congrArg V.dimR (ai2 r.1),rfl,done r (by omega) (by assumption) (ownof (by assumption) hr)⟩
  ·exact⟨bc t.name,_,_,_,rfl,rfl,told (by omega) (by assumption)⟩
  ·rename_i r hr
   exact⟨r.1,_,_,_,congrArg V.dimR (ai2 r.1),rfl,done r (by omega) (by assumption) (ownof (by assumption) hr)⟩
  ·exact⟨bc t.name,_,_,_,rfl,rfl,told (by omega) (by assumption)⟩
  ·rename_i r hr
   exact⟨r.1,_,_,_,congrArg V.dimR (ai2 r.1),rfl,done r (by omega) (by assumption) (ownof (by assumption) hr)⟩
  ·exact⟨bc (cm t.kind),_,_,_,rfl,rfl,prim (by omega)⟩
 |arr i t b h0 hn h hk hr ih=>
  obtain⟨x1,x2⟩:=aa4 h0 h
  have x3:tyA ts i=t:=x2
  apply kz 2000
  unfold iy cK
  dsimp only
  rw[x2]
  repeat' (first|(with_reducible refine au ?_ ?_<;>(intro hb;(try simp only[bnl] at hb);(try revert hb;intro _)))|with_reducible refine aA ?_ ?_|with_reducible refine ar ?_|(refine ao (rM _) ?_;rintro _ ⟨-,rfl⟩;try dsimp only[eb])|(refine ao (sG _ _ _ _) ?_;rintro _ ⟨-,rfl⟩;try dsimp only)|(refine ao (ih L hL hK) ?_;intro r hr;obtain⟨L2,e1,e2,hR2⟩:=aa3 hr;try dsimp only)|fail)
  ·exact x1
  all_goals first|omega|skip
  ·rename_i h12 _
   refine⟨d9 [cn,[105,116,101,109,115]] [bc [97,114,114,97,121],r.1],_,_,_,by rw[mB,mB];rfl,rfl,L2,e1,e2,?_⟩
   rw[b8]
   exact .arr i L r.1 L2 (by rw[x3];assumption) (by rw[x3];exact hR2)
  ·refine⟨d9 [cn,[118,97,108,117,101,115]] [bc [109,97,112],r.1],_,_,_,by rw[mB,mB];rfl,rfl,L2,e1,e2,?_⟩
   rw[b8]
   exact .map i L r.1 L2 (by rw[x3];assumption) (by rw[x3];exact hR2)
 |uni i t w h0 hn h hk hr ih=>
  obtain⟨x1,x2⟩:=aa4 h0 h
  have x3:tyA ts i=t:=x2
  have hnb:=(hok t (List.mem_of_getElem? h)).nb
  apply kz 2000
  unfold iy cK
  dsimp only
  rw[x2]
  repeat' (first|(with_reducible refine au ?_ ?_<;>(intro hb;(try simp only[bnl] at hb);(try revert hb;intro _)))|with_reducible refine aA ?_ ?_|with_reducible refine ar ?_|fail)
  ·exact x1
  all_goals first|omega|skip
  refine aX (fun x=>match x with|(x0,x1,x2,x3,x4,x5,x6,x7,x8,x9,x10,x11,x12,x13,x14)=>x0=t.branches∧x1=t.branches.length∧(0≤x2∧x2≤t.branches.length)∧x4=ts∧x10=5∧x11=0∧x12=[]∧x13.length=x2.toNat∧(∃L',x3=bm L'∧TR ts (.row (t.branches.take x2.toNat)) L x13 L')∧x14=[]) (fun x=>((t.branches.length:Int)-x.2.2.1).toNat) ?_ _ _
   ⟨rfl,rfl,by omega,rfl,rfl,rfl,rfl,rfl,⟨L,rfl,.rnil L⟩,rfl⟩ (by simp only;omega)
  rintro again ⟨y0,y1,y2,y3,y4,y5,y6,y7,y8,y9,y10,y11,y12,y13,y14⟩ ⟨rfl,rfl,⟨i1,i2⟩,rfl,rfl,rfl,rfl,il,⟨L1,rfl,hR⟩,rfl⟩ ihl
  unfold gU
  dsimp only at ihl il hR ⊢
  have ew:y2<t.branches.length→IntKind.i64.wrap (y2+1)=y2+1:=fun h=>ay (y2+1) (by omega)
  have hL1:=(hR.keeps hL).1
  have hle:L.length≤L1.length:=by obtain⟨M,rfl⟩:=(hR.keeps hL).2;simp
  have tcall:y2<t.branches.length→∃r,aw (bm L1) y4 (t.branches.getD y2.toNat (av (.num .i64))) r:=by
   intro hi
   have h1:y2.toNat<t.branches.length:=by omega
   exact ih y2.toNat _ (by rw[List.getD_eq_getElem?_getD,List.getElem?_eq_getElem h1];rfl) L1 hL1 (by omega)
  repeat' (first|(with_reducible refine au ?_ ?_<;>(intro hb;(try simp only[bnl] at hb);(try revert hb;intro _)))|with_reducible refine aA ?_ ?_|with_reducible refine ar ?_|(refine ao (tcall (by omega)) ?_;intro r hr;obtain⟨L2,e1,e2,hR2⟩:=aa3 hr;try dsimp only)|fail)
  ·first|(simp only[bnl,lnl];done)|(simp only[bnl,lnl];omega)
  ·simp only[bnl,List.length_cons,List.length_nil];omega
  ·have hi:y2<(t.branches.length:Int):=by assumption
   rw[e1,e2]
   refine ihl _ ⟨rfl,rfl,by simp only[ew hi];omega,rfl,rfl,rfl,rfl,by simp only[ew hi,List.length_append,List.length_cons,List.length_nil];omega,⟨L2,rfl,?_⟩,rfl⟩ (by simp only[ew hi];omega)
   simp only[ew hi,mB]
   rw[jB (av (.num .i64)) ⟨i1,hi⟩]
   exact TR.snoc hR2 hR
  ·have:t.branches.take y2.toNat=t.branches:=List.take_of_length_le (by omega)
   rw[this] at hR
   refine⟨nD y13,bm L1,y4,_,rfl,rfl,L1,rfl,rfl,?_⟩
   rw[b8]
   exact .uni i L y13 L1 (by rw[x3];exact hk) (by rw[x3];exact hR)
theorem aeJ{ts:List am}(hX:oN ts):∀K,ai1 ts K
 |0=>ac7 hX fun K' h=>by omega
 |K+1=>ac7 hX fun K' h=>by
  obtain rfl:K'=K:=by omega
  exact akx hX (aeJ hX K')
end Go.Proofs.YtkinflmjagfapaaDoor
end
noncomputable section
namespace Go.Proofs.YtkinflmjagfapaaDoor
open Go.AM
set_option autoImplicit false
set_option linter.unusedVariables false
set_option linter.unusedSimpArgs false
set_option maxRecDepth 100000
theorem sH{name:List UInt8}{q:ak→Prop}(l:List ak):aV name q [] l:=by cases l<;>simp[aV]
theorem xG{name:List UInt8}{q:ak→Prop}{d:ak}:∀{names:List (List UInt8)}{l:List ak}{i:Nat},aV name q names l→(∀c,l[i]? =some c→q c→q d)→aV name q names (l.set i d)
 | [],l,i,_,_=>sH _
 |x::ns,[],i,_,_=>by simp[aV]
 |x::ns,c::l,0,h,hd=>by
  simp only[aV,List.set_cons_zero] at h ⊢
  exact⟨fun e=>hd c rfl (h.1 e),h.2⟩
 |x::ns,c::l,i+1,h,hd=>by
  simp only[aV,List.set_cons_succ] at h ⊢
  exact⟨h.1,xG h.2 fun c hc=>hd c (by simpa using hc)⟩
theorem xH{name:List UInt8}{q:ak→Prop}:∀{names:List (List UInt8)}{l:List ak}{i:Nat},names.length=l.length→aV name q names l→aV name q (names.take i++names.drop (i+1)) (l.take i++l.drop (i+1))
 | [],[],i,_,_=>by simp[aV]
 |x::ns,c::l,0,_,h=>by
  simp only[aV] at h
  simpa using h.2
 |x::ns,c::l,i+1,hl,h=>by
  simp only[aV] at h
  simp only[List.take_succ_cons,List.drop_succ_cons,List.cons_append,aV]
  exact⟨h.1,xH (by simpa using hl) h.2⟩
theorem xI{name:List UInt8}{q:ak→Prop}{d:ak}:∀{names:List (List UInt8)}{l:List ak},names.length≤l.length→aV name q names l→aV name q names (l++[d])
 | [],l,_,_=>sH _
 |x::ns,[],hl,_=>by simp at hl
 |x::ns,c::l,hl,h=>by
  simp only[aV,List.cons_append] at h ⊢
  exact⟨h.1,xI (by simpa using hl) h.2⟩
theorem aky(l:List ak)(i:Nat)(d:ak)(h:i<l.length):bJ (l.set i d)+szJ l[i]=bJ l+szJ d:=by
 induction l generalizing i with
 |nil=>simp at h
 |cons c l ih=>
  cases i with
  |zero=>simp[bJ];omega
  |succ i=>
   have:=ih i (by simpa using h)
   simp only[List.set_cons_succ,bJ,List.getElem_cons_succ] at this ⊢
   omega
theorem akz(l:List ak)(i:Nat):bJ (l.take i++l.drop (i+1))≤bJ l:=by
 induction l generalizing i with
 |nil=>simp[bJ]
 |cons c l ih=>
  cases i with
  |zero=>simp[bJ]
  |succ i=>
   have:=ih i
   simp only[List.take_succ_cons,List.drop_succ_cons,List.cons_append,bJ] at this ⊢
   omega
theorem pj{n:ak}(k m:Int)(s:List UInt8)(hm:m≤255)(hs:s.length≤100)(hu:dZ s)(hk:k≠6):uf n (.mk k m s [] []):=by
 intro _
 refine⟨.mk _ _ _ _ _ hs (by simp) (by simp) (by simp) (by simp) (by simp) (by simp[aV]) (by simp[aV]),?_,fun _=>hm,fun _=>hu⟩
 have:0<szJ n:=by cases n;simp[bR]
 simp only[bR,bJ]
 omega
theorem aeK{n:ak}:uf n (.mk 5 0 [] n.l []):=by
 intro hn
 obtain⟨k,m,s,l,names⟩:=n
 obtain⟨k1,k2,k3,k4,k5,k6⟩:=hn.kids
 refine⟨.mk _ _ _ _ _ (by simp) (by simp only[ak.l];omega) (by simp) (by simp) (by simp) (fun c hc=>(k6 c hc).up (by omega)) (sH _) (sH _),?_,fun _=>(show (0:Int)≤255 by decide),fun _=>by simp[ak.s,dZ]⟩
 simp only[bR,ak.l]
 omega
theorem ce.every{b:Nat}{k n:Int}{s:List UInt8}{l:List ak}{names:List (List UInt8)}(h:ce b (.mk k n s l names)):
  aV [115,105,122,101] (fun c=>c.n≤zH) names l∧aV [110,97,109,101] (fun c=>dZ c.s) names l:=by
 cases h with
 |mk _ _ _ _ _ h1 h2 h3 h4 h5 h6 h7 h8=>exact⟨h7,h8⟩
theorem akA{n:ak}(i:Nat)(he:n.names.length=n.l.length):uf n (.mk n.kind n.n n.s (n.l.take i++n.l.drop (i+1)) (n.names.take i++n.names.drop (i+1))):=by
 intro hn
 obtain⟨k,m,s,l,names⟩:=n
 obtain⟨k1,k2,k3,k4,k5,k6⟩:=hn.kids
 obtain⟨v1,v2⟩:=hn.every
 have he:names.length=l.length:=he
 have hlen:(names.take i++names.drop (i+1)).length=(l.take i++l.drop (i+1)).length:=by simp;omega
 have hll:(l.take i++l.drop (i+1)).length≤l.length:=by simp;omega
 have sub:∀{α:Type}{l:List α}{x:α},x∈l.take i++l.drop (i+1)→x∈l:=by
  intro α l x hx
  rcases List.mem_append.1 hx with hx|hx
  ·exact List.mem_of_mem_take hx
  ·exact List.mem_of_mem_drop hx
 refine⟨.mk _ _ _ _ _ k1 (Nat.le_trans hll (Nat.le_trans k2 (by omega))) (Nat.le_of_eq hlen) (fun x hx=>k4 x (sub hx)) (fun _=>hlen) (fun c hc=>(k6 c (sub hc)).up (by omega)) (xH he v1) (xH he v2),?_,fun h=>h,fun h=>h⟩
 have:=akz l i
 simp only[bR,ak.l]
 omega
theorem akB{n:ak}(i:Nat)(hi:i<n.l.length)(hk:n.kind=5):uf n (.mk n.kind n.n n.s (n.l++[n.l.getD i (av .jnode)]) n.names):=by
 intro hn
 obtain⟨k,m,s,l,names⟩:=n
 obtain⟨k1,k2,k3,k4,k5,k6⟩:=hn.kids
 obtain⟨v1,v2⟩:=hn.every
 have hi:i<l.length:=hi
 have hm:l.getD i (av .jnode)∈l:=by
  rw[List.getD_eq_getElem?_getD,List.getElem?_eq_getElem hi]
  exact List.getElem_mem hi
 have hz:=vM l _ hm
 refine⟨.mk _ _ _ _ _ k1 (by simp only[ak.l,List.length_append,List.length_cons,List.length_nil];omega) (by simp only[ak.l,ak.names,List.length_append];omega) k4 (fun h=>by have:k=5:=hk;have:k=6:=h;omega) ?_ (xI k3 v1) (xI k3 v2),?_,fun h=>h,fun h=>h⟩
 ·intro c hc
  rcases List.mem_append.1 hc with hc|hc
  ·exact(k6 c hc).up (by omega)
  ·simp only[List.mem_singleton] at hc
   subst hc
   exact(k6 _ hm).up (by omega)
 ·simp only[bR,ak.l,db,bJ]
  omega
theorem akC{n r:ak}(i:Nat)(hi:i<n.l.length)(hr:uf (n.l.getD i (av .jnode)) r):uf n (.mk n.kind n.n n.s (n.l.set i r) n.names):=by
 intro hn
 obtain⟨k,m,s,l,names⟩:=n
 obtain⟨k1,k2,k3,k4,k5,k6⟩:=hn.kids
 obtain⟨v1,v2⟩:=hn.every
 have hi:i<l.length:=hi
 have hd:l.getD i (av .jnode)=l[i]:=by rw[List.getD_eq_getElem?_getD,List.getElem?_eq_getElem hi];rfl
 have hr:uf l[i] r:=by rw[←hd];exact hr
 obtain⟨r1,r2,r3,r4⟩:=hr (k6 _ (List.getElem_mem hi))
 have hz:=aky l i r hi
 have hk:=vM l _ (List.getElem_mem hi)
 refine⟨.mk _ _ _ _ _ k1 (by simp only[ak.l,List.length_set];omega) (by simp only[ak.l,ak.names,List.length_set];omega) k4 (fun h=>by simp only[ak.l,ak.names,List.length_set];exact k5 h) ?_ (xG v1 ?_) (xG v2 ?_),?_,fun h=>h,fun h=>h⟩
 ·intro c hc
  rcases List.mem_or_eq_of_mem_set hc with hc|rfl
  ·exact(k6 c hc).up (by omega)
  ·exact r1
 ·intro c hc hq
  have hc:l[i]? =some c:=hc
  rw[List.getElem?_eq_getElem hi] at hc
  cases hc
  exact r3 hq
 ·intro c hc hq
  have hc:l[i]? =some c:=hc
  rw[List.getElem?_eq_getElem hi] at hc
  cases hc
  exact r4 hq
 ·simp only[bR,ak.l]
  omega
abbrev kE:List (List UInt8):=[[105,110,116],[115,116,114,105,110,103],[114,101,99,111,114,100],[101,110,117,109],[110,117,108,108],[120],[78,97],[115,46,84,111,112],[97,45,98],[],[109,97,112],[97,114,114,97,121],[102,105,120,101,100],[84,111,112],[115,46,78,97],[78,46,98]]
theorem aaL(i:Nat):(kE.getD i (av .str)).length≤100∧dZ (kE.getD i (av .str)):=by
 by_cases h:i<16
 ·have:∀i:Fin 16,(kE.getD i.val (av .str)).length≤100∧dZ (kE.getD i.val (av .str)):=by decide
  exact this ⟨i,h⟩
 ·rw[List.getD_eq_getElem?_getD,List.getElem?_eq_none (by simp;omega)]
  exact⟨by decide,by decide⟩
theorem ai3(how:Int)(hh:0≤how∧how≤255):∀(at_:List UInt8)(n:ak),iY n→at_.length≤100→∃r,bC n at_ how r:=by
 intro at_
 induction at_ with
 |nil=>
  intro n hn _
  apply s8 1
  unfold pO pN
  dsimp only
  have hu:IntKind.u8.wrap (how.tdiv 8)=how / 8:=by rw[Int.tdiv_eq_ediv_of_nonneg hh.1,pz _ (by omega)]
  have hw:(IntKind.i64.wrap (how / 8)).tmod 16=(how / 8)%16:=by rw[ay _ (by omega),Int.tmod_eq_emod_of_nonneg (by omega)]
  refine au (fun _=>?_) (fun h=>by simp at h)
  repeat' (first|(with_reducible refine au ?_ ?_<;>(intro hb;(try simp only[bnl] at hb);(try revert hb;intro _)))|with_reducible refine aA ?_ ?_|with_reducible refine ar ?_|fail)
  ·exact⟨.mk 3 (IntKind.i64.wrap how) [] [] [],_,rfl,rfl,pj _ _ _ (by rw[ay _ (by omega)];omega) (by simp) (by simp[dZ]) (by decide)⟩
  ·exact⟨.mk 1 0 [] [] [],_,rfl,rfl,pj _ _ _ (by decide) (by simp) (by simp[dZ]) (by decide)⟩
  ·exact⟨.mk 5 0 [] n.l [],_,rfl,rfl,aeK⟩
  ·rfl
  ·rw[hu]
   show ixl ((IntKind.i64.wrap (how / 8)).tmod 16) kE=true
   rw[hw]
   refine ixt ?_
   show _∧_<(16:Int)
   omega
  ·have:=aaL (((IntKind.i64.wrap (IntKind.u8.wrap (how.tdiv 8))).tmod (16:Int)).toNat)
   exact⟨.mk 4 0 (kE.getD (((IntKind.i64.wrap (IntKind.u8.wrap (how.tdiv 8))).tmod (16:Int)).toNat) (av .str)) [] [],_,rfl,rfl,pj _ _ _ (by decide) this.1 this.2 (by decide)⟩
 |cons a at_ ih=>
  intro n hn hl
  have hl':at_.length≤100:=by simp at hl;omega
  apply s8 1
  unfold pO pN
  dsimp only
  refine au (fun h=>?_) (fun _=>?_)
  ·exfalso
   simp at h
   omega
  refine au (fun h0=>?_) (fun h0=>?_)
  ·have hu:IntKind.u8.wrap (how.tdiv 8)=how / 8:=by rw[Int.tdiv_eq_ediv_of_nonneg hh.1,pz _ (by omega)]
   have hw:(IntKind.i64.wrap (how / 8)).tmod 16=(how / 8)%16:=by rw[ay _ (by omega),Int.tmod_eq_emod_of_nonneg (by omega)]
   repeat' (first|(with_reducible refine au ?_ ?_<;>(intro hb;(try simp only[bnl] at hb);(try revert hb;intro _)))|with_reducible refine aA ?_ ?_|with_reducible refine ar ?_|fail)
   ·exact⟨.mk 3 (IntKind.i64.wrap how) [] [] [],_,rfl,rfl,pj _ _ _ (by rw[ay _ (by omega)];omega) (by simp) (by simp[dZ]) (by decide)⟩
   ·exact⟨.mk 1 0 [] [] [],_,rfl,rfl,pj _ _ _ (by decide) (by simp) (by simp[dZ]) (by decide)⟩
   ·exact⟨.mk 5 0 [] n.l [],_,rfl,rfl,aeK⟩
   ·rfl
   ·rw[hu]
    show ixl ((IntKind.i64.wrap (how / 8)).tmod 16) kE=true
    rw[hw]
    refine ixt ?_
    show _∧_<(16:Int)
    omega
   ·have:=aaL (((IntKind.i64.wrap (IntKind.u8.wrap (how.tdiv 8))).tmod (16:Int)).toNat)
    exact⟨.mk 4 0 (kE.getD (((IntKind.i64.wrap (IntKind.u8.wrap (how.tdiv 8))).tmod (16:Int)).toNat) (av .str)) [] [],_,rfl,rfl,pj _ _ _ (by decide) this.1 this.2 (by decide)⟩
  have h0:(n.l.length:Int)≠0:=by simpa using h0
  obtain⟨kk,hkk⟩:∃k,Int.tmod (IntKind.wrap .i64 (a.toNat:Int)) (n.l.length:Int)=k:=⟨_,rfl⟩
  have ha:=a.toNat_lt
  have hk0:0≤kk∧kk<(n.l.length:Int):=by
   rw[ay _ (by omega),Int.tmod_eq_emod_of_nonneg (by omega)] at hkk
   exact⟨hkk▸Int.emod_nonneg _ h0,hkk▸Int.emod_lt_of_pos _ (by omega)⟩
  have kids:n.l.length≤7∧n.names.length≤n.l.length∧∀c∈n.l,iY c:=by
   obtain⟨k,m,s,l,names⟩:=n
   obtain⟨k1,k2,k3,k4,k5,k6⟩:=hn.kids
   exact⟨k2,k3,k6⟩
  obtain⟨k2,k3,k6⟩:=kids
  have hki:kk.toNat<n.l.length:=by omega
  have hkid:iY (n.l.getD kk.toNat (av .jnode)):=by
   rw[List.getD_eq_getElem?_getD,List.getElem?_eq_getElem hki]
   exact k6 _ (List.getElem_mem hki)
  have hd:List.getD (a::at_) (Int.toNat 0) (av .u8)=a:=rfl
  have htl:List.drop (Int.toNat 1) (List.take (List.length (a::at_)) (a::at_))=at_:=by simp
  have hw1:IntKind.wrap .i64 (kk+1)=kk+1:=ay _ (by omega)
  have hn1:(kk+1).toNat=kk.toNat+1:=by omega
  have hta:∀{α:Type}(l:List α),List.take (l.length-(kk.toNat+1)) (List.drop (kk.toNat+1) l)=List.drop (kk.toNat+1) l:=by
   intro α l
   exact List.take_of_length_le (by simp)
  simp only[hd,hkk,htl,List.nil_append,List.length_nil,Nat.zero_add,mB,hw1,hn1,hta]
  repeat' (first|(with_reducible refine au ?_ ?_<;>(intro hb;(try simp only[bnl] at hb);(try revert hb;intro _)))|with_reducible refine aA ?_ ?_|with_reducible refine ar ?_|(refine ao (ih _ hkid hl') (fun r hr=>?_))|fail)
  all_goals first
   |exact⟨.mk n.kind n.n n.s _ _,_,rfl,rfl,akC _ hki hr.2⟩
   |exact⟨.mk n.kind n.n n.s _ _,_,rfl,rfl,akA _ (by omega)⟩
   |exact⟨.mk n.kind n.n n.s _ _,_,rfl,rfl,akB _ hki (by assumption)⟩
   |exact ixt hk0
   |(simp;done)
   |(simp;omega)
   |(rw[beq_eq_false_iff_ne.2 h0];rfl)
end Go.Proofs.YtkinflmjagfapaaDoor
end
noncomputable section
namespace Go.Proofs.YtkinflmjagfapaaDoor
open Go.AM
set_option autoImplicit false
set_option linter.unusedVariables false
set_option maxRecDepth 100000
def kA:j9:=fun f us css=>match f,us,css with
 |25,[.ptr 1 0,.int .i64 a1],[[.mp .ib o0_0],[.sl .atype (.may false) o1_0,.mr 0]]=>some (can (aB o0_0 o1_0 a1),.str ((pick (aB o0_0 o1_0 a1)).1),[[.mp .ib ((pick (aB o0_0 o1_0 a1)).2.1)],[.sl .atype (.may false) ((pick (aB o0_0 o1_0 a1)).2.2),.mr 0]])
 |51,[.ptr 1 0,.agg [.int .i64 a1_0,.str a1_1,.sl .str (.may _) a1_2,.int .i64 a1_3,.sl .str (.may _) a1_4,.bool a1_5,.str a1_6,.int .i64 a1_7,.sl .afield (.may _) a1_8,.sl (.num .i64) (.may _) a1_9]],[[.mp .ib o0_0],[.sl .atype (.may false) o1_0,.mr 0]]=>some (can (aY o0_0 o1_0 (⟨a1_0,a1_1,a1_2,a1_3,a1_4,a1_5,a1_6,a1_7,a1_8,a1_9⟩)),.str ((pick (aY o0_0 o1_0 (⟨a1_0,a1_1,a1_2,a1_3,a1_4,a1_5,a1_6,a1_7,a1_8,a1_9⟩))).1),[[.mp .ib ((pick (aY o0_0 o1_0 (⟨a1_0,a1_1,a1_2,a1_3,a1_4,a1_5,a1_6,a1_7,a1_8,a1_9⟩))).2.1)],[.sl .atype (.may false) ((pick (aY o0_0 o1_0 (⟨a1_0,a1_1,a1_2,a1_3,a1_4,a1_5,a1_6,a1_7,a1_8,a1_9⟩))).2.2),.mr 0]])
 |_,_,_=>none
noncomputable def eP:az:=(jt 2 kA (kK (rR (P:=Tryd.prog) [aah,zV])))
theorem tj:b7 eP [25,51,2000025,2000051]:=(mW (by
 intro f us css hf
 unfold kA
 split<;>first|rfl|(simp at hf)) (hU _ _))
theorem tP:bI Tryd.prog eP:=by
 refine qT ?_ ?_
 ·intro f us css v css' h
  unfold kA at h
  split at h
  ·simp only[Option.some.injEq,Prod.mk.injEq] at h
   obtain⟨hc,rfl,rfl⟩:=h
   exact((lh hc).1).dim rfl
  ·simp only[Option.some.injEq,Prod.mk.injEq] at h
   obtain⟨hc,rfl,rfl⟩:=h
   exact((lh hc).1).dim rfl
  ·simp at h
 exact qR _
def nC:IR:=Sq (Rs [Mv 37 7,Fa 38 9 5,Lq 39 38,Ll 40 39,Bi 41 .lss 37 40] (Cn 41 .skip (.exit 1))) (Sq (.block 2 (Sq (Rs [Mv 44 7,Bc 45 .gtr 44 0] (Cn 45 (Rg [Mv 46 6,Pp (.bin 47 .add 46 (kS [44])),Mv 6 47]) .skip)) (Rg [Mv 48 6,Mv 49 0,Fa 50 9 5,Lq 51 50,Mv 52 7,Ix 53 (.num .i64) 51 52,Lq 54 53,Ca 55 25 [49,54],Bi 56 .add 48 55,Mv 6 56]))) (Rg [Mv 42 7,Bc 43 .add 42 1,Mv 7 43]))
def mI:IR:=Rs [Mv 57 6,Pp (.bin 58 .add 57 (kS [93])),Mv 4 58] .ret
def mJ:IR:=Rs [Fa 93 0 5,Lq 94 93,Ca 95 50 [94],Ca 96 33 [95],Mv 4 96] .ret
def wd:IR:=Rs [Ms 4 []] (Rs [Mv 9 0,Nk 10 9,Fa 11 0 10,Fa 12 0 11,Lo 13 12,Mv 14 1,Ix 15 .atype 13 14,Ld 16 10 true 15,Pp (.alr 5 10),Fz 5 10 16] (Sq (Rs [Fa 17 0 5,Lq 18 17] (.block 0 (Rs [Bc 20 .eql 18 12,Mv 19 20] (Cn 19 (Rs [Mv 21 0,Fa 22 3 5,Lq 23 22,Ca 24 25 [21,23],Pp (.bin 25 .add (kS [123,34,116,121,112,101,34,58,34,97,114,114,97,121,34,44,34,105,116,101,109,115,34,58]) 24),Pp (.bin 26 .add 25 (kS [125])),Mv 4 26] .ret) (Rs [Bc 28 .eql 18 13,Mv 27 28] (Cn 27 (Rs [Mv 29 0,Fa 30 3 5,Lq 31 30,Ca 32 25 [29,31],Pp (.bin 33 .add (kS [123,34,116,121,112,101,34,58,34,109,97,112,34,44,34,118,97,108,117,101,115,34,58]) 32),Pp (.bin 34 .add 33 (kS [125])),Mv 4 34] .ret) (Rs [Bc 36 .eql 18 14,Mv 35 36] (Cn 35 (Rs [Ms 6 [91]] (Sq (Rs [Mi 7 0] (.block 1 (.loop [0,5,6,7,1000000] 2 nC))) mI)) (Sq (Rs [Bc 60 .eql 18 9,Mv 59 60] (Cn 59 .skip (Rs [Bc 61 .eql 18 10,Mv 59 61] (Cn 59 .skip (Rg [Bc 62 .eql 18 11,Mv 59 62]))))) (Cn 59 (Sq (Rs [Mv 63 0,Nk 64 63,Fa 65 1 64,Lo 66 65,Mv 67 1,Pp (.mget 68 .ib false (.t 66) (.t 67))] (Cn 68 (Rs [Fa 69 1 5,Lq 70 69,Ca 71 33 [70],Mv 4 71] .ret) .skip)) (Rs [Mv 72 0,Nk 73 72,Fa 74 1 73,Lo 75 74,Mv 76 1,Pp (.mput none .ib (.t 75) (.t 76) (.c (.bool true)))] (Sq (.reg [Fa 77 1 5,Lq 78 77,Ca 79 33 [78],Pp (.bin 80 .add (kS [123,34,110,97,109,101,34,58]) 79),Pp (.bin 81 .add 80 (kS [44,34,116,121,112,101,34,58])),Fa 82 0 5,Lq 83 82,Ca 84 50 [83],Ca 85 33 [84],Bi 86 .add 81 85,Mv 8 86] [[],[0],[0,1],[0,1,2],rg 0 3,[],[5],[0,1,2,5,6],[0,1,2,5,6,7],rg 0 8,rg 0 9]) (Rs [Mv 87 8,Mv 88 0,Ld 89 10 true 5,Ca 90 51 [88,89],Bi 91 .add 87 90,Pp (.bin 92 .add 91 (kS [125])),Mv 4 92] .ret)))) .skip)))))))))) mJ))
def pk:List RV:=[.t 4]
theorem we:FnC Tryd.prog eP [25,51,2000025,2000051] 2 pM Tryd.f25 wd pk:=⟨tP,tj,Tryd.func25,by kernel_rfl,by kernel_rfl,by decide⟩
def u6(R:IR→(Ex→St→Ro)→St→Ro)(again0:St→Ro):Ex→St→Ro:=(bG again0 [0,5,6,7,1000000] 2 (aJ 1 (kseq (R mI) (aJ 0 (kseq (R mJ) (fin pk))))))
abbrev dJ:Type:=(am×Bs×Int×List (Int×Bool)×List am)
def fj(x:dJ):St:={env:=(.ptr 1 0::(U 4 (.ea (enc .atype x.1)::.str x.2.1::.int .i64 x.2.2.1::(U 89 [])))),hp:=[some [.mp .ib x.2.2.2.1],some [.sl .atype (.may false) x.2.2.2.2,.mr 0]]}
def jQ(N:Nat):(St→Ro)→St→Ro:=fun again0 s=>run eP N nC (u6 (run eP N) again0) s
def gl(N:Nat)(again0:dJ→Ro)(x:dJ):Ro:=
 let v5:am:=x.1
 let v6:Bs:=x.2.1
 let v7:Int:=x.2.2.1
 let o0_0:List (Int×Bool):=x.2.2.2.1
 let o1_0:List am:=x.2.2.2.2
 let x6:=(↑(List.length v5.branches):Int)
 cond (decide (v7<x6)) (
  cond (decide (0<v7)) (
   chk (decide (List.length v6+List.length ([44]:Bs)≤9223372036854775807)) (
    let x7:=(v6++([44]:Bs))
    chk (ixl v7 v5.branches) (
     let x8:=List.getD v5.branches (Int.toNat v7) (av (.num .i64))
     an (aB o0_0 o1_0 x8) (fun r3=>
      chk (decide (List.length x7+List.length r3.1≤9223372036854775807)) (
       let x9:=(IntKind.wrap .i64 (v7+1))
       again0 (v5,(x7++r3.1),x9,r3.2.1,r3.2.2)))))) (
   chk (ixl v7 v5.branches) (
    let x10:=List.getD v5.branches (Int.toNat v7) (av (.num .i64))
    an (aB o0_0 o1_0 x10) (fun r4=>
     chk (decide (List.length v6+List.length r4.1≤9223372036854775807)) (
      let x11:=(IntKind.wrap .i64 (v7+1))
      again0 (v5,(v6++r4.1),x11,r4.2.1,r4.2.2)))))) (
  chk (decide (List.length v6+List.length ([93]:Bs)≤9223372036854775807)) (
   let x12:=(v6++([93]:Bs))
   some (.str x12,[some [.mp .ib o0_0],some [.sl .atype (.may false) o1_0,.mr 0]])))
theorem tQ(N:Nat):LB (jQ N) fj (gl N):=fun _ _=>by kernel_rfl
def cz(N:Nat)(o0_0:List (Int×Bool))(o1_0:List am)(p1:Int)(q0:dJ→Ro):Ro:=
 let z0:=fun g0 g1 g2=>(some (.str g0,[some [.mp .ib g1],some [.sl .atype (.may false) g2,.mr 0]]):Ro)
 chk (ixl p1 o1_0) (
  let x1:=(List.getD o1_0 (Int.toNat p1) (av .atype))
  cond (x1.kind==12) (
   an (aB o0_0 o1_0 x1.items) (fun r1=>
    chk (decide (List.length ([123,34,116,121,112,101,34,58,34,97,114,114,97,121,34,44,34,105,116,101,109,115,34,58]:Bs)+List.length r1.1≤9223372036854775807)) (
     let x2:=(([123,34,116,121,112,101,34,58,34,97,114,114,97,121,34,44,34,105,116,101,109,115,34,58]:Bs)++r1.1)
     chk (decide (List.length x2+List.length ([125]:Bs)≤9223372036854775807)) (
      let x3:=(x2++([125]:Bs))
      z0 x3 r1.2.1 r1.2.2)))) (
   cond (x1.kind==13) (
    an (aB o0_0 o1_0 x1.items) (fun r2=>
     chk (decide (List.length ([123,34,116,121,112,101,34,58,34,109,97,112,34,44,34,118,97,108,117,101,115,34,58]:Bs)+List.length r2.1≤9223372036854775807)) (
      let x4:=(([123,34,116,121,112,101,34,58,34,109,97,112,34,44,34,118,97,108,117,101,115,34,58]:Bs)++r2.1)
      chk (decide (List.length x4+List.length ([125]:Bs)≤9223372036854775807)) (
       let x5:=(x4++([125]:Bs))
       z0 x5 r2.2.1 r2.2.2)))) (
    cond (x1.kind==14) (
     q0 (x1,([91]:Bs),0,o0_0,o1_0)) (
     cond (x1.kind==9) (
      let x13:=(zm (k:=.ib) o0_0 p1)
      cond x13 (
       an (bq x1.name) (fun(r5:Bs)=>
        z0 r5 o0_0 o1_0)) (
       let x14:=(eV (k:=.ib) o0_0 p1 true)
       an (bq x1.name) (fun(r6:Bs)=>
        chk (decide (List.length ([123,34,110,97,109,101,34,58]:Bs)+List.length r6≤9223372036854775807)) (
         let x15:=(([123,34,110,97,109,101,34,58]:Bs)++r6)
         chk (decide (List.length x15+List.length ([44,34,116,121,112,101,34,58]:Bs)≤9223372036854775807)) (
          let x16:=(x15++([44,34,116,121,112,101,34,58]:Bs))
          an (ee x1.kind) (fun(r7:Bs)=>
           an (bq r7) (fun(r8:Bs)=>
            chk (decide (List.length x16+List.length r8≤9223372036854775807)) (
             an (aY x14 o1_0 x1) (fun r9=>
              chk (decide (List.length (x16++r8)+List.length r9.1≤9223372036854775807)) (
               chk (decide (List.length ((x16++r8)++r9.1)+List.length ([125]:Bs)≤9223372036854775807)) (
                let x17:=(((x16++r8)++r9.1)++([125]:Bs))
                z0 x17 r9.2.1 r9.2.2))))))))))) (
      cond (x1.kind==10) (
       let x18:=(zm (k:=.ib) o0_0 p1)
       cond x18 (
        an (bq x1.name) (fun(r10:Bs)=>
         z0 r10 o0_0 o1_0)) (
        let x19:=(eV (k:=.ib) o0_0 p1 true)
        an (bq x1.name) (fun(r11:Bs)=>
         chk (decide (List.length ([123,34,110,97,109,101,34,58]:Bs)+List.length r11≤9223372036854775807)) (
          let x20:=(([123,34,110,97,109,101,34,58]:Bs)++r11)
          chk (decide (List.length x20+List.length ([44,34,116,121,112,101,34,58]:Bs)≤9223372036854775807)) (
           let x21:=(x20++([44,34,116,121,112,101,34,58]:Bs))
           an (ee x1.kind) (fun(r12:Bs)=>
            an (bq r12) (fun(r13:Bs)=>
             chk (decide (List.length x21+List.length r13≤9223372036854775807)) (
              an (aY x19 o1_0 x1) (fun r14=>
               chk (decide (List.length (x21++r13)+List.length r14.1≤9223372036854775807)) (
                chk (decide (List.length ((x21++r13)++r14.1)+List.length ([125]:Bs)≤9223372036854775807)) (
                 let x22:=(((x21++r13)++r14.1)++([125]:Bs))
                 z0 x22 r14.2.1 r14.2.2))))))))))) (
       cond (x1.kind==11) (
        let x23:=(zm (k:=.ib) o0_0 p1)
        cond x23 (
         an (bq x1.name) (fun(r15:Bs)=>
          z0 r15 o0_0 o1_0)) (
         let x24:=(eV (k:=.ib) o0_0 p1 true)
         an (bq x1.name) (fun(r16:Bs)=>
          chk (decide (List.length ([123,34,110,97,109,101,34,58]:Bs)+List.length r16≤9223372036854775807)) (
           let x25:=(([123,34,110,97,109,101,34,58]:Bs)++r16)
           chk (decide (List.length x25+List.length ([44,34,116,121,112,101,34,58]:Bs)≤9223372036854775807)) (
            let x26:=(x25++([44,34,116,121,112,101,34,58]:Bs))
            an (ee x1.kind) (fun(r17:Bs)=>
             an (bq r17) (fun(r18:Bs)=>
              chk (decide (List.length x26+List.length r18≤9223372036854775807)) (
               an (aY x24 o1_0 x1) (fun r19=>
                chk (decide (List.length (x26++r18)+List.length r19.1≤9223372036854775807)) (
                 chk (decide (List.length ((x26++r18)++r19.1)+List.length ([125]:Bs)≤9223372036854775807)) (
                  let x27:=(((x26++r18)++r19.1)++([125]:Bs))
                  z0 x27 r19.2.1 r19.2.2))))))))))) (
        an (ee x1.kind) (fun(r20:Bs)=>
         an (bq r20) (fun(r21:Bs)=>
          z0 r21 o0_0 o1_0)))))))))
def gX(N:Nat)(o0_0:List (Int×Bool))(o1_0:List am)(p1:Int):Ro:=cz N o0_0 o1_0 p1 (fun z=>aP N (gl N) z)
theorem jR(N:Nat)(o0_0:List (Int×Bool))(o1_0:List am)(p1:Int)(h:Tot (gX N o0_0 o1_0 p1) (fun z=>∃(y0:Bs)(y1:List (Int×Bool))(y2:List am)(rest:List aq),z.1.dimR=.str y0∧z.2=some [.mp .ib y1]::some [.sl .atype (.may false) y2,.mr 0]::rest∧eW o0_0 o1_0 p1 (y0,y1,y2))):∃r,aB o0_0 o1_0 p1 r:=FnC.finO (css:=[[.mp .ib o0_0],[.sl .atype (.may false) o1_0,.mr 0]]) we (N:=N) ((cd _ (by kernel_rfl) rfl (fun C=>cz N o0_0 o1_0 p1 (fun z=>C 1000000 (fj z))) (fun C=>by kernel_rfl)).trans (Eq.trans (b:=cz N o0_0 o1_0 p1 (fun z=>bd N (jQ N) (fj z))) (by kernel_rfl) (congrArg (cz N o0_0 o1_0 p1) (funext fun z=>be (fj) (jQ N) (gl N) (tQ N) N z)))) h fun _ ⟨y0,y1,y2,_,e,f,q⟩=>⟨(y0,y1,y2),e,⟨_,f⟩,q⟩
def jS:j9:=fun f us css=>match f,us,css with
 |25,[.ptr 1 0,.int .i64 a1],[[.mp .ib o0_0],[.sl .atype (.may false) o1_0,.mr 0]]=>some (can (aB o0_0 o1_0 a1),.str ((pick (aB o0_0 o1_0 a1)).1),[[.mp .ib ((pick (aB o0_0 o1_0 a1)).2.1)],[.sl .atype (.may false) ((pick (aB o0_0 o1_0 a1)).2.2),.mr 0]])
 |_,_,_=>none
noncomputable def cA:az:=(jt 2 jS (kK (rR (P:=Tryd.prog) [ahT,aah])))
theorem sI:b7 cA [25,2000025]:=(mW (by
 intro f us css hf
 unfold jS
 split<;>first|rfl|(simp at hf)) (hU _ _))
theorem tl:bI Tryd.prog cA:=by
 refine qT ?_ ?_
 ·intro f us css v css' h
  unfold jS at h
  split at h
  ·simp only[Option.some.injEq,Prod.mk.injEq] at h
   obtain⟨hc,rfl,rfl⟩:=h
   exact((lh hc).1).dim rfl
  ·simp at h
 exact qR _
def mK:IR:=Sq (Rs [Mv 18 6,Fa 19 4 3,Lq 20 19,Ll 21 20,Bi 22 .lss 18 21] (Cn 22 .skip (.exit 1))) (Sq (.block 2 (Sq (Rs [Mv 25 6,Bc 26 .gtr 25 0] (Cn 26 (Rg [Mv 27 5,Pp (.bin 28 .add 27 (kS [44])),Mv 5 28]) .skip)) (Rg [Mv 29 5,Fa 30 4 3,Lq 31 30,Mv 32 6,Ix 33 .str 31 32,Lq 34 33,Ca 35 33 [34],Bi 36 .add 29 35,Mv 5 36]))) (Rg [Mv 23 6,Bc 24 .add 23 1,Mv 6 24]))
def mL:IR:=Rs [Mv 37 5,Pp (.bin 38 .add (kS [44,34,115,121,109,98,111,108,115,34,58,91]) 37),Pp (.bin 39 .add 38 (kS [93])),Mv 4 39] .ret
def lW:IR:=Sq (Rs [Mv 40 7,Fa 41 8 3,Lq 42 41,Ll 43 42,Bi 44 .lss 40 43] (Cn 44 .skip (.exit 3))) (Sq (.block 4 (Sq (Rs [Mv 47 7,Bc 48 .gtr 47 0] (Cn 48 (Rg [Mv 49 5,Pp (.bin 50 .add 49 (kS [44])),Mv 5 50]) .skip)) (.reg [Mv 51 5,Pp (.bin 52 .add 51 (kS [123,34,110,97,109,101,34,58])),Fa 53 8 3,Lq 54 53,Mv 55 7,Ix 56 .afield 54 55,Fa 57 0 56,Fo [] [] (.ld 58 1 false false 57),Ca 59 33 [58],Bi 60 .add 52 59,Pp (.bin 61 .add 60 (kS [44,34,116,121,112,101,34,58])),Mv 62 0,Fa 63 8 3,Lq 64 63,Mv 65 7,Ix 66 .afield 64 65,Fa 67 2 66,Fo [] [] (.ld 68 1 false false 67),Fo [] [0,1] (.call 69 25 [62,68]),Bi 70 .add 61 69,Pp (.bin 71 .add 70 (kS [125])),Mv 5 71] [[],[0],[],[2],[],[2,3,4],rg 2 5,rg 2 6,rg 2 7,rg 0 8,rg 0 9,[],[],[12],[],[12,13,14],rg 12 15,rg 12 16,rg 2 8++rg 11 17,rg 0 18,rg 0 19,rg 0 20]))) (Rg [Mv 45 7,Bc 46 .add 45 1,Mv 7 46]))
def lX:IR:=Rs [Mv 72 5,Pp (.bin 73 .add (kS [44,34,102,105,101,108,100,115,34,58,91]) 72),Pp (.bin 74 .add 73 (kS [93])),Mv 4 74] .ret
def lY:IR:=Sq (Rs [Mi 7 0] (.block 3 (.loop [0,3,5,7,1000001] 2 lW))) lX
def u7:IR:=Rs [Bx 3 1,Ms 4 []] (Rs [Ms 5 []] (Sq (Rs [Fa 8 0 3,Lq 9 8] (.block 0 (Rs [Bc 11 .eql 9 11,Mv 10 11] (Cn 10 (Rs [Fa 12 7 3,Lq 13 12,Ca 14 32 [13],Pp (.bin 15 .add (kS [44,34,115,105,122,101,34,58]) 14),Mv 4 15] .ret) (Rs [Bc 17 .eql 9 10,Mv 16 17] (Cn 16 (Sq (Rs [Mi 6 0] (.block 1 (.loop [3,5,6,1000000] 2 mK))) mL) .skip)))))) lY))
def jT:List RV:=[.t 4]
theorem u9:FnC Tryd.prog cA [25,2000025] 2 oW Tryd.f51 u7 jT:=⟨tl,sI,Tryd.func51,by kernel_rfl,by kernel_rfl,by decide⟩
def tR(R:IR→(Ex→St→Ro)→St→Ro)(again0:St→Ro):Ex→St→Ro:=(bG again0 [3,5,6,1000000] 2 (aJ 1 (kseq (R mL) (aJ 0 (kseq (R lY) (fin jT))))))
abbrev dm:Type:=(am×Bs×Int×List (Int×Bool)×List am)
def eQ(x:dm):St:={env:=(U 3 (.ea (enc .atype x.1)::.undef::.str x.2.1::.int .i64 x.2.2.1::(U 68 []))),hp:=[some [.mp .ib x.2.2.2.1],some [.sl .atype (.may false) x.2.2.2.2,.mr 0]]}
def jh(N:Nat):(St→Ro)→St→Ro:=fun again0 s=>run cA N mK (tR (run cA N) again0) s
def fl(N:Nat)(again0:dm→Ro)(x:dm):Ro:=
 let v3:am:=x.1
 let v5:Bs:=x.2.1
 let v6:Int:=x.2.2.1
 let o0_0:List (Int×Bool):=x.2.2.2.1
 let o1_0:List am:=x.2.2.2.2
 let x2:=(↑(List.length v3.syms):Int)
 cond (decide (v6<x2)) (
  cond (decide (0<v6)) (
   chk (decide (List.length v5+List.length ([44]:Bs)≤9223372036854775807)) (
    let x3:=(v5++([44]:Bs))
    chk (ixl v6 v3.syms) (
     let x4:=List.getD v3.syms (Int.toNat v6) (av .str)
     an (bq x4) (fun(r2:Bs)=>
      chk (decide (List.length x3+List.length r2≤9223372036854775807)) (
       let x5:=(IntKind.wrap .i64 (v6+1))
       again0 (v3,(x3++r2),x5,o0_0,o1_0)))))) (
   chk (ixl v6 v3.syms) (
    let x6:=List.getD v3.syms (Int.toNat v6) (av .str)
    an (bq x6) (fun(r3:Bs)=>
     chk (decide (List.length v5+List.length r3≤9223372036854775807)) (
      let x7:=(IntKind.wrap .i64 (v6+1))
      again0 (v3,(v5++r3),x7,o0_0,o1_0)))))) (
  chk (decide (List.length ([44,34,115,121,109,98,111,108,115,34,58,91]:Bs)+List.length v5≤9223372036854775807)) (
   let x8:=(([44,34,115,121,109,98,111,108,115,34,58,91]:Bs)++v5)
   chk (decide (List.length x8+List.length ([93]:Bs)≤9223372036854775807)) (
    let x9:=(x8++([93]:Bs))
    some (.str x9,[some [.mp .ib o0_0],some [.sl .atype (.may false) o1_0,.mr 0]]))))
theorem tm(N:Nat):LB (jh N) eQ (fl N):=fun _ _=>by kernel_rfl
def tS(R:IR→(Ex→St→Ro)→St→Ro)(again1:St→Ro):Ex→St→Ro:=(bG again1 [0,3,5,7,1000001] 2 (aJ 3 (kseq (R lX) (fin jT))))
abbrev dn:Type:=(am×Bs×Int×List (Int×Bool)×List am)
def eR(x:dn):St:={env:=(.ptr 1 0::.undef::.undef::.ea (enc .atype x.1)::.undef::.str x.2.1::.undef::.int .i64 x.2.2.1::(U 67 [])),hp:=[some [.mp .ib x.2.2.2.1],some [.sl .atype (.may false) x.2.2.2.2,.mr 0]]}
def ji(N:Nat):(St→Ro)→St→Ro:=fun again1 s=>run cA N lW (tS (run cA N) again1) s
def fm(N:Nat)(again1:dn→Ro)(x:dn):Ro:=
 let v3:am:=x.1
 let v5:Bs:=x.2.1
 let v7:Int:=x.2.2.1
 let o0_0:List (Int×Bool):=x.2.2.2.1
 let o1_0:List am:=x.2.2.2.2
 let x10:=(↑(List.length v3.fields):Int)
 cond (decide (v7<x10)) (
  cond (decide (0<v7)) (
   chk (decide (List.length v5+List.length ([44]:Bs)≤9223372036854775807)) (
    let x11:=(v5++([44]:Bs))
    chk (decide (List.length x11+List.length ([123,34,110,97,109,101,34,58]:Bs)≤9223372036854775807)) (
     let x12:=(x11++([123,34,110,97,109,101,34,58]:Bs))
     chk (ixl v7 v3.fields) (
      let x13:=(List.getD v3.fields (Int.toNat v7) (av .afield))
      an (bq x13.name) (fun(r4:Bs)=>
       chk (decide (List.length x12+List.length r4≤9223372036854775807)) (
        chk (decide (List.length (x12++r4)+List.length ([44,34,116,121,112,101,34,58]:Bs)≤9223372036854775807)) (
         let x14:=((x12++r4)++([44,34,116,121,112,101,34,58]:Bs))
         chk (ixl v7 v3.fields) (
          let x15:=(List.getD v3.fields (Int.toNat v7) (av .afield))
          an (aB o0_0 o1_0 x15.typ) (fun r5=>
           chk (decide (List.length x14+List.length r5.1≤9223372036854775807)) (
            chk (decide (List.length (x14++r5.1)+List.length ([125]:Bs)≤9223372036854775807)) (
             let x16:=((x14++r5.1)++([125]:Bs))
             let x17:=(IntKind.wrap .i64 (v7+1))
             again1 (v3,x16,x17,r5.2.1,r5.2.2)))))))))))) (
   chk (decide (List.length v5+List.length ([123,34,110,97,109,101,34,58]:Bs)≤9223372036854775807)) (
    let x18:=(v5++([123,34,110,97,109,101,34,58]:Bs))
    chk (ixl v7 v3.fields) (
     let x19:=(List.getD v3.fields (Int.toNat v7) (av .afield))
     an (bq x19.name) (fun(r6:Bs)=>
      chk (decide (List.length x18+List.length r6≤9223372036854775807)) (
       chk (decide (List.length (x18++r6)+List.length ([44,34,116,121,112,101,34,58]:Bs)≤9223372036854775807)) (
        let x20:=((x18++r6)++([44,34,116,121,112,101,34,58]:Bs))
        chk (ixl v7 v3.fields) (
         let x21:=(List.getD v3.fields (Int.toNat v7) (av .afield))
         an (aB o0_0 o1_0 x21.typ) (fun r7=>
          chk (decide (List.length x20+List.length r7.1≤9223372036854775807)) (
           chk (decide (List.length (x20++r7.1)+List.length ([125]:Bs)≤9223372036854775807)) (
            let x22:=((x20++r7.1)++([125]:Bs))
            let x23:=(IntKind.wrap .i64 (v7+1))
            again1 (v3,x22,x23,r7.2.1,r7.2.2)))))))))))) (
  chk (decide (List.length ([44,34,102,105,101,108,100,115,34,58,91]:Bs)+List.length v5≤9223372036854775807)) (
   let x24:=(([44,34,102,105,101,108,100,115,34,58,91]:Bs)++v5)
   chk (decide (List.length x24+List.length ([93]:Bs)≤9223372036854775807)) (
    let x25:=(x24++([93]:Bs))
    some (.str x25,[some [.mp .ib o0_0],some [.sl .atype (.may false) o1_0,.mr 0]]))))
theorem tn(N:Nat):LB (ji N) eR (fm N):=fun _ _=>by kernel_rfl
def dK(N:Nat)(o0_0:List (Int×Bool))(o1_0:List am)(p1:am)(q0:dm→Ro)(q1:dn→Ro):Ro:=
 cond (p1.kind==11) (
  an (nT p1.size) (fun(r1:Bs)=>
   chk (decide (List.length ([44,34,115,105,122,101,34,58]:Bs)+List.length r1≤9223372036854775807)) (
    let x1:=(([44,34,115,105,122,101,34,58]:Bs)++r1)
    some (.str x1,[some [.mp .ib o0_0],some [.sl .atype (.may false) o1_0,.mr 0]])))) (
  cond (p1.kind==10) (
   q0 (p1,([]:Bs),0,o0_0,o1_0)) (
   q1 (p1,([]:Bs),0,o0_0,o1_0)))
def oi(N:Nat)(o0_0:List (Int×Bool))(o1_0:List am)(p1:am):Ro:=dK N o0_0 o1_0 p1 (fun z=>aP N (fl N) z) (fun z=>aP N (fm N) z)
theorem tT(N:Nat)(o0_0:List (Int×Bool))(o1_0:List am)(p1:am)(h:Tot (oi N o0_0 o1_0 p1) (fun z=>∃(y0:Bs)(y1:List (Int×Bool))(y2:List am)(rest:List aq),z.1.dimR=.str y0∧z.2=some [.mp .ib y1]::some [.sl .atype (.may false) y2,.mr 0]::rest∧mu o0_0 o1_0 p1 (y0,y1,y2))):∃r,aY o0_0 o1_0 p1 r:=FnC.finO (css:=[[.mp .ib o0_0],[.sl .atype (.may false) o1_0,.mr 0]]) u9 (N:=N) ((cd _ (by kernel_rfl) rfl (fun C=>dK N o0_0 o1_0 p1 (fun z=>C 1000000 (eQ z)) (fun z=>C 1000001 (eR z))) (fun C=>by kernel_rfl)).trans (Eq.trans (b:=dK N o0_0 o1_0 p1 (fun z=>bd N (jh N) (eQ z)) (fun z=>bd N (ji N) (eR z))) (by kernel_rfl) (congr (congrArg (dK N o0_0 o1_0 p1) (funext fun z=>be (eQ) (jh N) (fl N) (tm N) N z)) (funext fun z=>be (eR) (ji N) (fm N) (tn N) N z)))) h fun _ ⟨y0,y1,y2,_,e,f,q⟩=>⟨(y0,y1,y2),e,⟨_,f⟩,q⟩
end Go.Proofs.YtkinflmjagfapaaDoor
end
noncomputable section
namespace Go.Proofs.YtkinflmjagfapaaDoor
open Go.AM
set_option autoImplicit false
set_option linter.unusedVariables false
set_option maxRecDepth 100000
def yt:Nat→List V→Option (Bool×V):=fun _ _=>none
def q8:j9:=fun f us css=>match f,us,css with
 |25,[.ptr 1 0,.int .i64 a1],[[.mp .ib o0_0],[.sl .atype (.may false) o1_0,.mr 0]]=>some (can (aB o0_0 o1_0 a1),.str ((pick (aB o0_0 o1_0 a1)).1),[[.mp .ib ((pick (aB o0_0 o1_0 a1)).2.1)],[.sl .atype (.may false) ((pick (aB o0_0 o1_0 a1)).2.2),.mr 0]])
 |_,_,_=>none
def rV:az:=(jt 2 q8 (kK yt))
theorem abl:b7 rV [25,2000025]:=(mW (by
 intro f us css hf
 unfold q8
 split<;>first|rfl|(simp at hf)) (hU _ _))
theorem acl:bI Tryd.prog rV:=by
 refine qT ?_ ?_
 ·intro f us css v css' h
  unfold q8 at h
  split at h
  ·simp only[Option.some.injEq,Prod.mk.injEq] at h
   obtain⟨hc,rfl,rfl⟩:=h
   exact((lh hc).1).dim rfl
  ·simp at h
 intro f vs hp v hp' h
 obtain⟨h, -⟩:=tY h
 simp[yt] at h
def ad4:IR:=Rs [Bx 1 0,Ms 2 []] (Sq (Rs [Fa 4 0 1,Lq 5 4,Ll 6 5,Bc 7 .eql 6 0] (Cn 7 (Rs [Ms 2 []] .ret) .skip)) (Rs [Ld 8 1 true 1,Pp (.mkm 9 .ib),Pp (.bld 10 [fu .atype true,.nilm] [(0,1,8),(1,1,9)]),Pp (.box 11 10),Mv 3 11] (Rs [Mv 12 3,Ca 13 25 [12,kI 0],Mv 2 13] .ret)))
def ad5:List RV:=[.t 2]
theorem ad6:FnC Tryd.prog rV [25,2000025] 0 xV Tryd.f14 ad4 ad5:=⟨acl,abl,Tryd.func14,by kernel_rfl,by kernel_rfl,by decide⟩
def wg(N:Nat)(p0_0:List am):Ro:=
 let x1:=(↑(List.length p0_0):Int)
 cond (x1==0) (
  some (.str ([]:Bs),[])) (
  an (aB ([]:List (Int×Bool)) p0_0 0) (fun r1=>
   some (.str r1.1,[some [.mp .ib r1.2.1],some [.sl .atype (.may false) r1.2.2,.mr 0]])))
def wh(N:Nat)(p0_0:List am):Ro:=wg N p0_0
theorem ac8(N:Nat)(p0_0:List am)(h:Tot (wh N p0_0) (fun z=>∃(y0:Bs)(rest:List aq),z.1.dimR=.str y0∧z.2=rest∧s4 p0_0 (y0))):∃r,ll p0_0 r:=ad6.finP (N:=N) (by kernel_rfl) h fun _ ⟨y0,_,e,_,q⟩=>⟨(y0),e,q⟩
end Go.Proofs.YtkinflmjagfapaaDoor
end
noncomputable section
namespace Go.Proofs.YtkinflmjagfapaaDoor
open Go.AM
set_option autoImplicit false
set_option linter.unusedVariables false
set_option maxRecDepth 100000
noncomputable def tp:az:=tab (P:=Tryd.prog) [] [] [] []
def tq:IR:=Sq (Rs [Mv 6 4,Mv 7 0,Pp (.lens 8 7),Bi 9 .lss 6 8] (Cn 9 .skip (.exit 0))) (Sq (.block 1 (Rs [Mv 12 0,Mv 13 4,Pp (.idx 14 12 13),Mv 5 14] (.block 2 (Rs [Mv 23 5,Pp (.bin 24 .eql 23 (.c (.int .u8 34))),Mv 25 24,Gf 25 (.mov 26 5),Gf 25 (.bin 27 .eql 26 (.c (.int .u8 92))),Po 28 25 27,Mv 22 28] (Cn 22 (Rg [Mv 29 3,Pp (.bin 30 .add 29 (kS [92])),Mv 31 0,Mv 32 4,Mv 33 4,Bc 34 .add 33 1,Pp (.subs 35 31 (some 32) (some 34)),Bi 36 .add 30 35,Mv 3 36]) (Rs [Mv 38 5,Pp (.bin 39 .eql 38 (.c (.int .u8 8))),Mv 37 39] (Cn 37 (Rg [Mv 40 3,Pp (.bin 41 .add 40 (kS [92,98])),Mv 3 41]) (Rs [Mv 43 5,Pp (.bin 44 .eql 43 (.c (.int .u8 12))),Mv 42 44] (Cn 42 (Rg [Mv 45 3,Pp (.bin 46 .add 45 (kS [92,102])),Mv 3 46]) (Rs [Mv 48 5,Pp (.bin 49 .eql 48 (.c (.int .u8 10))),Mv 47 49] (Cn 47 (Rg [Mv 50 3,Pp (.bin 51 .add 50 (kS [92,110])),Mv 3 51]) (Rs [Mv 53 5,Pp (.bin 54 .eql 53 (.c (.int .u8 13))),Mv 52 54] (Cn 52 (Rg [Mv 55 3,Pp (.bin 56 .add 55 (kS [92,114])),Mv 3 56]) (Rs [Mv 58 5,Pp (.bin 59 .eql 58 (.c (.int .u8 9))),Mv 57 59] (Cn 57 (Rg [Mv 60 3,Pp (.bin 61 .add 60 (kS [92,116])),Mv 3 61]) (Rs [Mv 63 5,Pp (.bin 64 .lss 63 (.c (.int .u8 32))),Mv 62 64] (Cn 62 (.reg [Mv 65 3,Pp (.bin 66 .add 65 (kS [92,117,48,48])),Mv 67 5,Pp (.bin 68 .quo 67 (.c (.int .u8 16))),Mv 69 5,Pp (.bin 70 .quo 69 (.c (.int .u8 16))),Pp (.bin 71 .add 70 (.c (.int .u8 1))),Pp (.subs 72 (kS [48,49,50,51,52,53,54,55,56,57,97,98,99,100,101,102]) (some 68) (some 71)),Bi 73 .add 66 72,Mv 74 5,Pp (.bin 75 .rem 74 (.c (.int .u8 16))),Mv 76 5,Pp (.bin 77 .rem 76 (.c (.int .u8 16))),Pp (.bin 78 .add 77 (.c (.int .u8 1))),Pp (.subs 79 (kS [48,49,50,51,52,53,54,55,56,57,97,98,99,100,101,102]) (some 75) (some 78)),Bi 80 .add 73 79,Mv 3 80] [[],[0],[],[2],[],[4],[4,5],rg 2 6,rg 0 7,[],[9],[],[11],[11,12],rg 9 13,rg 0 14,rg 0 15]) (Rg [Mv 15 3,Mv 16 0,Mv 17 4,Mv 18 4,Bc 19 .add 18 1,Pp (.subs 20 16 (some 17) (some 19)),Bi 21 .add 15 20,Mv 3 21])))))))))))))))))) (Rg [Mv 10 4,Bc 11 .add 10 1,Mv 4 11]))
def tr:IR:=Rs [Mv 81 3,Pp (.bin 82 .add 81 (kS [34])),Mv 2 82] .ret
def afC:IR:=Rs [Ms 2 []] (Rs [Ms 3 [34]] (Sq (Rs [Mi 4 0] (.block 0 (.loop [0,3,4,1000000] 0 tq))) tr))
def yu:List RV:=[.t 2]
theorem afD:FnC Tryd.prog tp [] 0 aag Tryd.f33 afC yu:=fnC Tryd.func33
def ad7(R:IR→(Ex→St→Ro)→St→Ro)(again0:St→Ro):Ex→St→Ro:=(bG again0 [0,3,4,1000000] 0 (aJ 0 (kseq (R tr) (fin yu))))
abbrev ni:Type:=(Bs×Bs×Int)
def lZ(x:ni):St:={env:=(.str x.1::.undef::.undef::.str x.2.1::.int .i64 x.2.2::(U 78 [])),hp:=[]}
def q9(N:Nat):(St→Ro)→St→Ro:=fun again0 s=>run tp N tq (ad7 (run tp N) again0) s
def cP(N:Nat)(again0:ni→Ro)(x:ni):Ro:=
 let v0:Bs:=x.1
 let v3:Bs:=x.2.1
 let v4:Int:=x.2.2
 let x1:=(↑(List.length v0):Int)
 cond (decide (v4<x1)) (
  chk (ixl v4 v0) (
   let x2:=(↑(UInt8.toNat (List.getD v0 (Int.toNat v4) 0)):Int)
   cond (x2==34) (
    chk (decide (List.length v3+List.length ([92]:Bs)≤9223372036854775807)) (
     let x3:=(v3++([92]:Bs))
     let x4:=(IntKind.wrap .i64 (v4+1))
     chk ((decide (0≤x4)&&decide (x4≤(↑(List.length v0):Int))&&(decide (0≤v4)&&decide (v4≤x4)))) (
      let x5:=(List.drop (Int.toNat v4) (List.take (Int.toNat x4) v0))
      chk (decide (List.length x3+List.length x5≤9223372036854775807)) (
       let x6:=(IntKind.wrap .i64 (v4+1))
       again0 (v0,(x3++x5),x6))))) (
    cond (x2==92) (
     chk (decide (List.length v3+List.length ([92]:Bs)≤9223372036854775807)) (
      let x7:=(v3++([92]:Bs))
      let x8:=(IntKind.wrap .i64 (v4+1))
      chk ((decide (0≤x8)&&decide (x8≤(↑(List.length v0):Int))&&(decide (0≤v4)&&decide (v4≤x8)))) (
       let x9:=(List.drop (Int.toNat v4) (List.take (Int.toNat x8) v0))
       chk (decide (List.length x7+List.length x9≤9223372036854775807)) (
        let x10:=(IntKind.wrap .i64 (v4+1))
        again0 (v0,(x7++x9),x10))))) (
     cond (x2==8) (
      chk (decide (List.length v3+List.length ([92,98]:Bs)≤9223372036854775807)) (
       let x11:=(v3++([92,98]:Bs))
       let x12:=(IntKind.wrap .i64 (v4+1))
       again0 (v0,x11,x12))) (
      cond (x2==12) (
       chk (decide (List.length v3+List.length ([92,102]:Bs)≤9223372036854775807)) (
        let x13:=(v3++([92,102]:Bs))
        let x14:=(IntKind.wrap .i64 (v4+1))
        again0 (v0,x13,x14))) (
       cond (x2==10) (
        chk (decide (List.length v3+List.length ([92,110]:Bs)≤9223372036854775807)) (
         let x15:=(v3++([92,110]:Bs))
         let x16:=(IntKind.wrap .i64 (v4+1))
         again0 (v0,x15,x16))) (
        cond (x2==13) (
         chk (decide (List.length v3+List.length ([92,114]:Bs)≤9223372036854775807)) (
          let x17:=(v3++([92,114]:Bs))
          let x18:=(IntKind.wrap .i64 (v4+1))
          again0 (v0,x17,x18))) (
         cond (x2==9) (
          chk (decide (List.length v3+List.length ([92,116]:Bs)≤9223372036854775807)) (
           let x19:=(v3++([92,116]:Bs))
           let x20:=(IntKind.wrap .i64 (v4+1))
           again0 (v0,x19,x20))) (
          cond (decide (x2<32)) (
           chk (decide (List.length v3+List.length ([92,117,48,48]:Bs)≤9223372036854775807)) (
            let x21:=(v3++([92,117,48,48]:Bs))
            let x22:=(IntKind.wrap .u8 (Int.tdiv x2 16))
            let x23:=(IntKind.wrap .u8 (Int.tdiv x2 16))
            let x24:=(IntKind.wrap .u8 (x23+1))
            chk ((decide (0≤x24)&&decide (x24≤(↑(List.length ([48,49,50,51,52,53,54,55,56,57,97,98,99,100,101,102]:Bs)):Int))&&(decide (0≤x22)&&decide (x22≤x24)))) (
             let x25:=(List.drop (Int.toNat x22) (List.take (Int.toNat x24) ([48,49,50,51,52,53,54,55,56,57,97,98,99,100,101,102]:Bs)))
             chk (decide (List.length x21+List.length x25≤9223372036854775807)) (
              let x26:=(IntKind.wrap .u8 ((Int.tmod x2 16)+1))
              chk ((decide (0≤x26)&&decide (x26≤(↑(List.length ([48,49,50,51,52,53,54,55,56,57,97,98,99,100,101,102]:Bs)):Int))&&(decide (0≤(Int.tmod x2 16))&&decide ((Int.tmod x2 16)≤x26)))) (
               let x27:=(List.drop (Int.toNat (Int.tmod x2 16)) (List.take (Int.toNat x26) ([48,49,50,51,52,53,54,55,56,57,97,98,99,100,101,102]:Bs)))
               chk (decide (List.length (x21++x25)+List.length x27≤9223372036854775807)) (
                let x28:=(IntKind.wrap .i64 (v4+1))
                again0 (v0,((x21++x25)++x27),x28))))))) (
           let x29:=(IntKind.wrap .i64 (v4+1))
           chk ((decide (0≤x29)&&decide (x29≤(↑(List.length v0):Int))&&(decide (0≤v4)&&decide (v4≤x29)))) (
            let x30:=(List.drop (Int.toNat v4) (List.take (Int.toNat x29) v0))
            chk (decide (List.length v3+List.length x30≤9223372036854775807)) (
             let x31:=(IntKind.wrap .i64 (v4+1))
             again0 (v0,(v3++x30),x31))))))))))))) (
  chk (decide (List.length v3+List.length ([34]:Bs)≤9223372036854775807)) (
   let x32:=(v3++([34]:Bs))
   some (.str x32,[])))
theorem ac9(N:Nat):LB (q9 N) lZ (cP N):=fun _ _=>by kernel_rfl
def lp(N:Nat)(p0:Bs)(q0:ni→Ro):Ro:=
 q0 (p0,([34]:Bs),0)
def yv(N:Nat)(p0:Bs):Ro:=lp N p0 (fun z=>aP N (cP N) z)
theorem ad8(N:Nat)(p0:Bs)(h:Tot (yv N p0) (fun z=>∃(y0:Bs)(rest:List aq),z.1.dimR=.str y0∧z.2=rest∧pD p0 (y0))):∃r,bq p0 r:=afD.finP (N:=N) ((cd _ (by kernel_rfl) rfl (fun C=>lp N p0 (fun z=>C 1000000 (lZ z))) (fun C=>by kernel_rfl)).trans (Eq.trans (b:=lp N p0 (fun z=>bd N (q9 N) (lZ z))) (by kernel_rfl) (congrArg (lp N p0) (funext fun z=>be (lZ) (q9 N) (cP N) (ac9 N) N z)))) h fun _ ⟨y0,_,e,_,q⟩=>⟨(y0),e,q⟩
noncomputable def tt:az:=tab (P:=Tryd.prog) [] [] [] []
def ur:IR:=.block 1 (Rs [Mv 4 0,Pp (.bin 5 .rem 4 (kU 10)),Pp (.bin 6 .add (kU 48) 5),Pp (.cvi 7 .u8 6),Pp (.bsl 8 .u8 [7] true),Pp (.b2s 9 8),Mv 10 3,Bi 11 .add 9 10,Mv 3 11] (Rs [Mv 12 0,Pp (.bin 13 .quo 12 (kU 10)),Mv 0 13] (Rs [Mv 14 0,Pp (.bin 15 .eql 14 (kU 0))] (Cn 15 (Rs [Mv 16 3,Mv 2 16] .ret) .skip))))
def afE:IR:=Rs [Ms 2 []] (Rs [Ms 3 []] (.block 0 (.loop [0,3,1000000] 0 ur)))
def yw:List RV:=[.t 2]
theorem afF:FnC Tryd.prog tt [] 0 aaf Tryd.f65 afE yw:=fnC Tryd.func65
def ad9(R:IR→(Ex→St→Ro)→St→Ro)(again0:St→Ro):Ex→St→Ro:=(bG again0 [0,3,1000000] 0 (aJ 0 (fin yw)))
abbrev nj:Type:=(Int×Bs)
def l7(x:nj):St:={env:=(.int .u64 x.1::.undef::.undef::.str x.2::(U 13 [])),hp:=[]}
def ra(N:Nat):(St→Ro)→St→Ro:=fun again0 s=>run tt N ur (ad9 (run tt N) again0) s
def nk(N:Nat)(again0:nj→Ro)(x:nj):Ro:=
 let v0:Int:=x.1
 let v3:Bs:=x.2
 let x1:=(IntKind.wrap .u64 (48+(Int.tmod v0 10)))
 chk (decide (List.length ([(UInt8.ofNat (Int.toNat (IntKind.wrap .u8 x1)))]:Bs)+List.length v3≤9223372036854775807)) (
  let x2:=(([(UInt8.ofNat (Int.toNat (IntKind.wrap .u8 x1)))]:Bs)++v3)
  let x3:=(IntKind.wrap .u64 (Int.tdiv v0 10))
  cond (x3==0) (
   some (.str x2,[])) (
   again0 (x3,x2)))
theorem ada(N:Nat):LB (ra N) l7 (nk N):=fun _ _=>by kernel_rfl
def lq(N:Nat)(p0:Int)(q0:nj→Ro):Ro:=
 q0 (p0,([]:Bs))
def yx(N:Nat)(p0:Int):Ro:=lq N p0 (fun z=>aP N (nk N) z)
theorem aea(N:Nat)(p0:Int)(h:Tot (yx N p0) (fun z=>∃(y0:Bs)(rest:List aq),z.1.dimR=.str y0∧z.2=rest∧pE p0 (y0))):∃r,kg p0 r:=afF.finP (N:=N) ((cd _ (by kernel_rfl) rfl (fun C=>lq N p0 (fun z=>C 1000000 (l7 z))) (fun C=>by kernel_rfl)).trans (Eq.trans (b:=lq N p0 (fun z=>bd N (ra N) (l7 z))) (by kernel_rfl) (congrArg (lq N p0) (funext fun z=>be (l7) (ra N) (nk N) (ada N) N z)))) h fun _ ⟨y0,_,e,_,q⟩=>⟨(y0),e,q⟩
noncomputable def ah5:az:=tab (P:=Tryd.prog) [] [] [] [agL]
def ahi:IR:=Rs [Ms 2 []] (Sq (Rs [Mv 3 0,Bc 4 .lss 3 0] (Cn 4 (Rs [Mv 5 0,Bc 6 .add 5 1,Pp (.un 7 .neg 6),Pp (.cvi 8 .u64 7),Pp (.bin 9 .add 8 (kU 1)),Ca 10 65 [9],Pp (.bin 11 .add (kS [45]) 10),Mv 2 11] .ret) .skip)) (Rs [Mv 12 0,Pp (.cvi 13 .u64 12),Ca 14 65 [13],Mv 2 14] .ret))
def ahj:List RV:=[.t 2]
theorem ahk:FnC Tryd.prog ah5 [] 0 abG Tryd.f32 ahi ahj:=fnC Tryd.func32
def aaM(N:Nat)(p0:Int):Ro:=
 cond (decide (p0<0)) (
  let x1:=(IntKind.wrap .i64 (p0+1))
  let x2:=(IntKind.wrap .i64 (0-x1))
  let x3:=(IntKind.wrap .u64 ((IntKind.wrap .u64 x2)+1))
  an (kg x3) (fun(r1:Bs)=>
   chk (decide (List.length ([45]:Bs)+List.length r1≤9223372036854775807)) (
    let x4:=(([45]:Bs)++r1)
    some (.str x4,[])))) (
  an (kg (IntKind.wrap .u64 p0)) (fun(r2:Bs)=>
   some (.str r2,[])))
def aaN(N:Nat)(p0:Int):Ro:=aaM N p0
theorem afG(N:Nat)(p0:Int)(h:Tot (aaN N p0) (fun z=>∃(y0:Bs)(rest:List aq),z.1.dimR=.str y0∧z.2=rest∧vg p0 (y0))):∃r,nT p0 r:=ahk.finP (N:=N) (by kernel_rfl) h fun _ ⟨y0,_,e,_,q⟩=>⟨(y0),e,q⟩
end Go.Proofs.YtkinflmjagfapaaDoor
end
noncomputable section
namespace Go.Proofs.YtkinflmjagfapaaDoor
open Go.AM
set_option autoImplicit false
set_option linter.unusedSimpArgs false
set_option linter.unusedVariables false
theorem ahl(l:List UInt8)(i:Nat)(h:i<l.length):List.drop i (List.take (i+1) l)=[l.getD i 0]:=by
 rw[List.drop_take,show i+1-i=1 by omega,List.drop_eq_getElem_cons h,List.take_succ_cons,List.take_zero]
 simp[List.getD,h]
theorem ahm(N:Nat)(rec:(List UInt8×List UInt8×Int)→Option (V×List aq))(s o:List UInt8)(i:Nat)(hi:i<s.length)(hs:s.length≤9223372036854775806)(ho:o.length≤100000000):
  cP N rec (s,o,(i:Int))=rec (s,o++hD (s.getD i 0),((i+1:Nat):Int)):=by
 obtain⟨c,hc⟩:∃c,s.getD i 0=c:=⟨_,rfl⟩
 have hb:=UInt8.toNat_lt c
 have e:=ahl s i hi
 rw[hc] at e
 have hq:∀n:Nat,n<256→c.toNat=n→c=UInt8.ofNat n:=by intro n hn h;rw[←h];simp
 have hn:∀n:Nat,n<256→¬c.toNat=n→¬c=UInt8.ofNat n:=by rintro n hn h rfl;apply h;simp;omega
 have ti:((i:Int)+1).toNat=i+1:=by omega
 have xi:ixl (i:Int) s=true:=ixt (by omega)
 simp only[cP,Int.toNat_natCast,hc,xi]
 by_cases h1:c.toNat=34
 ·have:=hq 34 (by omega) h1
  subst this
  simp(disch:=omega) only[jo,ti,e,List.length_append,List.length_cons,List.length_nil,List.append_assoc,List.cons_append,List.nil_append]
  rfl
 by_cases h2:c.toNat=92
 ·have:=hq 92 (by omega) h2
  subst this
  simp(disch:=omega) only[jo,ti,e,List.length_append,List.length_cons,List.length_nil,List.append_assoc,List.cons_append,List.nil_append]
  rfl
 by_cases h3:c.toNat=8
 ·have:=hq 8 (by omega) h3
  subst this
  simp(disch:=omega) only[jo,List.length_append,List.length_cons,List.length_nil]
  rfl
 by_cases h4:c.toNat=12
 ·have:=hq 12 (by omega) h4
  subst this
  simp(disch:=omega) only[jo,List.length_append,List.length_cons,List.length_nil]
  rfl
 by_cases h5:c.toNat=10
 ·have:=hq 10 (by omega) h5
  subst this
  simp(disch:=omega) only[jo,List.length_append,List.length_cons,List.length_nil]
  rfl
 by_cases h6:c.toNat=13
 ·have:=hq 13 (by omega) h6
  subst this
  simp(disch:=omega) only[jo,List.length_append,List.length_cons,List.length_nil]
  rfl
 by_cases h7:c.toNat=9
 ·have:=hq 9 (by omega) h7
  subst this
  simp(disch:=omega) only[jo,List.length_append,List.length_cons,List.length_nil]
  rfl
 have g1:¬c=34:=hn 34 (by omega) h1
 have g2:¬c=92:=hn 92 (by omega) h2
 have g3:¬c=8:=hn 8 (by omega) h3
 have g4:¬c=12:=hn 12 (by omega) h4
 have g5:¬c=10:=hn 10 (by omega) h5
 have g6:¬c=13:=hn 13 (by omega) h6
 have g7:¬c=9:=hn 9 (by omega) h7
 by_cases h8:c.toNat<32
 ·have hx:∀d:Nat,d<16→[([48,49,50,51,52,53,54,55,56,57,97,98,99,100,101,102]:List UInt8).getD d 0]=[adB d]:=by
   intro d hd
   have:∀d:Fin 16,[([48,49,50,51,52,53,54,55,56,57,97,98,99,100,101,102]:List UInt8).getD d.val 0]=[adB d.val]:=by decide
   exact this ⟨d,hd⟩
  have e1:Int.tdiv (c.toNat:Int) 16=((c.toNat / 16:Nat):Int):=akh _ 16
  have e2:Int.tmod (c.toNat:Int) 16=((c.toNat%16:Nat):Int):=aki _ 16
  have s1:=ahl [48,49,50,51,52,53,54,55,56,57,97,98,99,100,101,102] (c.toNat / 16) (by simp;omega)
  have s2:=ahl [48,49,50,51,52,53,54,55,56,57,97,98,99,100,101,102] (c.toNat%16) (by simp;omega)
  rw[hx _ (by omega)] at s1 s2
  have t1:(((c.toNat / 16:Nat):Int)+1).toNat=c.toNat / 16+1:=by omega
  have t2:(((c.toNat%16:Nat):Int)+1).toNat=c.toNat%16+1:=by omega
  have qe:hD c=[92,117,48,48,adB (c.toNat / 16),adB (c.toNat%16)]:=by
   unfold hD
   rw[if_neg g1,if_neg g2,if_neg g3,if_neg g4,if_neg g5,if_neg g6,if_neg g7,if_pos h8]
  rw[qe]
  simp only[e1,e2]
  simp(disch:=omega) only[jo,t1,t2,s1,s2,List.length_append,List.length_cons,List.length_nil,List.append_assoc,List.cons_append,List.nil_append]
  rfl
 ·have qe:hD c=[c]:=by
   unfold hD
   rw[if_neg g1,if_neg g2,if_neg g3,if_neg g4,if_neg g5,if_neg g6,if_neg g7,if_neg h8]
  rw[qe]
  simp(disch:=omega) only[jo,ti,e,List.length_cons,List.length_nil]
  rfl
theorem abO(N:Nat)(s:List UInt8)(hs:s.length≤10000):∀(k M i:Nat)(o:List UInt8),i+k=s.length→o.length≤1+6*i→
  aP (M+k+1) (cP N) (s,o,(i:Int))=some (.str (o++((s.drop i).flatMap hD++[34])),[])
 |0,M,i,o,hk,ho=>by
  show cP N _ _=_
  have e:i=s.length:=by omega
  subst e
  simp only[cP,List.drop_length,List.flatMap_nil,List.nil_append]
  simp(disch:=omega) only[jo,List.length_cons,List.length_nil]
 |k+1,M,i,o,hk,ho=>by
  show cP N (aP (M+k+1) (cP N)) _=_
  have hq:=wP (s.getD i 0)
  rw[ahm N _ s o i (by omega) (by omega) (by omega),abO N s hs k M (i+1) _ (by omega) (by rw[List.length_append];omega)]
  rw[List.drop_eq_getElem_cons (show i<s.length by omega),List.flatMap_cons]
  simp[List.getD,show i<s.length by omega]
theorem xJ(s:List UInt8)(hs:s.length≤10000):∃r,bq s r:=by
 apply ad8 10002
 have:=abO 10002 s hs s.length (10001-s.length) 0 [34] (by omega) (by simp)
 rw[show 10001-s.length+s.length+1=10002 by omega] at this
 unfold yv lp
 refine⟨_,this,_,_,rfl,rfl,?_⟩
 simp[pD,aM]
theorem ajL(v:Int)(hv:0≤v∧v≤1000000):∃r,kg v r:=by
 apply aea 2000000
 unfold yx lq
 refine aX (fun x=>∃a:Nat,x.1=(a:Int)∧a≤1000000∧x.2.length+a≤1000000∧Go.Lib.decDigits v.toNat=Go.Lib.decDigits a++x.2) (fun x=>x.1.toNat) ?_ _ _ ⟨v.toNat,by simp only;omega,by omega,by simp only[List.length_nil];omega,by simp⟩ (by simp only;omega)
 rintro again ⟨x0,o⟩ ⟨a,rfl,h1,h2,h3⟩ ih
 dsimp only at ih h2 h3
 have e1:Int.tmod (a:Int) 10=((a%10:Nat):Int):=by rw[Int.tmod_eq_emod_of_nonneg (by omega)];omega
 have e2:Int.tdiv (a:Int) 10=((a / 10:Nat):Int):=by rw[Int.tdiv_eq_ediv_of_nonneg (by omega)];omega
 have e3:IntKind.wrap .u64 (48+((a%10:Nat):Int))=((48+a%10:Nat):Int):=by rw[nK _ (by omega)];omega
 have e4:IntKind.wrap .u8 ((48+a%10:Nat):Int)=((48+a%10:Nat):Int):=by rw[pz _ (by omega)]
 have e5:IntKind.wrap .u64 ((a / 10:Nat):Int)=((a / 10:Nat):Int):=by rw[nK _ (by omega)]
 unfold nk
 dsimp only
 simp only[e1,e2,e3,e4,e5,Int.toNat_natCast]
 repeat' (first|(with_reducible refine au ?_ ?_<;>(intro hb;(try simp only[bnl] at hb);(try revert hb;intro _)))|with_reducible refine aA ?_ ?_|with_reducible refine ar ?_|fail)
 ·simp only[bnl,List.length_cons,List.length_nil];omega
 ·rename_i h
  refine⟨_,_,rfl,rfl,?_⟩
  simp only[pE]
  rw[h3,Go.Lib.decDigits,dif_pos (show a<10 by omega),show a%10=a by omega]
 ·rename_i h
  refine ih _ ⟨a / 10,rfl,by omega,by simp only[List.length_append,List.length_cons,List.length_nil];omega,?_⟩ (by simp only[Int.toNat_natCast];omega)
  simp only
  rw[h3]
  by_cases h10:a<10
  ·exfalso
   omega
  ·rw[Go.Lib.decDigits,dif_neg h10]
   simp
theorem akD(v:Int)(hv:0≤v∧v≤1000000):∃r,nT v r:=by
 apply afG 1
 unfold aaN aaM
 dsimp only
 refine au (fun h=>absurd (of_decide_eq_true h) (by omega)) (fun _=>?_)
 rw[nK v (by omega)]
 refine ao (ajL v hv) ?_
 rintro _ ⟨-,rfl⟩
 exact ar ⟨_,_,rfl,rfl,rfl⟩
end Go.Proofs.YtkinflmjagfapaaDoor
end
noncomputable section
namespace Go.Proofs.YtkinflmjagfapaaDoor
open Go.AM
set_option autoImplicit false
set_option linter.unusedVariables false
set_option maxRecDepth 100000
noncomputable def tu:az:=tab (P:=Tryd.prog) [] [] [55] [wR,yQ,ae2,adH,adJ]
def uu:IR:=Rs [Bi 47 .lss 46 45] (Sq (Cn 47 .skip (.exit 1)) (Sq (.block 2 (Rs [Mv 48 46,Mv 4 48] (.gh (.opn (.slot 3)) (.ghp (.cls (.slot 3)) (.reg [Mv 49 3,Mv 50 4,Fa 51 4 1,Lq 52 51,Mv 53 4,Ix 54 .str 52 53,Lq 55 54,Ca 56 54 [55],Pp (.bin 57 .add 56 (kS [58])),Mv 58 3,Mv 59 4,Pp (.ixw 60 .str 58 59),Fo [0] [] (.ldw 61 1 false 60),Bi 62 .add 57 61,Pp (.ixw 63 .str 49 50),Fo [] [0] (.stw none 1 63 62)] [[],[],[],[2],[],[2,3,4],rg 2 5,rg 2 6,rg 2 7,[],[],[9,10],[9,10,11],rg 2 12,rg 0 13,rg 0 14]))))) (Rg [Bc 64 .add 46 1,Mv 46 64])))
def tv:IR:=Sq (.gh (.opn (.slot 3)) (.ghp (.cls (.slot 3)) (Rg [Mv 65 3,Ca 66 55 [65,kS [44]],Pp (.bin 67 .add (kS [123]) 66),Pp (.bin 68 .add 67 (kS [125])),Mv 2 68]))) .ret
def tx:IR:=Rs [Ms 2 [110,117,108,108]] .ret
def afH:IR:=Rs [Bx 1 0,Ms 2 []] (Sq (Rs [Fa 5 0 1,Lq 6 5] (.block 0 (Rs [Bc 8 .eql 6 2,Mv 7 8] (Cn 7 (Rs [Fa 9 1 1,Lq 10 9,Bc 11 .neq 10 0,Ca 12 52 [11],Mv 2 12] .ret) (Rs [Bc 14 .eql 6 3,Mv 13 14] (Cn 13 (Rs [Fa 15 1 1,Lq 16 15,Ca 17 53 [16,kI 10],Mv 2 17] .ret) (Rs [Bc 19 .eql 6 4,Mv 18 19] (Cn 18 (Rs [Fa 20 2 1,Lq 21 20,Ca 22 54 [21],Mv 2 22] .ret) (Rs [Bc 24 .eql 6 5,Mv 23 24] (Cn 23 (Rs [Fa 25 3 1,Lq 26 25,Pp (.callz 27 56 [.t 26]),Ca 28 55 [27,kS [44]],Pp (.bin 29 .add (kS [91]) 28),Pp (.bin 30 .add 29 (kS [93])),Mv 2 30] .ret) (Rs [Bc 32 .eql 6 6,Mv 31 32] (Cn 31 (Rs [Fa 33 3 1,Lq 34 33,Fa 35 3 1,Lq 36 35,Ll 37 36,Fa 38 4 1,Lq 39 38,Ll 40 39,Pp (.mx 41 true 37 40),Pp (.subl 42 .jnode 34 none (some 41)),Ca 43 56 [42],Pp (.mov 3 (.tk 43))] (Sq (Rs [Mv 44 3,Pp (.lnw 45 44),Mi 46 0] (.block 1 (.loop [1,3,45,46,1000000] 0 uu))) tv)) .skip)))))))))))) tx)
def yy:List RV:=[.t 2]
theorem afI:FnC Tryd.prog tu [55,2000055] 0 aab Tryd.f26 afH yy:=fnC Tryd.func26
def aeb(R:IR→(Ex→St→Ro)→St→Ro)(again0:St→Ro):Ex→St→Ro:=(bG again0 [1,3,45,46,1000000] 0 (aJ 1 (kseq (R tv) (aJ 0 (kseq (R tx) (fin yy))))))
abbrev nn:Type:=(ak×Bss×Int×Int)
def l8(x:nn):St:={env:=(.undef::.ea (enc .jnode x.1)::.undef::.ul .str x.2.1::(U 41 (.int .i64 x.2.2.1::.int .i64 x.2.2.2::(U 22 [])))),hp:=[]}
def rc(N:Nat):(St→Ro)→St→Ro:=fun again0 s=>run tu N uu (aeb (run tu N) again0) s
def np(N:Nat)(again0:nn→Ro)(x:nn):Ro:=
 let v1:ak:=x.1
 let v3:Bss:=x.2.1
 let v45:Int:=x.2.2.1
 let v46:Int:=x.2.2.2
 cond (decide (v46<v45)) (
  chk (decide (0<List.length v3)) (
   chk (ixl v46 v1.names) (
    let x8:=List.getD v1.names (Int.toNat v46) (av .str)
    an (lk x8) (fun(r7:Bs)=>
     chk (decide (List.length r7+List.length ([58]:Bs)≤9223372036854775807)) (
      let x9:=(r7++([58]:Bs))
      chk ((decide (0≤v46)&&decide (v46<↑(List.length v3)))) (
       chk (decide ((Int.toNat v46)<List.length v3)) (
        let x10:=List.getD v3 (Int.toNat v46) (av .str)
        chk (decide (List.length x9+List.length x10≤9223372036854775807)) (
         chk ((decide (0≤v46)&&decide (v46<↑(List.length v3)))) (
          chk (decide ((Int.toNat v46)<List.length v3)) (
           let x11:=(List.set v3 (Int.toNat v46) (x9++x10))
           chk (Nat.beq (List.length v3) (List.length x11)) (
            let x12:=(IntKind.wrap .i64 (v46+1))
            again0 (v1,x11,v45,x12)))))))))))) (
  chk (decide (0<List.length v3)) (
   afW (kf v3 ([44]:Bs)) ((Nat.beq (List.length v3) (List.length v3)&&true)) (fun(r8:Bs)=>
    chk (decide (List.length ([123]:Bs)+List.length r8≤9223372036854775807)) (
     let x13:=(([123]:Bs)++r8)
     chk (decide (List.length x13+List.length ([125]:Bs)≤9223372036854775807)) (
      let x14:=(x13++([125]:Bs))
      chk (Nat.beq (List.length v3) (List.length v3)) (
       some (.str x14,[none,none])))))))
theorem adb(N:Nat):LB (rc N) l8 (np N):=fun _ _=>by kernel_rfl
def lr(N:Nat)(p0:ak)(q0:nn→Ro):Ro:=
 cond (p0.kind==2) (
  an (eo (!(p0.n==0))) (fun(r1:Bs)=>
   some (.str r1,[]))) (
  cond (p0.kind==3) (
   an (ja p0.n 10) (fun(r2:Bs)=>
    some (.str r2,[]))) (
   cond (p0.kind==4) (
    an (lk p0.s) (fun(r3:Bs)=>
     some (.str r3,[]))) (
    cond (p0.kind==5) (
     an (iH p0.l) (fun(r4:Bss)=>
      an (kf r4 ([44]:Bs)) (fun(r5:Bs)=>
       chk (decide (List.length ([91]:Bs)+List.length r5≤9223372036854775807)) (
        let x1:=(([91]:Bs)++r5)
        chk (decide (List.length x1+List.length ([93]:Bs)≤9223372036854775807)) (
         let x2:=(x1++([93]:Bs))
         some (.str x2,[])))))) (
     cond (p0.kind==6) (
      let x3:=(↑(List.length p0.l):Int)
      let x4:=(↑(List.length p0.names):Int)
      let x5:=(if x4<x3 then x4 else x3)
      chk ((decide (0≤x5)&&decide (x5≤(↑(List.length p0.l):Int)))) (
       let x6:=(List.drop 0 (List.take (Int.toNat x5) p0.l))
       an (iH x6) (fun(r6:Bss)=>
        let x7:=(↑(List.length r6):Int)
        q0 (p0,r6,x7,0)))) (
      some (.str ([110,117,108,108]:Bs),[]))))))
def yz(N:Nat)(p0:ak):Ro:=lr N p0 (fun z=>aP N (np N) z)
theorem aec(N:Nat)(p0:ak)(h:Tot (yz N p0) (fun z=>∃(y0:Bs)(rest:List aq),z.1.dimR=.str y0∧z.2=rest∧du p0 (y0))):∃r,ej p0 r:=afI.finP (N:=N) ((cd _ (by kernel_rfl) rfl (fun C=>lr N p0 (fun z=>C 1000000 (l8 z))) (fun C=>by kernel_rfl)).trans (Eq.trans (b:=lr N p0 (fun z=>bd N (rc N) (l8 z))) (by kernel_rfl) (congrArg (lr N p0) (funext fun z=>be (l8) (rc N) (np N) (adb N) N z)))) h fun _ ⟨y0,_,e,_,q⟩=>⟨(y0),e,q⟩
noncomputable def re:az:=tab (P:=Tryd.prog) [] [] [] [aac]
def sA:IR:=Rs [Bi 9 .lss 8 7] (Sq (Cn 9 .skip (.exit 0)) (Sq (.block 1 (Rs [Ix 10 .jnode 6 8,Ld 11 5 true 10,Pp (.alr 5 5),Fz 5 5 11] (Rg [Pp (.mov 12 (.tk 3)),Ld 13 5 true 5,Ca 14 26 [13],Pp (.bsl 15 .str [14] true),Pp (.apu 16 .str (.tk 12) 15),Pp (.mov 3 (.tk 16))]))) (Rg [Bc 17 .add 8 1,Mv 8 17])))
def sB:IR:=Rs [Pp (.mov 18 (.tk 3)),Pp (.mov 2 (.tk 18))] .ret
def adc:IR:=Rs [Pp (.mov 2 (.c (.ul .str ([]:Bss))))] (Rs [Pp (.mov 3 (.c (.ul .str ([]:Bss))))] (Sq (Rs [Mv 6 0,Ll 7 6,Mi 8 0] (.block 0 (.loop [3,6,7,8,1000000] 0 sA))) sB))
def uv:List RV:=[.t 2]
theorem ade:FnC Tryd.prog re [] 0 vm Tryd.f56 adc uv:=fnC Tryd.func56
def acm(R:IR→(Ex→St→Ro)→St→Ro)(again0:St→Ro):Ex→St→Ro:=(bG again0 [3,6,7,8,1000000] 0 (aJ 0 (kseq (R sB) (fin uv))))
abbrev lb:Type:=(Bss×List ak×Int×Int)
def jY(x:lb):St:={env:=(U 3 (.ul .str x.1::.undef::.undef::.sl .jnode (.may false) x.2.1::.int .i64 x.2.2.1::.int .i64 x.2.2.2::(U 10 []))),hp:=[]}
def oO(N:Nat):(St→Ro)→St→Ro:=fun again0 s=>run re N sA (acm (run re N) again0) s
def lc(N:Nat)(again0:lb→Ro)(x:lb):Ro:=
 let v3:Bss:=x.1
 let v6:List ak:=x.2.1
 let v7:Int:=x.2.2.1
 let v8:Int:=x.2.2.2
 cond (decide (v8<v7)) (
  chk (ixl v8 v6) (
   let x2:=(List.getD v6 (Int.toNat v8) (av .jnode))
   an (ej ⟨x2.kind,x2.n,x2.s,x2.l,x2.names⟩) (fun(r1:Bs)=>
    chk (decide ((List.length v3+List.length ([r1]:Bss))*16≤140737488355328)) (
     let x3:=(v3++([r1]:Bss))
     let x4:=(IntKind.wrap .i64 (v8+1))
     again0 (x3,v6,v7,x4))))) (
  some (.ul .str v3,[]))
theorem abm(N:Nat):LB (oO N) jY (lc N):=fun _ _=>by kernel_rfl
def jC(N:Nat)(p0:List ak)(q0:lb→Ro):Ro:=
 let x1:=(↑(List.length p0):Int)
 q0 (([]:Bss),p0,x1,0)
def uw(N:Nat)(p0:List ak):Ro:=jC N p0 (fun z=>aP N (lc N) z)
theorem acn(N:Nat)(p0:List ak)(h:Tot (uw N p0) (fun z=>∃(y0:Bss)(rest:List aq),z.1.dimR=.ul .str y0∧z.2=rest∧sa p0 (y0))):∃r,iH p0 r:=ade.finP (N:=N) ((cd _ (by kernel_rfl) rfl (fun C=>jC N p0 (fun z=>C 1000000 (jY z))) (fun C=>by kernel_rfl)).trans (Eq.trans (b:=jC N p0 (fun z=>bd N (oO N) (jY z))) (by kernel_rfl) (congrArg (jC N p0) (funext fun z=>be (jY) (oO N) (lc N) (abm N) N z)))) h fun _ ⟨y0,_,e,_,q⟩=>⟨(y0),e,q⟩
end Go.Proofs.YtkinflmjagfapaaDoor
end
noncomputable section
namespace Go.Proofs
open Go.Shelf
def Tryd.lays156_ren:Go.Shelf.Ren:=⟨fun|156=>55|165=>92|166=>90|169=>91|240=>109|241=>111|276=>129|277=>131|n=>n,fun|31=>31|9=>9|3=>3|4=>4|0=>0|20=>20|72=>122|76=>126|70=>120|37=>22|75=>124|127=>141|164=>155|5=>5|80=>104|n=>n,fun|n=>n⟩
theorem Tryd.lays156:Go.Proofs.Lays.n156 Tryd.prog Tryd.lays156_ren:={
 mixed:=by kernel_rfl
 f156:=Tryd.func55.trans (congrArg some (by kernel_rfl))
 f165:=Tryd.func92.trans (congrArg some (by kernel_rfl))
 f166:=Tryd.func90.trans (congrArg some (by kernel_rfl))
 f169:=Tryd.func91.trans (congrArg some (by kernel_rfl))
 f240:=Tryd.func109.trans (congrArg some (by kernel_rfl))
 f241:=Tryd.func111.trans (congrArg some (by kernel_rfl))
 f276:=Tryd.func129.trans (congrArg some (by kernel_rfl))
 f277:=Tryd.func131.trans (congrArg some (by kernel_rfl))
 t0:=Tryd.underlying0
 a0:=Tryd.isAgg0
 z0:=Tryd.sizeOf0
 v0:=Tryd.zeroValue0
 t3:=Tryd.underlying3
 a3:=Tryd.isAgg3
 z3:=Tryd.sizeOf3
 v3:=Tryd.zeroValue3
 t4:=Tryd.underlying4
 a4:=Tryd.isAgg4
 z4:=Tryd.sizeOf4
 v4:=Tryd.zeroValue4
 t9:=Tryd.underlying9
 a9:=Tryd.isAgg9
 z9:=Tryd.sizeOf9
 v9:=Tryd.zeroValue9
 t20:=Tryd.underlying20
 a20:=Tryd.isAgg20
 z20:=Tryd.sizeOf20
 v20:=Tryd.zeroValue20
 t31:=Tryd.underlying31
 a31:=Tryd.isAgg31
 z31:=Tryd.sizeOf31
 v31:=Tryd.zeroValue31
 t37:=Tryd.underlying22
 a37:=Tryd.isAgg22
 z37:=Tryd.sizeOf22
 v37:=Tryd.zeroValue22
 t70:=Tryd.underlying120
 a70:=Tryd.isAgg120
 z70:=Tryd.sizeOf120
 v70:=Tryd.zeroValue120
 t72:=Tryd.underlying122
 a72:=Tryd.isAgg122
 z72:=Tryd.sizeOf122
 v72:=Tryd.zeroValue122
 t75:=Tryd.underlying124
 a75:=Tryd.isAgg124
 z75:=Tryd.sizeOf124
 v75:=Tryd.zeroValue124
 t76:=Tryd.underlying126
 a76:=Tryd.isAgg126
 z76:=Tryd.sizeOf126
 v76:=Tryd.zeroValue126
 t127:=Tryd.underlying141
 a127:=Tryd.isAgg141
 z127:=Tryd.sizeOf141
 v127:=Tryd.zeroValue141
 t164:=Tryd.underlying155
 a164:=Tryd.isAgg155
 z164:=Tryd.sizeOf155
 v164:=Tryd.zeroValue155}
theorem Tryd.Builder_Extra_156:Builder.Extra Tryd.prog Tryd.lays156_ren:={
 sizeBuilder:=by kernel_rfl
 liesBuilder:=by kernel_rfl
 t5:=Tryd.underlying5
 a5:=Tryd.isAgg5
 z5:=Tryd.sizeOf5
 v5:=Tryd.zeroValue5
 infoByte:=by kernel_rfl
 cellsByte:=by kernel_rfl
 sizeByte:=by kernel_rfl
 neB5:=by decide}
end Go.Proofs
namespace Go.Proofs.YtkinflmjagfapaaDoor
open Go.AM Go.RowKit
set_option autoImplicit false
theorem adf{P:Program}{f:FuncId}{vs:List V}{l:List UInt8}(h:∀(w:World)(I:Nat→Nat→Prop)(ρ:Nat→Nat)(cargs:Array Value),(qN≠[]→∃t,w.heap[pp]? =some (.cells qN.toArray t (0,0)))→vs.length=cargs.size→
  (∀(i:Nat) x cv,vs[i]? =some x→cargs[i]? =some cv→VRel I ρ 0 w x cv)→Calls P f cargs w fun e w'=>e=.returned (.string ⟨l.toArray⟩)∧Below w.heap.size w w') (hl:l.length≤9223372036854775807):aF P f vs (.str l):=by
 refine⟨[],fun w g cargs hβ hr hn hb hrel=>(h w g.I g.ρ cargs (fun hne=>(hβ.2 hne).2.2.2) hn hrel).mono ?_⟩
 rintro e w' ⟨rfl,hB⟩
 have cell:∀b j,g.I b j→w'.cell? ⟨b,j,none⟩=w.cell? ⟨b,j,none⟩:=by
  intro b j hi
  obtain⟨v,hv⟩:=Option.isSome_iff_exists.1 (hr.exI b j hi)
  simp only[World.cell?,hB.block b (World.block_lt_of_cell? _ _ hv)]
 refine⟨_,g,rfl,⟨by simp,by simp,by simp,by simp,fun b j hi=>by rw[cell b j hi];exact hr.exI b j hi,fun b o hb=>Nat.lt_of_lt_of_le (hr.oLt b o hb) hB.size⟩,
  ⟨rfl,hB.os,hB.tape,hB.output,hB.size,fun b hb _ _=>hB.block b hb,⟨fun _ _ h=>h,cell,fun _ _=>rfl,Nat.le_refl _⟩,fun _ _ _ _ _ h=>h,fun _ _ _ h=>h,by simp⟩,.str _ _ (by simp) ?_,by simp[ax]⟩
 show l.toArray.size≤_
 simpa [cb] using hl
theorem ahn{s:ByteArray}{l:List UInt8}(h:s.data.toList=l):s=⟨l.toArray⟩:=by
 subst h
 simp
theorem ajM(xs:List (List UInt8))(sep:List UInt8)(hN:xs.length≤140737488355328)(hl:(bL sep xs).length≤140737488355328):aF Tryd.prog qV [.sl .str (.may false) xs,.str sep] (.str (bL sep xs)):=by
 refine adf ?_ (by omega)
 intro w I ρ cargs _ hn hrel
 obtain⟨c0,c1,rfl⟩:∃c0 c1,cargs= #[c0,c1]:=by
  rcases cargs with⟨l⟩
  match l,hn with
  | [c0,c1],_=>exact⟨c0,c1,rfl⟩
 have r0:=hrel 0 _ c0 rfl rfl
 have r1:=hrel 1 _ c1 rfl rfl
 cases r1 with
 |str _ s hs _=>
 obtain rfl:=ahn hs
 have none_:∀(a:Option Addr)(c:Nat),xs=[]→Calls Tryd.prog qV #[.slice a 0 c,.string ⟨sep.toArray⟩] w fun e w'=>e=.returned (.string ⟨(bL sep xs).toArray⟩)∧Below w.heap.size w w':=by
  rintro a c rfl
  refine(Any.strings_Join_none Tryd.lays156 Tryd.Builder_Extra_156 a c ⟨sep.toArray⟩ w).mono ?_
  rintro e w' ⟨he,rfl⟩
  exact⟨by rw[he];rfl,Below.refl _ _⟩
 cases r0 with
 |sln=>exact none_ _ _ rfl
 |sle=>exact none_ _ _ rfl
 |sl _ _ _ b off len cap h1 hc hm hf f hI hw hv=>
  cases xs with
  |nil=>
   obtain rfl:0=len:=h1
   exact none_ _ _ rfl
  |cons x r=>
   have hcell:∀(j:Nat) y,(x::r)[j]? =some y→w.cell? ⟨b,off+j,none⟩=some (.string ⟨y.toArray⟩):=by
    intro j y hy
    have e1:=hw j y 0 hy (by show 0<1;omega)
    have e2:=hv j y 0 (.str y) hy rfl
    rw[show off+j*EK.sz .str+0=off+j from by show off+j*1+0=_;omega] at e1
    rw[e1]
    generalize f j 0=u at e2
    cases e2 with
    |str _ s hs _=>rw[ahn hs]
   have hbk:=World.block_lt_of_cell? _ _ (hcell 0 x rfl)
   subst h1
   have emap:((x::r).map fun y=>(⟨y.toArray⟩:ByteArray)).map (·.data.toList)=x::r:=by
    rw[List.map_map]
    have:((fun s:ByteArray=>s.data.toList)∘fun y:List UInt8=>(⟨y.toArray⟩:ByteArray))=id:=by funext y;simp
    rw[this,List.map_id]
   have:=Any.strings_Join Tryd.lays156 Tryd.Builder_Extra_156 b off cap ((x::r).map fun y=>⟨y.toArray⟩) ⟨sep.toArray⟩ w (by
    intro j y hy
    rw[List.getElem?_map,Option.map_eq_some_iff] at hy
    obtain⟨y',hy',rfl⟩:=hy
    exact hcell j y' hy') hbk (by rw[List.length_map];exact hN) (by rw[List.length_map];exact hc) (by rw[emap];simpa [bL] using hl)
   rw[emap,List.length_map] at this
   exact this.mono fun e w' ⟨he,hB⟩=>⟨by rw[he];simp[bL],hB⟩
theorem aeL(xs:List (List UInt8))(sep:List UInt8)(hN:xs.length≤140737488355328)(hl:(bL sep xs).length≤140737488355328):∃r,kf xs sep r:=⟨_,ajM xs sep hN hl,rfl⟩
end Go.Proofs.YtkinflmjagfapaaDoor
end
noncomputable section
namespace Go.Proofs
open Go.Shelf
def Tryd.lays173_ren:Go.Shelf.Ren:=⟨fun|173=>53|246=>87|283=>105|284=>106|285=>107|286=>108|129=>125|317=>124|318=>126|319=>127|320=>128|337=>143|338=>144|n=>n,fun|2=>2|3=>3|9=>9|4=>4|171=>136|0=>0|53=>39|37=>22|5=>5|173=>139|212=>150|51=>151|20=>20|213=>152|46=>103|232=>172|233=>173|n=>n,fun|17=>1|18=>2|19=>3|n=>n⟩
theorem Tryd.lays173:Go.Proofs.LaysM.n173 Tryd.prog Tryd.lays173_ren:={
 mixed:=by kernel_rfl
 f129:=Tryd.func125.trans (congrArg some (by kernel_rfl))
 f173:=Tryd.func53.trans (congrArg some (by kernel_rfl))
 f246:=Tryd.func87.trans (congrArg some (by kernel_rfl))
 f283:=Tryd.func105.trans (congrArg some (by kernel_rfl))
 f284:=Tryd.func106.trans (congrArg some (by kernel_rfl))
 f285:=Tryd.func107.trans (congrArg some (by kernel_rfl))
 f286:=Tryd.func108.trans (congrArg some (by kernel_rfl))
 f317:=Tryd.func124.trans (congrArg some (by kernel_rfl))
 f318:=Tryd.func126.trans (congrArg some (by kernel_rfl))
 f319:=Tryd.func127.trans (congrArg some (by kernel_rfl))
 f320:=Tryd.func128.trans (congrArg some (by kernel_rfl))
 f337:=Tryd.func143.trans (congrArg some (by kernel_rfl))
 f338:=Tryd.func144.trans (congrArg some (by kernel_rfl))
 t0:=Tryd.underlying0
 a0:=Tryd.isAgg0
 z0:=Tryd.sizeOf0
 v0:=Tryd.zeroValue0
 t2:=Tryd.underlying2
 a2:=Tryd.isAgg2
 z2:=Tryd.sizeOf2
 v2:=Tryd.zeroValue2
 t3:=Tryd.underlying3
 a3:=Tryd.isAgg3
 z3:=Tryd.sizeOf3
 v3:=Tryd.zeroValue3
 t4:=Tryd.underlying4
 a4:=Tryd.isAgg4
 z4:=Tryd.sizeOf4
 v4:=Tryd.zeroValue4
 t5:=Tryd.underlying5
 a5:=Tryd.isAgg5
 z5:=Tryd.sizeOf5
 v5:=Tryd.zeroValue5
 t9:=Tryd.underlying9
 a9:=Tryd.isAgg9
 z9:=Tryd.sizeOf9
 v9:=Tryd.zeroValue9
 t20:=Tryd.underlying20
 a20:=Tryd.isAgg20
 z20:=Tryd.sizeOf20
 v20:=Tryd.zeroValue20
 t37:=Tryd.underlying22
 a37:=Tryd.isAgg22
 z37:=Tryd.sizeOf22
 v37:=Tryd.zeroValue22
 t46:=Tryd.underlying103
 a46:=Tryd.isAgg103
 z46:=Tryd.sizeOf103
 v46:=Tryd.zeroValue103
 t51:=Tryd.underlying151
 a51:=Tryd.isAgg151
 z51:=Tryd.sizeOf151
 v51:=Tryd.zeroValue151
 t53:=Tryd.underlying39
 a53:=Tryd.isAgg39
 z53:=Tryd.sizeOf39
 v53:=Tryd.zeroValue39
 t171:=Tryd.underlying136
 a171:=Tryd.isAgg136
 z171:=Tryd.sizeOf136
 v171:=Tryd.zeroValue136
 t173:=Tryd.underlying139
 a173:=Tryd.isAgg139
 z173:=Tryd.sizeOf139
 v173:=Tryd.zeroValue139
 t212:=Tryd.underlying150
 a212:=Tryd.isAgg150
 z212:=Tryd.sizeOf150
 v212:=Tryd.zeroValue150
 t213:=Tryd.underlying152
 a213:=Tryd.isAgg152
 z213:=Tryd.sizeOf152
 t232:=Tryd.underlying172
 a232:=Tryd.isAgg172
 z232:=Tryd.sizeOf172
 v232:=Tryd.zeroValue172
 t233:=Tryd.underlying173
 a233:=Tryd.isAgg173
 z233:=Tryd.sizeOf173
 v233:=Tryd.zeroValue173
 g17:=by kernel_rfl
 g18:=by kernel_rfl
 g19:=by kernel_rfl
 i0:=by kernel_rfl
 i2:=by kernel_rfl
 i3:=by kernel_rfl
 i4:=by kernel_rfl
 i5:=by kernel_rfl
 i9:=by kernel_rfl
 i20:=by kernel_rfl
 i37:=by kernel_rfl
 i46:=by kernel_rfl
 i51:=by kernel_rfl
 i53:=by kernel_rfl
 i171:=by kernel_rfl
 i173:=by kernel_rfl
 i212:=by kernel_rfl
 i232:=by kernel_rfl
 i233:=by kernel_rfl
 m17:=by kernel_rfl
 m18:=by kernel_rfl
 m19:=by kernel_rfl}
end Go.Proofs
namespace Go.Proofs.YtkinflmjagfapaaDoor
open Go.AM Go.RowKit
set_option autoImplicit false
theorem ai4:(List.range 256).all (fun i=>Nat.ble (Go.Lib.decDigits i).length 3)=true:=by kernel_rfl
theorem aaO{n:Int}(h:0≤n∧n≤255):(Go.Lib.decDigits n.toNat).length≤3:=by
 have:=List.all_eq_true.1 ai4 n.toNat (List.mem_range.2 (by omega))
 simpa using this
theorem akE(n:Int)(h:0≤n):Go.Lib.itoa n=Go.Lib.decDigits n.toNat:=by
 unfold Go.Lib.itoa
 rw[if_neg (by omega)]
theorem afJ(n:Int)(h:0≤n∧n≤255):∃r,ja n 10 r:=by
 refine⟨Go.Lib.decDigits n.toNat,adf (fun w I ρ cargs ht hn hrel=>?_) (by have:=aaO h;omega),rfl⟩
 obtain⟨c0,c1,rfl⟩:∃c0 c1,cargs= #[c0,c1]:=by
  rcases cargs with⟨l⟩
  match l,hn with
  | [c0,c1],_=>exact⟨c0,c1,rfl⟩
 have r0:=hrel 0 _ c0 rfl rfl
 have r1:=hrel 1 _ c1 rfl rfl
 cases r0
 cases r1
 have hT:Go.Lib.TabIs Tryd.prog w "internal/strconv.uint64pow10" .u64 Go.Lib.pow10Tab:=by
  obtain⟨t,ht⟩:=ht (by simp[qN,Go.Lib.pow10Tab])
  unfold Go.Lib.TabIs World.var?
  rw[Tryd.lays173.m17]
  have e:w.heap[Tryd.lays173_ren.g 17]? =some (.cells qN.toArray t (0,0)):=ht
  simp only[Option.bind_some,e]
  rfl
 refine(Any.strconv_FormatInt_10 Tryd.lays173 n (by omega) (by omega) w hT).mono ?_
 rintro e w' ⟨he,k,os,rfl⟩
 exact⟨by rw[he,akE n h.1],Go.Lib.below_grow _ _ (Nat.le_refl _) _ _⟩
end Go.Proofs.YtkinflmjagfapaaDoor
end
noncomputable section
namespace Go.Proofs.YtkinflmjagfapaaDoor
open Go.AM
set_option autoImplicit false
set_option linter.unusedVariables false
set_option linter.unusedSimpArgs false
set_option maxRecDepth 100000
theorem ajN(b:Bool):∃r,eo b r:=by
 apply uX 1
 unfold ph pg
 refine ao ?_ ?_
 ·apply pl 1
  unfold jA jz
  cases b
  ·exact ar ⟨_,_,rfl,rfl,rfl⟩
  ·exact ar ⟨_,_,rfl,rfl,rfl⟩
 ·rintro _ ⟨-,rfl⟩
  exact ar ⟨_,_,rfl,rfl,rfl⟩
theorem adg(s:List UInt8)(h:s.length≤10000):∃r,lk s r:=⟨_,aiT s h,rfl⟩
abbrev ai5:Nat:=100000000000000
mutual
def rW:ak→Prop
 | .mk k n s l names=>(k=3→0≤n∧n≤255)∧(k=4→s.length≤10000)∧(k=5∨k=6→l.length≤1000∧jD l)∧(k=6→names.length=l.length∧0<l.length∧∀x∈names,x.length≤10)
def jD:List ak→Prop
 | []=>True
 |c::l=>rW c∧jD l
end
theorem bM:∀l:List ak,aN l=l.map aL
 | []=>rfl
 |c::l=>by simp[aN,bM l]
theorem aeM:∀{l:List ak}{c:ak},jD l→c∈l→rW c
 |d::l,c,h,hc=>by
  unfold jD at h
  rcases List.mem_cons.1 hc with rfl|hc
  ·exact h.1
  ·exact aeM h.2 hc
theorem aeN{sep:List UInt8}:∀{xs:List (List UInt8)}{x:List UInt8},x∈xs→x.length≤(bL sep xs).length
 |y::r,x,h=>by
  unfold bL
  rw[Go.Lib.join_cons]
  rcases List.mem_cons.1 h with rfl|h
  ·simp
  ·have:∀{r:List (List UInt8)},x∈r→x.length≤(Go.Lib.joinTail sep r).length:=by
    intro r
    induction r with
    |nil=>simp
    |cons z r ih=>
     intro h
     unfold Go.Lib.joinTail at ih ⊢
     simp only[List.map_cons,List.flatten_cons,List.length_append] at ih ⊢
     rcases List.mem_cons.1 h with rfl|h
     ·omega
     ·have:=ih h;omega
   have:=this h
   simp only[List.length_append];omega
theorem abP(l:List ak)(hl:l.length≤1000)(h:∀c∈l,∃r,ej c r):∃r,iH l r:=by
 apply acn 2000
 unfold uw jC
 dsimp only
 refine aX (fun x=>match x with|(x0,x1,x2,x3)=>x0=aN (l.take x3.toNat)∧x1=l∧x2=l.length∧(0≤x3∧x3≤l.length)) (fun x=>((l.length:Int)-x.2.2.2).toNat) ?_ _ _ ⟨rfl,rfl,rfl,by omega⟩ (by simp only;omega)
 rintro again ⟨x0,x1,x2,x3⟩ ⟨rfl,rfl,rfl,i1,i2⟩ ih
 unfold lc
 dsimp only at ih ⊢
 have ew:x3<x1.length→IntKind.i64.wrap (x3+1)=x3+1:=fun h=>ay (x3+1) (by omega)
 have el:(aN (x1.take x3.toNat)).length≤1000:=by rw[bM];simp;omega
 have hc:x3<x1.length→∃r,ej (x1.getD x3.toNat (av .jnode)) r:=fun hi=>h _ (by
  rw[List.getD_eq_getElem?_getD,List.getElem?_eq_getElem (show x3.toNat<x1.length by omega)]
  exact List.getElem_mem _)
 have eJ:∀c:ak,ak.mk c.kind c.n c.s c.l c.names=c:=fun c=>by cases c;rfl
 simp only[eJ]
 repeat' (first|(with_reducible refine au ?_ ?_<;>(intro hb;(try simp only[bnl] at hb);(try revert hb;intro _)))|with_reducible refine aA ?_ ?_|with_reducible refine ar ?_|(refine ao (hc (by omega)) ?_;rintro _ ⟨-,rfl⟩;try dsimp only)|fail)
 ·first|(simp only[bnl,lnl];done)|(simp only[bnl,lnl];omega)
 ·simp only[bnl,List.length_cons,List.length_nil];omega
 ·have hi:x3<(x1.length:Int):=by assumption
  refine ih _ ⟨?_,rfl,rfl,by simp only[ew hi];omega⟩ (by simp only[ew hi];omega)
  simp only[ew hi]
  rw[jB (av .jnode) ⟨i1,hi⟩,bM,bM,List.map_append]
  rfl
 ·have:x1.take x3.toNat=x1:=List.take_of_length_le (by omega)
  rw[this]
  exact⟨_,_,rfl,rfl,rfl⟩
theorem bN(s:List UInt8):(aM s).length≤6*s.length+2:=by
 have:(s.flatMap hD).length≤6*s.length:=by
  induction s with
  |nil=>simp
  |cons c s ih=>
   have:=wP c
   simp only[List.flatMap_cons,List.length_append,List.length_cons]
   omega
 simp only[aM,List.length_append,List.length_cons,List.length_nil]
 omega
abbrev oA(n t:List UInt8):List UInt8:=aM n++58::t
def nF(names ts:List (List UInt8))(i:Nat):List (List UInt8):=List.zipWith oA (names.take i) (ts.take i)++ts.drop i
theorem akF{names ts:List (List UInt8)}(h:names.length=ts.length)(i:Nat):(nF names ts i).length=ts.length:=by
 simp only[nF,List.length_append,List.length_zipWith,List.length_take,List.length_drop]
 omega
theorem aho{names ts:List (List UInt8)}(h:names.length=ts.length){i:Nat}(hi:i<ts.length)(d:List UInt8):(nF names ts i).getD i d=ts[i]:=by
 have hl:(List.zipWith oA (names.take i) (ts.take i)).length=i:=by simp only[List.length_zipWith,List.length_take];omega
 rw[List.getD_eq_getElem?_getD,nF,List.getElem?_append_right (by omega),hl,Nat.sub_self,List.getElem?_drop,Nat.add_zero,List.getElem?_eq_getElem hi]
 rfl
theorem akG{names ts:List (List UInt8)}(h:names.length=ts.length){i:Nat}(hi:i<ts.length):(nF names ts i).set i (oA (names[i]'(by omega)) ts[i])=nF names ts (i+1):=by
 have hl:(List.zipWith oA (names.take i) (ts.take i)).length=i:=by simp only[List.length_zipWith,List.length_take];omega
 rw[nF,List.set_append_right _ _ (by omega),hl,Nat.sub_self,List.drop_eq_getElem_cons hi,List.set_cons_zero,nF,List.take_add_one,List.take_add_one,List.getElem?_eq_getElem hi,List.getElem?_eq_getElem (show i<names.length by omega)]
 simp only[Option.toList]
 rw[List.zipWith_append (by simp only[List.length_take];omega)]
 simp
theorem akH{names ts:List (List UInt8)}(h:names.length=ts.length):nF names ts ts.length=List.zipWith oA names ts:=by
 rw[nF,List.drop_length,List.append_nil,List.take_length,←h,List.take_length]
theorem ahp{k n:Int}{s:List UInt8}{l:List ak}{names:List (List UInt8)}(hk:k=5∨k=6)(hn:k=6→names.length=l.length){c:ak}(hc:c∈l):(aL c).length≤(aL (.mk k n s l names)).length:=by
 have hm:aL c∈aN l:=by rw[bM];exact List.mem_map_of_mem hc
 rcases hk with rfl|rfl
 ·have:=aeN (sep:=[44]) hm
  simp only[aL]
  simp
  omega
 ·have hn:=hn rfl
  obtain⟨i,hi,he⟩:=List.mem_iff_getElem.1 hm
  have hl:(aN l).length=l.length:=by rw[bM,List.length_map]
  have h2:oA (names[i]'(by omega)) (aN l)[i]∈List.zipWith oA names (aN l):=by
   rw[List.mem_iff_getElem]
   exact⟨i,by simp only[List.length_zipWith];omega,by rw[List.getElem_zipWith]⟩
  have:=aeN (sep:=[44]) h2
  rw[he] at this
  simp only[oA,List.length_append,List.length_cons] at this
  have e:aL (.mk 6 n s l names)=123::(bL [44] (List.zipWith oA names (aN l))++[125]):=by
   simp only[aL]
   simp
  rw[e]
  simp only[List.length_cons,List.length_append,List.length_nil]
  omega
theorem aeO:(j:ak)→rW j→(aL j).length≤ai5→∃r,ej j r
 | .mk k n s l names,hp,hl=>by
   unfold rW at hp
   obtain⟨p3,p4,p5,p6⟩:=hp
   have kids:(k=5∨k=6)→∀c∈l,∃r,ej c r:=fun hk c hc=>aeO c (aeM (p5 hk).2 hc) (Nat.le_trans (ahp hk (fun h=>(p6 h).1) hc) hl)
   obtain⟨j,hj⟩:∃j,ak.mk k n s l names=j:=⟨_,rfl⟩
   have ek:j.kind=k:=by rw[←hj];rfl
   have en:j.n=n:=by rw[←hj];rfl
   have es:j.s=s:=by rw[←hj];rfl
   have ell:j.l=l:=by rw[←hj];rfl
   have enn:j.names=names:=by rw[←hj];rfl
   rw[hj]
   apply aec 2000
   unfold yz lr
   simp only[ek,en,es,ell,enn]
   have hc1:k=6→¬(names.length:Int)<(l.length:Int):=fun h=>by have:=(p6 h).1;omega
   have hl:(aL (.mk k n s l names)).length≤100000000000000:=hl
   repeat' (first|(with_reducible refine au ?_ ?_<;>(intro hb;(try simp only[bnl] at hb);(try revert hb;intro _)))|with_reducible refine aA ?_ ?_|with_reducible refine ar ?_|(refine ao (ajN _) ?_;rintro _ ⟨-,rfl⟩;try dsimp only)|(refine ao (afJ _ (p3 (by assumption))) ?_;rintro _ ⟨-,rfl⟩;try dsimp only)|(refine ao (adg _ (p4 (by assumption))) ?_;rintro _ ⟨-,rfl⟩;try dsimp only)|fail)
   ·exact⟨_,_,rfl,rfl,by subst hj;simp only[du,aL];rw[if_pos (by assumption)]⟩
   ·exact⟨_,_,rfl,rfl,by subst hj;simp only[du,aL];rw[if_neg (by omega),if_pos (by omega)]⟩
   ·exact⟨_,_,rfl,rfl,by subst hj;simp only[du,aL];rw[if_neg (by omega),if_neg (by omega),if_pos (by omega)]⟩
   ·have h5:k=5:=by assumption
    have hT:aL (.mk k n s l names)=91::(bL [44] (aN l)++[93]):=by
     simp only[aL];rw[if_neg (by omega),if_neg (by omega),if_neg (by omega),if_pos h5]
    rw[hT] at hl
    simp only[List.length_cons,List.length_append,List.length_nil] at hl
    have hq:=p5 (.inl h5)
    refine ao (abP l hq.1 (kids (.inl h5))) ?_
    rintro _ ⟨-,rfl⟩
    refine ao (aeL _ _ (by rw[bM,List.length_map];omega) (by omega)) ?_
    rintro _ ⟨-,rfl⟩
    repeat' (first|(with_reducible refine au ?_ ?_<;>(intro hb;(try simp only[bnl] at hb);(try revert hb;intro _)))|with_reducible refine aA ?_ ?_|with_reducible refine ar ?_|fail)
    ·first|(simp only[bnl,lnl];done)|(simp only[bnl,lnl];omega)
    ·first|(simp only[bnl,lnl];done)|(simp only[bnl,lnl];omega)
    ·exact⟨_,_,rfl,rfl,by simp only[du];rw[←hj,hT];rfl⟩
   ·have h6:k=6:=by assumption
    rw[if_neg (hc1 h6)];simp
   ·have h6:k=6:=by assumption
    rw[if_neg (hc1 h6),Int.toNat_natCast,List.take_length,List.drop_zero]
    have hq:=p5 (.inr h6)
    obtain⟨hn1,h0,hn2⟩:=p6 h6
    refine ao (abP l hq.1 (kids (.inr h6))) ?_
    rintro _ ⟨-,rfl⟩
    have hT:aL (.mk k n s l names)=123::(bL [44] (List.zipWith oA names (aN l))++[125]):=by
     simp only[aL];rw[if_neg (by omega),if_neg (by omega),if_neg (by omega),if_neg (by omega),if_pos h6]
    have hl0:=hl
    rw[hT] at hl
    simp only[List.length_cons,List.length_append,List.length_nil] at hl
    have el:(aN l).length=l.length:=by rw[bM,List.length_map]
    have el2:names.length=(aN l).length:=by omega
    rw[el]
    refine aX (fun x=>match x with|(x0,x1,x2,x3)=>x0=j∧x1=nF names (aN l) x3.toNat∧x2=l.length∧(0≤x3∧x3≤l.length)) (fun x=>((l.length:Int)-x.2.2.2).toNat) ?_ _ _ ⟨rfl,rfl,rfl,by omega⟩ (by simp only;omega)
    rintro again ⟨x0,x1,x2,x3⟩ ⟨rfl,rfl,rfl,i1,i2⟩ ih
    unfold np
    simp only[enn]
    dsimp only at ih
    have em:=akF el2 x3.toNat
    rw[el] at em
    have ew:x3<l.length→IntKind.i64.wrap (x3+1)=x3+1:=fun h=>ay (x3+1) (by omega)
    have hnm:x3<l.length→(names.getD x3.toNat (av .str)).length≤10:=fun hi=>hn2 _ (by
     rw[List.getD_eq_getElem?_getD,List.getElem?_eq_getElem (show x3.toNat<names.length by omega)]
     exact List.getElem_mem _)
    have htl:x3<l.length→((nF names (aN l) x3.toNat).getD x3.toNat (av .str)).length≤100000000000000:=fun hi=>by
     rw[aho el2 (show x3.toNat<(aN l).length by omega)]
     have hm:(aN l)[x3.toNat]'(by omega)∈aN l:=List.getElem_mem _
     generalize (aN l)[x3.toNat]'(by omega)=u at hm
     rw[bM] at hm
     obtain⟨c,hc,rfl⟩:=List.mem_map.1 hm
     exact Nat.le_trans (ahp (.inr h6) (fun _=>hn1) hc) hl0
    have eset:x3<l.length→(nF names (aN l) x3.toNat).set x3.toNat (aM (names.getD x3.toNat (av .str))++[58]++(nF names (aN l) x3.toNat).getD x3.toNat (av .str))=nF names (aN l) (x3+1).toNat:=fun hi=>by
     have hi2:x3.toNat<(aN l).length:=by omega
     rw[aho el2 hi2,List.getD_eq_getElem?_getD,List.getElem?_eq_getElem (show x3.toNat<names.length by omega),Option.getD_some]
     have:=akG el2 hi2
     rw[show (x3+1).toNat=x3.toNat+1 by omega,←this]
     simp[oA]
    have eend:l.length≤x3→nF names (aN l) x3.toNat=List.zipWith oA names (aN l):=fun hi=>by
     rw[show x3.toNat=(aN l).length by omega]
     exact akH el2
    have hq1:=hq.1
    repeat' (first|(with_reducible refine au ?_ ?_<;>(intro hb;(try simp only[bnl] at hb);(try revert hb;intro _)))|with_reducible refine aA ?_ ?_|with_reducible refine ar ?_|(refine ao (adg _ (by have:=hnm (by omega);omega)) ?_;rintro _ ⟨-,rfl⟩;try dsimp only[sZ])|(refine aii (by simp) (aeL _ _ (by omega) (by rw[eend (by omega)];omega)) ?_;rintro _ ⟨-,rfl⟩;try dsimp only)|fail)
    all_goals first|(simp only[bnl,em];omega)|(rename_i hi;simp only[bnl,List.length_set,em];done)|skip
    ·simp only[bnl,List.length_cons,List.length_nil]
     have:=hnm (by assumption);have:=bN (names.getD x3.toNat (av .str));omega
    ·simp only[bnl,List.length_append,List.length_cons,List.length_nil]
     have:=hnm (by assumption);have:=bN (names.getD x3.toNat (av .str));have:=htl (by assumption);omega
    ·have hi:x3<(l.length:Int):=by assumption
     refine ih _ ⟨rfl,?_,rfl,by simp only[ew hi];omega⟩ (by simp only[ew hi];omega)
     simp only[ew hi]
     exact eset hi
    ·rw[eend (by assumption)];simp only[bnl,List.length_cons,List.length_nil];omega
    ·rw[eend (by assumption)];simp only[bnl,List.length_append,List.length_cons,List.length_nil];omega
    ·refine⟨_,_,rfl,rfl,?_⟩
     simp only[du]
     rw[←hj,hT,eend (by assumption)]
     rfl
   ·exact⟨_,_,rfl,rfl,by subst hj;simp only[du,aL];rw[if_neg (by omega),if_neg (by omega),if_neg (by omega),if_neg (by omega),if_neg (by omega)]⟩
termination_by j=>SizeOf.sizeOf j
decreasing_by
 have:=List.sizeOf_lt_of_mem hc
 simp only[ak.mk.sizeOf_spec]
 omega
end Go.Proofs.YtkinflmjagfapaaDoor
end
noncomputable section
namespace Go.Proofs.YtkinflmjagfapaaDoor
open Go.AM
set_option autoImplicit false
set_option linter.unusedVariables false
set_option linter.unusedSimpArgs false
set_option maxRecDepth 100000
def eU:List ak→Nat
 | []=>0
 |c::l=>(aL c).length+1+eU l
theorem ali:∀(l:List ak),(bL [44] (aN l)).length≤eU l
 | []=>by simp[aN,bL,Go.Lib.join_nil,eU]
 |c::l=>by
  unfold aN bL
  rw[Go.Lib.join_cons,List.length_append]
  have:∀l:List ak,(Go.Lib.joinTail [44] (aN l)).length≤eU l:=by
   intro l
   induction l with
   |nil=>simp[aN,Go.Lib.joinTail,eU]
   |cons d l ih=>
    unfold Go.Lib.joinTail at ih ⊢
    simp only[aN,List.map_cons,List.flatten_cons,List.length_append,List.length_cons,List.length_nil,eU] at ih ⊢
    omega
  have:=this l
  simp only[eU]
  omega
theorem nq(s:List UInt8):(aL (bc s)).length=(aM s).length:=by simp[aL]
theorem aed(l:List ak):(aL (nD l)).length≤eU l+2:=by
 have:=ali l
 simp[aL]
 omega
theorem aco(n1 n2:List UInt8)(a b:ak):(aL (d9 [n1,n2] [a,b])).length=(aM n1).length+(aL a).length+(aM n2).length+(aL b).length+5:=by
 simp[aL,aN,bL,Go.Lib.join_cons,Go.Lib.joinTail]
 omega
theorem acp(n1 n2 n3:List UInt8)(a b c:ak):(aL (d9 [n1,n2,n3] [a,b,c])).length=(aM n1).length+(aL a).length+(aM n2).length+(aL b).length+(aM n3).length+(aL c).length+7:=by
 simp[aL,aN,bL,Go.Lib.join_cons,Go.Lib.joinTail]
 omega
theorem tz:∀k:Int,(cm k).length≤7:=by
 intro k
 unfold cm
 split
 ·have:∀n:Nat,n<14→(jp.getD n []).length≤7:=by decide
  exact this _ (by omega)
 ·simp
abbrev CC:Nat:=30100
abbrev WW:Nat:=250000000000
theorem abQ(w:Nat→Nat):∀n,hY w (n+1)=w 0+hY (fun k=>w (k+1)) n
 |0=>by simp[hY]
 |n+1=>by
  rw[hY,abQ w n,hY]
  omega
def Bnd(ts:List am)(tk:Tk)(L:List Int)(js:List ak)(L':List Int):Prop:=match tk with
 | .node t=>∀n b,cD ts n t b→eU js+WW*L.length≤CC*b+WW*L'.length∧jD js
 | .row bs=>∀n w,(∀(k:Nat) c,bs[k]? =some c→cD ts n c (w k))→eU js+WW*L.length≤CC*hY w bs.length+WW*L'.length∧jD js∧js.length=bs.length
 | .flds fs=>(∀f∈fs,f.name.length≤100∧∃n b,b≤fL∧cD ts n f.typ b)→eU js+WW*L.length≤fs.length*(700+CC*fL)+WW*L'.length∧jD js∧js.length=fs.length
theorem jl{s:List UInt8}(h:s.length≤10000):rW (bc s):=by
 unfold bc rW
 exact⟨fun h=>absurd h (by decide),fun _=>h,fun h=>absurd h (by decide),fun h=>absurd h (by decide)⟩
theorem aee{l:List ak}(h:l.length≤1000)(hp:jD l):rW (nD l):=by
 unfold nD rW
 exact⟨fun h=>absurd h (by decide),fun h=>absurd h (by decide),fun _=>⟨h,hp⟩,fun h=>absurd h (by decide)⟩
theorem sM{names:List (List UInt8)}{l:List ak}(h1:names.length=l.length)(h2:0<l.length∧l.length≤1000)(h3:∀x∈names,x.length≤10)(hp:jD l):rW (d9 names l):=by
 unfold d9 rW
 exact⟨fun h=>absurd h (by decide),fun h=>absurd h (by decide),fun _=>⟨h2.2,hp⟩,fun _=>⟨h1,h2.1,h3⟩⟩
theorem akI{l:List (List UInt8)}(h:∀s∈l,s.length≤10000):jD (l.map bc):=by
 induction l with
 |nil=>simp[jD]
 |cons s l ih=>
  simp only[List.map_cons,jD]
  exact⟨jl (h s (by simp)),ih fun x hx=>h x (by simp[hx])⟩
theorem akJ{l:List (List UInt8)}{m:Nat}(h:∀s∈l,s.length≤m):eU (l.map bc)≤l.length*(6*m+3):=by
 induction l with
 |nil=>simp[eU]
 |cons s l ih=>
  have h1:=ih fun x hx=>h x (by simp[hx])
  have h2:=h s (by simp)
  have h3:=bN s
  simp only[List.map_cons,eU,nq,List.length_cons,Nat.add_mul,Nat.one_mul] at h1 ⊢
  omega
theorem cD.at{ts:List am}{n:Nat}{i:Int}{b:Nat}(h:cD ts n i b):ts[i.toNat]? =some (tyA ts i):=by
 cases h with
 |leaf _ t h0 h hk=>rw[h,show tyA ts i=t from kv h]
 |arr _ t b h0 hn h hk hr=>rw[h,show tyA ts i=t from kv h]
 |uni _ t w h0 hn h hk hr=>rw[h,show tyA ts i=t from kv h]
theorem TR.bnd{ts:List am}(hX:oN ts){tk:Tk}{L L':List Int}{js:List ak}(h:TR ts tk L js L'):Bnd ts tk L js L':=by
 have hty:=hX.1.2
 induction h with
 |arr t L j L' hk h ih=>
  intro n b hB
  have hat:=hB.at
  cases hB with
  |leaf _ t' h0 h' hk'=>rw[h'] at hat;cases hat;omega
  |uni _ t' w h0 hn h' hk' hr=>rw[h'] at hat;cases hat;omega
  |arr _ t' b h0 hn h' hk' hr=>
   rw[h'] at hat;cases hat
   obtain⟨i1,i2⟩:=ih n b hr
   simp only[eU] at i1 ⊢
   refine⟨?_,⟨sM rfl (by simp) (by simp) ⟨jl (by simp),i2⟩,trivial⟩⟩
   rw[aco,nq]
   have e1:(aM cn).length=6:=rfl
   have e2:(aM [105,116,101,109,115]).length=7:=rfl
   have e3:(aM [97,114,114,97,121]).length=7:=rfl
   rw[e1,e2,e3]
   simp only[CC,Nat.mul_add] at i1 ⊢
   omega
 |map t L j L' hk h ih=>
  intro n b hB
  have hat:=hB.at
  cases hB with
  |leaf _ t' h0 h' hk'=>rw[h'] at hat;cases hat;omega
  |uni _ t' w h0 hn h' hk' hr=>rw[h'] at hat;cases hat;omega
  |arr _ t' b h0 hn h' hk' hr=>
   rw[h'] at hat;cases hat
   obtain⟨i1,i2⟩:=ih n b hr
   simp only[eU] at i1 ⊢
   refine⟨?_,⟨sM rfl (by simp) (by simp) ⟨jl (by simp),i2⟩,trivial⟩⟩
   rw[aco,nq]
   have e1:(aM cn).length=6:=rfl
   have e2:(aM [118,97,108,117,101,115]).length=8:=rfl
   have e3:(aM [109,97,112]).length=5:=rfl
   rw[e1,e2,e3]
   simp only[CC,Nat.mul_add] at i1 ⊢
   omega
 |uni t L js L' hk h ih=>
  intro n b hB
  have hat:=hB.at
  cases hB with
  |leaf _ t' h0 h' hk'=>rw[h'] at hat;cases hat;omega
  |arr _ t' b h0 hn h' hk' hr=>rw[h'] at hat;cases hat;omega
  |uni _ t' w h0 hn h' hk' hr=>
   rw[h'] at hat;cases hat
   obtain⟨i1,i2,i3⟩:=ih n w hr
   have hnb:=(hty _ (List.mem_of_getElem? h')).nb
   have hl:=aed js
   refine⟨?_,aee (by omega) i2,trivial⟩
   simp only[eU]
   simp only[CC,Nat.mul_add] at i1 ⊢
   omega
 |told t L hk hm=>
  intro n b hB
  have hat:=hB.at
  have hb:1≤b:=by cases hB<;>omega
  have hnl:=(hty _ (List.mem_of_getElem? hat)).nl
  refine⟨?_,jl (by omega),trivial⟩
  have:=bN (tyA ts t).name
  simp only[eU,nq,CC]
  omega
 |fix t L hk hm=>
  intro n b hB
  have hat:=hB.at
  have hb:1≤b:=by cases hB<;>omega
  have tw:=hty _ (List.mem_of_getElem? hat)
  have hnl:=tw.nl
  have hsz:=tw.size
  have hsz:0≤(tyA ts t).size∧(tyA ts t).size≤255:=hsz
  have hw:=tz 11
  refine⟨?_,⟨sM rfl (by simp) (by simp) ⟨jl (by omega),jl (by omega),?_,trivial⟩,trivial⟩⟩
  ·have q1:=bN (tyA ts t).name
   have q2:=bN (cm 11)
   have q3:=aaO hsz
   have e4:(aL (.mk 3 (tyA ts t).size [] [] [])).length≤3:=by simpa [aL] using q3
   simp only[eU,acp,nq,List.length_append,List.length_cons,List.length_nil]
   have e1:(aM dr).length=6:=rfl
   have e2:(aM cn).length=6:=rfl
   have e3:(aM [115,105,122,101]).length=6:=rfl
   rw[e1,e2,e3]
   simp only[CC,WW] at*
   omega
  ·unfold rW
   exact⟨fun _=>hsz,fun h=>absurd h (by decide),fun h=>absurd h (by decide),fun h=>absurd h (by decide)⟩
 |enum t L hk hm=>
  intro n b hB
  have hat:=hB.at
  have hb:1≤b:=by cases hB<;>omega
  have tw:=hty _ (List.mem_of_getElem? hat)
  have hnl:=tw.nl
  have hns:=tw.ns
  have hw:=tz 10
  have hsl:=akJ tw.sl
  refine⟨?_,⟨sM rfl (by simp) (by simp) ⟨jl (by omega),jl (by omega),aee (by simp;omega) (akI fun s hs=>by have:=tw.sl s hs;omega),trivial⟩,trivial⟩⟩
  have q1:=bN (tyA ts t).name
  have q2:=bN (cm 10)
  have hl:=aed ((tyA ts t).syms.map bc)
  simp only[eU,acp,nq,List.length_append,List.length_cons,List.length_nil]
  have e1:(aM dr).length=6:=rfl
  have e2:(aM cn).length=6:=rfl
  have e3:(aM [115,121,109,98,111,108,115]).length=9:=rfl
  rw[e1,e2,e3]
  simp only[CC,WW] at*
  omega
 |rcd t L js L' hk hm h ih=>
  intro n b hB
  have hat:=hB.at
  have hb:1≤b:=by cases hB<;>omega
  have tw:=hty _ (List.mem_of_getElem? hat)
  have hnl:=tw.nl
  have hnf:=tw.nf
  have hw:=tz 9
  obtain⟨i1,i2,i3⟩:=ih fun f hf=>by
   obtain⟨b,b1,b2⟩:=hX.2.1 _ _ hat f hf
   exact⟨tw.fn f hf,_,b,b1,b2⟩
  refine⟨?_,⟨sM rfl (by simp) (by simp) ⟨jl (by omega),jl (by omega),aee (by omega) i2,trivial⟩,trivial⟩⟩
  have q1:=bN (tyA ts t).name
  have q2:=bN (cm 9)
  have hl:=aed js
  have hfl:(tyA ts t).fields.length*(700+CC*fL)≤8*(700+CC*fL):=Nat.mul_le_mul_right _ hnf
  simp only[eU,acp,nq,List.length_append,List.length_cons,List.length_nil] at i1 ⊢
  have e1:(aM dr).length=6:=rfl
  have e2:(aM cn).length=6:=rfl
  have e3:(aM [102,105,101,108,100,115]).length=8:=rfl
  rw[e1,e2,e3]
  simp only[CC,WW,fL] at*
  omega
 |prim t L hk=>
  intro n b hB
  have hb:1≤b:=by cases hB<;>omega
  have hw:=tz (tyA ts t).kind
  refine⟨?_,jl (by omega),trivial⟩
  have:=bN (cm (tyA ts t).kind)
  simp only[eU,nq,CC]
  omega
 |rnil L=>
  intro n w hw
  simp[eU,hY,jD]
 |fnil L=>
  intro hf
  simp[eU,jD]
 |rcons b bs L j L1 js L2 h hr ih1 ih2=>
  intro n w hw
  obtain⟨i1,i2⟩:=ih1 n (w 0) (hw 0 b rfl)
  obtain⟨j1,j2,j3⟩:=ih2 n (fun k=>w (k+1)) fun k c hk=>hw (k+1) c (by simpa using hk)
  unfold jD at i2
  refine⟨?_,⟨i2.1,j2⟩,by simp[j3]⟩
  rw[List.length_cons,abQ]
  simp only[eU,Nat.mul_add] at i1 j1 ⊢
  omega
 |fcons f fs L j L1 js L2 h hr ih1 ih2=>
  intro hf
  obtain⟨f1,n,b,b1,b2⟩:=hf f (by simp)
  obtain⟨i1,i2⟩:=ih1 n b b2
  obtain⟨j1,j2,j3⟩:=ih2 fun g hg=>hf g (by simp[hg])
  unfold jD at i2
  refine⟨?_,⟨sM rfl (by simp) (by simp) ⟨jl (by omega),i2.1,trivial⟩,j2⟩,by simp[j3]⟩
  have q1:=bN f.name
  have hb:CC*b≤CC*fL:=Nat.mul_le_mul_left _ b1
  rw[List.length_cons,Nat.add_mul,Nat.one_mul]
  simp only[eU,aco,nq] at i1 ⊢
  have e1:(aM dr).length=6:=rfl
  have e2:(aM cn).length=6:=rfl
  rw[e1,e2]
  omega
theorem TR.tells{ts:List am}(hX:oN ts){j:ak}{L':List Int}(h:TR ts (.node 0) [] [j] L'):rW j∧(aL j).length≤ai5:=by
 obtain⟨b,b1,b2⟩:=hX.2.2
 obtain⟨h1,h2⟩:=h.bnd hX 0 b b2
 have h3:=(h.keeps ⟨List.nodup_nil,by simp⟩).1.le
 have h4:=hX.1.1.2
 have hb:CC*b≤CC*fL:=Nat.mul_le_mul_left _ b1
 have hw:WW*L'.length≤WW*60:=Nat.mul_le_mul_left _ (by omega)
 unfold jD at h2
 refine⟨h2.1,?_⟩
 simp only[eU,CC,WW,fL,ai5,List.length_nil] at*
 omega
end Go.Proofs.YtkinflmjagfapaaDoor
end
noncomputable section
namespace Go.Proofs.YtkinflmjagfapaaDoor
open Go.AM
set_option autoImplicit false
set_option linter.unusedVariables false
set_option linter.unusedSimpArgs false
set_option maxRecDepth 100000
abbrev aef:Nat:=20000000000000
theorem TR.lenT{ts:List am}(hX:oN ts){t:Int}{L L':List Int}{j:ak}{n b:Nat}(h:TR ts (.node t) L [j] L')(hL:LOK ts L)(hb:b≤fL)(hB:cD ts n t b):(aL j).length≤aef:=by
 have h1:=(h.bnd hX n b hB).1
 have h3:=(h.keeps hL).1.le
 have h4:=hX.1.1.2
 have hc:CC*b≤CC*fL:=Nat.mul_le_mul_left _ hb
 have hw:WW*L'.length≤WW*60:=Nat.mul_le_mul_left _ (by omega)
 simp only[eU,CC,WW,fL,aef] at*
 omega
theorem aaP(x:List UInt8):∀xs:List (List UInt8),bL [44] (xs++[x])=if xs=[] then x else bL [44] xs++44::x
 | []=>by simp[bL,Go.Lib.join_cons,Go.Lib.joinTail]
 |y::r=>by
  simp[bL,Go.Lib.join_cons,Go.Lib.joinTail]
def ai6(ts:List am)(K:Nat):Prop:=∀(L:List Int)(t:Int)(n b:Nat),b≤fL→LOK ts L→ts.length≤L.length+K→cD ts n t b→∃r,aB (bm L) ts t r
def ajO(ts:List am)(K:Nat):Prop:=∀(L:List Int)(k:am),k∈ts→9≤k.kind∧k.kind≤11→LOK ts L→ts.length≤L.length+K→∃r,aY (bm L) ts k r
theorem xK{ts:List am}{L:List Int}{t:Int}{r:List UInt8×List (Int×Bool)×List am}(h:aB (bm L) ts t r):∃j L',r.2.1=bm L'∧r.2.2=ts∧TR ts (.node t) L [j] L'∧r.1=aL j:=by
 obtain⟨-,j,L',h1,h2,h3,h4⟩:=h
 rw[b8] at h3
 exact⟨j,L',h1,h2,h3,h4⟩
theorem ajP{ts:List am}{L:List Int}{k:am}{r:List UInt8×List (Int×Bool)×List am}(h:aY (bm L) ts k r):∃j L',r.2.1=bm L'∧r.2.2=ts∧ab6 ts k L j L'∧aaY k j r.1:=by
 obtain⟨-,j,L',h1,h2,h3,h4⟩:=h
 rw[b8] at h3
 exact⟨j,L',h1,h2,h3,h4⟩
theorem akK(j:ak):aL (d9 [cn,[105,116,101,109,115]] [bc [97,114,114,97,121],j])=([123,34,116,121,112,101,34,58,34,97,114,114,97,121,34,44,34,105,116,101,109,115,34,58]++aL j)++[125]:=by
 simp[aL,aN,bL,Go.Lib.join_cons,Go.Lib.joinTail]
 rfl
theorem akL(j:ak):aL (d9 [cn,[118,97,108,117,101,115]] [bc [109,97,112],j])=([123,34,116,121,112,101,34,58,34,109,97,112,34,44,34,118,97,108,117,101,115,34,58]++aL j)++[125]:=by
 simp[aL,aN,bL,Go.Lib.join_cons,Go.Lib.joinTail]
 rfl
theorem acq(u:List UInt8)(k:am)(l:ak):aL (d9 [dr,cn,u] [bc k.name,bc (cm k.kind),l])=(123::(aM dr++58::(aM k.name++44::(aM cn++58::aM (cm k.kind)))))++((44::(aM u++58::aL l))++[125]):=by
 simp[aL,aN,bL,Go.Lib.join_cons,Go.Lib.joinTail]
theorem ai7{ts:List am}(hX:oN ts){K:Nat}(hT:ai6 ts K):ajO ts K:=by
 intro L k hk9 hkk hL hK
 obtain⟨⟨hs0,hs1⟩,hx,hXr⟩:=hX
 have tk:=hs1 k hk9
 apply tT 2000
 unfold oi dK
 dsimp only
 repeat' (first|(with_reducible refine au ?_ ?_<;>(intro hb;(try simp only[bnl] at hb);(try revert hb;intro _)))|with_reducible refine aA ?_ ?_|with_reducible refine ar ?_|(refine ao (akD _ ⟨tk.size.1,by have:=tk.size.2;simp only[zH] at this;omega⟩) ?_;rintro _ ⟨-,rfl⟩;try dsimp only)|fail)
 ·have:=aaO (n:=k.size) tk.size
  simp only[bnl,List.length_cons,List.length_nil];omega
 ·rename_i h11
  refine⟨_,bm L,ts,_,rfl,rfl,d9 [dr,cn,[115,105,122,101]] [bc k.name,bc (cm 11),.mk 3 k.size [] [] []],L,rfl,rfl,⟨?_,?_,?_⟩,?_⟩
  ·rw[b8];exact fun _=>⟨rfl,rfl⟩
  ·intro h;omega
  ·intro h;omega
  ·have:=acq [115,105,122,101] k (.mk 3 k.size [] [] [])
   rw[h11] at this
   unfold aaY
   rw[h11,this]
   simp[aL]
   rfl
 ·rename_i h10
  have hns:=tk.ns
  refine aX (fun(x:dm)=>x.1=k∧x.2.2.2.1=bm L∧x.2.2.2.2=ts∧((0:Int)≤x.2.2.1∧x.2.2.1≤(k.syms.length:Int))∧x.2.1=bL [44] (aN ((k.syms.take x.2.2.1.toNat).map bc))∧(x.2.1.length:Int)≤x.2.2.1*1000) (fun x=>((k.syms.length:Int)-x.2.2.1).toNat) ?_ _ _
   ⟨rfl,rfl,rfl,by simp only;omega,rfl,by simp⟩ (by simp only;omega)
  rintro again ⟨x0,s,i,e0,t0⟩ ⟨rfl,rfl,rfl,⟨i1,i2⟩,hs,hl⟩ ih
  dsimp only at ih i1 i2 hs hl hns hs0 hK
  unfold fl
  dsimp only
  have ew:i<x0.syms.length→IntKind.i64.wrap (i+1)=i+1:=fun h=>ay (i+1) (by omega)
  have hq:i<x0.syms.length→(x0.syms.getD i.toNat (av .str)).length≤100:=fun h=>tk.sl _ (by
   rw[List.getD_eq_getElem?_getD,List.getElem?_eq_getElem (show i.toNat<x0.syms.length by omega)]
   exact List.getElem_mem _)
  have eq:i<x0.syms.length→bL [44] (aN ((x0.syms.take (i+1).toNat).map bc))=if i=0 then aM (x0.syms.getD i.toNat (av .str)) else s++44::aM (x0.syms.getD i.toNat (av .str)):=fun h=>by
   rw[jB (av .str) ⟨i1,h⟩,List.map_append,bM,List.map_append]
   have:List.map aL (List.map bc [x0.syms.getD i.toNat (av .str)])=[aM (x0.syms.getD i.toNat (av .str))]:=by simp[aL]
   rw[this,aaP,hs,bM]
   by_cases h0:i=0
   ·subst h0;simp
   ·rw[if_neg h0,if_neg]
    simp
    exact⟨by omega,fun e=>by rw[e] at h;simp at h;omega⟩
  repeat' (first|(with_reducible refine au ?_ ?_<;>(intro hb;(try simp only[bnl] at hb);(try revert hb;intro _)))|with_reducible refine aA ?_ ?_|with_reducible refine ar ?_|(refine ao (xJ _ (by have:=hq (by omega);omega)) ?_;rintro _ ⟨-,rfl⟩;try dsimp only)|fail)
  ·first|(simp only[bnl,lnl];done)|(simp only[bnl,lnl];omega)
  ·first|(simp only[bnl,lnl];done)|(simp only[bnl,lnl];omega)
  ·have:=hq (by assumption);have:=bN (x0.syms.getD i.toNat (av .str))
   simp only[bnl,List.length_append,List.length_cons,List.length_nil];omega
  ·have hi:i<(x0.syms.length:Int):=by assumption
   have:=hq hi;have:=bN (x0.syms.getD i.toNat (av .str))
   refine ih _ ⟨rfl,rfl,rfl,by simp only[ew hi];omega,?_,by simp only[ew hi,List.length_append,List.length_cons,List.length_nil];omega⟩ (by simp only[ew hi];omega)
   simp only[ew hi]
   rw[eq hi,if_neg (by omega)]
   simp
  ·first|(simp only[bnl,lnl];done)|(simp only[bnl,lnl];omega)
  ·have:=hq (by omega);have:=bN (x0.syms.getD i.toNat (av .str))
   simp only[bnl];omega
  ·have hi:i<(x0.syms.length:Int):=by assumption
   have:=hq hi;have:=bN (x0.syms.getD i.toNat (av .str))
   have h0:i=0:=by omega
   refine ih _ ⟨rfl,rfl,rfl,by simp only[ew hi];omega,?_,by simp only[ew hi,List.length_append];omega⟩ (by simp only[ew hi];omega)
   simp only[ew hi]
   rw[eq hi,if_pos h0,hs]
   subst h0
   simp[bM,bL,Go.Lib.join_nil]
  ·simp only[bnl,List.length_cons,List.length_nil];omega
  ·simp only[bnl,List.length_append,List.length_cons,List.length_nil];omega
  ·have:x0.syms.take i.toNat=x0.syms:=List.take_of_length_le (by omega)
   rw[this] at hs
   refine⟨_,bm L,_,_,rfl,rfl,d9 [dr,cn,[115,121,109,98,111,108,115]] [bc x0.name,bc (cm 10),nD (x0.syms.map bc)],L,rfl,rfl,⟨?_,?_,?_⟩,?_⟩
   ·intro h;have a1:x0.kind=11:=h;have a2:x0.kind=10:=h10;omega
   ·rw[b8];exact fun _=>⟨rfl,rfl⟩
   ·intro h;have a1:x0.kind=9:=h;have a2:x0.kind=10:=h10;omega
   ·have:=acq [115,121,109,98,111,108,115] x0 (nD (x0.syms.map bc))
    rw[h10] at this
    unfold aaY
    rw[h10,this,hs]
    simp[aL]
    rfl
 ·rename_i h11 h10
  have hnf:=tk.nf
  have h9:k.kind=9:=by omega
  obtain⟨io,hio⟩:=List.getElem?_of_mem hk9
  refine aX (fun(x:dn)=>x.1=k∧x.2.2.2.2=ts∧((0:Int)≤x.2.2.1∧x.2.2.1≤(k.fields.length:Int))∧(∃js L',x.2.2.2.1=bm L'∧TR ts (.flds (k.fields.take x.2.2.1.toNat)) L js L'∧x.2.1=bL [44] (aN js))∧(x.2.1.length:Int)≤x.2.2.1*20000000001000) (fun x=>((k.fields.length:Int)-x.2.2.1).toNat) ?_ _ _
   ⟨rfl,rfl,by simp only;omega,⟨[],L,rfl,.fnil L,rfl⟩,by simp⟩ (by simp only;omega)
  rintro again ⟨x0,s,i,e0,t0⟩ ⟨rfl,rfl,⟨i1,i2⟩,⟨js,L1,rfl,hR,hs⟩,hl⟩ ih
  dsimp only at ih i1 i2 hs hl hnf hs0 hK hR
  unfold fm
  dsimp only
  have ew:i<x0.fields.length→IntKind.i64.wrap (i+1)=i+1:=fun h=>ay (i+1) (by omega)
  have hL1:=(hR.keeps hL).1
  have hle:L.length≤L1.length:=by obtain⟨M,rfl⟩:=(hR.keeps hL).2;simp
  have hjs:js.length=i.toNat:=by
   have:∀{fs:List bo}{L:List Int}{js:List ak}{L':List Int},TR t0 (.flds fs) L js L'→js.length=fs.length:=by
    intro fs
    induction fs with
    |nil=>intro L js L' h;cases h;rfl
    |cons f fs ih=>intro L js L' h;cases h with|fcons _ _ _ j M js _ h1 h2=>simp[ih h2]
   rw[this hR];simp;omega
  have hfm:i<x0.fields.length→x0.fields.getD i.toNat (av .afield)∈x0.fields:=fun h=>by
   rw[List.getD_eq_getElem?_getD,List.getElem?_eq_getElem (show i.toNat<x0.fields.length by omega)]
   exact List.getElem_mem _
  have hq:i<x0.fields.length→(aM (x0.fields.getD i.toNat (av .afield)).name).length≤602:=fun h=>by
   have:=tk.fn _ (hfm h);have:=bN (x0.fields.getD i.toNat (av .afield)).name;omega
  have hq0:i<x0.fields.length→(x0.fields.getD i.toNat (av .afield)).name.length≤10000:=fun h=>by have:=tk.fn _ (hfm h);omega
  have tcall:i<x0.fields.length→∃r,aB (bm L1) t0 (x0.fields.getD i.toNat (av .afield)).typ r:=fun h=>by
   obtain⟨b,b1,b2⟩:=hx io x0 hio _ (hfm h)
   exact hT L1 _ _ b b1 hL1 (show t0.length≤L1.length+K by omega) b2
  have tlen:i<x0.fields.length→∀{j:ak}{L2:List Int},TR t0 (.node (x0.fields.getD i.toNat (av .afield)).typ) L1 [j] L2→(aL j).length≤20000000000000:=fun h j L2 hj=>by
   obtain⟨b,b1,b2⟩:=hx io x0 hio _ (hfm h)
   exact hj.lenT ⟨⟨hs0,hs1⟩,hx,hXr⟩ hL1 b1 b2
  have eq:i<x0.fields.length→∀j,bL [44] (aN (js++[d9 [dr,cn] [bc (x0.fields.getD i.toNat (av .afield)).name,j]]))=(if i=0 then [] else s++[44])++([123,34,110,97,109,101,34,58]++aM (x0.fields.getD i.toNat (av .afield)).name++[44,34,116,121,112,101,34,58]++aL j++[125]):=fun h j=>by
   have e1:aL (d9 [dr,cn] [bc (x0.fields.getD i.toNat (av .afield)).name,j])=[123,34,110,97,109,101,34,58]++aM (x0.fields.getD i.toNat (av .afield)).name++[44,34,116,121,112,101,34,58]++aL j++[125]:=by
    simp[aL,aN,bL,Go.Lib.join_cons,Go.Lib.joinTail]
    rfl
   rw[bM,List.map_append,←bM]
   show bL [44] (aN js++[aL _])=_
   rw[aaP,e1]
   by_cases h0:i=0
   ·rw[if_pos h0,if_pos]
    ·simp
    ·rw[bM]
     have:js=[]:=List.eq_nil_of_length_eq_zero (by omega)
     rw[this];rfl
   ·rw[if_neg h0,if_neg,←hs]
    ·simp
    ·intro e
     rw[bM] at e
     have:js=[]:=List.map_eq_nil_iff.1 e
     rw[this] at hjs
     simp at hjs
     omega
  repeat' (first|(with_reducible refine au ?_ ?_<;>(intro hb;(try simp only[bnl] at hb);(try revert hb;intro _)))|with_reducible refine aA ?_ ?_|with_reducible refine ar ?_|(refine ao (xJ _ (hq0 (by omega))) ?_;rintro _ ⟨-,rfl⟩;try dsimp only)|(refine ao (tcall (by omega)) ?_;intro r hr;obtain⟨j,L2,f1,f2,hj,f3⟩:=xK hr;have hjl:=tlen (by omega) hj;try dsimp only)|fail)
  all_goals first|first|(simp only[bnl,lnl];done)|(simp only[bnl,lnl];omega)|(have:=hq (by omega);simp only[bnl,List.length_append,List.length_cons,List.length_nil];omega)|(have:=hq (by omega);simp only[bnl,List.length_append,List.length_cons,List.length_nil,f3];omega)|skip
  ·have hi:i<(x0.fields.length:Int):=by assumption
   have:=hq hi
   rw[f1,f2,f3]
   refine ih _ ⟨rfl,rfl,by simp only[ew hi];omega,⟨js++[d9 [dr,cn] [bc (x0.fields.getD i.toNat (av .afield)).name,j]],L2,rfl,?_,?_⟩,by simp only[ew hi,List.length_append,List.length_cons,List.length_nil];omega⟩ (by simp only[ew hi];omega)
   ·simp only[ew hi]
    rw[jB (av .afield) ⟨i1,hi⟩]
    exact TR.snocF hj hR
   ·rw[eq hi,if_neg (by omega)]
    simp
  ·have hi:i<(x0.fields.length:Int):=by assumption
   have:=hq hi
   have h0:i=0:=by omega
   rw[f1,f2,f3]
   refine ih _ ⟨rfl,rfl,by simp only[ew hi];omega,⟨js++[d9 [dr,cn] [bc (x0.fields.getD i.toNat (av .afield)).name,j]],L2,rfl,?_,?_⟩,by simp only[ew hi,List.length_append,List.length_cons,List.length_nil];omega⟩ (by simp only[ew hi];omega)
   ·simp only[ew hi]
    rw[jB (av .afield) ⟨i1,hi⟩]
    exact TR.snocF hj hR
   ·rw[eq hi,if_pos h0,hs]
    have:js=[]:=List.eq_nil_of_length_eq_zero (by omega)
    rw[this]
    simp[aN,bL,Go.Lib.join_nil]
  ·have:x0.fields.take i.toNat=x0.fields:=List.take_of_length_le (by omega)
   rw[this] at hR
   refine⟨_,bm L1,t0,_,rfl,rfl,d9 [dr,cn,[102,105,101,108,100,115]] [bc x0.name,bc (cm 9),nD js],L1,rfl,rfl,⟨?_,?_,?_⟩,?_⟩
   ·intro h;have a1:x0.kind=11:=h;have a2:x0.kind=9:=h9;omega
   ·intro h;have a1:x0.kind=10:=h;have a2:x0.kind=9:=h9;omega
   ·rw[b8];exact fun _=>⟨_,hR,rfl⟩
   ·have:=acq [102,105,101,108,100,115] x0 (nD js)
    rw[h9] at this
    unfold aaY
    rw[h9,this,hs]
    simp[aL]
    rfl
theorem abR{ts:List am}(hX:oN ts){K:Nat}(hO:∀K',K'+1=K→ajO ts K'):ai6 ts K:=by
 intro L t n b hb hL hK hB
 have hok:=hX.1.2
 induction hB generalizing L with
 |leaf i t h0 h hk=>
  obtain⟨x1,x2⟩:=aa4 h0 h
  have x3:tyA ts i=t:=x2
  have hlt:=(List.getElem?_eq_some_iff.1 h).1
  have hmem:t∈ts:=List.mem_of_getElem? h
  have hnl:=(hok t hmem).nl
  have hB:cD ts n i 1:=.leaf i t h0 h hk
  apply jR 2000
  unfold gX cz
  dsimp only
  rw[x2,ahg]
  have done:∀(j:ak)(L':List Int)(kd:9≤t.kind∧t.kind≤11)(hm:i ∉ L),ab6 ts t (L++[i]) j L'→TR ts (.node i) L [j] L':=by
   rintro j L' kd hm ⟨e3,e4,e5⟩
   by_cases h11:t.kind=11
   ·obtain⟨rfl,e⟩:=e3 h11
    rw[e,←x3]
    exact .fix i L (by rw[x3];exact h11) ⟨h0,hm⟩
   by_cases h10:t.kind=10
   ·obtain⟨rfl,e⟩:=e4 h10
    rw[e,←x3]
    exact .enum i L (by rw[x3];exact h10) ⟨h0,hm⟩
   have h9:t.kind=9:=by omega
   obtain⟨js,hR,e⟩:=e5 h9
   rw[e,←x3]
   exact .rcd i L js L' (by rw[x3];exact h9) ⟨h0,hm⟩ (by rw[x3];exact hR)
  have own:9≤t.kind∧t.kind≤11→i ∉ L→∃r,aY (eV (k:=.ib) (bm L) i true) ts t r:=by
   intro kd hm
   rw[xF L i hm]
   have hL2:=hL.snoc hm h0 (by omega)
   have:=hL2.le
   simp only[List.length_append,List.length_cons,List.length_nil] at this
   exact hO (K-1) (by omega) _ t hmem kd hL2 (by simp only[List.length_append,List.length_cons,List.length_nil];omega)
  have ownof:∀{r:List UInt8×List (Int×Bool)×List am},9≤t.kind∧t.kind≤11→i ∉ L→aY (eV (k:=.ib) (bm L) i true) ts t r→∃j L',r.2.1=bm L'∧r.2.2=ts∧TR ts (.node i) L [j] L'∧aaY t j r.1∧r.1.length≤aef:=by
   intro r kd hm hr
   rw[xF L i hm] at hr
   obtain⟨j,L',e1,e2,e3,e4⟩:=ajP hr
   have hR:=done j L' kd hm e3
   have:=hR.lenT hX hL hb hB
   have e5:(aL j).length=_:=congrArg List.length e4
   simp only[List.length_append] at e5
   exact⟨j,L',e1,e2,hR,e4,by omega⟩
  have told:9≤t.kind∧t.kind≤11→i∈L→eW (bm L) ts i (aM t.name,bm L,ts):=by
   intro kd hm
   refine⟨bc t.name,L,rfl,rfl,?_,by simp[aL]⟩
   rw[b8,←x3]
   exact .told i L (by rw[x3];exact kd) hm
  have prim:t.kind≤8→eW (bm L) ts i (aM (cm t.kind),bm L,ts):=by
   intro kd
   refine⟨bc (cm t.kind),L,rfl,rfl,?_,by simp[aL]⟩
   rw[b8,←x3]
   exact .prim i L (by rw[x3];exact kd)
  have hwl:=tz t.kind
  have hqn:=bN t.name
  have hqw:=bN (cm t.kind)
  repeat' (first|(with_reducible refine au ?_ ?_<;>(intro hb;(try simp only[bnl] at hb);(try revert hb;intro _)))|with_reducible refine aA ?_ ?_|with_reducible refine ar ?_|(refine ao (xJ _ (by omega)) ?_;rintro _ ⟨-,rfl⟩;try dsimp only)|(refine ao (ag0 _) ?_;rintro _ ⟨-,rfl⟩;try dsimp only)|(refine ao (own (by omega) (by assumption)) ?_;intro r hr;obtain⟨j,L',f1,f2,f3,f4,f5⟩:=ownof (by omega) (by assumption) hr;simp only[aef] at f5;try dsimp only)|fail)
  all_goals first|exact x1|omega|(simp only[bnl,List.length_append,List.length_cons,List.length_nil];omega)|exact⟨_,_,_,_,rfl,rfl,told (by omega) (by assumption)⟩|exact⟨_,_,_,_,rfl,rfl,prim (by omega)⟩|skip
  all_goals (refine⟨_,_,_,_,rfl,rfl,j,L',f1,f2,by rw[b8];exact f3,?_⟩;rw[f4];have q1:aM dr=[34,110,97,109,101,34]:=rfl;have q2:aM cn=[34,116,121,112,101,34]:=rfl;simp[q1,q2])
 |arr i t b h0 hn h hk hr ih=>
  obtain⟨x1,x2⟩:=aa4 h0 h
  have x3:tyA ts i=t:=x2
  apply jR 2000
  unfold gX cz
  dsimp only
  rw[x2]
  repeat' (first|(with_reducible refine au ?_ ?_<;>(intro hb;(try simp only[bnl] at hb);(try revert hb;intro _)))|with_reducible refine aA ?_ ?_|with_reducible refine ar ?_|(refine ao (ih L (by omega) hL hK) ?_;intro r hr';obtain⟨j,L2,e1,e2,hR2,e3⟩:=xK hr';have hjl:=hR2.lenT hX hL (by omega) hr;simp only[aef] at hjl;try dsimp only)|fail)
  all_goals first|exact x1|omega|(rw[e3];simp only[bnl,List.length_append,List.length_cons,List.length_nil];omega)|skip
  ·refine⟨_,_,_,_,rfl,rfl,_,L2,e1,e2,?_,by rw[e3];exact(akK j).symm⟩
   rw[b8]
   exact .arr i L j L2 (by rw[x3];assumption) (by rw[x3];exact hR2)
  ·refine⟨_,_,_,_,rfl,rfl,_,L2,e1,e2,?_,by rw[e3];exact(akL j).symm⟩
   rw[b8]
   exact .map i L j L2 (by rw[x3];assumption) (by rw[x3];exact hR2)
 |uni i t w h0 hn h hk hr ih=>
  obtain⟨x1,x2⟩:=aa4 h0 h
  have x3:tyA ts i=t:=x2
  have hnb:=(hok t (List.mem_of_getElem? h)).nb
  apply jR 2000
  unfold gX cz
  dsimp only
  rw[x2]
  repeat' (first|(with_reducible refine au ?_ ?_<;>(intro hb;(try simp only[bnl] at hb);(try revert hb;intro _)))|with_reducible refine aA ?_ ?_|with_reducible refine ar ?_|fail)
  ·exact x1
  all_goals first|omega|skip
  have wle:∀(k:Nat),k<t.branches.length→w k≤hY w t.branches.length:=by
   intro k hk
   have:∀m,k<m→w k≤hY w m:=by
    intro m
    induction m with
    |zero=>intro h;omega
    |succ m ihm=>
     intro h
     simp only[hY]
     by_cases e:k=m
     ·subst e;omega
     ·have:=ihm (by omega);omega
   exact this _ hk
  refine aX (fun(x:dJ)=>x.1=t∧x.2.2.2.2=ts∧((0:Int)≤x.2.2.1∧x.2.2.1≤(t.branches.length:Int))∧(∃js L',x.2.2.2.1=bm L'∧js.length=x.2.2.1.toNat∧TR ts (.row (t.branches.take x.2.2.1.toNat)) L js L'∧x.2.1=91::bL [44] (aN js))∧(x.2.1.length:Int)≤1+x.2.2.1*20000000000001) (fun x=>((t.branches.length:Int)-x.2.2.1).toNat) ?_ _ _
   ⟨rfl,rfl,by simp only;omega,⟨[],L,rfl,rfl,.rnil L,rfl⟩,by simp⟩ (by simp only;omega)
  rintro again ⟨y0,s,k,es,us⟩ ⟨rfl,rfl,⟨i1,i2⟩,⟨js,L1,rfl,hjs,hR,hs⟩,hl⟩ ihl
  dsimp only at ihl i1 i2 hs hl hR hjs hK hnb hb wle x1 x3
  unfold gl
  dsimp only
  have ew:k<y0.branches.length→IntKind.i64.wrap (k+1)=k+1:=fun h=>ay (k+1) (by omega)
  have hL1:=(hR.keeps hL).1
  have hle:L.length≤L1.length:=by obtain⟨M,rfl⟩:=(hR.keeps hL).2;simp
  have hbr:k<y0.branches.length→y0.branches[k.toNat]? =some (y0.branches.getD k.toNat (av (.num .i64))):=fun h=>by
   rw[List.getD_eq_getElem?_getD,List.getElem?_eq_getElem (show k.toNat<y0.branches.length by omega)];rfl
  have hwk:k<y0.branches.length→w k.toNat≤fL:=fun h=>by have:=wle k.toNat (by omega);omega
  have tcall:k<y0.branches.length→∃r,aB (bm L1) us (y0.branches.getD k.toNat (av (.num .i64))) r:=fun h=>ih k.toNat _ (hbr h) L1 (hwk h) hL1 (show us.length≤L1.length+K by omega)
  have eq:∀j,bL [44] (aN (js++[j]))=if k=0 then aL j else bL [44] (aN js)++44::aL j:=fun j=>by
   rw[bM,List.map_append,←bM]
   show bL [44] (aN js++[aL _])=_
   rw[aaP]
   by_cases h0:k=0
   ·rw[if_pos h0,if_pos]
    rw[List.eq_nil_of_length_eq_zero (show js.length=0 by omega)];rfl
   ·rw[if_neg h0,if_neg]
    intro e
    rw[bM] at e
    have:js=[]:=List.map_eq_nil_iff.1 e
    rw[this] at hjs
    simp at hjs
    omega
  repeat' (first|(with_reducible refine au ?_ ?_<;>(intro hb;(try simp only[bnl] at hb);(try revert hb;intro _)))|with_reducible refine aA ?_ ?_|with_reducible refine ar ?_|(refine ao (tcall (by omega)) ?_;intro r hr';obtain⟨j,L2,f1,f2,hj,f3⟩:=xK hr';have hjl:=hj.lenT hX hL1 (hwk (by omega)) (hr _ _ (hbr (by omega)));simp only[aef] at hjl;try dsimp only)|fail)
  all_goals first|first|(simp only[bnl,lnl];done)|(simp only[bnl,lnl];omega)|(simp only[bnl,List.length_append,List.length_cons,List.length_nil];omega)|(simp only[bnl,List.length_append,List.length_cons,List.length_nil,f3];omega)|skip
  ·have hi:k<(y0.branches.length:Int):=by assumption
   rw[f1,f2,f3]
   refine ihl _ ⟨rfl,rfl,by simp only[ew hi];omega,⟨js++[j],L2,rfl,by simp only[ew hi,List.length_append,List.length_cons,List.length_nil];omega,?_,?_⟩,by simp only[ew hi,List.length_append,List.length_cons,List.length_nil];omega⟩ (by simp only[ew hi];omega)
   ·simp only[ew hi]
    rw[jB (av (.num .i64)) ⟨i1,hi⟩]
    exact TR.snoc hj hR
   ·rw[eq,if_neg (by omega),hs];simp
  ·have hi:k<(y0.branches.length:Int):=by assumption
   have h0:k=0:=by omega
   rw[f1,f2,f3]
   refine ihl _ ⟨rfl,rfl,by simp only[ew hi];omega,⟨js++[j],L2,rfl,by simp only[ew hi,List.length_append,List.length_cons,List.length_nil];omega,?_,?_⟩,by simp only[ew hi,List.length_append];omega⟩ (by simp only[ew hi];omega)
   ·simp only[ew hi]
    rw[jB (av (.num .i64)) ⟨i1,hi⟩]
    exact TR.snoc hj hR
   ·rw[eq,if_pos h0,hs,List.eq_nil_of_length_eq_zero (show js.length=0 by omega)]
    simp[aN,bL,Go.Lib.join_nil]
  ·have:y0.branches.take k.toNat=y0.branches:=List.take_of_length_le (by omega)
   rw[this] at hR
   refine⟨_,bm L1,us,_,rfl,rfl,nD js,L1,rfl,rfl,?_,by rw[hs];simp[aL]⟩
   rw[b8]
   exact .uni i L js L1 (by rw[x3];exact hk) (by rw[x3];exact hR)
theorem adh{ts:List am}(hX:oN ts):∀K,ai6 ts K
 |0=>abR hX fun K' h=>by omega
 |K+1=>abR hX fun K' h=>by
  obtain rfl:K'=K:=by omega
  exact ai7 hX (adh hX K')
theorem ajQ{ts:List am}(hX:oN ts):∃r,ll ts r:=by
 have h0:=hX.1.1.1
 have hne:ts≠[]:=fun e=>by subst e;simp at h0
 obtain⟨b,hb,hB⟩:=hX.2.2
 apply ac8 1
 unfold wh wg
 dsimp only
 have hT:=adh hX ts.length [] 0 0 b hb ⟨List.nodup_nil,by simp⟩ (by simp) hB
 repeat' (first|(with_reducible refine au ?_ ?_<;>(intro hb;(try simp only[bnl] at hb);(try revert hb;intro _)))|with_reducible refine aA ?_ ?_|with_reducible refine ar ?_|fail)
 ·rename_i h;exfalso;omega
 refine ao (C:=aB (bm []) ts 0) hT ?_
 intro r hr
 obtain⟨j,L',e1,e2,hR,e3⟩:=xK hr
 exact ar ⟨_,_,rfl,rfl,fun h=>absurd h hne,fun _=>⟨j,L',hR,e3⟩⟩
end Go.Proofs.YtkinflmjagfapaaDoor
end
noncomputable section
namespace Go.Proofs.YtkinflmjagfapaaDoor
open Go.AM
set_option autoImplicit false
set_option linter.unusedVariables false
set_option linter.unusedSimpArgs false
set_option maxRecDepth 100000
abbrev aaQ(f:bo):List UInt8×Int:=(f.name,f.typ)
structure amg(a b:am):Prop where
 kind:a.kind=b.kind
 name:a.name=b.name
 items:a.items=b.items
 syms:a.syms=b.syms
 size:a.size=b.size
 branches:a.branches=b.branches
def Sim(A:Int→Prop)(ts us:List am):Prop:=∀t,amg (tyA ts t) (tyA us t)∧(0≤t→¬A t→(tyA ts t).fields.map aaQ=(tyA us t).fields.map aaQ)
def qf:Tk→Tk→Prop
 | .node t,.node t'=>t=t'
 | .row bs,.row bs'=>bs=bs'
 | .flds fs,.flds fs'=>fs.map aaQ=fs'.map aaQ
 |_,_=>False
theorem qf.n(t:Int):qf (.node t) (.node t):=rfl
theorem qf.r(bs:List Int):qf (.row bs) (.row bs):=rfl
theorem TR.same{A:Int→Prop}{ts us:List am}(hS:Sim A ts us){tk:Tk}{L L':List Int}{js:List ak}(h:TR ts tk L js L'):(∀a,A a→a∈L)→∀tk' js2 L2,qf tk tk'→TR us tk' L js2 L2→js=js2∧L'=L2:=by
 have keepA:∀{L x:List Int},(∀a,A a→a∈L)→(∀a,A a→a∈L++x):=fun h a ha=>List.mem_append_left _ (h a ha)
 have grows:∀{vs:List am}{tk:Tk}{L L':List Int}{js:List ak},TR vs tk L js L'→∀a,a∈L→a∈L':=by
  intro vs tk L L' js h
  induction h with
  |arr t L j L' hk h ih=>exact ih
  |map t L j L' hk h ih=>exact ih
  |uni t L js L' hk h ih=>exact ih
  |told t L hk hm=>exact fun a h=>h
  |fix t L hk hm=>exact fun a h=>List.mem_append_left _ h
  |enum t L hk hm=>exact fun a h=>List.mem_append_left _ h
  |rcd t L js L' hk hm h ih=>exact fun a h=>ih a (List.mem_append_left _ h)
  |prim t L hk=>exact fun a h=>h
  |rnil L=>exact fun a h=>h
  |fnil L=>exact fun a h=>h
  |rcons b bs L j L1 js L2 h hr ih1 ih2=>exact fun a h=>ih2 a (ih1 a h)
  |fcons f fs L j L1 js L2 h hr ih1 ih2=>exact fun a h=>ih2 a (ih1 a h)
 induction h with
 |arr t L j L' hk h ih=>
  intro hA tk' js2 L2 hK h2
  cases tk' with
  |node t'=>
   obtain rfl:t=t':=hK
   obtain⟨s, -⟩:=hS t
   have sk:=s.kind
   cases h2 with
   |arr _ _ j2 _ hk2 h2=>
    rw[←s.items] at h2
    obtain⟨e1,e2⟩:=ih hA _ _ _ (qf.n _) h2
    cases e1
    exact⟨rfl,e2⟩
   |_=>exfalso;omega
  |_=>cases hK
 |map t L j L' hk h ih=>
  intro hA tk' js2 L2 hK h2
  cases tk' with
  |node t'=>
   obtain rfl:t=t':=hK
   obtain⟨s, -⟩:=hS t
   have sk:=s.kind
   cases h2 with
   |map _ _ j2 _ hk2 h2=>
    rw[←s.items] at h2
    obtain⟨e1,e2⟩:=ih hA _ _ _ (qf.n _) h2
    cases e1
    exact⟨rfl,e2⟩
   |_=>exfalso;omega
  |_=>cases hK
 |uni t L js L' hk h ih=>
  intro hA tk' js2 L2 hK h2
  cases tk' with
  |node t'=>
   obtain rfl:t=t':=hK
   obtain⟨s, -⟩:=hS t
   have sk:=s.kind
   cases h2 with
   |uni _ _ j2 _ hk2 h2=>
    rw[←s.branches] at h2
    obtain⟨e1,e2⟩:=ih hA _ _ _ (qf.r _) h2
    cases e1
    exact⟨rfl,e2⟩
   |_=>exfalso;omega
  |_=>cases hK
 |told t L hk hm=>
  intro hA tk' js2 L2 hK h2
  cases tk' with
  |node t'=>
   obtain rfl:t=t':=hK
   obtain⟨s, -⟩:=hS t
   have sk:=s.kind
   cases h2 with
   |told=>exact⟨by rw[s.name],rfl⟩
   |fix _ _ hk2 hm2=>exact absurd hm hm2.2
   |enum _ _ hk2 hm2=>exact absurd hm hm2.2
   |rcd _ _ _ _ hk2 hm2 _=>exact absurd hm hm2.2
   |_=>exfalso;omega
  |_=>cases hK
 |fix t L hk hm=>
  intro hA tk' js2 L2 hK h2
  cases tk' with
  |node t'=>
   obtain rfl:t=t':=hK
   obtain⟨s, -⟩:=hS t
   have sk:=s.kind
   cases h2 with
   |fix=>exact⟨by rw[s.name,s.size],rfl⟩
   |told _ _ hk2 hm2=>exact absurd hm2 hm.2
   |_=>exfalso;omega
  |_=>cases hK
 |enum t L hk hm=>
  intro hA tk' js2 L2 hK h2
  cases tk' with
  |node t'=>
   obtain rfl:t=t':=hK
   obtain⟨s, -⟩:=hS t
   have sk:=s.kind
   cases h2 with
   |enum=>exact⟨by rw[s.name,s.syms],rfl⟩
   |told _ _ hk2 hm2=>exact absurd hm2 hm.2
   |_=>exfalso;omega
  |_=>cases hK
 |rcd t L js L' hk hm h ih=>
  intro hA tk' js2 L2 hK h2
  cases tk' with
  |node t'=>
   obtain rfl:t=t':=hK
   obtain⟨s,sf⟩:=hS t
   have sk:=s.kind
   cases h2 with
   |rcd _ _ js2 _ hk2 hm2 h2=>
    obtain⟨e1,e2⟩:=ih (keepA hA) _ _ _ (show qf (.flds _) (.flds _) from sf hm.1 fun ha=>hm.2 (hA t ha)) h2
    exact⟨by rw[s.name,e1],e2⟩
   |told _ _ hk2 hm2=>exact absurd hm2 hm.2
   |_=>exfalso;omega
  |_=>cases hK
 |prim t L hk=>
  intro hA tk' js2 L2 hK h2
  cases tk' with
  |node t'=>
   obtain rfl:t=t':=hK
   obtain⟨s, -⟩:=hS t
   have sk:=s.kind
   cases h2 with
   |prim=>exact⟨by rw[s.kind],rfl⟩
   |_=>exfalso;omega
  |_=>cases hK
 |rnil L=>
  intro hA tk' js2 L2 hK h2
  cases tk' with
  |row bs=>
   obtain rfl:[]=bs:=hK
   cases h2
   exact⟨rfl,rfl⟩
  |_=>cases hK
 |fnil L=>
  intro hA tk' js2 L2 hK h2
  cases tk' with
  |flds fs=>
   cases fs with
   |nil=>cases h2;exact⟨rfl,rfl⟩
   |cons f fs=>cases hK
  |_=>cases hK
 |rcons b bs L j L1 js L2 h hr ih1 ih2=>
  intro hA tk' js2 L3 hK h2
  cases tk' with
  |row bs'=>
   obtain rfl:b::bs=bs':=hK
   cases h2 with
   |rcons _ _ _ j2 M js2 _ g1 g2=>
    obtain⟨e1,rfl⟩:=ih1 hA _ _ _ (qf.n _) g1
    cases e1
    obtain⟨rfl,rfl⟩:=ih2 (fun a ha=>grows h a (hA a ha)) _ _ _ (qf.r _) g2
    exact⟨rfl,rfl⟩
  |_=>cases hK
 |fcons f fs L j L1 js L2 h hr ih1 ih2=>
  intro hA tk' js2 L3 hK h2
  cases tk' with
  |flds fs'=>
   cases fs' with
   |nil=>cases hK
   |cons f' fs'=>
    have hK:aaQ f::fs.map aaQ=aaQ f'::fs'.map aaQ:=hK
    obtain⟨k1,k2⟩:=List.cons.inj hK
    obtain⟨k3,k4⟩:=Prod.mk.inj k1
    cases h2 with
    |fcons _ _ _ j2 M js2 _ g1 g2=>
     rw[←k4] at g1
     obtain⟨e1,rfl⟩:=ih1 hA _ _ _ (qf.n _) g1
     cases e1
     obtain⟨rfl,rfl⟩:=ih2 (fun a ha=>grows h a (hA a ha)) _ _ _ (show qf (.flds _) (.flds _) from k2) g2
     exact⟨by rw[k3],rfl⟩
  |_=>cases hK
theorem mT.same{ts us:List am}(hS:Sim (fun _=>False) ts us)(hl:ts=[]↔us=[]){x y:List UInt8}(h1:mT ts x)(h2:mT us y):x=y:=by
 by_cases h:ts=[]
 ·rw[h1.1 h,h2.1 (hl.1 h)]
 ·obtain⟨j,L,t1,rfl⟩:=h1.2 h
  obtain⟨j2,L2,t2,rfl⟩:=h2.2 fun e=>h (hl.2 e)
  obtain⟨e, -⟩:=t1.same hS (fun a ha=>ha.elim) _ _ _ (qf.n 0) t2
  cases e
  rfl
theorem Sim.refl(ts:List am):Sim (fun _=>False) ts ts:=fun t=>⟨⟨rfl,rfl,rfl,rfl,rfl,rfl⟩,fun _ _=>rfl⟩
def ai8(a b:List UInt8):Prop:=∃p x y r1 r2,x≠y∧a=p++x::r1∧b=p++y::r2
theorem ai8.mid{a b:List UInt8}(h:ai8 a b)(p r1 r2:List UInt8):ai8 (p++(a++r1)) (p++(b++r2)):=by
 obtain⟨p',x,y,s1,s2,hxy,rfl,rfl⟩:=h
 exact⟨p++p',x,y,s1++r1,s2++r2,hxy,by simp,by simp⟩
end Go.Proofs.YtkinflmjagfapaaDoor
end
