import Derived.KernelRfl
import Derived.Test.YtdpajabhmmmjoaaZ02
import Derived.Test.YtdpajabhmmmjoaaZ03
noncomputable section
namespace Go.Proofs.Ytdpajabhmmmjoaa
open Go.AM
set_option autoImplicit false
set_option linter.unusedVariables false
set_option linter.unusedSimpArgs false
theorem qw{α:Type}(l:List α)(i:Nat)(x d:α)(h:i<l.length):(l.set i x).getD i d=x:=by
 simp[List.getD_eq_getElem?_getD,List.getElem?_set,h]
theorem gr{α:Type}(l:List α)(i j:Nat)(x d:α)(h:i≠j):(l.set i x).getD j d=l.getD j d:=by
 simp[List.getD_eq_getElem?_getD,List.getElem?_set,h]
theorem jr{α:Type}(l:List α)(i:Nat)(d:α)(h:i<l.length):l.getD i d∈l:=by
 rw[List.getD_eq_getElem?_getD,List.getElem?_eq_getElem h];exact List.getElem_mem h
theorem uz.mono{k:aA}{r r':List Int}{m:Int}(h:uz k r m)(hl:r'.length=r.length)(hr:∀i,0≤r.getD i 0→r'.getD i 0=r.getD i 0):uz k r' m where
 pos:=h.pos
 uni h14:=by
  obtain⟨b,hb,h0,h1⟩:=h.uni h14
  exact⟨b,hb,by unfold rk at *;rw[hr _ h0];exact h0,by unfold rk at *;rw[hr _ h0];exact h1⟩
 rcd h14 f hf:=by
  obtain⟨h0,h1⟩:=h.rcd h14 f hf
  exact⟨by unfold rk at *;rw[hr _ h0];exact h0,by unfold rk at *;rw[hr _ h0];exact h1⟩
 pre h2:=by
  obtain⟨j,hj,e⟩:=h.pre h2
  exact⟨j,by omega,by rw[hr _ (by omega)];exact e⟩
theorem lO.step{ts:List aA}{r next:List Int}{m:Int}(h:lO ts r m)(hm:0≤m)(hl:next.length=ts.length)(h1:∀j,j<ts.length→0≤r.getD j 0→next.getD j 0=r.getD j 0)
  (h2:∀j,j<ts.length→r.getD j 0<0→next.getD j 0=-1∨uz (ts.getD j (aG .atype)) r (next.getD j 0)):lO ts next (m+1):=by
 have hrl:=h.len
 have hmono:∀i,0≤r.getD i 0→next.getD i 0=r.getD i 0:=fun i hi=>by
  by_cases hil:i<ts.length
  ·exact h1 i hil hi
  ·simp[List.getD_eq_getElem?_getD,List.getElem?_eq_none (show next.length≤i by omega),List.getElem?_eq_none (show r.length≤i by omega)]
 refine⟨hl,fun i hi=>?_,fun i hi=>?_,fun i hi h'=>?_,fun i hi h'=>?_⟩
 ·by_cases h0:0≤r.getD i 0
  ·rw[hmono i h0];omega
  ·rcases h2 i (by omega) (by omega) with e|e
   ·omega
   ·have:=e.pos;omega
 ·by_cases h0:0≤r.getD i 0
  ·rw[hmono i h0];have:=h.top i (by omega);omega
  ·rcases h2 i (by omega) (by omega) with e|e
   ·omega
   ·by_cases hp:2≤next.getD i 0
    ·obtain⟨j,hj,ej⟩:=e.pre hp
     have:=h.top j hj;omega
    ·omega
 ·by_cases h0:0≤r.getD i 0
  ·rw[hmono i h0] at h' ⊢;exact(h.ok i (by omega) h').mono (by omega) hmono
  ·rcases h2 i (by omega) (by omega) with e|e
   ·omega
   ·exact e.mono (by omega) hmono
 ·by_cases h0:0≤r.getD i 0
  ·rw[hmono i h0] at h';exact h.nul i (by omega) h'
  ·rcases h2 i (by omega) (by omega) with e|e
   ·omega
   ·have:=e.pos;omega
def yS(n:Int):List Int→Nat
 | []=>0
 |x::l=>(if 1≤x∧x≤n then 1 else 0)+yS n l
theorem at1(n:Int):∀l,yS n l≤l.length
 | []=>by simp[yS]
 |x::l=>by have:=at1 n l;simp only[yS,List.length_cons];split<;>omega
theorem apy(n:Int):∀l,yS n l≤yS (n+1) l
 | []=>by simp[yS]
 |x::l=>by have:=apy n l;simp only[yS];split<;>split<;>omega
theorem ajT(n:Int)(hn:0≤n):∀(l:List Int)(j:Nat),j<l.length→l.getD j 0=n+1→yS n l+1≤yS (n+1) l
 | [],j,h,_=>by simp at h
 |x::l,0,h,e=>by
  have:=apy n l
  simp only[List.getD_cons_zero] at e
  simp only[yS]
  rw[if_neg (by omega),if_pos (by omega)];omega
 |x::l,j+1,h,e=>by
  have:=ajT n hn l j (by simpa using h) (by simpa using e)
  simp only[yS];split<;>split<;>omega
theorem lO.chain{ts:List aA}{r:List Int}{m:Int}(h:lO ts r m):∀(n j:Nat),j<r.length→r.getD j 0=(n:Int)+1→n+1≤yS ((n:Int)+1) r
 |0,j,hj,e=>by have:=ajT 0 (by omega) r j hj (by simpa using e);simpa using (by omega:1≤yS (0+1) r)
 |n+1,j,hj,e=>by
  obtain⟨j',hj',e'⟩:=(h.ok j hj (by omega)).pre (by omega)
  have ih:=lO.chain h n j' hj' (by omega)
  have:=ajT ((n:Int)+1) (by omega) r j hj (by omega)
  have ec:(((n+1:Nat):Int)+1)=(n:Int)+1+1:=by omega
  rw[ec];omega
theorem lO.fin{ts:List aA}{r:List Int}{m:Int}(h:lO ts r m):lO ts r ts.length:=by
 refine⟨h.len,h.low,fun i hi=>?_,h.ok,h.nul⟩
 by_cases h1:1≤r.getD i 0
 ·have:=h.chain ((r.getD i 0).toNat-1) i hi (by omega)
  have h2:=at1 ((((r.getD i 0).toNat-1:Nat):Int)+1) r
  have:=h.len
  omega
 ·omega
theorem avA{ts:List aA}{r:List Int}{m:Int}{k:aA}{q:Int}(h:uz k r q)(h14:k.kind=14){b:Int}(hb:alw k r b):0≤rk r (brT k b.toNat)∧rk r (brT k b.toNat)<q:=by
 obtain⟨x,hx,h0,h1⟩:=h.uni h14
 obtain⟨j,hj,rfl⟩:=List.mem_iff_getElem.1 hx
 have e:brT k j=k.branches[j]:=by simp[brT,List.getD_eq_getElem?_getD,List.getElem?_eq_getElem hj]
 have:=hb.least j hj (by rw[e];exact h0)
 rw[e] at this
 omega
theorem asz(w:List Int)(i:Nat)(x:Int):∀l:List aM,(∀f∈l,f.typ.toNat≠i)→arS (w.set i x) l=arS w l
 | [],_=>rfl
 |f::l,h=>by
  have:=asz w i x l fun f hf=>h f (by simp[hf])
  simp only[arS,this,rk]
  rw[gr _ _ _ _ _ (fun e=>h f (by simp) e.symm)]
theorem alx.set{ts:List aA}{r w:List Int}{m:Int}(hR:lO ts r m){i j:Nat}{x:Int}(hj:j<r.length)(hr:0≤r.getD j 0)(hle:r.getD j 0≤r.getD i 0)(hne:i≠j)
  (h:alx (ts.getD j (aG .atype)) r w (w.getD j 0)):alx (ts.getD j (aG .atype)) r (w.set i x) ((w.set i x).getD j 0):=by
 rw[gr _ _ _ _ _ hne]
 refine⟨h.pos,h.top,fun h9=>?_,fun h14 b hb=>?_⟩
 ·have hk:1≤r.getD j 0:=by
   by_cases h0:r.getD j 0=0
   ·exact absurd h9 (hR.nul j hj h0).1
   ·omega
  rw[asz w i x _ fun f hf e=>?_]
  ·exact h.rcd h9
  ·have:=(hR.ok j hj hk).rcd (by omega) f hf
   unfold rk at this
   rw[e] at this;omega
 ·have hk:1≤r.getD j 0:=by
   by_cases h0:r.getD j 0=0
   ·exact absurd h14 (hR.nul j hj h0).2
   ·omega
  have hc:=avA (ts:=ts) (m:=m) (hR.ok j hj hk) h14 hb
  have hu:=h.uni h14 b hb
  unfold rk at hc hu ⊢
  rw[gr _ _ _ _ _ (fun e=>by rw[←e] at hc;omega)]
  exact hu
theorem aaT{α:Type}(l:List α)(i:Nat)(d:α)(h:i<l.length):l.take (i+1)=l.take i++[l.getD i d]:=by
 rw[List.take_add_one,List.getElem?_eq_getElem h,List.getD_eq_getElem?_getD,List.getElem?_eq_getElem h];rfl
def uN:List Int→Nat
 | []=>0
 |x::l=>(if x<0 then 1 else 0)+uN l
theorem alR:∀l,uN l≤l.length
 | []=>by simp[uN]
 |x::l=>by have:=alR l;simp only[uN,List.length_cons];split<;>omega
theorem aoS:∀(a b:List Int),a.length=b.length→(∀j,j<a.length→a.getD j 0<0→b.getD j 0<0)→uN a≤uN b
 | [],[],_,_=>Nat.le_refl _
 |x::a,y::b,hl,h=>by
  have ih:=aoS a b (by simpa using hl) (fun j hj hx=>by have:=h (j+1) (by simpa using hj) (by simpa using hx);simpa using this)
  have h0:=h 0 (by simp)
  simp only[List.getD_cons_zero] at h0
  simp only[uN]
  split<;>split<;>omega
theorem aoT:∀(a b:List Int),a.length=b.length→(∀j,j<a.length→a.getD j 0<0→b.getD j 0<0)→∀j,j<a.length→0≤a.getD j 0→b.getD j 0<0→uN a<uN b
 | [],[],_,_,j,hj,_,_=>by simp at hj
 |x::a,y::b,hl,h,0,hj,h1,h2=>by
  have ih:=aoS a b (by simpa using hl) (fun j hj hx=>by have:=h (j+1) (by simpa using hj) (by simpa using hx);simpa using this)
  simp only[List.getD_cons_zero] at h1 h2
  simp only[uN]
  rw[if_neg (by omega),if_pos h2]
  omega
 |x::a,y::b,hl,h,j+1,hj,h1,h2=>by
  have ih:=aoT a b (by simpa using hl) (fun j hj hx=>by have:=h (j+1) (by simpa using hj) (by simpa using hx);simpa using this) j (by simpa using hj) (by simpa using h1) (by simpa using h2)
  have h0:=h 0 (by simp)
  simp only[List.getD_cons_zero] at h0
  simp only[uN]
  split<;>split<;>omega
theorem acu.not{k:aA}{r:List Int}{m:Int}(h:acu k r)(h2:uz k r m):False:=by
 by_cases h14:k.kind=14
 ·obtain⟨b,hb,h0, -⟩:=h2.uni h14
  have:=h.1 h14 b hb
  omega
 ·obtain⟨f,hf,h0⟩:=h.2 h14
  have:=h2.rcd h14 f hf
  omega
theorem agx.step{ts:List aA}{r next:List Int}{n:Int}(hk:∀i,i<ts.length→(∀b∈(ts.getD i (aG .atype)).branches,0≤b∧b<(ts.length:Int))∧∀f∈(ts.getD i (aG .atype)).fields,0≤f.typ∧f.typ<(ts.length:Int))(hr:r.length=ts.length)(hl:next.length=ts.length)(h1:∀j,j<ts.length→0≤r.getD j 0→next.getD j 0=r.getD j 0)
  (h2:∀j,j<ts.length→r.getD j 0<0→(next.getD j 0=-1∧acu (ts.getD j (aG .atype)) r)∨uz (ts.getD j (aG .atype)) r (next.getD j 0)) (h:agx ts r∨n+uN r≤ts.length):agx ts next∨n+1+uN next≤ts.length:=by
 by_cases hx:∃j,j<ts.length∧r.getD j 0<0∧0≤next.getD j 0
 ·obtain⟨j,hj,h3,h4⟩:=hx
  right
  have hlt:=aoT next r (by omega) (fun i hi hn=>by
   rcases Int.lt_or_le (r.getD i 0) 0 with e|e
   ·exact e
   ·have:=h1 i (by omega) e;omega) j (by omega) h4 h3
  rcases h with h|h
  ·exfalso
   rcases h2 j hj h3 with⟨e, -⟩|e
   ·omega
   ·exact(h j hj h3).not e
  ·omega
 ·left
  have hx:∀j,j<ts.length→r.getD j 0<0→next.getD j 0<0:=fun j hj h3=>by
   rcases Int.lt_or_le (next.getD j 0) 0 with e|e
   ·exact e
   ·exact absurd ⟨j,hj,h3,e⟩ hx
  intro j hj h3
  have h4:r.getD j 0<0:=by
   rcases Int.lt_or_le (r.getD j 0) 0 with e|e
   ·exact e
   ·have:=h1 j hj e;omega
  rcases h2 j hj h4 with⟨-,e⟩|e
  ·refine⟨fun h14 b hb=>?_,fun h14=>?_⟩
   ·have:=(hk j hj).1 b hb
    exact hx b.toNat (by omega) (e.1 h14 b hb)
   ·obtain⟨f,hf,h5⟩:=e.2 h14
    have:=(hk j hj).2 f hf
    exact⟨f,hf,hx f.typ.toNat (by omega) h5⟩
  ·have:=e.pos;omega
end Go.Proofs.Ytdpajabhmmmjoaa
end
noncomputable section
namespace Go.Proofs.Ytdpajabhmmmjoaa
open Go.AM
set_option autoImplicit false
set_option linter.unusedSimpArgs false
set_option linter.unusedVariables false
set_option maxRecDepth 100000
theorem alb{α:Type}(p:α→Bool)(d:α)(l:List α)(i:Nat)(h:i<l.length):dC p (l.drop i) i=if p (l.getD i d) then (i:Int) else dC p (l.drop (i+1)) (i+1):=by
 rw[List.drop_eq_getElem_cons h,dC]
 simp[List.getD,h]
theorem vt{α:Type}(p:α→Bool):∀(l:List α)(i:Nat),decide (0≤dC p l i)=l.any p
 | [],_=>rfl
 |x::l,i=>by
  rw[dC,List.any_cons]
  cases h:p x with
  |true=>simp
  |false=>simpa using vt p l (i+1)
theorem ab2{α:Type}(p:α→Bool):∀(l:List α)(i:Nat),dC p l i=-1∨((i:Int)≤dC p l i∧dC p l i<i+l.length)
 | [],_=>.inl rfl
 |x::l,i=>by
  rw[dC]
  cases h:p x with
  |true=>right;simp;omega
  |false=>
   rcases ab2 p l (i+1) with e|e
   ·left;simpa using e
   ·right
    simp only[Bool.false_eq_true,if_false,List.length_cons]
    omega
structure Fst{α:Type}(p:α→Bool)(l:List α)(i:Int):Prop where
 nn:0≤i
 le:i≤l.length
 eq:dC p l 0=dC p (l.drop i.toNat) i.toNat
theorem Fst.zero{α:Type}(p:α→Bool)(l:List α):Fst p l 0:=⟨by omega,by omega,rfl⟩
theorem Fst.hit{α:Type}{p:α→Bool}{l:List α}{i:Int}(h:Fst p l i)(d:α)(hi:i<l.length)(hp:p (l.getD i.toNat d)=true):dC p l 0=i:=by
 have h0:=h.nn
 rw[h.eq,alb p d l _ (by omega),hp]
 simp;omega
theorem Fst.next{α:Type}{p:α→Bool}{l:List α}{i:Int}(h:Fst p l i)(d:α)(hi:i<l.length)(hp:p (l.getD i.toNat d)=false):Fst p l (i+1):=by
 have h0:=h.nn
 refine⟨by omega,by omega,?_⟩
 rw[h.eq,alb p d l _ (by omega),hp,show (i+1).toNat=i.toNat+1 by omega]
 simp
theorem Fst.none{α:Type}{p:α→Bool}{l:List α}{i:Int}(h:Fst p l i)(hi:¬i<l.length):dC p l 0=-1:=by
 have h0:=h.nn
 rw[h.eq,List.drop_eq_nil_of_le (by omega),dC]
theorem apz(s:List UInt8)(c:Int):∀n, -1≤oL s c n∧oL s c n<n
 |0=>by simp[oL]
 |n+1=>by
  have:=apz s c n
  rw[oL]
  split<;>omega
theorem avB(s:List UInt8)(c:Int):∃r,cu s c r:=by
 refine agJ (ret:=fun r=>.int .i64 r) fun hf=>?_
 have hs:s.length≤9223372036854775807:=hf (.str s) (by simp)
 refine rl (s.length+1) s c ?_
 unfold jq cp
 dsimp only
 rw[aI ((s.length:Int)-1) (by omega)]
 refine aT (fun x=>x.1=s∧x.2.1=c∧ -1≤x.2.2∧x.2.2<(s.length:Int)∧oL s c s.length=oL s c (x.2.2+1).toNat) (fun x=>(x.2.2+1).toNat) ?_ _ _ ⟨rfl,rfl,by simp only;omega,by simp only;omega,by simp only;congr 1;omega⟩ (by simp only;omega)
 rintro again ⟨s',c',i⟩ ⟨rfl,rfl,i1,i2,i3⟩ ih
 dsimp only at i1 i2 i3 ih hs
 unfold dg
 dsimp only
 refine aC (fun h=>?_) (fun h=>?_)
 ·have h:=of_decide_eq_true h
  have e:(i+1).toNat=i.toNat+1:=by omega
  rw[e,oL] at i3
  refine aH (ixt (by omega)) (aC (fun hb=>aE ⟨_,_,rfl,rfl,?_⟩) (fun hb=>ih _ ⟨rfl,rfl,?_,?_,?_⟩ ?_))
  ·rw[if_pos (by simpa using hb)] at i3
   show i=oL s' c' s'.length
   rw[i3];omega
  all_goals (try dsimp only);rw[aI (i-1) (by omega)]
  ·omega
  ·omega
  ·rw[if_neg (by simpa using hb)] at i3
   rw[i3];congr 1;omega
  ·omega
 ·have h:=of_decide_eq_false h
  refine aE ⟨_,_,rfl,rfl,?_⟩
  show -1=oL s' c' s'.length
  rw[i3,show (i+1).toNat=0 by omega];rfl
theorem aws(s:List UInt8)(c:Int):∃r,fZ s c r:=by
 apply abX 1
 unfold uH uG
 refine aD (avB s c) ?_
 rintro(r:Int) ⟨-,hr⟩
 exact aE ⟨_,_,rfl,rfl,hr⟩
theorem agK(s:List UInt8):∃r,nN s r:=by
 refine agJ (ret:=fun r=>.str r) fun hf=>?_
 have hs:s.length≤9223372036854775807:=hf (.str s) (by simp)
 refine aoc 1 s ?_
 unfold ahw ahv
 dsimp only
 refine aD (aws s 46) ?_
 rintro(r:Int) ⟨-,hr⟩
 have hr:r=oL s 46 s.length:=hr
 have hl:=apz s 46 s.length
 rw[←hr] at hl
 rw[aI (r+1) (by omega)]
 refine aH (by simp;omega) (aE ⟨_,_,rfl,rfl,?_⟩)
 show _=eT s
 rw[List.take_length,hr];rfl
theorem ab3(s:List UInt8):∃r,jo s r:=by
 refine agJ (ret:=fun r=>.str r) fun hf=>?_
 have hs:s.length≤9223372036854775807:=hf (.str s) (by simp)
 refine amY (s.length+1) s ?_
 unfold aff qp
 dsimp only
 rw[aI ((s.length:Int)-1) (by omega)]
 refine aT (fun x=>x.1=s∧ -1≤x.2∧x.2<(s.length:Int)∧oL s 46 s.length=oL s 46 (x.2+1).toNat) (fun x=>(x.2+1).toNat) ?_ _ _ ⟨rfl,by simp only;omega,by simp only;omega,by simp only;congr 1;omega⟩ (by simp only;omega)
 rintro again ⟨s',i⟩ ⟨rfl,i1,i2,i3⟩ ih
 dsimp only at i1 i2 i3 ih hs
 unfold tc
 dsimp only
 refine aC (fun h=>?_) (fun h=>?_)
 ·have h:=of_decide_eq_true h
  have e:(i+1).toNat=i.toNat+1:=by omega
  rw[e,oL] at i3
  refine aH (ixt (by omega)) (aC (fun hb=>?_) (fun hb=>ih _ ⟨rfl,?_,?_,?_⟩ ?_))
  ·rw[if_pos (by simpa using hb)] at i3
   rw[aI (i+1) (by omega)]
   refine aH (by simp;omega) (aE ⟨_,_,rfl,rfl,?_⟩)
   show _=eT s'
   rw[List.take_length,eT,i3,Int.toNat_of_nonneg h]
  all_goals (try dsimp only);rw[aI (i-1) (by omega)]
  ·omega
  ·omega
  ·rw[if_neg (by simpa using hb)] at i3
   rw[i3];congr 1;omega
  ·omega
 ·have h:=of_decide_eq_false h
  refine aE ⟨_,_,rfl,rfl,?_⟩
  show s'=eT s'
  rw[eT,i3,show (i+1).toNat=0 by omega];rfl
theorem anf(ts:List aA)(t:Int):∃r,oM ts t r:=by
 apply ar5 1
 unfold ak3 ak2
 dsimp only
 refine aC (fun h=>aE ⟨_,_,rfl,rfl,?_⟩) (fun h=>aE ⟨_,_,rfl,rfl,?_⟩)
 ·show _=isT ts t
  rw[isT,h];rfl
 ·show _=isT ts t
  rw[isT,h];rfl
theorem atz(s w:List UInt8):∃r,mE s w r:=by
 apply aid 1
 unfold aaM aaL
 refine aD (agK s) ?_
 rintro(r:List UInt8) ⟨-,hr⟩
 have hr:r=eT s:=hr
 exact aE ⟨_,_,rfl,rfl,by rw[hr];rfl⟩
theorem asA(l:List (List UInt8))(w:List UInt8)(hl:l.length≤1000):∃r,bG l w r:=by
 apply mX (l.length+1)
 unfold fD bE
 dsimp only
 refine aT (fun x=>x.1=l∧x.2.1=w∧x.2.2.1=(l.length:Int)∧Fst (fun s=>decide (eT s=w)) l x.2.2.2) (fun x=>(l.length-x.2.2.2:Int).toNat) ?_ _ _ ⟨rfl,rfl,rfl,.zero _ _⟩ (by simp only;omega)
 rintro again ⟨l',w',n,i⟩ ⟨rfl,rfl,i1,i2⟩ ih
 dsimp only at i1 i2 ih hl
 subst i1
 have h0:=i2.nn
 unfold cf
 dsimp only
 refine aC (fun h=>?_) (fun h=>aE ⟨_,_,rfl,rfl,(i2.none (of_decide_eq_false h)).symm⟩)
 have h:=of_decide_eq_true h
 rw[aI (i+1) (by omega)]
 refine aH (ixt (by omega)) (aD (atz _ _) ?_)
 rintro(r:Bool) ⟨-,hr⟩
 have hr:r=decide (eT (l'.getD i.toNat (aG .str))=w'):=hr
 exact aC (fun hb=>aE ⟨_,_,rfl,rfl,(i2.hit _ h (hr.symm.trans hb)).symm⟩) (fun hb=>ih _ ⟨rfl,rfl,rfl,i2.next _ h (hr.symm.trans hb)⟩ (by simp only;omega))
theorem aqN(l:List (List UInt8))(w:List UInt8)(hl:l.length≤1000):∃r,bA l w r:=by
 apply lH 1
 unfold eZ eY
 refine aD (asA l w hl) ?_
 rintro(r:Int) ⟨-,hr⟩
 have hr:r=dC _ l 0:=hr
 exact aE ⟨_,_,rfl,rfl,by rw[hr];exact vt _ _ _⟩
theorem auH(a b:aA)(hb:b.aliases.length≤1000):∃r,kr a b r:=by
 apply alB 1
 unfold adY adX
 refine aD (agK _) ?_
 rintro(r1:List UInt8) ⟨-,h1⟩
 refine aD (agK _) ?_
 rintro(r2:List UInt8) ⟨-,h2⟩
 have h1:r1=eT a.name:=h1
 have h2:r2=eT b.name:=h2
 subst h1 h2
 refine aC (fun h=>aE ⟨_,_,rfl,rfl,?_⟩) (fun h=>?_)
 ·show true=sj a b
  rw[sj,h];rfl
 ·refine aD (aqN _ _ hb) ?_
  rintro(r3:Bool) ⟨-,h3⟩
  have h3:r3=b.aliases.any _:=h3
  refine aE ⟨_,_,rfl,rfl,?_⟩
  show r3=sj a b
  rw[sj,h,h3];rfl
theorem auI(a b:aA)(hb:b.aliases.length≤1000):∃r,ml a b r:=by
 apply am0 (b.aliases.length+1)
 unfold afh qq
 dsimp only
 refine aD (ab3 _) ?_
 rintro(r1:List UInt8) ⟨-,h1⟩
 refine aD (ab3 _) ?_
 rintro(r2:List UInt8) ⟨-,h2⟩
 have h1:r1=eT b.name:=h1
 have h2:r2=eT a.name:=h2
 subst h1 h2
 refine aT (fun x=>x.1=a∧x.2.1=b∧0≤x.2.2.2∧x.2.2.2≤(b.aliases.length:Int)∧sj a b=(x.2.2.1||(b.aliases.drop x.2.2.2.toNat).any fun s=>decide (eT s=eT a.name))) (fun x=>(b.aliases.length-x.2.2.2:Int).toNat) ?_ _ _ ⟨rfl,rfl,by simp,by simp,rfl⟩ (by simp only;omega)
 rintro again ⟨a',b',is,i⟩ ⟨rfl,rfl,i1,i2,i3⟩ ih
 dsimp only at i1 i2 i3 ih hb
 unfold te
 dsimp only
 refine aC (fun h=>?_) (fun h=>aE ⟨_,_,rfl,rfl,?_⟩)
 ·have h:=of_decide_eq_true h
  have e:b'.aliases.drop i.toNat=b'.aliases.getD i.toNat (aG .str)::b'.aliases.drop (i+1).toNat:=by
   rw[List.drop_eq_getElem_cons (by omega),show (i+1).toNat=i.toNat+1 by omega]
   simp[List.getD,show i.toNat<b'.aliases.length by omega]
  rw[e,List.any_cons] at i3
  rw[aI (i+1) (by omega)]
  refine aC (fun hb=>ih _ ⟨rfl,rfl,by simp only;omega,by simp only;omega,?_⟩ (by simp only;omega)) (fun hb=>aH (ixt (by omega)) ?_)
  ·rw[hb] at i3;simpa using i3
  ·refine aD (ab3 _) ?_
   rintro(r3:List UInt8) ⟨-,h3⟩
   refine aD (ab3 _) ?_
   rintro(r4:List UInt8) ⟨-,h4⟩
   have h3:r3=eT _:=h3
   have h4:r4=eT _:=h4
   subst h3 h4
   refine ih _ ⟨rfl,rfl,by simp only;omega,by simp only;omega,?_⟩ (by simp only;omega)
   rw[i3,hb];rfl
 ·have h:=of_decide_eq_false h
  show is=sj a' b'
  rw[i3,List.drop_eq_nil_of_le (by omega)];simp
theorem yT(w r:List aA)(t q:Int)(hr:∀x∈r,x.aliases.length≤1000):∃x,eW w r t q x:=by
 apply amR 1
 unfold afd afc
 dsimp only
 refine aD (anf w t) ?_
 rintro(r1:Bool) ⟨-,h1⟩
 have h1:r1=isT w t:=h1
 refine aC (fun h=>aE ⟨_,_,rfl,rfl,?_⟩) (fun h=>?_)
 ·have h:r1=false:=by simpa using h
  show false=dD w r t q
  rw[dD,←h1,h];rfl
 have h:r1=true:=by simpa using h
 rw[h] at h1
 refine aD (anf r q) ?_
 rintro(r2:Bool) ⟨-,h2⟩
 have h2:r2=isT r q:=h2
 refine aC (fun h=>aE ⟨_,_,rfl,rfl,?_⟩) (fun h=>?_)
 ·have h:r2=false:=by simpa using h
  show false=dD w r t q
  rw[dD,←h1,←h2,h];rfl
 have h:r2=true:=by simpa using h
 rw[h] at h2
 have e:dD w r t q=acx (w.getD t.toNat (aG .atype)) (r.getD q.toNat (aG .atype)):=by rw[dD,←h1,←h2];rfl
 have t1:0≤t∧t<w.length:=by simpa [isT] using h1.symm
 have t2:0≤q∧q<r.length:=by simpa [isT] using h2.symm
 have hal:(r.getD q.toNat (aG .atype)).aliases.length≤1000:=hr _ (jr _ _ _ (by omega))
 refine aH (ixt (by omega)) (aH (ixt (by omega)) ?_)
 generalize w.getD t.toNat (aG .atype)=a at e ⊢
 generalize r.getD q.toNat (aG .atype)=b at e hal ⊢
 have fin:∀x:Bool,x=acx a b→xm w r t q x:=fun x h=>h.trans e.symm
 repeat' (first|(with_reducible refine aC ?_ ?_<;>(intro hb;(try simp only[bnl] at hb);(try revert hb;intro _)))|with_reducible refine aH ?_ ?_|with_reducible refine aE ?_|(refine aD (auH a b hal) ?_;rintro(r3:Bool) ⟨-,h3⟩;have h3:r3=sj a b:=h3)|fail)
 all_goals
  refine⟨_,_,rfl,rfl,fin _ ?_⟩
  simp only[acx]
  simp_all<;>try (intros;omega)
theorem agL(w r:List aA)(t q:Int)(hr:∀x∈r,x.aliases.length≤1000):∃x,gX w r t q x:=by
 apply am1 1
 unfold afj afi
 dsimp only
 refine aD (ajL w t) ?_
 rintro(r1:Bool) ⟨-,h1⟩
 have h1:r1=isT w t:=h1
 refine aC (fun h=>aE ⟨_,_,rfl,rfl,?_⟩) (fun h=>?_)
 ·have h:r1=false:=by simpa using h
  show false=dD w r t q
  rw[dD,←h1,h];rfl
 have h:r1=true:=by simpa using h
 rw[h] at h1
 refine aD (ajL r q) ?_
 rintro(r2:Bool) ⟨-,h2⟩
 have h2:r2=isT r q:=h2
 refine aC (fun h=>aE ⟨_,_,rfl,rfl,?_⟩) (fun h=>?_)
 ·have h:r2=false:=by simpa using h
  show false=dD w r t q
  rw[dD,←h1,←h2,h];rfl
 have h:r2=true:=by simpa using h
 rw[h] at h2
 have e:dD w r t q=acx (w.getD t.toNat (aG .atype)) (r.getD q.toNat (aG .atype)):=by rw[dD,←h1,←h2];rfl
 have t1:0≤t∧t<w.length:=by simpa [isT] using h1.symm
 have t2:0≤q∧q<r.length:=by simpa [isT] using h2.symm
 have hal:(r.getD q.toNat (aG .atype)).aliases.length≤1000:=hr _ (jr _ _ _ (by omega))
 refine aH (ixt (by omega)) (aH (ixt (by omega)) ?_)
 generalize w.getD t.toNat (aG .atype)=a at e ⊢
 generalize r.getD q.toNat (aG .atype)=b at e hal ⊢
 have fin:∀x:Bool,x=acx a b→xo w r t q x:=fun x h=>h.trans e.symm
 repeat' (first|(with_reducible refine aC ?_ ?_<;>(intro hb;(try simp only[bnl] at hb);(try revert hb;intro _)))|with_reducible refine aH ?_ ?_|with_reducible refine aE ?_|(refine aD (auI a b hal) ?_;rintro(r3:Bool) ⟨-,h3⟩;have h3:r3=sj a b:=h3)|fail)
 all_goals
  refine⟨_,_,rfl,rfl,fin _ ?_⟩
  simp only[acx]
  simp_all<;>try (intros;omega)
theorem avC(f:aM)(n:List UInt8):∃r,oN f n r:=by
 apply aks 1
 unfold acK acJ
 exact aE ⟨_,_,rfl,rfl,rfl⟩
theorem auJ(l:List aM)(w:List UInt8)(hl:l.length≤1000):∃r,bv l w r:=by
 apply kv (l.length+1)
 unfold ey bq
 dsimp only
 refine aT (fun x=>x.1=l∧x.2.1=w∧x.2.2.1=(l.length:Int)∧Fst (fun f:aM=>decide (f.name=w)) l x.2.2.2) (fun x=>(l.length-x.2.2.2:Int).toNat) ?_ _ _ ⟨rfl,rfl,rfl,.zero _ _⟩ (by simp only;omega)
 rintro again ⟨l',w',n,i⟩ ⟨rfl,rfl,i1,i2⟩ ih
 dsimp only at i1 i2 ih hl
 subst i1
 have h0:=i2.nn
 unfold bO
 dsimp only
 refine aC (fun h=>?_) (fun h=>aE ⟨_,_,rfl,rfl,(i2.none (of_decide_eq_false h)).symm⟩)
 have h:=of_decide_eq_true h
 rw[aI (i+1) (by omega),arR]
 refine aH (ixt (by omega)) (aD (avC _ _) ?_)
 rintro(r:Bool) ⟨-,hr⟩
 have hr:r=decide ((l'.getD i.toNat (aG .afield)).name=w'):=hr
 exact aC (fun hb=>aE ⟨_,_,rfl,rfl,(i2.hit _ h (hr.symm.trans hb)).symm⟩) (fun hb=>ih _ ⟨rfl,rfl,rfl,i2.next _ h (hr.symm.trans hb)⟩ (by simp only;omega))
theorem ang(l:List aM)(d:List UInt8)(ns:List (List UInt8))(i:Nat)(h:i<ns.length):kH l (ns.drop i)=if 0≤aen l (ns.getD i d) then aen l (ns.getD i d) else kH l (ns.drop (i+1)):=by
 rw[List.drop_eq_getElem_cons h,kH]
 simp[List.getD,h]
theorem avD(a:aA)(f:aM)(h1:a.fields.length≤1000)(h2:f.aliases.length≤1000):∃r,uE a f r:=by
 apply aoi (f.aliases.length+2)
 unfold ahy sv
 dsimp only
 refine aH (by simp;omega) ?_
 rw[show ([f.name]++f.aliases:List (List UInt8))=f.name::f.aliases from rfl]
 have hl:(f.name::f.aliases).length≤1001:=by simp;omega
 have hN:(f.name::f.aliases).length<f.aliases.length+2:=by simp
 have hpost:∀x:Int,x=kH a.fields (f.name::f.aliases)→yC a f x:=fun _ h=>h
 generalize f.name::f.aliases=ns at*
 refine aT (fun x=>x.1=a∧x.2.1=ns∧x.2.2.1=(ns.length:Int)∧0≤x.2.2.2∧x.2.2.2≤(ns.length:Int)∧kH a.fields ns=kH a.fields (ns.drop x.2.2.2.toNat)) (fun x=>(ns.length-x.2.2.2:Int).toNat) ?_ _ _ ⟨rfl,rfl,rfl,by simp,by simp,rfl⟩ (by simp only;omega)
 rintro again ⟨a',ns',n,i⟩ ⟨rfl,rfl,i0,i1,i2,i3⟩ ih
 dsimp only at i0 i1 i2 i3 ih hl hpost h1
 subst i0
 unfold vc
 dsimp only
 refine aC (fun h=>?_) (fun h=>aE ⟨_,_,rfl,rfl,hpost _ ?_⟩)
 ·have h:=of_decide_eq_true h
  rw[ang _ (aG .str) _ _ (by omega)] at i3
  rw[aI (i+1) (by omega)]
  refine aH (ixt (by omega)) (aD (auJ _ _ h1) ?_)
  rintro(r:Int) ⟨-,hr⟩
  have hr:r=aen a'.fields (ns'.getD i.toNat (aG .str)):=hr
  rw[←hr] at i3
  refine aC (fun hb=>aE ⟨_,_,rfl,rfl,hpost _ ?_⟩) (fun hb=>ih _ ⟨rfl,rfl,rfl,by simp only;omega,by simp only;omega,?_⟩ (by simp only;omega))
  ·rw[i3,if_pos (of_decide_eq_true hb)]
  ·rw[i3,if_neg (of_decide_eq_false hb)]
   simp only
   congr 2;omega
 ·have h:=of_decide_eq_false h
  rw[i3,List.drop_eq_nil_of_le (by omega)];rfl
theorem avE(a:aA)(f:aM)(h1:a.fields.length≤1000)(h2:f.aliases.length≤1000):∃r,uD a f r:=by
 apply aos (f.aliases.length+a.fields.length+3)
 unfold ahz sA
 dsimp only
 refine aH (by simp;omega) ?_
 rw[show ([f.name]++f.aliases:List (List UInt8))=f.name::f.aliases from rfl]
 have hl:(f.name::f.aliases).length≤1001:=by simp;omega
 have hN:(f.name::f.aliases).length<f.aliases.length+a.fields.length+3:=by simp;omega
 have hpost:∀x:Int,x=kH a.fields (f.name::f.aliases)→yE a f x:=fun _ h=>h
 generalize f.name::f.aliases=ns at*
 refine aT (fun x=>x.1=a∧x.2.1=ns∧0≤x.2.2∧x.2.2≤(ns.length:Int)∧kH a.fields ns=kH a.fields (ns.drop x.2.2.toNat)) (fun x=>(ns.length-x.2.2:Int).toNat) ?_ _ _ ⟨rfl,rfl,by simp,by simp,rfl⟩ (by simp only;omega)
 rintro again ⟨a',ns',i⟩ ⟨rfl,rfl,i1,i2,i3⟩ ih
 dsimp only at i1 i2 i3 ih hl hpost h1 hN
 unfold vh tf
 dsimp only
 refine aC (fun h=>?_) (fun h=>aE ⟨_,_,rfl,rfl,hpost _ ?_⟩)
 ·have h:=of_decide_eq_true h
  rw[ang _ (aG .str) _ _ (by omega)] at i3
  refine aT (fun x=>x.1=a'∧x.2.1=ns'∧x.2.2.1=i∧Fst (fun g:aM=>decide (g.name=ns'.getD i.toNat (aG .str))) a'.fields x.2.2.2) (fun x=>(a'.fields.length-x.2.2.2:Int).toNat) ?_ _ _ ⟨rfl,rfl,rfl,.zero _ _⟩ (by simp only;omega)
  rintro again1 ⟨a2,ns2,i',k⟩ ⟨rfl,rfl,rfl,j1⟩ ih1
  dsimp only at j1 ih1 h1 hl h i1 i2 i3 hpost ih
  have k0:=j1.nn
  unfold qr
  dsimp only
  refine aC (fun hk=>?_) (fun hk=>?_)
  ·have hk:=of_decide_eq_true hk
   rw[aI (k+1) (by omega)]
   refine aH (ixt (by omega)) (aH (ixt (by omega)) (aC (fun hb=>aE ⟨_,_,rfl,rfl,hpost _ ?_⟩) (fun hb=>ih1 _ ⟨rfl,rfl,rfl,j1.next _ hk hb⟩ (by simp only;omega))))
   have:=j1.hit _ hk hb
   rw[i3,aen,this,if_pos k0]
  ·have hk:=of_decide_eq_false hk
   have:=j1.none hk
   rw[aI (i'+1) (by omega)]
   refine ih _ ⟨rfl,rfl,by simp only;omega,by simp only;omega,?_⟩ (by simp only;omega)
   rw[i3,aen,this,if_neg (by decide)]
   simp only
   congr 2;omega
 ·have h:=of_decide_eq_false h
  rw[i3,List.drop_eq_nil_of_le (by omega)];rfl
def yU(r:List aA):Prop:=∀x∈r,x.aliases.length≤1000
theorem atA(b:Int)(w r:List aA)(t:Int)(hr:yU r):∃x,mF b w r t x:=by
 apply aie 1
 unfold aaO aaN
 refine aD (yT w r t b hr) ?_
 rintro(x:Bool) ⟨-,hx⟩
 exact aE ⟨_,_,rfl,rfl,hx⟩
theorem asB(l:List Int)(w r:List aA)(t:Int)(hr:yU r)(hl:l.length≤1000):∃x,cd l w r t x:=by
 apply pp (l.length+1)
 unfold hD b7
 dsimp only
 refine aT (fun x=>x.1=l∧x.2.1=w∧x.2.2.1=r∧x.2.2.2.1=t∧x.2.2.2.2.1=(l.length:Int)∧Fst (fun b=>dD w r t b) l x.2.2.2.2.2) (fun x=>(l.length-x.2.2.2.2.2:Int).toNat) ?_ _ _ ⟨rfl,rfl,rfl,rfl,rfl,.zero _ _⟩ (by simp only;omega)
 rintro again ⟨l',w',r',t',n,i⟩ ⟨rfl,rfl,rfl,rfl,i1,i2⟩ ih
 dsimp only at i1 i2 ih hl hr
 subst i1
 have h0:=i2.nn
 unfold cL
 dsimp only
 refine aC (fun h=>?_) (fun h=>aE ⟨_,_,rfl,rfl,(i2.none (of_decide_eq_false h)).symm⟩)
 have h:=of_decide_eq_true h
 rw[aI (i+1) (by omega)]
 refine aH (ixt (by omega)) (aD (atA _ _ _ _ hr) ?_)
 rintro(x:Bool) ⟨-,hx⟩
 have hx:x=dD w' r' t' (l'.getD i.toNat (aG (.num .i64))):=hx
 exact aC (fun hb=>aE ⟨_,_,rfl,rfl,(i2.hit _ h (hx.symm.trans hb)).symm⟩) (fun hb=>ih _ ⟨rfl,rfl,rfl,rfl,rfl,i2.next _ h (hx.symm.trans hb)⟩ (by simp only;omega))
theorem atB(w r:List aA)(t q:Int)(hr:yU r)(hq:0≤q∧q<r.length)(hl:(r.getD q.toNat (aG .atype)).branches.length≤1000):∃x,qk w r t q x:=by
 apply alF 1
 unfold ad1 ad0
 dsimp only
 refine aH (ixt (by omega)) (aD (asB _ w r t hr hl) ?_)
 rintro(x:Int) ⟨-,hx⟩
 exact aE ⟨_,_,rfl,rfl,hx⟩
theorem atC(w r:List aA)(t q:Int)(hr:yU r)(hq:0≤q∧q<r.length)(hl:(r.getD q.toNat (aG .atype)).branches.length≤1000):∃x,ql w r t q x:=by
 apply alJ ((r.getD q.toNat (aG .atype)).branches.length+1)
 unfold ad5 oV
 refine aT (fun x=>x.1=t∧x.2.1=q∧x.2.2.1=w∧x.2.2.2.1=r∧Fst (fun b=>dD w r t b) (r.getD q.toNat (aG .atype)).branches x.2.2.2.2) (fun x=>((r.getD q.toNat (aG .atype)).branches.length-x.2.2.2.2:Int).toNat) ?_ _ _ ⟨rfl,rfl,rfl,rfl,.zero _ _⟩ (by simp only;omega)
 rintro again ⟨t',q',w',r',i⟩ ⟨rfl,rfl,rfl,rfl,i2⟩ ih
 dsimp only at i2 ih hl hr hq
 have h0:=i2.nn
 unfold rt
 dsimp only
 refine aH (ixt (by omega)) (aC (fun h=>?_) (fun h=>aE ⟨_,_,rfl,rfl,(i2.none (of_decide_eq_false h)).symm⟩))
 have h:=of_decide_eq_true h
 rw[aI (i+1) (by omega)]
 refine aH (ixt (by omega)) (aH (ixt (by omega)) (aD (agL _ _ _ _ hr) ?_))
 rintro(x:Bool) ⟨-,hx⟩
 have hx:x=dD w' r' t' ((r'.getD q'.toNat (aG .atype)).branches.getD i.toNat (aG (.num .i64))):=hx
 exact aC (fun hb=>aE ⟨_,_,rfl,rfl,(i2.hit _ h (hx.symm.trans hb)).symm⟩) (fun hb=>ih _ ⟨rfl,rfl,rfl,rfl,i2.next _ h (hx.symm.trans hb)⟩ (by simp only;omega))
theorem auK(a:aA)(s:List UInt8)(hl:a.syms.length≤1000):∃r,qm a s r:=by
 apply alL (a.syms.length+1)
 unfold ad7 oW
 refine aT (fun x=>x.1=s∧x.2.1=a∧Fst (fun y=>decide (y=s)) a.syms x.2.2) (fun x=>(a.syms.length-x.2.2:Int).toNat) ?_ _ _ ⟨rfl,rfl,.zero _ _⟩ (by simp only;omega)
 rintro again ⟨s',a',i⟩ ⟨rfl,rfl,i2⟩ ih
 dsimp only at i2 ih hl
 have h0:=i2.nn
 unfold rv
 dsimp only
 refine aC (fun h=>?_) (fun h=>aE ⟨_,_,rfl,rfl,(i2.none (of_decide_eq_false h)).symm⟩)
 have h:=of_decide_eq_true h
 rw[aI (i+1) (by omega)]
 exact aH (ixt (by omega)) (aC (fun hb=>aE ⟨_,_,rfl,rfl,(i2.hit _ h hb).symm⟩) (fun hb=>ih _ ⟨rfl,rfl,i2.next _ h hb⟩ (by simp only;omega)))
theorem auL(l:List (List UInt8))(s:List UInt8)(hl:l.length≤1000):∃r,d9 l s r:=by
 apply yJ (l.length+1)
 unfold pL dX
 dsimp only
 refine aT (fun x=>x.1=l∧x.2.1=s∧x.2.2.1=(l.length:Int)∧Fst (fun y=>decide (y=s)) l x.2.2.2) (fun x=>(l.length-x.2.2.2:Int).toNat) ?_ _ _ ⟨rfl,rfl,rfl,.zero _ _⟩ (by simp only;omega)
 rintro again ⟨l',s',n,i⟩ ⟨rfl,rfl,i1,i2⟩ ih
 dsimp only at i1 i2 ih hl
 subst i1
 have h0:=i2.nn
 unfold fw
 dsimp only
 refine aC (fun h=>?_) (fun h=>aE ⟨_,_,rfl,rfl,(i2.none (of_decide_eq_false h)).symm⟩)
 have h:=of_decide_eq_true h
 rw[aI (i+1) (by omega)]
 have hsym:decide (s'=l'.getD i.toNat (aG .str))=decide (l'.getD i.toNat (aG .str)=s'):=by
  rw[Bool.eq_iff_iff,decide_eq_true_iff,decide_eq_true_iff];exact eq_comm
 rw[hsym]
 exact aH (ixt (by omega)) (aC (fun hb=>aE ⟨_,_,rfl,rfl,(i2.hit _ h hb).symm⟩) (fun hb=>ih _ ⟨rfl,rfl,rfl,i2.next _ h hb⟩ (by simp only;omega)))
theorem at2(l:List (List UInt8))(s:List UInt8):(l.any fun y=>decide (y=s))=decide (s∈l):=by
 rw[Bool.eq_iff_iff,List.any_eq_true,decide_eq_true_iff]
 constructor
 ·rintro⟨x,hx,e⟩;exact of_decide_eq_true e▸hx
 ·intro h;exact⟨s,h,by simp⟩
theorem asC(l:List (List UInt8))(s:List UInt8)(hl:l.length≤1000):∃r,dE l s r:=by
 apply wq 1
 unfold nR nQ
 refine aD (auL l s hl) ?_
 rintro(r:Int) ⟨-,hr⟩
 have hr:r=dC (fun y=>decide (y=s)) l 0:=hr
 refine aE ⟨_,_,rfl,rfl,?_⟩
 show decide (0≤r)=_
 rw[hr,vt,at2]
theorem auM(s:List UInt8)(k0:Int)(k1:List UInt8)(k2:List (List UInt8))(k3:Int)(k4:List (List UInt8))(k5:Bool)(k6:List UInt8)(k7:Int)(k8:List aM)(k9:List Int)(hl:k4.length≤1000):∃r,fO s k0 k1 k2 k3 k4 k5 k6 k7 k8 k9 r:=by
 apply aa6 1
 unfold ta s9
 refine aD (asC k4 s hl) ?_
 rintro(r:Bool) ⟨-,hr⟩
 have hr:r=decide (s∈k4):=hr
 exact aE ⟨_,_,rfl,rfl,by rw[hr];rfl⟩
theorem asD(l:List (List UInt8))(k0:Int)(k1:List UInt8)(k2:List (List UInt8))(k3:Int)(k4:List (List UInt8))(k5:Bool)(k6:List UInt8)(k7:Int)(k8:List aM)(k9:List Int)(hl:l.length≤1000)(h4:k4.length≤1000):∃r,bp l k0 k1 k2 k3 k4 k5 k6 k7 k8 k9 r:=by
 apply j8 (l.length+1)
 unfold ef bo
 dsimp only
 refine aT (fun x=>match x with|(l',c0,c1,c2,c3,c4,c5,c6,c7,c8,c9,n,i)=>l'=l∧c4=k4∧n=(l.length:Int)∧Fst (fun s=> !decide (s∈k4)) l i) (fun x=>(l.length-x.2.2.2.2.2.2.2.2.2.2.2.2:Int).toNat) ?_ _ _ ⟨rfl,rfl,rfl,.zero _ _⟩ (by simp only;omega)
 rintro again ⟨l',c0,c1,c2,c3,c4,c5,c6,c7,c8,c9,n,i⟩ ⟨rfl,rfl,rfl,i2⟩ ih
 dsimp only at i2 ih
 have h0:=i2.nn
 unfold bM
 dsimp only
 refine aC (fun h=>?_) (fun h=>aE ⟨_,_,rfl,rfl,(i2.none (of_decide_eq_false h)).symm⟩)
 have h:=of_decide_eq_true h
 rw[aI (i+1) (by omega)]
 refine aH (ixt (by omega)) (aD (auM _ _ _ _ _ _ _ _ _ _ _ h4) ?_)
 rintro(x:Bool) ⟨-,hx⟩
 have hx:x= !decide (l'.getD i.toNat (aG .str)∈c4):=hx
 exact aC (fun hb=>aE ⟨_,_,rfl,rfl,(i2.hit _ h (hx.symm.trans hb)).symm⟩) (fun hb=>ih _ ⟨rfl,rfl,rfl,i2.next _ h (hx.symm.trans hb)⟩ (by simp only;omega))
theorem aqO(l:List (List UInt8))(k0:Int)(k1:List UInt8)(k2:List (List UInt8))(k3:Int)(k4:List (List UInt8))(k5:Bool)(k6:List UInt8)(k7:Int)(k8:List aM)(k9:List Int)(hl:l.length≤1000)(h4:k4.length≤1000):∃r,bm l k0 k1 k2 k3 k4 k5 k6 k7 k8 k9 r:=by
 apply iL 1
 unfold dI dH
 refine aD (asD l k0 k1 k2 k3 k4 k5 k6 k7 k8 k9 hl h4) ?_
 rintro(r:Int) ⟨-,hr⟩
 have hr:r=dC _ l 0:=hr
 exact aE ⟨_,_,rfl,rfl,by rw[hr];exact vt _ _ _⟩
end Go.Proofs.Ytdpajabhmmmjoaa
end
noncomputable section
namespace Go.Proofs.Ytdpajabhmmmjoaa
open Go.AM
set_option autoImplicit false
set_option linter.unusedVariables false
set_option maxRecDepth 100000
noncomputable def uO:aL:=tab (P:=Try.prog) [] [] [] []
def tl:IR:=Rs [Mb 4 false] (Sq (.reg [Lq 5 1,Nk 6 5,Fa 7 3 6,Fo [1] [] (.ld 8 1 false false 7),Mv 9 0,Lq 10 2,Pp (.bld 11 [vI 0,vI 0] [(0,1,9),(1,1,10)]),Pp (.mget 12 .pb false (.t 8) (.t 11)),Mv 4 12] [[],[0],[0,1],[0,1,2],[],[],[4,5],rg 0 6,rg 0 7]) .ret)
def tm:List RV:=[.t 4]
theorem ab4:FnC Try.prog uO [] 2 uB Try.f94 tl tm:=fnC Try.func94
def tn(N:Nat)(o0_0:List ((Int×Int)×Bool))(o1_0 o1_1:List aA)(o1_2:List Bool)(p0 pc1_0:Int):Ro:=
 let x1:=(oo (k:=.pb) o0_0 (p0,pc1_0))
 some (.bool x1,[some [.mp .pb o0_0],some [.sl .atype (.may false) o1_0,.sl .atype (.may false) o1_1,.sl .bool (.may false) o1_2,.mr 0]])
def nc(N:Nat)(o0_0:List ((Int×Int)×Bool))(o1_0 o1_1:List aA)(o1_2:List Bool)(p0 pc1_0:Int):Ro:=tn N o0_0 o1_0 o1_1 o1_2 p0 pc1_0
theorem abf(N:Nat)(o0_0:List ((Int×Int)×Bool))(o1_0 o1_1:List aA)(o1_2:List Bool)(p0 pc1_0:Int):od uO N 13 tm tl [.int .i64 p0,.ea [.ptr 1 0],.ea [.int .i64 pc1_0]] [some [.mp .pb o0_0],some [.sl .atype (.may false) o1_0,.sl .atype (.may false) o1_1,.sl .bool (.may false) o1_2,.mr 0]]=nc N o0_0 o1_0 o1_1 o1_2 p0 pc1_0:=by kernel_rfl
theorem abg(N:Nat)(o0_0:List ((Int×Int)×Bool))(o1_0 o1_1:List aA)(o1_2:List Bool)(p0 pc1_0:Int)(h:Tot (nc N o0_0 o1_0 o1_1 o1_2 p0 pc1_0) (fun z=>∃(y0:Bool),z.1=.bool y0∧z.2=[some [.mp .pb o0_0],some [.sl .atype (.may false) o1_0,.sl .atype (.may false) o1_1,.sl .bool (.may false) o1_2,.mr 0]]∧qY o0_0 o1_0 o1_1 o1_2 p0 pc1_0 (y0))):∃r,fN o0_0 o1_0 o1_1 o1_2 p0 pc1_0 r:=by
 obtain⟨⟨v,hp⟩,hz,y0,e1,e2,hq⟩:=h
 simp only at e1 e2
 subst e1 e2
 exact⟨(y0),ab4.fnOK rfl ((abf N o0_0 o1_0 o1_1 o1_2 p0 pc1_0).trans hz),hq⟩
def fE:Nat→List V→Option (Bool×V):=fun _ _=>none
def cg:aL:=fun f us hp=>match f,us,hp with
 |94,[.int .i64 a0,.ea [.ptr 1 0],.ea [.int .i64 ac1_0]],[some [.mp .pb o0_0],some [.sl .atype (.may false) o1_0,.sl .atype (.may false) o1_1,.sl .bool (.may false) o1_2,.mr 0]]=>some (can (fN o0_0 o1_0 o1_1 o1_2 a0 ac1_0),.bool (pick (fN o0_0 o1_0 o1_1 o1_2 a0 ac1_0)),[some [.mp .pb o0_0],some [.sl .atype (.may false) o1_0,.sl .atype (.may false) o1_1,.sl .bool (.may false) o1_2,.mr 0]])
 |_,_,_=>none
def bi:aL:=(aau cg (s3 fE))
theorem lI:dQ bi [94]:=(yz (by
 intro f us hp hf
 unfold cg
 split<;>first|rfl|(simp at hf)) (by
 intro f us hp hf
 unfold cg
 split<;>first|rfl|(simp at hf)) (oH _ _))
theorem mv:dB Try.prog bi:=by
 refine acw ?_ ?_
 ·intro f us hp v hp' h
  unfold cg at h
  split at h
  ·simp only[Option.some.injEq,Prod.mk.injEq] at h
   obtain⟨hc,rfl,rfl⟩:=h
   exact((wb hc).1).dim rfl
  ·simp at h
 intro f vs hp v hp' h
 obtain⟨h, -⟩:=adJ h
 simp[fE] at h
def e8:IR:=Rs [Bi 9 .lss 8 7] (Sq (Cn 9 .skip (.exit 0)) (Sq (.block 1 (Rs [Mv 10 8,Mv 5 10] (Rs [Mv 11 1,Mv 12 0,Mv 13 5,Ix 14 (.num .i64) 12 13,Lq 15 14,Pp (.dcall (some 16) 94 (.t 11) [.t 15])] (Cn 16 (Rs [Mv 17 5,Mv 4 17] .ret) .skip)))) (Rg [Bc 18 .add 8 1,Mv 8 18])))
def e9:IR:=Rs [Mi 4 (-1)] .ret
def di:IR:=Rs [Mi 4 0] (Sq (Rs [Mv 6 0,Ll 7 6,Mi 8 0] (.block 0 (.loop [0,1,7,8,1000000] 2 e8))) e9)
def ch:List RV:=[.t 4]
theorem nd:FnC Try.prog bi [94] 2 fB Try.f127 di ch:=⟨mv,lI,Try.func127,by kernel_rfl,by kernel_rfl,by decide⟩
def mJ(R:IR→(Ex→St→Ro)→St→Ro)(again0:St→Ro):Ex→St→Ro:=(bk again0 [0,1,7,8,1000000] 2 (aP 0 (bj (R e9) (fin ch))))
abbrev b9:Type:=(List Int×Int×Int×Int×List ((Int×Int)×Bool)×List aA×List aA×List Bool)
def bV(x:b9):St:={env:=(.sl (.num .i64) (.may false) x.1::.fn 94 [.ea [.ptr 1 0],.ea [.int .i64 x.2.1]]::(U 5 (.int .i64 x.2.2.1::.int .i64 x.2.2.2.1::(U 10 [])))),hp:=[some [.mp .pb x.2.2.2.2.1],some [.sl .atype (.may false) x.2.2.2.2.2.1,.sl .atype (.may false) x.2.2.2.2.2.2.1,.sl .bool (.may false) x.2.2.2.2.2.2.2,.mr 0]]}
def dc(N:Nat):(St→Ro)→St→Ro:=fun again0 s=>run bi N e8 (mJ (run bi N) again0) s
def ca(N:Nat)(again0:b9→Ro)(x:b9):Ro:=
 let v0:List Int:=x.1
 let v1_1_0:Int:=x.2.1
 let v7:Int:=x.2.2.1
 let v8:Int:=x.2.2.2.1
 let o0_0:List ((Int×Int)×Bool):=x.2.2.2.2.1
 let o1_0:List aA:=x.2.2.2.2.2.1
 let o1_1:List aA:=x.2.2.2.2.2.2.1
 let o1_2:List Bool:=x.2.2.2.2.2.2.2
 let z0:=fun g0=>(some (.int .i64 g0,[some [.mp .pb o0_0],some [.sl .atype (.may false) o1_0,.sl .atype (.may false) o1_1,.sl .bool (.may false) o1_2,.mr 0]]):Ro)
 cond (decide (v8<v7)) (
  chk (ixl v8 v0) (
   let x2:=List.getD v0 (Int.toNat v8) (aG (.num .i64))
   aF (fN o0_0 o1_0 o1_1 o1_2 x2 v1_1_0) (fun(r1:Bool)=>
    cond r1 (
     z0 v8) (
     let x3:=(IntKind.wrap .i64 (v8+1))
     again0 (v0,v1_1_0,v7,x3,o0_0,o1_0,o1_1,o1_2))))) (
  z0 (-1))
theorem mw(N:Nat):LB (dc N) bV (ca N):=fun _ _=>by kernel_rfl
def bC(N:Nat)(o0_0:List ((Int×Int)×Bool))(o1_0 o1_1:List aA)(o1_2:List Bool)(p0:List Int)(p1_1_0:Int)(q0:b9→Ro):Ro:=
 let x1:=(↑(List.length p0):Int)
 q0 (p0,p1_1_0,x1,0,o0_0,o1_0,o1_1,o1_2)
def dj(N:Nat)(o0_0:List ((Int×Int)×Bool))(o1_0 o1_1:List aA)(o1_2:List Bool)(p0:List Int)(p1_1_0:Int):Ro:=bC N o0_0 o1_0 o1_1 o1_2 p0 p1_1_0 (fun z=>aS N (ca N) z)
def nE(N:Nat):List (Nat×(St→Ro)):=bQ bi N di (fin ch)++[]
theorem mK(N:Nat)(o0_0:List ((Int×Int)×Bool))(o1_0 o1_1:List aA)(o1_2:List Bool)(p0:List Int)(p1_1_0:Int):od bi N 19 ch di [.sl (.num .i64) (.may false) p0,.fn 94 [.ea [.ptr 1 0],.ea [.int .i64 p1_1_0]]] [some [.mp .pb o0_0],some [.sl .atype (.may false) o1_0,.sl .atype (.may false) o1_1,.sl .bool (.may false) o1_2,.mr 0]]=dj N o0_0 o1_0 o1_1 o1_2 p0 p1_1_0:=
 ((bu (nE N) (by kernel_rfl) rfl (fun C=>bC N o0_0 o1_0 o1_1 o1_2 p0 p1_1_0 (fun z=>C 1000000 (bV z))) (fun C=>by kernel_rfl)).trans (Eq.trans (b:=bC N o0_0 o1_0 o1_1 o1_2 p0 p1_1_0 (fun z=>aW N (dc N) (bV z))) (by kernel_rfl) (congrArg (bC N o0_0 o1_0 o1_1 o1_2 p0 p1_1_0) (funext fun z=>aV (bV) (dc N) (ca N) (mw N) N z))))
theorem mL(N:Nat)(o0_0:List ((Int×Int)×Bool))(o1_0 o1_1:List aA)(o1_2:List Bool)(p0:List Int)(p1_1_0:Int)(h:Tot (dj N o0_0 o1_0 o1_1 o1_2 p0 p1_1_0) (fun z=>∃(y0:Int),z.1=.int .i64 y0∧z.2=[some [.mp .pb o0_0],some [.sl .atype (.may false) o1_0,.sl .atype (.may false) o1_1,.sl .bool (.may false) o1_2,.mr 0]]∧eU o0_0 o1_0 o1_1 o1_2 p0 p1_1_0 (y0))):∃r,bD o0_0 o1_0 o1_1 o1_2 p0 p1_1_0 r:=by
 obtain⟨⟨v,hp⟩,hz,y0,e1,e2,hq⟩:=h
 simp only at e1 e2
 subst e1 e2
 exact⟨(y0),nd.fnOK rfl ((mK N o0_0 o1_0 o1_1 o1_2 p0 p1_1_0).trans hz),hq⟩
def fa:Nat→List V→Option (Bool×V):=fun _ _=>none
def bU:aL:=fun f us hp=>match f,us,hp with
 |127,[.sl (.num .i64) (.may _) a0,.fn 94 [.ea [.ptr 1 0],.ea [.int .i64 a1_1_0]]],[some [.mp .pb o0_0],some [.sl .atype (.may false) o1_0,.sl .atype (.may false) o1_1,.sl .bool (.may false) o1_2,.mr 0]]=>some (can (bD o0_0 o1_0 o1_1 o1_2 a0 a1_1_0),.int .i64 (pick (bD o0_0 o1_0 o1_1 o1_2 a0 a1_1_0)),[some [.mp .pb o0_0],some [.sl .atype (.may false) o1_0,.sl .atype (.may false) o1_1,.sl .bool (.may false) o1_2,.mr 0]])
 |_,_,_=>none
def bW:aL:=(aau bU (s3 fa))
theorem kC:dQ bW [127]:=(yz (by
 intro f us hp hf
 unfold bU
 split<;>first|rfl|(simp at hf)) (by
 intro f us hp hf
 unfold bU
 split<;>first|rfl|(simp at hf)) (oH _ _))
theorem kN:dB Try.prog bW:=by
 refine acw ?_ ?_
 ·intro f us hp v hp' h
  unfold bU at h
  split at h
  ·simp only[Option.some.injEq,Prod.mk.injEq] at h
   obtain⟨hc,rfl,rfl⟩:=h
   exact((wb hc).1).dim rfl
  ·simp at h
 intro f vs hp v hp' h
 obtain⟨h, -⟩:=adJ h
 simp[fa] at h
def eQ:IR:=Rs [Mb 4 false] (Rs [Mv 5 0,Mv 6 1,Ca 7 127 [5,6],Bc 8 .geq 7 0,Mv 4 8] .ret)
def eR:List RV:=[.t 4]
theorem lJ:FnC Try.prog bW [127] 2 eV Try.f93 eQ eR:=⟨kN,kC,Try.func93,by kernel_rfl,by kernel_rfl,by decide⟩
def eS(N:Nat)(o0_0:List ((Int×Int)×Bool))(o1_0 o1_1:List aA)(o1_2:List Bool)(p0:List Int)(p1_1_0:Int):Ro:=
 aF (bD o0_0 o1_0 o1_1 o1_2 p0 p1_1_0) (fun(r1:Int)=>
  some (.bool (decide (0≤r1)),[some [.mp .pb o0_0],some [.sl .atype (.may false) o1_0,.sl .atype (.may false) o1_1,.sl .bool (.may false) o1_2,.mr 0]]))
def cS(N:Nat)(o0_0:List ((Int×Int)×Bool))(o1_0 o1_1:List aA)(o1_2:List Bool)(p0:List Int)(p1_1_0:Int):Ro:=eS N o0_0 o1_0 o1_1 o1_2 p0 p1_1_0
theorem lE(N:Nat)(o0_0:List ((Int×Int)×Bool))(o1_0 o1_1:List aA)(o1_2:List Bool)(p0:List Int)(p1_1_0:Int):od bW N 9 eR eQ [.sl (.num .i64) (.may false) p0,.fn 94 [.ea [.ptr 1 0],.ea [.int .i64 p1_1_0]]] [some [.mp .pb o0_0],some [.sl .atype (.may false) o1_0,.sl .atype (.may false) o1_1,.sl .bool (.may false) o1_2,.mr 0]]=cS N o0_0 o1_0 o1_1 o1_2 p0 p1_1_0:=by kernel_rfl
theorem lF(N:Nat)(o0_0:List ((Int×Int)×Bool))(o1_0 o1_1:List aA)(o1_2:List Bool)(p0:List Int)(p1_1_0:Int)(h:Tot (cS N o0_0 o1_0 o1_1 o1_2 p0 p1_1_0) (fun z=>∃(y0:Bool),z.1=.bool y0∧z.2=[some [.mp .pb o0_0],some [.sl .atype (.may false) o1_0,.sl .atype (.may false) o1_1,.sl .bool (.may false) o1_2,.mr 0]]∧ep o0_0 o1_0 o1_1 o1_2 p0 p1_1_0 (y0))):∃r,bw o0_0 o1_0 o1_1 o1_2 p0 p1_1_0 r:=by
 obtain⟨⟨v,hp⟩,hz,y0,e1,e2,hq⟩:=h
 simp only at e1 e2
 subst e1 e2
 exact⟨(y0),lJ.fnOK rfl ((lE N o0_0 o1_0 o1_1 o1_2 p0 p1_1_0).trans hz),hq⟩
noncomputable def gA:aL:=tab (P:=Try.prog) [] [] [] [ar3]
def tp:IR:=Rs [Bi 14 .lss 13 12] (Sq (Cn 14 .skip (.exit 0)) (Sq (.block 1 (Rs [Ix 15 .afield 11 13,Ld 16 9 true 15,Pp (.alr 8 9),Fz 8 9 16] (Rs [Ld 17 10 true 4,Ld 18 9 true 8,Ca 19 130 [17,18],Mv 9 19] (Sq (.reg [Mv 20 9,Bc 21 .lss 20 0,Mv 22 21,Gt 22 (.fad 23 3 8),Gt 22 (.lde 24 1 false 23),Gt 22 (.un 25 .not 24),Pa 26 22 25,Mv 27 26,Gf 27 (.mov 28 9),Gf 27 (.bin 29 .geq 28 (kI 0)),Gf 27 (.mov 30 29),Gt 30 (.mov 31 0),Gt 30 (.nck 32 31),Gt 30 (.fad 33 3 32),⟨some (30,true),.ld 34 1 false false 33,some ([1],[])⟩,Gt 30 (.fad 35 8 4),Gt 30 (.lde 36 1 false 35),Gt 30 (.mov 37 9),Gt 30 (.ixa 38 .afield 36 37),Gt 30 (.fad 39 2 38),⟨some (30,true),.ld 40 1 false false 39,some ([],[])⟩,Gt 30 (.fad 41 2 8),Gt 30 (.lde 42 1 false 41),Gt 30 (.bld 43 [vI 0,vI 0] [(0,1,40),(1,1,42)]),Gt 30 (.mget 44 .pb false (.t 34) (.t 43)),Gf 27 (.pick 45 30 44 (kB false)),Po 46 27 45] [[],[0],[0,1],[0,1,2],rg 0 3,rg 0 4,rg 0 5,rg 0 6,rg 0 7,rg 0 8,rg 0 9,rg 0 10,rg 0 11,rg 0 12,rg 0 13,rg 0 10,rg 0 10++[15],rg 0 10,rg 0 10++[15,16,17],rg 0 10++rg 15 18,rg 0 10++rg 15 19,rg 0 10,rg 0 10++[21],rg 0 10++rg 15 22,rg 0 23,rg 0 24,rg 0 25]) (Cn 46 (Rs [Mb 6 false] .ret) .skip))))) (Rg [Bc 47 .add 13 1,Mv 13 47])))
def sF:IR:=Rs [Mb 6 true] .ret
def oq:IR:=Rs [Bx 4 1,Bx 5 2,Mb 6 false] (Sq (Rs [Fa 10 8 5,Lq 11 10,Ll 12 11,Mi 13 0] (.block 0 (.loop [0,4,11,12,13,1000000] 2 tp))) sF)
def jy:List RV:=[.t 6]
theorem adl:FnC Try.prog gA [] 2 wo Try.f98 oq jy:=fnC Try.func98
def ac2(R:IR→(Ex→St→Ro)→St→Ro)(again0:St→Ro):Ex→St→Ro:=(bk again0 [0,4,11,12,13,1000000] 2 (aP 0 (bj (R sF) (fin jy))))
abbrev iN:Type:=(aA×List aM×Int×Int×List ((Int×Int)×Bool)×List aA×List aA×List Bool)
def ix(x:iN):St:={env:=(.ptr 1 0::(U 3 (.ea (enc .atype x.1)::(U 6 (.sl .afield (.may false) x.2.1::.int .i64 x.2.2.1::.int .i64 x.2.2.2.1::(U 34 [])))))),hp:=[some [.mp .pb x.2.2.2.2.1],some [.sl .atype (.may false) x.2.2.2.2.2.1,.sl .atype (.may false) x.2.2.2.2.2.2.1,.sl .bool (.may false) x.2.2.2.2.2.2.2,.mr 0]]}
def nS(N:Nat):(St→Ro)→St→Ro:=fun again0 s=>run gA N tp (ac2 (run gA N) again0) s
def iO(N:Nat)(again0:iN→Ro)(x:iN):Ro:=
 let v4:aA:=x.1
 let v11:List aM:=x.2.1
 let v12:Int:=x.2.2.1
 let v13:Int:=x.2.2.2.1
 let o0_0:List ((Int×Int)×Bool):=x.2.2.2.2.1
 let o1_0:List aA:=x.2.2.2.2.2.1
 let o1_1:List aA:=x.2.2.2.2.2.2.1
 let o1_2:List Bool:=x.2.2.2.2.2.2.2
 let z0:=fun g0=>(some (.bool g0,[some [.mp .pb o0_0],some [.sl .atype (.may false) o1_0,.sl .atype (.may false) o1_1,.sl .bool (.may false) o1_2,.mr 0]]):Ro)
 let z1:=fun g0=>again0 (v4,v11,v12,g0,o0_0,o1_0,o1_1,o1_2)
 cond (decide (v13<v12)) (
  chk (ixl v13 v11) (
   let x2:=(List.getD v11 (Int.toNat v13) (aG .afield))
   aF (uE v4 (reF x2)) (fun(r1:Int)=>
    cond (decide (r1<0)) (
     cond (!x2.hasdef) (
      z0 false) (
      cond (decide (0≤r1)) (
       chk (ixl r1 v4.fields) (
        let x3:=(List.getD v4.fields (Int.toNat r1) (aG .afield))
        let x4:=(oo (k:=.pb) o0_0 (x3.typ,x2.typ))
        cond x4 (
         z0 false) (
         let x5:=(IntKind.wrap .i64 (v13+1))
         z1 x5))) (
       let x6:=(IntKind.wrap .i64 (v13+1))
       z1 x6))) (
     cond (decide (0≤r1)) (
      chk (ixl r1 v4.fields) (
       let x7:=(List.getD v4.fields (Int.toNat r1) (aG .afield))
       let x8:=(oo (k:=.pb) o0_0 (x7.typ,x2.typ))
       cond x8 (
        z0 false) (
        let x9:=(IntKind.wrap .i64 (v13+1))
        z1 x9))) (
      let x10:=(IntKind.wrap .i64 (v13+1))
      z1 x10))))) (
  z0 true)
theorem ab5(N:Nat):LB (nS N) ix (iO N):=fun _ _=>by kernel_rfl
def f5(N:Nat)(o0_0:List ((Int×Int)×Bool))(o1_0 o1_1:List aA)(o1_2:List Bool)(p1 p2:aA)(q0:iN→Ro):Ro:=
 let x1:=(↑(List.length p2.fields):Int)
 q0 (p1,p2.fields,x1,0,o0_0,o1_0,o1_1,o1_2)
def ot(N:Nat)(o0_0:List ((Int×Int)×Bool))(o1_0 o1_1:List aA)(o1_2:List Bool)(p1 p2:aA):Ro:=f5 N o0_0 o1_0 o1_1 o1_2 p1 p2 (fun z=>aS N (iO N) z)
def aet(N:Nat):List (Nat×(St→Ro)):=bQ gA N oq (fin jy)++[]
theorem ac3(N:Nat)(o0_0:List ((Int×Int)×Bool))(o1_0 o1_1:List aA)(o1_2:List Bool)(p1 p2:aA):od gA N 48 jy oq [.ptr 1 0,.agg (enc .atype p1),.agg (enc .atype p2)] [some [.mp .pb o0_0],some [.sl .atype (.may false) o1_0,.sl .atype (.may false) o1_1,.sl .bool (.may false) o1_2,.mr 0]]=ot N o0_0 o1_0 o1_1 o1_2 p1 p2:=
 ((bu (aet N) (by kernel_rfl) rfl (fun C=>f5 N o0_0 o1_0 o1_1 o1_2 p1 p2 (fun z=>C 1000000 (ix z))) (fun C=>by kernel_rfl)).trans (Eq.trans (b:=f5 N o0_0 o1_0 o1_1 o1_2 p1 p2 (fun z=>aW N (nS N) (ix z))) (by kernel_rfl) (congrArg (f5 N o0_0 o1_0 o1_1 o1_2 p1 p2) (funext fun z=>aV (ix) (nS N) (iO N) (ab5 N) N z))))
theorem ac4(N:Nat)(o0_0:List ((Int×Int)×Bool))(o1_0 o1_1:List aA)(o1_2:List Bool)(p1 p2:aA)(h:Tot (ot N o0_0 o1_0 o1_1 o1_2 p1 p2) (fun z=>∃(y0:Bool),z.1=.bool y0∧z.2=[some [.mp .pb o0_0],some [.sl .atype (.may false) o1_0,.sl .atype (.may false) o1_1,.sl .bool (.may false) o1_2,.mr 0]]∧mU o0_0 o1_0 o1_1 o1_2 p1 p2 (y0))):∃r,gw o0_0 o1_0 o1_1 o1_2 p1 p2 r:=by
 obtain⟨⟨v,hp⟩,hz,y0,e1,e2,hq⟩:=h
 simp only at e1 e2
 subst e1 e2
 exact⟨(y0),adl.fnOK rfl ((ac3 N o0_0 o1_0 o1_1 o1_2 p1 p2).trans hz),hq⟩
def kO:aL:=fun f us hp=>match f,us,hp with
 |93,[.sl (.num .i64) (.may _) a0,.fn 94 [.ea [.ptr 1 0],.ea [.int .i64 a1_1_0]]],[some [.mp .pb o0_0],some [.sl .atype (.may false) o1_0,.sl .atype (.may false) o1_1,.sl .bool (.may false) o1_2,.mr 0]]=>some (can (bw o0_0 o1_0 o1_1 o1_2 a0 a1_1_0),.bool (pick (bw o0_0 o1_0 o1_1 o1_2 a0 a1_1_0)),[some [.mp .pb o0_0],some [.sl .atype (.may false) o1_0,.sl .atype (.may false) o1_1,.sl .bool (.may false) o1_2,.mr 0]])
 |98,[.ptr 1 0,.agg [.int .i64 a1_0,.str a1_1,.sl .str (.may _) a1_2,.int .i64 a1_3,.sl .str (.may _) a1_4,.bool a1_5,.str a1_6,.int .i64 a1_7,.sl .afield (.may _) a1_8,.sl (.num .i64) (.may _) a1_9],.agg [.int .i64 a2_0,.str a2_1,.sl .str (.may _) a2_2,.int .i64 a2_3,.sl .str (.may _) a2_4,.bool a2_5,.str a2_6,.int .i64 a2_7,.sl .afield (.may _) a2_8,.sl (.num .i64) (.may _) a2_9]],[some [.mp .pb o0_0],some [.sl .atype (.may false) o1_0,.sl .atype (.may false) o1_1,.sl .bool (.may false) o1_2,.mr 0]]=>some (can (gw o0_0 o1_0 o1_1 o1_2 (⟨a1_0,a1_1,a1_2,a1_3,a1_4,a1_5,a1_6,a1_7,a1_8,a1_9⟩) (⟨a2_0,a2_1,a2_2,a2_3,a2_4,a2_5,a2_6,a2_7,a2_8,a2_9⟩)),.bool (pick (gw o0_0 o1_0 o1_1 o1_2 (⟨a1_0,a1_1,a1_2,a1_3,a1_4,a1_5,a1_6,a1_7,a1_8,a1_9⟩) (⟨a2_0,a2_1,a2_2,a2_3,a2_4,a2_5,a2_6,a2_7,a2_8,a2_9⟩))),[some [.mp .pb o0_0],some [.sl .atype (.may false) o1_0,.sl .atype (.may false) o1_1,.sl .bool (.may false) o1_2,.mr 0]])
 |_,_,_=>none
noncomputable def lQ:aL:=(aau kO (s3 (aco (P:=Try.prog) [wT,jt,an4])))
theorem ab6:dQ lQ [93,98]:=(yz (by
 intro f us hp hf
 unfold kO
 split<;>first|rfl|(simp at hf)) (by
 intro f us hp hf
 unfold kO
 split<;>first|rfl|(simp at hf)) (oH _ _))
theorem ac5:dB Try.prog lQ:=by
 refine acw ?_ ?_
 ·intro f us hp v hp' h
  unfold kO at h
  split at h
  ·simp only[Option.some.injEq,Prod.mk.injEq] at h
   obtain⟨hc,rfl,rfl⟩:=h
   exact((wb hc).1).dim rfl
  ·simp only[Option.some.injEq,Prod.mk.injEq] at h
   obtain⟨hc,rfl,rfl⟩:=h
   exact((wb hc).1).dim rfl
  ·simp at h
 exact acp _
def wu:IR:=Rs [Bx 3 0,Bx 5 2,Mb 6 false] (Sq (.reg [Lq 10 3,Nk 11 10,Fa 12 0 11,Fa 13 0 12,Fo [1] [] (.ld 14 1 false false 13),Mv 15 1,Ix 16 .atype 14 15,Ld 17 10 true 16,Lq 18 3,Nk 19 18,Fa 20 1 19,Fa 21 0 20,Fo [1] [] (.ld 22 1 false false 21),Lq 23 5,Ix 24 .atype 22 23,Ld 25 10 true 24,Pp (.alr 7 10),Pp (.alr 8 10),Fz 7 10 17,Fz 8 10 25] [[],[0],[0,1],[0,1,2],rg 0 3,[],rg 0 5,rg 0 6,[],[8],[8,9],[8,9,10],rg 8 11,[],rg 8 13,rg 8 14,[],[],rg 0 7++[16,17],rg 0 18]) (Sq (.block 0 (Rs [Lq 27 3,Nk 28 27,Fa 29 2 28,Lo 30 29,Mv 31 1,Ix 32 .bool 30 31,Lq 33 32,Un 34 33,Mv 26 34] (Cn 26 (Rs [Mb 6 true] .ret) (Rs [Fa 36 0 7,Lq 37 36,Bc 38 .eql 37 14,Mv 35 38] (Cn 35 (Rs [Fa 39 9 7,Lq 40 39,Pp (.mkf 41 94 [.t 3,.t 5]),Ca 42 93 [40,41],Un 43 42,Mv 6 43] .ret) (Rs [Fa 45 0 8,Lq 46 45,Bc 47 .eql 46 14,Mv 44 47] (Cn 44 (Sq (.reg [Lq 48 3,Nk 49 48,Fa 50 0 49,Fo [1] [] (.ld 51 1 true false 50),Lq 52 3,Nk 53 52,Fa 54 1 53,Fo [1] [] (.ld 55 1 true false 54),Mv 56 1,Lq 57 5,Ca 58 95 [51,55,56,57],Mv 9 58] [[],[0],[0,1],[0,1,2],[],[4],[4,5],[4,5,6],[],[],rg 0 9,rg 0 10]) (Sq (.reg [Mv 59 9,Bc 60 .geq 59 0,Mv 61 60,Gt 61 (.lde 62 1 false 3),Gt 61 (.nck 63 62),Gt 61 (.fad 64 3 63),⟨some (61,true),.ld 65 1 false false 64,some ([1],[])⟩,Gt 61 (.mov 66 1),Gt 61 (.fad 67 9 8),Gt 61 (.lde 68 1 false 67),Gt 61 (.mov 69 9),Gt 61 (.ixa 70 (.num .i64) 68 69),Gt 61 (.lde 71 1 false 70),Gt 61 (.bld 72 [vI 0,vI 0] [(0,1,66),(1,1,71)]),Gt 61 (.mget 73 .pb false (.t 65) (.t 72)),Gt 61 (.un 74 .not 73),Pa 75 61 74,Mv 6 75] [[],[0],[0,1],[0,1,2],rg 0 3,rg 0 4,rg 0 5,[0,1,2],[0,1,2],[0,1,2,8],[0,1,2],[0,1,2,8,9,10],[0,1,2]++rg 8 11,[0,1,2]++rg 7 12,rg 0 13,rg 0 14,rg 0 15,rg 0 16]) .ret)) (Sq (.reg [Lq 77 3,Nk 78 77,Fa 79 0 78,Fo [1] [] (.ld 80 1 true false 79),Lq 81 3,Nk 82 81,Fa 83 1 82,Fo [1] [] (.ld 84 1 true false 83),Mv 85 1,Lq 86 5,Ca 87 30 [80,84,85,86],Un 88 87,Mv 76 88] [[],[0],[0,1],[0,1,2],[],[4],[4,5],[4,5,6],[],[],rg 0 9,rg 0 10,rg 0 11]) (Cn 76 (Rs [Mb 6 false] .ret) .skip))))))))) (Sq (Rs [Fa 89 0 7,Lq 90 89] (.block 1 (Sq (Rs [Bc 92 .eql 90 12,Mv 91 92] (Cn 91 .skip (Rg [Bc 93 .eql 90 13,Mv 91 93]))) (Cn 91 (Sq (.reg [Lq 94 3,Nk 95 94,Fa 96 3 95,Fo [1] [] (.ld 97 1 false false 96),Fa 98 3 7,Lq 99 98,Fa 100 3 8,Lq 101 100,Pp (.bld 102 [vI 0,vI 0] [(0,1,99),(1,1,101)]),Pp (.mget 103 .pb false (.t 97) (.t 102)),Un 104 103,Mv 6 104] [[],[0],[0,1],[0,1,2],[],[4],[],[6],rg 4 7,rg 0 8,rg 0 9,rg 0 10]) .ret) (Rs [Bc 106 .eql 90 10,Mv 105 106] (Cn 105 (Rs [Fa 107 5 8,Lq 108 107,Mv 109 108,Gf 109 (.fad 110 4 7),Gf 109 (.lde 111 1 false 110),Gf 109 (.mkf 112 96 [.t 8]),Gf 109 (.call 113 90 [111,112]),Gf 109 (.un 114 .not 113),Po 115 109 114,Mv 6 115] .ret) (Rs [Bc 117 .eql 90 9,Mv 116 117] (Cn 116 (Rs [Lq 118 3,Ld 119 10 true 7,Ld 120 10 true 8,Ca 121 98 [118,119,120],Mv 6 121] .ret) .skip)))))))) (Rs [Mb 6 true] .ret))))
def wv:List RV:=[.t 6]
theorem aeu:FnC Try.prog lQ [93,98] 2 xQ Try.f66 wu wv:=⟨ac5,ab6,Try.func66,by kernel_rfl,by kernel_rfl,by decide⟩
def ww(N:Nat)(o0_0:List ((Int×Int)×Bool))(o1_0 o1_1:List aA)(o1_2:List Bool)(p1 p2:Int):Ro:=
 let z0:=fun g0=>(some (.bool g0,[some [.mp .pb o0_0],some [.sl .atype (.may false) o1_0,.sl .atype (.may false) o1_1,.sl .bool (.may false) o1_2,.mr 0]]):Ro)
 chk (ixl p1 o1_0) (
  let x1:=(List.getD o1_0 (Int.toNat p1) (aG .atype))
  chk (ixl p2 o1_1) (
   let x2:=(List.getD o1_1 (Int.toNat p2) (aG .atype))
   chk (ixl p1 o1_2) (
    let x3:=List.getD o1_2 (Int.toNat p1) (aG .bool)
    cond (!x3) (
     z0 true) (
     cond (x1.kind==14) (
      aF (bw o0_0 o1_0 o1_1 o1_2 x1.branches p2) (fun(r1:Bool)=>
       z0 (!r1))) (
      cond (x2.kind==14) (
       aF (qk o1_0 o1_1 p1 p2) (fun(r2:Int)=>
        cond (decide (0≤r2)) (
         chk (ixl r2 x2.branches) (
          let x4:=List.getD x2.branches (Int.toNat r2) (aG (.num .i64))
          let x5:=(oo (k:=.pb) o0_0 (p1,x4))
          z0 (!x5))) (
         z0 false))) (
       aF (eW o1_0 o1_1 p1 p2) (fun(r3:Bool)=>
        cond (!r3) (
         z0 false) (
         cond (x1.kind==12) (
          let x6:=(oo (k:=.pb) o0_0 (x1.items,x2.items))
          z0 (!x6)) (
          cond (x1.kind==13) (
           let x7:=(oo (k:=.pb) o0_0 (x1.items,x2.items))
           z0 (!x7)) (
           cond (x1.kind==10) (
            cond x2.hasdef (
             z0 true) (
             aF (bm x1.syms x2.kind x2.name x2.aliases x2.items x2.syms x2.hasdef x2.df x2.size x2.fields x2.branches) (fun(r4:Bool)=>
              z0 (!r4)))) (
            cond (x1.kind==9) (
             aF (gw o0_0 o1_0 o1_1 o1_2 x1 x2) (fun(r5:Bool)=>
              z0 r5)) (
             z0 true))))))))))))
def pr(N:Nat)(o0_0:List ((Int×Int)×Bool))(o1_0 o1_1:List aA)(o1_2:List Bool)(p1 p2:Int):Ro:=ww N o0_0 o1_0 o1_1 o1_2 p1 p2
theorem adm(N:Nat)(o0_0:List ((Int×Int)×Bool))(o1_0 o1_1:List aA)(o1_2:List Bool)(p1 p2:Int):od lQ N 122 wv wu [.ptr 1 0,.int .i64 p1,.int .i64 p2] [some [.mp .pb o0_0],some [.sl .atype (.may false) o1_0,.sl .atype (.may false) o1_1,.sl .bool (.may false) o1_2,.mr 0]]=pr N o0_0 o1_0 o1_1 o1_2 p1 p2:=by kernel_rfl
theorem adn(N:Nat)(o0_0:List ((Int×Int)×Bool))(o1_0 o1_1:List aA)(o1_2:List Bool)(p1 p2:Int)(h:Tot (pr N o0_0 o1_0 o1_1 o1_2 p1 p2) (fun z=>∃(y0:Bool),z.1=.bool y0∧z.2=[some [.mp .pb o0_0],some [.sl .atype (.may false) o1_0,.sl .atype (.may false) o1_1,.sl .bool (.may false) o1_2,.mr 0]]∧iK o0_0 o1_0 o1_1 o1_2 p1 p2 (y0))):∃r,ic o0_0 o1_0 o1_1 o1_2 p1 p2 r:=by
 obtain⟨⟨v,hp⟩,hz,y0,e1,e2,hq⟩:=h
 simp only at e1 e2
 subst e1 e2
 exact⟨(y0),aeu.fnOK rfl ((adm N o0_0 o1_0 o1_1 o1_2 p1 p2).trans hz),hq⟩
end Go.Proofs.Ytdpajabhmmmjoaa
end
noncomputable section
namespace Go.Proofs.Ytdpajabhmmmjoaa
open Go.AM
set_option autoImplicit false
set_option linter.unusedVariables false
set_option maxRecDepth 100000
noncomputable def gZ:aL:=tab (P:=Try.prog) [] [] [] [aa5,an6,an8,ar1]
def ac6:IR:=Sq (Rs [Mv 38 15,Fa 39 9 13,Lq 40 39,Ll 41 40,Bi 42 .lss 38 41] (Cn 42 .skip (.exit 0))) (Sq (.block 1 (Rs [Mv 45 4,Fa 46 9 13,Lq 47 46,Mv 48 15,Ix 49 (.num .i64) 47 48,Lq 50 49,Mv 51 3,Pp (.bld 52 [vI 0,vI 0] [(0,1,50),(1,1,51)]),Pp (.mget 53 .pb false (.t 45) (.t 52))] (Cn 53 (Rs [Mb 12 false] .ret) .skip))) (Rg [Mv 43 15,Bc 44 .add 43 1,Mv 15 44]))
def abC:IR:=Rs [Mb 12 true] .ret
def abD:IR:=Sq (Rs [Mv 97 17,Fa 98 4 13,Lq 99 98,Ll 100 99,Bi 101 .lss 97 100,Mv 102 101,Gt 102 (.fad 103 5 14),Gt 102 (.lde 104 1 false 103),Gt 102 (.un 105 .not 104),Pa 106 102 105] (Cn 106 .skip (.exit 3))) (Sq (.block 4 (Sq (.reg [Ld 109 10 true 14,Fa 110 4 13,Lq 111 110,Mv 112 17,Ix 113 .str 111 112,Lq 114 113,Ca 115 100 [109,114],Bc 116 .lss 115 0] [[],[],[1],[],[1,2,3],rg 1 4,rg 0 5,rg 0 6]) (Cn 116 (Rs [Mb 12 false] .ret) .skip))) (Rg [Mv 107 17,Bc 108 .add 107 1,Mv 17 108]))
def abE:IR:=Sq (Rs [Mv 119 18,Fa 120 8 14,Lq 121 120,Ll 122 121,Bi 123 .lss 119 122] (Cn 123 .skip (.exit 5))) (Sq (.block 6 (Sq (.reg [Ld 126 10 true 13,Fa 127 8 14,Lq 128 127,Mv 129 18,Ix 130 .afield 128 129,Ld 131 9 true 130,Ca 132 101 [126,131],Mv 19 132] [[],[],[1],[],[1,2,3],rg 1 4,rg 0 5,rg 0 6]) (Sq (.reg [Mv 133 19,Bc 134 .lss 133 0,Mv 135 134,Gt 135 (.fad 136 8 14),Gt 135 (.lde 137 1 false 136),Gt 135 (.mov 138 18),Gt 135 (.ixa 139 .afield 137 138),Gt 135 (.fad 140 3 139),⟨some (135,true),.ld 141 1 false false 140,some ([],[])⟩,Gt 135 (.un 142 .not 141),Pa 143 135 142,Mv 144 143,Gf 144 (.mov 145 19),Gf 144 (.bin 146 .geq 145 (kI 0)),Gf 144 (.mov 147 146),Gt 147 (.mov 148 4),Gt 147 (.fad 149 8 13),Gt 147 (.lde 150 1 false 149),Gt 147 (.mov 151 19),Gt 147 (.ixa 152 .afield 150 151),Gt 147 (.fad 153 2 152),⟨some (147,true),.ld 154 1 false false 153,some ([],[])⟩,Gt 147 (.fad 155 8 14),Gt 147 (.lde 156 1 false 155),Gt 147 (.mov 157 18),Gt 147 (.ixa 158 .afield 156 157),Gt 147 (.fad 159 2 158),⟨some (147,true),.ld 160 1 false false 159,some ([],[])⟩,Gt 147 (.bld 161 [vI 0,vI 0] [(0,1,154),(1,1,160)]),Gt 147 (.mget 162 .pb false (.t 148) (.t 161)),Gf 144 (.pick 163 147 162 (kB false)),Po 164 144 163] [[],[0],[0,1],[0,1,2],rg 0 3,[0,1,2],rg 0 5,rg 0 6,rg 0 7,rg 0 8,rg 0 9,rg 0 10,rg 0 11,rg 0 12,rg 0 13,rg 0 14,rg 0 14,rg 0 14++[16],rg 0 14,rg 0 14++[16,17,18],rg 0 14++rg 16 19,rg 0 14++rg 16 20,rg 0 14,rg 0 14++[22],rg 0 14,rg 0 14++[22,23,24],rg 0 14++rg 22 25,rg 0 14++rg 22 26,rg 0 14++rg 16 27,rg 0 28,rg 0 29,rg 0 30]) (Cn 164 (Rs [Mb 12 false] .ret) .skip)))) (Rg [Mv 124 18,Bc 125 .add 124 1,Mv 18 125]))
def vV:IR:=Rs [Mb 12 true] .ret
def abF:IR:=Sq (Rs [Fa 54 0 14,Lq 55 54,Bc 56 .eql 55 14] (Cn 56 (Rs [Ld 57 1 true 6,Ld 58 1 true 7,Mv 59 2,Mv 60 3,Ca 61 99 [57,58,59,60],Mv 16 61] (Rs [Mv 62 16,Bc 63 .geq 62 0,Mv 64 63,Gt 64 (.mov 65 4),Gt 64 (.mov 66 2),Gt 64 (.fad 67 9 14),Gt 64 (.lde 68 1 false 67),Gt 64 (.mov 69 16),Gt 64 (.ixa 70 (.num .i64) 68 69),Gt 64 (.lde 71 1 false 70),Gt 64 (.bld 72 [vI 0,vI 0] [(0,1,66),(1,1,71)]),Gt 64 (.mget 73 .pb false (.t 65) (.t 72)),Gt 64 (.un 74 .not 73),Pa 75 64 74,Mv 12 75] .ret)) .skip)) (Sq (Rs [Ld 76 1 true 6,Ld 77 1 true 7,Mv 78 2,Mv 79 3,Ca 80 31 [76,77,78,79],Un 81 80] (Cn 81 (Rs [Mb 12 false] .ret) .skip)) (Sq (Rs [Fa 82 0 13,Lq 83 82] (.block 2 (Sq (Rs [Bc 85 .eql 83 12,Mv 84 85] (Cn 84 .skip (Rg [Bc 86 .eql 83 13,Mv 84 86]))) (Cn 84 (Rs [Mv 87 4,Fa 88 3 13,Lq 89 88,Fa 90 3 14,Lq 91 90,Pp (.bld 92 [vI 0,vI 0] [(0,1,89),(1,1,91)]),Pp (.mget 93 .pb false (.t 87) (.t 92)),Un 94 93,Mv 12 94] .ret) (Rs [Bc 96 .eql 83 10,Mv 95 96] (Cn 95 (Rs [Mi 17 0] (.block 3 (.loop [13,14,17,1000001] 1 abD))) (Rs [Bc 118 .eql 83 9,Mv 117 118] (Cn 117 (Rs [Mi 18 0] (.block 5 (.loop [4,13,14,18,1000002] 1 abE))) .skip)))))))) vV))
def aag:IR:=Rs [Bx 6 0,Bx 7 1,Mb 12 false] (Sq (.reg [Fa 20 0 6,Lq 21 20,Mv 22 2,Ix 23 .atype 21 22,Ld 24 10 true 23,Fa 25 0 7,Lq 26 25,Mv 27 3,Ix 28 .atype 26 27,Ld 29 10 true 28,Pp (.alr 13 10),Pp (.alr 14 10),Fz 13 10 24,Fz 14 10 29] [[],[0],[],[0,1,2],rg 0 3,[],[5],[],[5,6,7],rg 5 8,[],[],rg 0 4++[10,11],rg 0 12]) (Sq (Rs [Mv 30 5,Mv 31 2,Ix 32 .bool 30 31,Lq 33 32,Un 34 33] (Cn 34 (Rs [Mb 12 true] .ret) .skip)) (Sq (Rs [Fa 35 0 13,Lq 36 35,Bc 37 .eql 36 14] (Cn 37 (Sq (Rs [Mi 15 0] (.block 0 (.loop [3,4,13,15,1000000] 1 ac6))) abC) .skip)) abF)))
def nF:List RV:=[.t 12]
theorem aoU:FnC Try.prog gZ [] 1 aht Try.f68 aag nF:=fnC Try.func68
def anh(R:IR→(Ex→St→Ro)→St→Ro)(again0:St→Ro):Ex→St→Ro:=(bk again0 [3,4,13,15,1000000] 1 (aP 0 (bj (R abC) (bj (R abF) (fin nF)))))
abbrev tq:Type:=(Int×aA×Int×List ((Int×Int)×Bool))
def rz(x:tq):St:={env:=(U 3 (.int .i64 x.1::.mr 0::(U 8 (.ea (enc .atype x.2.1)::.undef::.int .i64 x.2.2.1::(U 149 []))))),hp:=[some [.mp .pb x.2.2.2]]}
def yV(N:Nat):(St→Ro)→St→Ro:=fun again0 s=>run gZ N ac6 (anh (run gZ N) again0) s
def tr(N:Nat)(again0:tq→Ro)(x:tq):Ro:=
 let v3:Int:=x.1
 let v13:aA:=x.2.1
 let v15:Int:=x.2.2.1
 let o0_0:List ((Int×Int)×Bool):=x.2.2.2
 let x4:=(↑(List.length v13.branches):Int)
 cond (decide (v15<x4)) (
  chk (ixl v15 v13.branches) (
   let x5:=List.getD v13.branches (Int.toNat v15) (aG (.num .i64))
   let x6:=(oo (k:=.pb) o0_0 (x5,v3))
   cond x6 (
    some (.bool false,[some [.mp .pb o0_0]])) (
    let x7:=(IntKind.wrap .i64 (v15+1))
    again0 (v3,v13,x7,o0_0)))) (
  some (.bool true,[some [.mp .pb o0_0]]))
theorem alS(N:Nat):LB (yV N) rz (tr N):=fun _ _=>by kernel_rfl
def ani(R:IR→(Ex→St→Ro)→St→Ro)(again1:St→Ro):Ex→St→Ro:=(bk again1 [13,14,17,1000001] 1 (aP 3 (aP 2 (bj (R vV) (fin nF)))))
abbrev tt:Type:=(aA×aA×Int×List ((Int×Int)×Bool))
def rA(x:tt):St:={env:=(U 13 (.ea (enc .atype x.1)::.ea (enc .atype x.2.1)::.undef::.undef::.int .i64 x.2.2.1::(U 147 []))),hp:=[some [.mp .pb x.2.2.2]]}
def yW(N:Nat):(St→Ro)→St→Ro:=fun again1 s=>run gZ N abD (ani (run gZ N) again1) s
def tu(N:Nat)(again1:tt→Ro)(x:tt):Ro:=
 let v13:aA:=x.1
 let v14:aA:=x.2.1
 let v17:Int:=x.2.2.1
 let o0_0:List ((Int×Int)×Bool):=x.2.2.2
 let x12:=(↑(List.length v13.syms):Int)
 let z0:=(some (.bool true,[some [.mp .pb o0_0]]):Ro)
 cond (decide (v17<x12)) (
  cond (!v14.hasdef) (
   chk (ixl v17 v13.syms) (
    let x13:=List.getD v13.syms (Int.toNat v17) (aG .str)
    aF (qm v14 x13) (fun(r3:Int)=>
     cond (decide (r3<0)) (
      some (.bool false,[some [.mp .pb o0_0]])) (
      let x14:=(IntKind.wrap .i64 (v17+1))
      again1 (v13,v14,x14,o0_0))))) (
   z0)) (
  z0)
theorem alT(N:Nat):LB (yW N) rA (tu N):=fun _ _=>by kernel_rfl
def anj(R:IR→(Ex→St→Ro)→St→Ro)(again2:St→Ro):Ex→St→Ro:=(bk again2 [4,13,14,18,1000002] 1 (aP 5 (aP 2 (bj (R vV) (fin nF)))))
abbrev tv:Type:=(aA×aA×Int×List ((Int×Int)×Bool))
def rB(x:tv):St:={env:=(U 4 (.mr 0::(U 8 (.ea (enc .atype x.1)::.ea (enc .atype x.2.1)::(U 3 (.int .i64 x.2.2.1::(U 146 []))))))),hp:=[some [.mp .pb x.2.2.2]]}
def yX(N:Nat):(St→Ro)→St→Ro:=fun again2 s=>run gZ N abE (anj (run gZ N) again2) s
def tw(N:Nat)(again2:tv→Ro)(x:tv):Ro:=
 let v13:aA:=x.1
 let v14:aA:=x.2.1
 let v18:Int:=x.2.2.1
 let o0_0:List ((Int×Int)×Bool):=x.2.2.2
 let x15:=(↑(List.length v14.fields):Int)
 let z0:=fun g0=>(some (.bool g0,[some [.mp .pb o0_0]]):Ro)
 cond (decide (v18<x15)) (
  chk (ixl v18 v14.fields) (
   let x16:=(List.getD v14.fields (Int.toNat v18) (aG .afield))
   aF (uD v13 (reF x16)) (fun(r4:Int)=>
    cond (decide (r4<0)) (
     chk (ixl v18 v14.fields) (
      let x17:=(List.getD v14.fields (Int.toNat v18) (aG .afield))
      cond (!x17.hasdef) (
       z0 false) (
       cond (decide (0≤r4)) (
        chk (ixl r4 v13.fields) (
         let x18:=(List.getD v13.fields (Int.toNat r4) (aG .afield))
         chk (ixl v18 v14.fields) (
          let x19:=(List.getD v14.fields (Int.toNat v18) (aG .afield))
          let x20:=(oo (k:=.pb) o0_0 (x18.typ,x19.typ))
          cond x20 (
           z0 false) (
           let x21:=(IntKind.wrap .i64 (v18+1))
           again2 (v13,v14,x21,o0_0))))) (
        let x22:=(IntKind.wrap .i64 (v18+1))
        again2 (v13,v14,x22,o0_0))))) (
     cond (decide (0≤r4)) (
      chk (ixl r4 v13.fields) (
       let x23:=(List.getD v13.fields (Int.toNat r4) (aG .afield))
       chk (ixl v18 v14.fields) (
        let x24:=(List.getD v14.fields (Int.toNat v18) (aG .afield))
        let x25:=(oo (k:=.pb) o0_0 (x23.typ,x24.typ))
        cond x25 (
         z0 false) (
         let x26:=(IntKind.wrap .i64 (v18+1))
         again2 (v13,v14,x26,o0_0))))) (
      let x27:=(IntKind.wrap .i64 (v18+1))
      again2 (v13,v14,x27,o0_0)))))) (
  z0 true)
theorem alU(N:Nat):LB (yX N) rB (tw N):=fun _ _=>by kernel_rfl
def qz(N:Nat)(o0_0:List ((Int×Int)×Bool))(p0_0 p1_0:List aA)(p2 p3:Int)(p5:List Bool)(q0:tq→Ro)(q1:tt→Ro)(q2:tv→Ro):Ro:=
 let z0:=fun g0=>(some (.bool g0,[some [.mp .pb o0_0]]):Ro)
 chk (ixl p2 p0_0) (
  let x1:=(List.getD p0_0 (Int.toNat p2) (aG .atype))
  chk (ixl p3 p1_0) (
   let x2:=(List.getD p1_0 (Int.toNat p3) (aG .atype))
   chk (ixl p2 p5) (
    let x3:=List.getD p5 (Int.toNat p2) (aG .bool)
    cond (!x3) (
     some (.bool true,[some [.mp .pb o0_0]])) (
     cond (x1.kind==14) (
      q0 (p3,x1,0,o0_0)) (
      cond (x2.kind==14) (
       aF (ql p0_0 p1_0 p2 p3) (fun(r1:Int)=>
        cond (decide (0≤r1)) (
         chk (ixl r1 x2.branches) (
          let x8:=List.getD x2.branches (Int.toNat r1) (aG (.num .i64))
          let x9:=(oo (k:=.pb) o0_0 (p2,x8))
          some (.bool (!x9),[some [.mp .pb o0_0]]))) (
         z0 false))) (
       aF (gX p0_0 p1_0 p2 p3) (fun(r2:Bool)=>
        cond (!r2) (
         z0 false) (
         cond (x1.kind==12) (
          let x10:=(oo (k:=.pb) o0_0 (x1.items,x2.items))
          z0 (!x10)) (
          cond (x1.kind==13) (
           let x11:=(oo (k:=.pb) o0_0 (x1.items,x2.items))
           z0 (!x11)) (
           cond (x1.kind==10) (
            q1 (x1,x2,0,o0_0)) (
            cond (x1.kind==9) (
             q2 (x1,x2,0,o0_0)) (
             z0 true))))))))))))
def aah(N:Nat)(o0_0:List ((Int×Int)×Bool))(p0_0 p1_0:List aA)(p2 p3:Int)(p5:List Bool):Ro:=qz N o0_0 p0_0 p1_0 p2 p3 p5 (fun z=>aS N (tr N) z) (fun z=>aS N (tu N) z) (fun z=>aS N (tw N) z)
def aqP(N:Nat):List (Nat×(St→Ro)):=bQ gZ N aag (fin nF)++[]
theorem ank(N:Nat)(o0_0:List ((Int×Int)×Bool))(p0_0 p1_0:List aA)(p2 p3:Int)(p5:List Bool):od gZ N 165 nF aag [.agg [.sl .atype (.may false) p0_0],.agg [.sl .atype (.may false) p1_0],.int .i64 p2,.int .i64 p3,.mr 0,.sl .bool (.may false) p5] [some [.mp .pb o0_0]]=aah N o0_0 p0_0 p1_0 p2 p3 p5:=
 ((bu (aqP N) (by kernel_rfl) rfl (fun C=>qz N o0_0 p0_0 p1_0 p2 p3 p5 (fun z=>C 1000000 (rz z)) (fun z=>C 1000001 (rA z)) (fun z=>C 1000002 (rB z))) (fun C=>by kernel_rfl)).trans (Eq.trans (b:=qz N o0_0 p0_0 p1_0 p2 p3 p5 (fun z=>aW N (yV N) (rz z)) (fun z=>aW N (yW N) (rA z)) (fun z=>aW N (yX N) (rB z))) (by kernel_rfl) (congr (congr (congrArg (qz N o0_0 p0_0 p1_0 p2 p3 p5) (funext fun z=>aV (rz) (yV N) (tr N) (alS N) N z)) (funext fun z=>aV (rA) (yW N) (tu N) (alT N) N z)) (funext fun z=>aV (rB) (yX N) (tw N) (alU N) N z))))
theorem anl(N:Nat)(o0_0:List ((Int×Int)×Bool))(p0_0 p1_0:List aA)(p2 p3:Int)(p5:List Bool)(h:Tot (aah N o0_0 p0_0 p1_0 p2 p3 p5) (fun z=>∃(y0:Bool),z.1=.bool y0∧z.2=[some [.mp .pb o0_0]]∧nL o0_0 p0_0 p1_0 p2 p3 p5 (y0))):∃r,sq o0_0 p0_0 p1_0 p2 p3 p5 r:=by
 obtain⟨⟨v,hp⟩,hz,y0,e1,e2,hq⟩:=h
 simp only at e1 e2
 subst e1 e2
 exact⟨(y0),aoU.fnOK rfl ((ank N o0_0 p0_0 p1_0 p2 p3 p5).trans hz),hq⟩
def vu:aL:=fun f us hp=>match f,us,hp with
 |68,[.agg [.sl .atype (.may _) a0_0],.agg [.sl .atype (.may _) a1_0],.int .i64 a2,.int .i64 a3,.mr 0,.sl .bool (.may _) a5],[some [.mp .pb o0_0]]=>some (can (sq o0_0 a0_0 a1_0 a2 a3 a5),.bool (pick (sq o0_0 a0_0 a1_0 a2 a3 a5)),[some [.mp .pb o0_0]])
 |_,_,_=>none
noncomputable def bX:aL:=(aau vu (s3 (aco (P:=Try.prog) [agp,arY])))
theorem akB:dQ bX [68]:=(yz (by
 intro f us hp hf
 unfold vu
 split<;>first|rfl|(simp at hf)) (by
 intro f us hp hf
 unfold vu
 split<;>first|rfl|(simp at hf)) (oH _ _))
theorem alV:dB Try.prog bX:=by
 refine acw ?_ ?_
 ·intro f us hp v hp' h
  unfold vu at h
  split at h
  ·simp only[Option.some.injEq,Prod.mk.injEq] at h
   obtain⟨hc,rfl,rfl⟩:=h
   exact((wb hc).1).dim rfl
  ·simp at h
 exact acp _
def abG:IR:=Sq (Rs [Mv 36 13,Fa 37 0 5,Lq 38 37,Ll 39 38,Bi 40 .lss 36 39] (Cn 40 .skip (.exit 4))) (Sq (.block 5 (Rs [Mv 43 12,Mv 44 13,Pp (.bld 45 [vI 0,vI 0] [(0,1,43),(1,1,44)]),Pp (.alr 14 2),Fz 14 2 45] (Rs [Mv 46 9,Ld 47 2 true 14,Pp (.mget 48 .pb false (.t 46) (.t 47)),Un 49 48,Mv 50 49,Gt 50 (.lde 51 1 true 4),Gt 50 (.lde 52 1 true 5),Gt 50 (.mov 53 12),Gt 50 (.mov 54 13),Gt 50 (.mov 55 9),Gt 50 (.mov 56 10),Gt 50 (.call 57 68 [51,52,53,54,55,56]),Gt 50 (.un 58 .not 57),Pa 59 50 58] (Cn 59 (Rs [Mv 60 9,Ld 61 2 true 14,Pp (.mput none .pb (.t 60) (.t 61) (.c (.bool true)))] (Rg [Mb 11 true])) .skip)))) (Rg [Mv 41 13,Bc 42 .add 41 1,Mv 13 42]))
def abH:IR:=Rg [Mv 34 12,Bc 35 .add 34 1,Mv 12 35]
def pS:IR:=Sq (Rs [Mv 29 12,Fa 30 0 4,Lq 31 30,Ll 32 31,Bi 33 .lss 29 32] (Cn 33 .skip (.exit 2))) (Sq (.block 3 (Rs [Mi 13 0] (.block 4 (.loop [2,3,4,5,9,10,11,12,13,1000000] 1 abG)))) abH)
def pT:IR:=Sq (Rs [Mv 28 11] (Cn 28 .skip (.exit 0))) (.block 1 (Rs [Mb 11 false] (Rs [Mi 12 0] (.block 2 (.loop [2,3,4,5,9,10,11,12,1000001] 1 pS)))))
def pU:IR:=Rs [Mv 62 9,Mv 63 2,Mv 64 3,Pp (.bld 65 [vI 0,vI 0] [(0,1,63),(1,1,64)]),Pp (.mget 66 .pb false (.t 62) (.t 65)),Un 67 66,Mv 8 67] .ret
def aoV:IR:=Rs [Bx 4 0,Bx 5 1,Mb 8 false] (Sq (Rs [Ld 15 1 true 4,Mv 16 2,Ca 17 45 [15,16],Un 18 17,Mv 19 18,Gf 19 (.lde 20 1 true 5),Gf 19 (.mov 21 3),Gf 19 (.call 22 45 [20,21]),Gf 19 (.un 23 .not 22),Po 24 19 23] (Cn 24 (Rs [Mb 8 false] .ret) .skip)) (Rs [Pp (.mkm 25 .pb),Mv 9 25] (Rs [Ld 26 1 true 4,Ca 27 67 [26],Mv 10 27] (Sq (Rs [Mb 11 true] (.block 0 (.loop [2,3,4,5,9,10,11,1000002] 1 pT))) pU))))
def vv:List RV:=[.t 8]
theorem aoW:FnC Try.prog bX [68] 0 ahq Try.f33 aoV vv:=⟨alV,akB,Try.func33,by kernel_rfl,by kernel_rfl,by decide⟩
def tx(R:IR→(Ex→St→Ro)→St→Ro)(again0:St→Ro):Ex→St→Ro:=(bk again0 [2,3,4,5,9,10,11,1000002] 1 (aP 0 (bj (R pU) (fin vv))))
abbrev ez:Type:=(Int×Int×List aA×List aA×List Bool×Bool×List ((Int×Int)×Bool))
def bH(x:ez):St:={env:=(.undef::.undef::.int .i64 x.1::.int .i64 x.2.1::.ea [.sl .atype (.may false) x.2.2.1]::.ea [.sl .atype (.may false) x.2.2.2.1]::(U 3 (.mr 0::.sl .bool (.may false) x.2.2.2.2.1::.bool x.2.2.2.2.2.1::(U 56 [])))),hp:=[some [.mp .pb x.2.2.2.2.2.2]]}
def tz(R:IR→(Ex→St→Ro)→St→Ro)(again0 again1:St→Ro):Ex→St→Ro:=(bk again1 [2,3,4,5,9,10,11,12,1000001] 1 (aP 2 (aP 1 (tx R again0))))
abbrev gj:Type:=(Int×Int×List aA×List aA×List Bool×Bool×Int×List ((Int×Int)×Bool))
def cF(x:gj):St:={env:=(.undef::.undef::.int .i64 x.1::.int .i64 x.2.1::.ea [.sl .atype (.may false) x.2.2.1]::.ea [.sl .atype (.may false) x.2.2.2.1]::(U 3 (.mr 0::.sl .bool (.may false) x.2.2.2.2.1::.bool x.2.2.2.2.2.1::.int .i64 x.2.2.2.2.2.2.1::(U 55 [])))),hp:=[some [.mp .pb x.2.2.2.2.2.2.2]]}
def anm(R:IR→(Ex→St→Ro)→St→Ro)(again0 again1 again2:St→Ro):Ex→St→Ro:=(bk again2 [2,3,4,5,9,10,11,12,13,1000000] 1 (aP 4 (aP 3 (bj (R abH) (tz R again0 again1)))))
abbrev tA:Type:=(Int×Int×List aA×List aA×List Bool×Bool×Int×Int×List ((Int×Int)×Bool))
def nT(x:tA):St:={env:=(.undef::.undef::.int .i64 x.1::.int .i64 x.2.1::.ea [.sl .atype (.may false) x.2.2.1]::.ea [.sl .atype (.may false) x.2.2.2.1]::(U 3 (.mr 0::.sl .bool (.may false) x.2.2.2.2.1::.bool x.2.2.2.2.2.1::.int .i64 x.2.2.2.2.2.2.1::.int .i64 x.2.2.2.2.2.2.2.1::(U 54 [])))),hp:=[some [.mp .pb x.2.2.2.2.2.2.2.2]]}
def tB(N:Nat)(again0 again1:St→Ro):(St→Ro)→St→Ro:=fun again2 s=>run bX N abG (anm (run bX N) again0 again1 again2) s
def oX(N:Nat)(again0:ez→Ro)(again1:gj→Ro)(again2:tA→Ro)(x:tA):Ro:=
 let v2:Int:=x.1
 let v3:Int:=x.2.1
 let v4_0:List aA:=x.2.2.1
 let v5_0:List aA:=x.2.2.2.1
 let v10:List Bool:=x.2.2.2.2.1
 let v11:Bool:=x.2.2.2.2.2.1
 let v12:Int:=x.2.2.2.2.2.2.1
 let v13:Int:=x.2.2.2.2.2.2.2.1
 let o0_0:List ((Int×Int)×Bool):=x.2.2.2.2.2.2.2.2
 let x2:=(↑(List.length v5_0):Int)
 let z0:=fun g0=>again2 (v2,v3,v4_0,v5_0,v10,v11,v12,g0,o0_0)
 cond (decide (v13<x2)) (
  let x3:=(oo (k:=.pb) o0_0 (v12,v13))
  cond (!x3) (
   aF (sq o0_0 v4_0 v5_0 v12 v13 v10) (fun(r4:Bool)=>
    cond (!r4) (
     let x4:=(oE (k:=.pb) o0_0 (v12,v13) true)
     let x5:=(IntKind.wrap .i64 (v13+1))
     again2 (v2,v3,v4_0,v5_0,v10,true,v12,x5,x4)) (
     let x6:=(IntKind.wrap .i64 (v13+1))
     z0 x6))) (
   let x7:=(IntKind.wrap .i64 (v13+1))
   z0 x7)) (
  let x8:=(IntKind.wrap .i64 (v12+1))
  again1 (v2,v3,v4_0,v5_0,v10,v11,x8,o0_0))
theorem alW(N:Nat)(again0 again1:St→Ro):LB (tB N again0 again1) nT (oX N (fun y=>again0 (bH y)) (fun y=>again1 (cF y))):=fun _ _=>by kernel_rfl
def oY(N:Nat)(again0:St→Ro):(St→Ro)→St→Ro:=fun again1 s=>run bX N pS (tz (run bX N) again0 again1) s
def rC(N:Nat)(again0:ez→Ro)(again1:gj→Ro)(q2:tA→Ro)(x:gj):Ro:=
 let v2:Int:=x.1
 let v3:Int:=x.2.1
 let v4_0:List aA:=x.2.2.1
 let v5_0:List aA:=x.2.2.2.1
 let v10:List Bool:=x.2.2.2.2.1
 let v11:Bool:=x.2.2.2.2.2.1
 let v12:Int:=x.2.2.2.2.2.2.1
 let o0_0:List ((Int×Int)×Bool):=x.2.2.2.2.2.2.2
 let x1:=(↑(List.length v4_0):Int)
 cond (decide (v12<x1)) (
  q2 (v2,v3,v4_0,v5_0,v10,v11,v12,0,o0_0)) (
  again0 (v2,v3,v4_0,v5_0,v10,v11,o0_0))
def oZ(N:Nat)(again0:ez→Ro)(again1:gj→Ro)(x:gj):Ro:=rC N again0 again1 (fun z=>aS N (oX N again0 again1) z) x
def yY(N:Nat)(again0 again1:St→Ro):List (Nat×(St→Ro)):=(bQ bX N pS (tz (run bX N) again0 again1)++(bQ bX N pU (fin vv)++[]))
theorem alX(N:Nat)(again0:St→Ro):∀(again1:St→Ro)(x:gj),oY N again0 again1 (cF x)=oZ N (fun y=>again0 (bH y)) (fun y=>again1 (cF y)) x:=by
 intro again1 x
 have hX:∀C:Nat→St→Ro,bT C bX N pS (tz (bT C bX N) again0 again1) (cF x)=rC N (fun y=>again0 (bH y)) (fun y=>again1 (cF y)) (fun z=>C 1000000 (nT z)) x:=by
  intro C
  kernel_rfl
 have h:oY N again0 again1 (cF x)=rC N (fun y=>again0 (bH y)) (fun y=>again1 (cF y)) (fun z=>aW N (tB N again0 again1) (nT z)) x:=(cW (C:=fb (yY N again0 again1)) (bS (ba (l:=(yY N again0 again1)) (by kernel_rfl))) (iD (cD (cD (iD (cD (fI (bS (dR (ba (l:=(yY N again0 again1)) (by kernel_rfl)))) rfl)))))) _).trans ((hX _).trans (by kernel_rfl))
 have e2:(fun z=>aW N (tB N again0 again1) (nT z))=(fun z=>aS N (oX N (fun y=>again0 (bH y)) (fun y=>again1 (cF y))) z):=funext fun z=>aV (nT) (tB N again0 again1) (oX N (fun y=>again0 (bH y)) (fun y=>again1 (cF y))) (alW N again0 again1) N z
 rw[h,e2]
 rfl
def tC(N:Nat):(St→Ro)→St→Ro:=fun again0 s=>run bX N pT (tx (run bX N) again0) s
def rD(N:Nat)(again0:ez→Ro)(q1:gj→Ro)(x:ez):Ro:=
 let v2:Int:=x.1
 let v3:Int:=x.2.1
 let v4_0:List aA:=x.2.2.1
 let v5_0:List aA:=x.2.2.2.1
 let v10:List Bool:=x.2.2.2.2.1
 let v11:Bool:=x.2.2.2.2.2.1
 let o0_0:List ((Int×Int)×Bool):=x.2.2.2.2.2.2
 cond v11 (
  q1 (v2,v3,v4_0,v5_0,v10,false,0,o0_0)) (
  let x9:=(oo (k:=.pb) o0_0 (v2,v3))
  some (.bool (!x9),[some [.mp .pb o0_0]]))
def tD(N:Nat)(again0:ez→Ro)(x:ez):Ro:=rD N again0 (fun z=>aS N (oZ N again0) z) x
def yZ(N:Nat)(again0:St→Ro):List (Nat×(St→Ro)):=(bQ bX N pT (tx (run bX N) again0)++(bQ bX N pU (fin vv)++[]))
theorem alY(N:Nat):∀(again0:St→Ro)(x:ez),tC N again0 (bH x)=tD N (fun y=>again0 (bH y)) x:=by
 intro again0 x
 have hX:∀C:Nat→St→Ro,bT C bX N pT (tx (bT C bX N) again0) (bH x)=rD N (fun y=>again0 (bH y)) (fun z=>C 1000001 (cF z)) x:=by
  intro C
  kernel_rfl
 have h:tC N again0 (bH x)=rD N (fun y=>again0 (bH y)) (fun z=>aW N (oY N again0) (cF z)) x:=(cW (C:=fb (yZ N again0)) (bS (ba (l:=(yZ N again0)) (by kernel_rfl))) (iD (cD (fI (bS (dR (ba (l:=(yZ N again0)) (by kernel_rfl)))) rfl))) _).trans ((hX _).trans (by kernel_rfl))
 have e1:(fun z=>aW N (oY N again0) (cF z))=(fun z=>aS N (oZ N (fun y=>again0 (bH y))) z):=funext fun z=>aV (cF) (oY N again0) (oZ N (fun y=>again0 (bH y))) (alX N again0) N z
 rw[h,e1]
 rfl
def qA(N:Nat)(p0_0 p1_0:List aA)(p2 p3:Int)(q0:ez→Ro):Ro:=
 aF (mR p0_0 p2) (fun(r1:Bool)=>
  cond (!r1) (
   some (.bool false,[])) (
   aF (mR p1_0 p3) (fun(r2:Bool)=>
    cond (!r2) (
     some (.bool false,[])) (
     aF (qj p0_0) (fun(r3:List Bool)=>
      q0 (p2,p3,p0_0,p1_0,r3,true,([]:List ((Int×Int)×Bool))))))))
def afv(N:Nat)(p0_0 p1_0:List aA)(p2 p3:Int):Ro:=qA N p0_0 p1_0 p2 p3 (fun z=>aS N (tD N) z)
theorem ann(N:Nat)(p0_0 p1_0:List aA)(p2 p3:Int)(h:Tot (afv N p0_0 p1_0 p2 p3) (fun z=>∃(y0:Bool)(rest:List aJ),z.1.dimR=.bool y0∧z.2=rest∧xp p0_0 p1_0 p2 p3 (y0))):∃r,gY p0_0 p1_0 p2 p3 r:=aoW.finP (N:=N) ((bu _ (by kernel_rfl) rfl (fun C=>qA N p0_0 p1_0 p2 p3 (fun z=>C 1000002 (bH z))) (fun C=>by kernel_rfl)).trans (Eq.trans (b:=qA N p0_0 p1_0 p2 p3 (fun z=>aW N (tC N) (bH z))) (by kernel_rfl) (congrArg (qA N p0_0 p1_0 p2 p3) (funext fun z=>aV (bH) (tC N) (tD N) (alY N) N z)))) h fun _ ⟨y0,_,e,_,q⟩=>⟨(y0),e,q⟩
end Go.Proofs.Ytdpajabhmmmjoaa
end
noncomputable section
namespace Go.Proofs.Ytdpajabhmmmjoaa
open Go.AM
set_option autoImplicit false
set_option linter.unusedVariables false
set_option maxRecDepth 100000
noncomputable def qB:aL:=tab (P:=Try.prog) [] [] [] []
def abI:IR:=Sq (Rs [Mv 22 9,Fa 23 9 7,Lq 24 23,Ll 25 24,Bi 26 .lss 22 25] (Cn 26 .skip (.exit 0))) (Sq (.block 1 (Rs [Mv 29 2,Fa 30 9 7,Lq 31 30,Mv 32 9,Ix 33 (.num .i64) 31 32,Lq 34 33,Ix 35 (.num .i64) 29 34,Lq 36 35,Mv 10 36] (Rs [Mv 37 10,Bc 38 .geq 37 0,Mv 39 38,Gt 39 (.mov 40 8),Gt 39 (.bin 41 .lss 40 (kI 0)),Gt 39 (.mov 42 41),Gf 42 (.mov 43 10),Gf 42 (.mov 44 8),Gf 42 (.bin 45 .lss 43 44),Gt 39 (.pick 46 42 (kB true) 45),Pa 47 39 46] (Cn 47 (Rg [Mv 48 10,Mv 8 48]) .skip)))) (Rg [Mv 27 9,Bc 28 .add 27 1,Mv 9 28]))
def aaU:IR:=Sq (Rs [Mv 49 8,Bc 50 .lss 49 0] (Cn 50 (Rs [Mi 6 (-1)] .ret) .skip)) (Rs [Mv 51 8,Bc 52 .add 51 1,Mv 6 52] .ret)
def aaV:IR:=Sq (Rs [Mv 53 12,Fa 54 8 7,Lq 55 54,Ll 56 55,Bi 57 .lss 53 56] (Cn 57 .skip (.exit 2))) (Sq (.block 3 (Rs [Mv 60 2,Fa 61 8 7,Lq 62 61,Mv 63 12,Ix 64 .afield 62 63,Fa 65 2 64,Lo 66 65,Ix 67 (.num .i64) 60 66,Lq 68 67,Mv 13 68] (Sq (Rs [Mv 69 13,Bc 70 .lss 69 0] (Cn 70 (Rs [Mi 6 (-1)] .ret) .skip)) (Rg [Mv 71 11,Mv 72 13,Pp (.mx 73 false 71 72),Mv 11 73])))) (Rg [Mv 58 12,Bc 59 .add 58 1,Mv 12 59]))
def aaW:IR:=Rs [Mv 74 11,Bc 75 .add 74 1,Mv 6 75] .ret
def aaX:IR:=Rs [Mi 11 0] (Sq (Rs [Mi 12 0] (.block 2 (.loop [2,7,11,12,1000001] 0 aaV))) aaW)
def ano:IR:=Rs [Bx 3 0,Mi 6 0] (Rs [Fa 14 0 3,Lq 15 14,Mv 16 1,Ix 17 .atype 15 16,Ld 18 10 true 17,Pp (.alr 7 10),Fz 7 10 18] (Sq (Rs [Fa 19 0 7,Lq 20 19,Bc 21 .eql 20 14] (Cn 21 (Rs [Mi 8 (-1)] (Sq (Rs [Mi 9 0] (.block 0 (.loop [2,7,8,9,1000000] 0 abI))) aaU)) .skip)) aaX))
def y8:List RV:=[.t 6]
theorem anp:FnC Try.prog qB [] 0 ae3 Try.f123 ano y8:=fnC Try.func123
def alZ(R:IR→(Ex→St→Ro)→St→Ro)(a:St→Ro):Ex→St→Ro:=(bk a [2,7,8,9,1000000] 0 (aP 0 (bj (R aaU) (bj (R aaX) (fin y8)))))
abbrev rE:Type:=(List Int×aA×Int×Int)
def pV:rE→St:=fun(a,b,c,d)=>{env:=(.undef::.undef::.sl (.num .i64) (.may false) a::(U 4 (.ea (enc .atype b)::.int .i64 c::.int .i64 d::(U 66 [])))),hp:=[]}
def xy(N:Nat):(St→Ro)→St→Ro:=fun a s=>run qB N abI (alZ (run qB N) a) s
def rF(N:Nat)(a:rE→Ro):rE→Ro:=fun(d,b,e,c)=>
 let h:=(↑(List.length b.branches):Int)
 cond (decide (c<h)) (
 chk (ixl c b.branches) (
 let g:=List.getD b.branches (Int.toNat c) (aG (.num .i64))
 chk (ixl g d) (
 let f:=List.getD d (Int.toNat g) (aG (.num .i64))
 cond (decide (0≤f)) (
 cond (decide (e<0)) (
 let i:=(IntKind.wrap .i64 (c+1))
 a (d,b,f,i)) (
 cond (decide (f<e)) (
 let j:=(IntKind.wrap .i64 (c+1))
 a (d,b,f,j)) (
 let k:=(IntKind.wrap .i64 (c+1))
 a (d,b,e,k)))) (
 let l:=(IntKind.wrap .i64 (c+1))
 a (d,b,e,l))))) (
 cond (decide (e<0)) (
 some (.int .i64 (-1),[])) (
 let m:=(IntKind.wrap .i64 (e+1))
 some (.int .i64 m,[])))
theorem akC(N:Nat):LB (xy N) pV (rF N):=fun _ _=>by kernel_rfl
def al0(R:IR→(Ex→St→Ro)→St→Ro)(a:St→Ro):Ex→St→Ro:=(bk a [2,7,11,12,1000001] 0 (aP 2 (bj (R aaW) (fin y8))))
abbrev rG:Type:=(List Int×aA×Int×Int)
def pW:rG→St:=fun(a,b,c,d)=>{env:=(.undef::.undef::.sl (.num .i64) (.may false) a::(U 4 (.ea (enc .atype b)::(U 3 (.int .i64 c::.int .i64 d::(U 63 [])))))),hp:=[]}
def xz(N:Nat):(St→Ro)→St→Ro:=fun a s=>run qB N aaV (al0 (run qB N) a) s
def rH(N:Nat)(a:rG→Ro):rG→Ro:=fun(g,f,c,b)=>
 let h:=(↑(List.length f.fields):Int)
 cond (decide (b<h)) (
 chk (ixl b f.fields) (
 let e:=(List.getD f.fields (Int.toNat b) (aG .afield))
 chk (ixl e.typ g) (
 let d:=List.getD g (Int.toNat e.typ) (aG (.num .i64))
 cond (decide (d<0)) (
 some (.int .i64 (-1),[])) (
 let i:=(if c<d then d else c)
 let j:=(IntKind.wrap .i64 (b+1))
 a (g,f,i,j))))) (
 let k:=(IntKind.wrap .i64 (c+1))
 some (.int .i64 k,[]))
theorem akD(N:Nat):LB (xz N) pW (rH N):=fun _ _=>by kernel_rfl
def pa(N:Nat)(a:List aA)(c:Int)(d:List Int)(e:rE→Ro)(f:rG→Ro):Ro:=
 chk (ixl c a) (
 let b:=(List.getD a (Int.toNat c) (aG .atype))
 cond (b.kind==14) (
 e (d,b,(-1),0)) (
 f (d,b,0,0)))
def aeg(N:Nat)(a:List aA)(b:Int)(c:List Int):Ro:=pa N a b c (fun z=>aS N (rF N) z) (fun z=>aS N (rH N) z)
theorem al1(N:Nat)(a:List aA)(c:Int)(d:List Int)(h:Tot (aeg N a c d) (fun z=>∃(f:Int)(rest:List aJ),z.1.dimR=.int .i64 f∧z.2=rest∧vR a c d (f))):∃r,qf a c d r:=anp.finP (N:=N) ((bu _ (by kernel_rfl) rfl (fun C=>pa N a c d (fun z=>C 1000000 (pV z)) (fun z=>C 1000001 (pW z))) (fun C=>by kernel_rfl)).trans (Eq.trans (b:=pa N a c d (fun z=>aW N (xy N) (pV z)) (fun z=>aW N (xz N) (pW z))) (by kernel_rfl) (congr (congrArg (pa N a c d) (funext fun z=>aV (pV) (xy N) (rF N) (akC N) N z)) (funext fun z=>aV (pW) (xz N) (rH N) (akD N) N z)))) h fun _ ⟨f,_,e,_,q⟩=>⟨(f),e,q⟩
noncomputable def cq:aL:=tab (P:=Try.prog) [] [] [123] [anZ]
def rI:IR:=Sq (Rs [Mv 12 4,Mv 13 3,Pp (.lnw 14 13),Bi 15 .lss 12 14] (Cn 15 .skip (.exit 0))) (Sq (.block 1 (Sq (.gh (.opn (.slot 3)) (.ghp (.cls (.slot 3)) (Rg [Mv 18 3,Mv 19 4,Pp (.ixw 20 (.num .i64) 18 19),Pp (.stw none 1 20 (kI (-1)))]))) (Rs [Fa 21 0 1,Lq 22 21,Mv 23 4,Ix 24 .atype 22 23,Fa 25 0 24,Lo 26 25,Bc 27 .neq 26 9,Mv 28 27,Gt 28 (.fad 29 0 1),Gt 28 (.lde 30 1 false 29),Gt 28 (.mov 31 4),Gt 28 (.ixa 32 .atype 30 31),Gt 28 (.fad 33 0 32),Gt 28 (.ld 34 1 false false 33),Gt 28 (.bin 35 .neq 34 (kI 14)),Pa 36 28 35] (Cn 36 (.gh (.opn (.slot 3)) (.ghp (.cls (.slot 3)) (Rg [Mv 37 3,Mv 38 4,Pp (.ixw 39 (.num .i64) 37 38),Pp (.stw none 1 39 (kI 0))]))) .skip)))) (Rg [Mv 16 4,Bc 17 .add 16 1,Mv 4 17]))
def abJ:IR:=Sq (Rs [Mv 49 7,Mv 50 3,Pp (.lnw 51 50),Bi 52 .lss 49 51] (Cn 52 .skip (.exit 4))) (Sq (.block 5 (Sq (Sq (.gh (.opn (.slot 3)) (.ghp (.cls (.slot 3)) (Rg [Mv 55 3,Mv 56 7,Pp (.ixw 57 (.num .i64) 55 56),Pp (.ldw 58 1 false 57),Bc 59 .geq 58 0]))) (Cn 59 (.exit 5) .skip)) (.gh (.opn (.slot 3)) (.gh (.opn (.slot 6)) (.ghp (.cls (.slot 3)) (.ghp (.cls (.slot 6)) (Rg [Mv 60 6,Mv 61 7,Ld 62 1 true 1,Mv 63 7,Mv 64 3,Ca 65 123 [62,63,64],Pp (.ixw 66 (.num .i64) 60 61),Pp (.stw none 1 66 65)]))))))) (Rg [Mv 53 7,Bc 54 .add 53 1,Mv 7 54]))
def abK:IR:=Rg [Pp (.mov 67 (.tk 6)),Pp (.mov 3 (.tk 67))]
def abL:IR:=Rg [Mv 44 5,Bc 45 .add 44 1,Mv 5 45]
def pX:IR:=Sq (Rs [Mv 40 5,Mv 41 3,Pp (.lnw 42 41),Bi 43 .leq 40 42] (Cn 43 .skip (.exit 2))) (Sq (.block 3 (Sq (.gh (.opn (.slot 3)) (.ghp (.cls (.slot 3)) (Rg [Pp (.blu 46 (.num .i64)),Mv 47 3,Pp (.apw 48 (.num .i64) (.tk 46) 47),Pp (.mov 6 (.tk 48))]))) (Sq (Rs [Mi 7 0] (.block 4 (.loop [1,3,5,6,7,1000001] 0 abJ))) abK))) abL)
def vW:IR:=Rs [Pp (.mov 68 (.tk 3)),Pp (.mov 2 (.tk 68))] (.gh (.fz (.slot 2)) .ret)
def vX:IR:=Sq (Rs [Mi 5 0] (.block 2 (.loop [1,3,5,1000002] 0 pX))) vW
def aoX:IR:=Rs [Bx 1 0,Pp (.mov 2 (.c (.ul (.num .i64) ([]:List Int))))] (Rs [Fa 8 0 1,Lq 9 8,Ll 10 9,Pp (.mku 11 (.num .i64) 10),Pp (.mov 3 (.tk 11))] (Sq (Rs [Mi 4 0] (.block 0 (.loop [1,3,4,1000000] 0 rI))) vX))
def qC:List RV:=[.t 2]
theorem aoY:FnC Try.prog cq [123,2000123] 0 ahi Try.f83 aoX qC:=fnC Try.func83
def y9(R:IR→(Ex→St→Ro)→St→Ro)(a:St→Ro):Ex→St→Ro:=(bk a [1,3,4,1000000] 0 (aP 0 (bj (R vX) (fin qC))))
abbrev iP:Type:=(List aA×List Int×Int)
def eN:iP→St:=fun(a,b,c)=>{env:=(.undef::.ea [.sl .atype (.may false) a]::.undef::.ul (.num .i64) b::.int .i64 c::(U 64 [])),hp:=[]}
def tE(R:IR→(Ex→St→Ro)→St→Ro)(a:St→Ro):Ex→St→Ro:=(bk a [1,3,5,1000002] 0 (aP 2 (bj (R vW) (fin qC))))
abbrev gl:Type:=(List aA×List Int×Int)
def cG:gl→St:=fun(a,b,c)=>{env:=(.undef::.ea [.sl .atype (.may false) a]::.undef::.ul (.num .i64) b::.undef::.int .i64 c::(U 63 [])),hp:=[]}
def anq(R:IR→(Ex→St→Ro)→St→Ro)(a b:St→Ro):Ex→St→Ro:=(bk b [1,3,5,6,7,1000001] 0 (aP 4 (bj (R abK) (aP 3 (bj (R abL) (tE R a))))))
abbrev tF:Type:=(List aA×List Int×Int×List Int×Int)
def nU:tF→St:=fun(a,b,c,d,e)=>{env:=(.undef::.ea [.sl .atype (.may false) a]::.undef::.ul (.num .i64) b::.undef::.int .i64 c::.ul (.num .i64) d::.int .i64 e::(U 61 [])),hp:=[]}
def tG(N:Nat)(a:St→Ro):(St→Ro)→St→Ro:=fun b s=>run cq N abJ (anq (run cq N) a b) s
def pc(N:Nat)(e:gl→Ro)(b:tF→Ro):tF→Ro:=fun(c,a,h,f,d)=>
 let i:=(↑(List.length a):Int)
 cond (decide (d<i)) (
 chk (decide (0<List.length a)) (
 chk (decide (0≤d)&&decide (d<↑(List.length a))) (
 chk (decide ((Int.toNat d)<List.length a)) (
 let j:=List.getD a (Int.toNat d) (aG (.num .i64))
 chk (Nat.beq (List.length a) (List.length a)) (
 cond (decide (0≤j)) (
 let k:=(IntKind.wrap .i64 (d+1))
 b (c,a,h,f,k)) (
 chk (decide (0<List.length a)) (
 chk (decide (0<List.length f)) (
 aq8 (qf c d a) (Nat.beq (List.length a) (List.length a)&&true) (fun(n:Int)=>
 chk (decide (0≤d)&&decide (d<↑(List.length f))) (
 chk (decide ((Int.toNat d)<List.length f)) (
 let g:=(List.set f (Int.toNat d) n)
 chk (Nat.beq (List.length f) (List.length g)) (
 chk (Nat.beq (List.length a) (List.length a)) (
 let l:=(IntKind.wrap .i64 (d+1))
 b (c,a,h,g,l)))))))))))))) (
 let m:=(IntKind.wrap .i64 (h+1))
 e (c,f,m))
theorem al3(N:Nat)(a:St→Ro):LB (tG N a) nU (pc N (fun y=>a (cG y))):=fun _ _=>by kernel_rfl
def pd(N:Nat):(St→Ro)→St→Ro:=fun a s=>run cq N pX (tE (run cq N) a) s
def rJ(N:Nat)(c:gl→Ro)(f:tF→Ro):gl→Ro:=fun(b,a,e)=>
 let d:=(↑(List.length a):Int)
 cond (decide (e≤d)) (
 chk (decide (0<List.length a)) (
 chk (Nat.beq (List.length a) (List.length a)&&decide ((List.length ([]:List Int)+List.length a)*8≤140737488355328)) (
 chk (Nat.beq (List.length a) (List.length a)) (
 f (b,a,e,(([]:List Int)++a),0))))) (
 some (.sl (.num .i64) .own a,[]))
def lR(N:Nat)(a:gl→Ro)(x:gl):Ro:=rJ N a (fun z=>aS N (pc N a) z) x
def za(N:Nat)(a:St→Ro):List (Nat×(St→Ro)):=(bQ cq N pX (tE (run cq N) a)++(bQ cq N vW (fin qC)++[]))
theorem al4(N:Nat):∀(a:St→Ro)(x:gl),pd N a (cG x)=lR N (fun y=>a (cG y)) x:=by
 intro a x
 have hX:∀C:Nat→St→Ro,bT C cq N pX (tE (bT C cq N) a) (cG x)=rJ N (fun y=>a (cG y)) (fun z=>C 1000001 (nU z)) x:=by
  intro C
  kernel_rfl
 have h:pd N a (cG x)=rJ N (fun y=>a (cG y)) (fun z=>aW N (tG N a) (nU z)) x:=(cW (C:=fb (za N a)) (bS (ba (l:=(za N a)) (by kernel_rfl))) (iD (cD (fI (bS (dR (ba (l:=(za N a)) (by kernel_rfl)))) rfl))) _).trans ((hX _).trans (by kernel_rfl))
 have e2:(fun z=>aW N (tG N a) (nU z))=(fun z=>aS N (pc N (fun y=>a (cG y))) z):=funext fun z=>aV (nU) (tG N a) (pc N (fun y=>a (cG y))) (al3 N a) N z
 rw[h,e2]
 rfl
def tH(N:Nat):(St→Ro)→St→Ro:=fun a s=>run cq N rI (y9 (run cq N) a) s
def rK(N:Nat)(b:iP→Ro)(h:gl→Ro):iP→Ro:=fun(a,e,c)=>
 let i:=(↑(List.length e):Int)
 cond (decide (c<i)) (
 chk (decide (0<List.length e)) (
 chk (decide (0≤c)&&decide (c<↑(List.length e))) (
 chk (decide ((Int.toNat c)<List.length e)) (
 let d:=(List.set e (Int.toNat c) (-1))
 chk (Nat.beq (List.length e) (List.length d)) (
 chk (ixl c a) (
 let j:=(List.getD a (Int.toNat c) (aG .atype))
 cond (!(j.kind==9)) (
 chk (ixl c a) (
 let k:=(List.getD a (Int.toNat c) (aG .atype))
 cond (!(k.kind==14)) (
 chk (decide (0<List.length d)) (
 chk (decide (0≤c)&&decide (c<↑(List.length d))) (
 chk (decide ((Int.toNat c)<List.length d)) (
 let g:=(List.set d (Int.toNat c) 0)
 chk (Nat.beq (List.length d) (List.length g)) (
 let l:=(IntKind.wrap .i64 (c+1))
 b (a,g,l)))))) (
 let m:=(IntKind.wrap .i64 (c+1))
 b (a,d,m)))) (
 let f:=(IntKind.wrap .i64 (c+1))
 b (a,d,f)))))))) (
 h (a,e,0))
def tI(N:Nat)(a:iP→Ro)(x:iP):Ro:=rK N a (fun z=>aS N (lR N) z) x
def zb(N:Nat)(a:St→Ro):List (Nat×(St→Ro)):=(bQ cq N rI (y9 (run cq N) a)++(bQ cq N vX (fin qC)++[]))
theorem al5(N:Nat):∀(a:St→Ro)(x:iP),tH N a (eN x)=tI N (fun y=>a (eN y)) x:=by
 intro a x
 have hX:∀C:Nat→St→Ro,bT C cq N rI (y9 (bT C cq N) a) (eN x)=rK N (fun y=>a (eN y)) (fun z=>C 1000002 (cG z)) x:=by
  intro C
  kernel_rfl
 have h:tH N a (eN x)=rK N (fun y=>a (eN y)) (fun z=>aW N (pd N) (cG z)) x:=(cW (C:=fb (zb N a)) (bS (ba (l:=(zb N a)) (by kernel_rfl))) (iD (cD (fI (bS (dR (ba (l:=(zb N a)) (by kernel_rfl)))) rfl))) _).trans ((hX _).trans (by kernel_rfl))
 have e1:(fun z=>aW N (pd N) (cG z))=(fun z=>aS N (lR N) z):=funext fun z=>aV (cG) (pd N) (lR N) (al4 N) N z
 rw[h,e1]
 rfl
def qD(N:Nat)(a:List aA)(c:iP→Ro):Ro:=
 let b:=(↑(List.length a):Int)
 chk (decide (0≤b)&&decide (b*8≤140737488355328)) (
 let d:=(List.replicate (Int.toNat b) (aG (.num .i64)))
 c (a,d,0))
def afw(N:Nat)(a:List aA):Ro:=qD N a (fun z=>aS N (tI N) z)
theorem anr(N:Nat)(a:List aA)(h:Tot (afw N a) (fun z=>∃(c:List Int)(rest:List aJ),z.1.dimR=.sl (.num .i64) (.may false) c∧z.2=rest∧xk a (c))):∃r,oD a r:=aoY.finP (N:=N) ((bu _ (by kernel_rfl) rfl (fun C=>qD N a (fun z=>C 1000000 (eN z))) (fun C=>by kernel_rfl)).trans (Eq.trans (b:=qD N a (fun z=>aW N (tH N) (eN z))) (by kernel_rfl) (congrArg (qD N a) (funext fun z=>aV (eN) (tH N) (tI N) (al5 N) N z)))) h fun _ ⟨c,_,e,_,q⟩=>⟨(c),e,q⟩
end Go.Proofs.Ytdpajabhmmmjoaa
end
noncomputable section
namespace Go.Proofs.Ytdpajabhmmmjoaa
open Go.AM
set_option autoImplicit false
set_option linter.unusedVariables false
set_option linter.unusedSimpArgs false
set_option maxRecDepth 100000
theorem dS.at{ts:List aA}(hs:dS ts){i:Nat}(h:i<ts.length):oJ ts.length (ts.getD i (aG .atype)):=hs.2 _ (jr _ _ _ h)
theorem auN(ts:List aA)(hs:dS ts)(t:Int)(ht:0≤t∧t<ts.length)(r:List Int)(hr:r.length=ts.length)(hb:∀i,i<r.length→-1≤r.getD i 0∧r.getD i 0≤100):∃m,qf ts t r m:=by
 apply al1 1000
 unfold aeg pa
 dsimp only
 have hk:=hs.at (i:=t.toNat) (by omega)
 have hpost:∀m,vR ts t r m=((m=-1∧acu (ts.getD t.toNat (aG .atype)) r)∨uz (ts.getD t.toNat (aG .atype)) r m):=fun _=>rfl
 simp only[hpost]
 generalize ts.getD t.toNat (aG .atype)=k at hk
 have hn:=hs.1
 refine vck ?_
 refine aC (fun h14=>?_) (fun h14=>?_)
 ·simp only[bnl] at h14
  refine aT (fun x=>match x with
   |(r',k',best,i)=>r'=r∧k'=k∧0≤i∧i≤(k.branches.length:Int)∧ -1≤best∧best≤100∧(0≤best→∃b∈k.branches,rk r b=best)∧(best<0→∀b∈k.branches.take i.toNat,rk r b<0))
   (fun x=>((k.branches.length:Int)-x.2.2.2).toNat) ?_ _ _ ⟨rfl,rfl,by simp,by simp,by simp,by simp,by simp,by simp⟩ (by have:=hk.nb;simp;omega)
  rintro again ⟨r',k',best,i⟩ ⟨rfl,rfl,i1,i2,i3,i4,i5,i6⟩ ih
  dsimp only at ih
  unfold rF
  dsimp only
  have hnb:=hk.nb
  refine aC (fun h=>?_) (fun h=>?_)
  ·have h:=of_decide_eq_true h
   have hi:i.toNat<k'.branches.length:=by omega
   have hbr:=hk.branches _ (jr k'.branches i.toNat 0 hi)
   have ew:IntKind.i64.wrap (i+1)=i+1:=aI (i+1) (by omega)
   refine vck ?_
   change Tot (chk (decide (0≤k'.branches.getD i.toNat 0)&&decide (k'.branches.getD i.toNat 0<(r'.length:Int))) _) _
   have hm:=jr k'.branches i.toNat 0 hi
   have hq:=hb (k'.branches.getD i.toNat 0).toNat (by omega)
   refine vck ?_
   have htk:=aaT k'.branches i.toNat 0 hi
   have ei:(i+1).toNat=i.toNat+1:=by omega
   have nx:∀b:Int,((b=best∧(best<0→rk r' (k'.branches.getD i.toNat 0)<0))∨(0≤rk r' (k'.branches.getD i.toNat 0)∧b=rk r' (k'.branches.getD i.toNat 0)))→Tot (again (r',k',b,IntKind.i64.wrap (i+1))) _:=fun b hb'=>ih (r',k',b,IntKind.i64.wrap (i+1)) (by
    simp only[ew]
    rcases hb' with⟨rfl,hneg⟩|⟨h0,rfl⟩
    ·refine⟨trivial,trivial,by omega,by omega,i3,i4,i5,fun hb0 c hc=>?_⟩
     rw[ei,htk] at hc
     rcases List.mem_append.1 hc with hc|hc
     ·exact i6 hb0 c hc
     ·rw[List.mem_singleton.1 hc];exact hneg hb0
    ·exact⟨trivial,trivial,by omega,by omega,hq.1,hq.2,fun _=>⟨_,hm,rfl⟩,fun hb0=>by omega⟩) (by simp only[ew];omega)
   refine aC (fun h0=>?_) (fun h0=>nx _ (.inl ⟨rfl,fun _=>by have h0:¬0≤rk r' (k'.branches.getD i.toNat 0):=of_decide_eq_false h0;omega⟩))
   have h0:=of_decide_eq_true h0
   refine aC (fun _=>nx _ (.inr ⟨h0,rfl⟩)) (fun hb0=>aC (fun _=>nx _ (.inr ⟨h0,rfl⟩)) (fun _=>nx _ (.inl ⟨rfl,fun hb1=>absurd hb1 (of_decide_eq_false hb0)⟩)))
  ·have h:=of_decide_eq_false h
   rw[List.take_of_length_le (by omega)] at i6
   refine aC (fun h1=>aE ⟨_,_,rfl,rfl,.inl ⟨rfl,fun _=>i6 (of_decide_eq_true h1),fun hne=>absurd h14 hne⟩⟩) (fun h1=>?_)
   have h1:=of_decide_eq_false h1
   obtain⟨b,hbm,hbe⟩:=i5 (by omega)
   have hbr:=hk.branches b hbm
   refine aE ⟨_,_,rfl,rfl,.inr ?_⟩
   rw[aI _ (by omega)]
   refine⟨by omega,fun _=>⟨b,hbm,by omega,by omega⟩,fun hne=>absurd h14 hne,fun _=>⟨b.toNat,by omega,?_⟩⟩
   have:r'.getD b.toNat 0=best:=hbe
   omega
 ·simp only[bnl] at h14
  refine aT (fun x=>match x with
   |(r',k',most,i)=>r'=r∧k'=k∧0≤i∧i≤(k.fields.length:Int)∧0≤most∧most≤100∧(∀f∈k.fields.take i.toNat,0≤rk r f.typ∧rk r f.typ≤most)∧(1≤most→∃j,j<r.length∧r.getD j 0=most))
   (fun x=>((k.fields.length:Int)-x.2.2.2).toNat) ?_ _ _ ⟨rfl,rfl,by simp,by simp,by simp,by simp,by simp,by simp⟩ (by have:=hk.nf;simp;omega)
  rintro again ⟨r',k',most,i⟩ ⟨rfl,rfl,i1,i2,i3,i4,i5,i6⟩ ih
  dsimp only at ih
  unfold rH
  dsimp only
  have hnf:=hk.nf
  refine aC (fun h=>?_) (fun h=>?_)
  ·have h:=of_decide_eq_true h
   have hi:i.toNat<k'.fields.length:=by omega
   have hm:=jr k'.fields i.toNat (aG .afield) hi
   have hf:=hk.fields _ hm
   have ew:IntKind.i64.wrap (i+1)=i+1:=aI (i+1) (by omega)
   have ht:=aaT k'.fields i.toNat (aG .afield) hi
   generalize k'.fields.getD i.toNat (aG .afield)=f at*
   refine vck (vck ?_)
   have hq:=hb f.typ.toNat (by omega)
   refine aC (fun h0=>aE ⟨_,_,rfl,rfl,.inl ⟨rfl,fun h'=>absurd h' h14,fun _=>⟨f,hm,of_decide_eq_true h0⟩⟩⟩) (fun h0=>?_)
   have h0:¬r'.getD f.typ.toNat 0<0:=of_decide_eq_false h0
   refine ih (r',k',_,_) ?_ (by simp only[ew];omega)
   simp only[ew]
   have ei:(i+1).toNat=i.toNat+1:=by omega
   have em:(if most<r'.getD f.typ.toNat (aG (.num .i64)) then r'.getD f.typ.toNat (aG (.num .i64)) else most)=(if most<r'.getD f.typ.toNat 0 then r'.getD f.typ.toNat 0 else most):=rfl
   rw[em,ei,ht]
   refine⟨trivial,trivial,by omega,by omega,by split<;>omega,by split<;>omega,fun g hg=>?_,fun h1=>?_⟩
   ·rcases List.mem_append.1 hg with hg|hg
    ·have:=i5 g hg;split<;>omega
    ·rw[List.mem_singleton] at hg
     subst hg
     have:rk r' g.typ=r'.getD g.typ.toNat 0:=rfl
     rw[this];split<;>omega
   ·split
    ·exact⟨f.typ.toNat,by omega,rfl⟩
    ·rename_i hh;rw[if_neg hh] at h1;exact i6 h1
  ·have h:=of_decide_eq_false h
   refine aE ⟨_,_,rfl,rfl,.inr ?_⟩
   rw[aI _ (by omega)]
   rw[List.take_of_length_le (by omega)] at i5
   refine⟨by omega,fun h'=>absurd h' h14,fun _ f hf=>by have:=i5 f hf;omega,fun h2=>?_⟩
   obtain⟨j,hj,e⟩:=i6 (by omega)
   exact⟨j,hj,by omega⟩
theorem ajU(ts:List aA)(hs:dS ts):∃r,oD ts r:=by
 apply anr 1000
 unfold afw qD
 dsimp only
 obtain⟨⟨hn0,hn⟩,hall⟩:=hs
 have hs:dS ts:=⟨⟨hn0,hn⟩,hall⟩
 refine vck ?_
 have rounds:∀r,lO ts r 0→Tot (aS 1000 (lR 1000) (ts,r,0)) (fun z=>∃(y0:List Int)(rest:List aJ),z.1.dimR=.sl (.num .i64) (.may false) y0∧z.2=rest∧xk ts y0):=by
  intro r hr
  refine aT (fun x=>match x with|(ts',r,n)=>ts'=ts∧0≤n∧n≤(ts.length:Int)+1∧lO ts r n∧(agx ts r∨n+uN r≤ts.length))
   (fun x=>((ts.length:Int)+1-x.2.2).toNat) ?_ _ _ ⟨rfl,by simp,by omega,hr,.inr (by have:=alR r;have:=hr.len;omega)⟩ (by simp only;omega)
  rintro again ⟨ts',r,n⟩ ⟨rfl,i1,i2,i3,i4⟩ ih
  dsimp only at ih
  unfold lR rJ
  dsimp only
  have hrl:=i3.len
  refine aC (fun h=>?_) (fun h=>aE ⟨_,_,rfl,rfl,i3.fin,by
   rcases i4 with e|e
   ·exact e
   ·have h:=of_decide_eq_false h
    exfalso;omega⟩)
  have h:=of_decide_eq_true h
  have ew:IntKind.i64.wrap (n+1)=n+1:=aI (n+1) (by omega)
  refine vck (vck (vck ?_))
  refine aT (fun x=>match x with|(ts2,r2,n2,next,i)=>ts2=ts'∧r2=r∧n2=n∧0≤i∧i≤(ts'.length:Int)∧next.length=ts'.length∧(∀j,j<ts'.length→(0≤r.getD j 0∨i≤(j:Int))→next.getD j 0=r.getD j 0)∧
    (∀j,j<ts'.length→(j:Int)<i→r.getD j 0<0→(next.getD j 0=-1∧acu (ts'.getD j (aG .atype)) r)∨uz (ts'.getD j (aG .atype)) r (next.getD j 0)))
   (fun x=>((ts'.length:Int)-x.2.2.2.2).toNat) ?_ _ _ ⟨rfl,rfl,rfl,by simp,by simp,by simpa using hrl,fun j _ _=>rfl,fun j _ hj=>by omega⟩ (by simp;omega)
  rintro again2 ⟨ts2,r2,n2,next,i⟩ ⟨rfl,rfl,rfl,j1,j2,j3,j4,j5⟩ ih2
  dsimp only at ih2
  unfold pc
  dsimp only
  refine aC (fun h'=>?_) (fun h'=>?_)
  ·have h':=of_decide_eq_true h'
   have ei:IntKind.i64.wrap (i+1)=i+1:=aI (i+1) (by omega)
   have hil:i.toNat<ts2.length:=by omega
   refine vck (vck (vck (vck ?_)))
   refine aC (fun h0=>?_) (fun h0=>?_)
   ·have h0:0≤r2.getD i.toNat 0:=of_decide_eq_true h0
    refine ih2 (ts2,r2,n2,next,_) ?_ (by simp only[ei];omega)
    simp only[ei]
    refine⟨trivial,trivial,trivial,by omega,by omega,j3,fun j hj hc=>j4 j hj (by omega),fun j hj hji hneg=>?_⟩
    by_cases hh:(j:Int)<i
    ·exact j5 j hj hh hneg
    ·have:j=i.toNat:=by omega
     rw[this] at hneg;omega
   ·have h0:¬0≤r2.getD i.toNat 0:=of_decide_eq_false h0
    refine vck (vck ?_)
    refine atX (by simp) (auN ts2 hs i (by omega) r2 hrl fun q hq=>⟨i3.low q hq,by have:=i3.top q hq;omega⟩) ?_
    rintro(q:Int) ⟨-,hq⟩
    refine vck (vck (vck (vck ?_)))
    refine ih2 (ts2,r2,n2,_,_) ?_ (by simp only[ei];omega)
    simp only[ei]
    refine⟨trivial,trivial,trivial,by omega,by omega,by simpa using j3,fun j hj hc=>?_,fun j hj hji hneg=>?_⟩
    ·have hne:i.toNat≠j:=fun e=>by rw[e] at h0;omega
     rw[gr _ _ _ _ _ hne]
     exact j4 j hj (by omega)
    ·by_cases hh:(j:Int)<i
     ·rw[gr _ _ _ _ _ (by omega)]
      exact j5 j hj hh hneg
     ·have e:j=i.toNat:=by omega
      rw[e,qw _ _ _ _ (by omega)]
      exact hq
  ·have h':=of_decide_eq_false h'
   refine ih (ts2,next,_) ?_ (by simp only[ew];omega)
   simp only[ew]
   exact⟨trivial,by omega,by omega,i3.step i1 j3 (fun j hj h0=>j4 j hj (.inl h0)) (fun j hj h0=>(j5 j hj (by omega) h0).imp (·.1) id),agx.step (fun i hi=>⟨(hs.at hi).branches,fun f hf=>⟨((hs.at hi).fields f hf).1,((hs.at hi).fields f hf).2.1⟩⟩) hrl j3 (fun j hj h0=>j4 j hj (.inl h0)) (fun j hj h0=>j5 j hj (by omega) h0) i4⟩
 refine aT (fun x=>match x with|(ts',r,i)=>ts'=ts∧0≤i∧i≤(ts.length:Int)∧r.length=ts.length∧∀j,j<ts.length→(j:Int)<i→r.getD j 0=-1∨(r.getD j 0=0∧(ts.getD j (aG .atype)).kind≠9∧(ts.getD j (aG .atype)).kind≠14))
  (fun x=>((ts.length:Int)-x.2.2).toNat) ?_ _ _ ⟨rfl,by simp,by simp,by simp,fun j _ hj=>by omega⟩ (by simp;omega)
 rintro again ⟨ts',r,i⟩ ⟨rfl,i1,i2,i3,i4⟩ ih
 dsimp only at ih
 unfold tI rK
 dsimp only
 refine aC (fun h=>?_) (fun h=>?_)
 ·have h:=of_decide_eq_true h
  have ei:IntKind.i64.wrap (i+1)=i+1:=aI (i+1) (by omega)
  have hil:i.toNat<ts'.length:=by omega
  have put:∀l:List Int,l.length=ts'.length→(∀j,j<ts'.length→i.toNat≠j→l.getD j 0=r.getD j 0)→(l.getD i.toNat 0=-1∨(l.getD i.toNat 0=0∧(ts'.getD i.toNat (aG .atype)).kind≠9∧(ts'.getD i.toNat (aG .atype)).kind≠14))→Tot (again (ts',l,IntKind.i64.wrap (i+1))) _:=fun l h1 h2 h3=>ih (ts',l,IntKind.i64.wrap (i+1)) (by
   simp only[ei]
   refine⟨trivial,by omega,by omega,h1,fun j hj hji=>?_⟩
   by_cases hh:i.toNat=j
   ·rw[←hh];exact h3
   ·rw[h2 j hj hh];exact i4 j hj (by omega)) (by simp only[ei];omega)
  refine vck (vck (vck (vck (vck ?_))))
  refine aC (fun h9=>?_) (fun h9=>?_)
  ·refine vck (aC (fun h14=>?_) (fun h14=>?_))
   ·simp only[bnl] at h9 h14
    refine vck (vck (vck (vck ?_)))
    refine put _ (by simpa using i3) (fun j hj hne=>by rw[gr _ _ _ _ _ hne,gr _ _ _ _ _ hne]) (.inr ⟨qw _ _ _ _ (by simp;omega),h9,h14⟩)
   ·exact put _ (by simpa using i3) (fun j hj hne=>by rw[gr _ _ _ _ _ hne]) (.inl (qw _ _ _ _ (by omega)))
  ·exact put _ (by simpa using i3) (fun j hj hne=>by rw[gr _ _ _ _ _ hne]) (.inl (qw _ _ _ _ (by omega)))
 ·have h:=of_decide_eq_false h
  refine rounds r ⟨i3,fun j hj=>?_,fun j hj=>?_,fun j hj h1=>?_,fun j hj h0=>?_⟩
  all_goals have:=i4 j (by omega) (by omega)
  ·omega
  ·omega
  ·omega
  ·rcases this with e|⟨-,e⟩
   ·omega
   ·exact e
end Go.Proofs.Ytdpajabhmmmjoaa
end
noncomputable section
namespace Go.Proofs.Ytdpajabhmmmjoaa
open Go.AM
set_option autoImplicit false
set_option linter.unusedSimpArgs false
set_option linter.unusedVariables false
set_option maxRecDepth 100000
theorem agM{α:Type}(p:α→Bool)(d:α)(l:List α)(i:Int)(h0:0≤i)(h:i<l.length):(l.drop i.toNat).all p=(p (l.getD i.toNat d)&&(l.drop (i+1).toNat).all p):=by
 rw[List.drop_eq_getElem_cons (by omega),List.all_cons,show (i+1).toNat=i.toNat+1 by omega]
 simp[List.getD,show i.toNat<l.length by omega]
theorem ajV(l:List aM):∀ns,kH l ns=-1∨(0≤kH l ns∧kH l ns<l.length)
 | []=>.inl rfl
 |s::r=>by
  rw[kH]
  split
  ·rename_i h
   rcases ab2 (fun f:aM=>decide (f.name=s)) l 0 with e|e
   ·rw[aen,e] at h;simp at h
   ·right;rw[aen];omega
  ·exact ajV l r
theorem yU.of{r:List aA}(h:dS r):yU r:=fun x hx=>by have:=(h.2 x hx).na;omega
section
variable(m:abW)(w r:List aA)(has:List Bool)
theorem auO(t q:Int):∃x,fN m w r has t q x:=by
 apply abg 1
 unfold nc tn
 exact aE ⟨_,rfl,rfl,rfl⟩
theorem asE(l:List Int)(q:Int)(hl:l.length≤1000):∃x,bD m w r has l q x:=by
 apply mL (l.length+1)
 unfold dj bC
 dsimp only
 refine aT (fun x=>match x with|(l',q',n,i,m',w',r',h')=>l'=l∧q'=q∧n=(l.length:Int)∧m'=m∧w'=w∧r'=r∧h'=has∧Fst (fun t=>noS m (t,q)) l i) (fun x=>(l.length-x.2.2.2.1:Int).toNat) ?_ _ _ ⟨rfl,rfl,rfl,rfl,rfl,rfl,rfl,.zero _ _⟩ (by simp only;omega)
 rintro again ⟨l',q',n,i,m',w',r',h'⟩ ⟨rfl,rfl,rfl,rfl,rfl,rfl,rfl,i2⟩ ih
 dsimp only at i2 ih
 have h0:=i2.nn
 unfold ca
 dsimp only
 refine aC (fun h=>?_) (fun h=>aE ⟨_,rfl,rfl,(i2.none (of_decide_eq_false h)).symm⟩)
 have h:=of_decide_eq_true h
 rw[aI (i+1) (by omega)]
 refine aH (ixt (by omega)) (aD (auO _ _ _ _ _ _) ?_)
 rintro(x:Bool) ⟨-,hx⟩
 have hx:x=noS m' (l'.getD i.toNat (aG (.num .i64)),q'):=hx
 exact aC (fun hb=>aE ⟨_,rfl,rfl,(i2.hit _ h (hx.symm.trans hb)).symm⟩) (fun hb=>ih _ ⟨rfl,rfl,rfl,rfl,rfl,rfl,rfl,i2.next _ h (hx.symm.trans hb)⟩ (by simp only;omega))
theorem aqQ(l:List Int)(q:Int)(hl:l.length≤1000):∃x,bw m w r has l q x:=by
 apply lF 1
 unfold cS eS
 refine aD (asE m w r has l q hl) ?_
 rintro(x:Int) ⟨-,hx⟩
 have hx:x=dC _ l 0:=hx
 exact aE ⟨_,rfl,rfl,by rw[hx];exact vt _ _ _⟩
theorem atD(a b:aA)(h1:a.fields.length≤8)(h2:b.fields.length≤8)(h3:∀f∈b.fields,f.aliases.length≤100):∃x,gw m w r has a b x:=by
 apply ac4 20
 unfold ot f5
 dsimp only
 refine aT (fun x=>match x with|(a',fs,n,i,m',w',r',h')=>a'=a∧fs=b.fields∧n=(b.fields.length:Int)∧m'=m∧w'=w∧r'=r∧h'=has∧0≤i∧i≤(b.fields.length:Int)∧b.fields.all (mA (noS m) a)=(b.fields.drop i.toNat).all (mA (noS m) a)) (fun x=>(b.fields.length-x.2.2.2.1:Int).toNat) ?_ _ _ ⟨rfl,rfl,rfl,rfl,rfl,rfl,rfl,by omega,by omega,rfl⟩ (by simp only;omega)
 rintro again ⟨a',fs,n,i,m',w',r',h'⟩ ⟨rfl,rfl,rfl,rfl,rfl,rfl,rfl,i1,i2,i3⟩ ih
 dsimp only at i3 ih
 unfold iO
 dsimp only
 refine aC (fun h=>?_) (fun h=>aE ⟨_,rfl,rfl,?_⟩)
 ·have h:=of_decide_eq_true h
  rw[agM _ (aG .afield) _ _ i1 h] at i3
  have hf:=h3 _ (jr b.fields i.toNat (aG .afield) (by omega))
  rw[aI (i+1) (by omega),arR]
  refine aH (ixt (by omega)) ?_
  have hN:mA (noS m') a' (b.fields.getD i.toNat (aG .afield))=mA (noS m') a' (b.fields.getD i.toNat (aG .afield)):=rfl
  generalize b.fields.getD i.toNat (aG .afield)=f at i3 hf ⊢
  refine aD (avD a' f (by omega) (by omega)) ?_
  rintro(x:Int) ⟨-,hx⟩
  have hx:x=kH a'.fields (f.name::f.aliases):=hx
  have hr:=ajV a'.fields (f.name::f.aliases)
  rw[←hx] at hr
  have hF:mA (noS m') a' f= !((decide (x<0)&& !f.hasdef)||(decide (0≤x)&&noS m' ((a'.fields.getD x.toNat (aG .afield)).typ,f.typ))):=by rw[hx];rfl
  have next:mA (noS m') a' f=true→Tot (again (a',b.fields,(b.fields.length:Int),i+1,m',w',r',h')) _:=fun e=>ih _ ⟨rfl,rfl,rfl,rfl,rfl,rfl,rfl,by simp only;omega,by simp only;omega,by rw[i3,e];rfl⟩ (by simp only;omega)
  have stop:mA (noS m') a' f=false→mU m' w' r' h' a' b false:=fun e=>by
   show false=_
   rw[i3,e];rfl
  refine aC (fun hx0=>aC (fun hd=>aE ⟨_,rfl,rfl,stop ?_⟩) (fun hd=>aC (fun hx1=>?_) (fun hx1=>next ?_))) (fun hx0=>aC (fun hx1=>aH (ixt (by have:=of_decide_eq_true hx1;omega)) (aC (fun hq=>aE ⟨_,rfl,rfl,stop ?_⟩) (fun hq=>next ?_))) (fun hx1=>?_))
  ·rw[hF,hx0,hd];rfl
  ·have:=of_decide_eq_true hx0;have:=of_decide_eq_true hx1;omega
  ·rw[hF,hx0,hd,hx1];rfl
  ·rw[hF,hx0,hx1,show noS m' ((a'.fields.getD x.toNat (aG .afield)).typ,f.typ)=true from hq];rfl
  ·rw[hF,hx0,hx1,show noS m' ((a'.fields.getD x.toNat (aG .afield)).typ,f.typ)=false from hq];rfl
  ·have:=of_decide_eq_false hx0;have:=of_decide_eq_false hx1;omega
 ·have h:=of_decide_eq_false h
  show true=_
  rw[i3,List.drop_eq_nil_of_le (by omega)];rfl
theorem avF(hw:dS w)(hr:dS r)(t q:Int)(ht:0≤t∧t<w.length)(hq:0≤q∧q<r.length)(hh:has.length=w.length):∃x,ic m w r has t q x:=by
 apply adn 1
 unfold pr ww
 dsimp only
 have ka:=hw.at (i:=t.toNat) (by omega)
 have kb:=hr.at (i:=q.toNat) (by omega)
 have hbr:(r.getD q.toNat (aG .atype)).branches.length≤1000:=by have:=kb.nb;omega
 have hS:yA has (noS m) w r t q=(!(has.getD t.toNat (aG .bool))||dG (noS m) w r t q (w.getD t.toNat (aG .atype)) (r.getD q.toNat (aG .atype))):=rfl
 have hB:xO w r t q=dC (fun b=>dD w r t b) (r.getD q.toNat (aG .atype)).branches 0:=rfl
 have hBr:=ab2 (fun b=>dD w r t b) (r.getD q.toNat (aG .atype)).branches 0
 rw[←hB] at hBr
 have hnb:=ka.nb
 have hns:=ka.ns
 have hna:=ka.nf
 have hns2:=kb.ns
 have hnf2:=kb.nf
 have hfal:=kb.fal
 refine aH (ixt (by omega)) (aH (ixt (by omega)) (aH (ixt (by omega)) ?_))
 have bcall:=fun(Q:Go.AM.V×List aJ→Prop)(K:Int→Ro)(h:∀x,x=xO w r t q→Tot (K x) Q)=>aD (K:=K) (Q:=Q) (atB w r t q (yU.of hr) hq hbr) (fun x hx=>h x hx.2)
 generalize has.getD t.toNat (aG .bool)=hb at hS ⊢
 generalize w.getD t.toNat (aG .atype)=a at hS hnb hns hna ⊢
 generalize r.getD q.toNat (aG .atype)=b at hS hBr hns2 hnf2 hfal ⊢
 have fin:∀x:Bool,x=(!hb||dG (noS m) w r t q a b)→iK m w r has t q x:=fun x h=>h.trans hS.symm
 refine aC (fun h=>aE ⟨_,rfl,rfl,fin _ (by rw[h];rfl)⟩) (fun h=>?_)
 have fin:∀x:Bool,x=dG (noS m) w r t q a b→iK m w r has t q x:=fun x hx=>fin x (by rw[h];exact hx)
 refine aC (fun h14=>?_) (fun h14=>?_)
 ·have h14:a.kind=14:=by simpa using h14
  refine aD (aqQ _ _ _ _ _ _ (by omega)) ?_
  rintro(x:Bool) ⟨-,hx⟩
  have hx:x=a.branches.any fun t=>noS m (t,q):=hx
  refine aE ⟨_,rfl,rfl,fin _ ?_⟩
  rw[dG,if_pos h14,hx,List.not_any_eq_all_not]
 have h14:a.kind≠14:=by simpa using h14
 refine aC (fun h15=>bcall _ _ fun x hx=>?_) (fun h15=>?_)
 ·have h15:b.kind=14:=by simpa using h15
  refine aC (fun h0=>aH (ixt (by have:=of_decide_eq_true h0;omega)) (aE ⟨_,rfl,rfl,fin _ ?_⟩)) (fun h0=>aE ⟨_,rfl,rfl,fin _ ?_⟩)
  ·rw[dG,if_neg h14,if_pos h15,←hx,h0];rfl
  ·rw[dG,if_neg h14,if_pos h15,←hx,h0];rfl
 have h15:b.kind≠14:=by simpa using h15
 refine aD (yT w r t q (yU.of hr)) ?_
 rintro(x:Bool) ⟨-,hx⟩
 have hx:x=dD w r t q:=hx
 refine aC (fun h0=>aE ⟨_,rfl,rfl,fin _ ?_⟩) (fun h0=>?_)
 ·have h0:x=false:=by simpa using h0
  rw[dG,if_neg h14,if_neg h15,←hx,h0];rfl
 have h0:x=true:=by simpa using h0
 have hm:¬dD w r t q=false:=by rw[←hx,h0];decide
 refine aC (fun h12=>aE ⟨_,rfl,rfl,fin _ ?_⟩) (fun h12=>aC (fun h13=>aE ⟨_,rfl,rfl,fin _ ?_⟩) (fun h13=>aC (fun h10=>aC (fun hd=>aE ⟨_,rfl,rfl,fin _ ?_⟩) (fun hd=>?_)) (fun h10=>aC (fun h9=>?_) (fun h9=>aE ⟨_,rfl,rfl,fin _ ?_⟩))))
 all_goals simp only[beq_iff_eq,beq_eq_false_iff_ne,ne_eq] at*
 ·rw[dG,if_neg h14,if_neg h15,if_neg hm,if_pos (.inl h12)];rfl
 ·rw[dG,if_neg h14,if_neg h15,if_neg hm,if_pos (.inr h13)];rfl
 ·rw[dG,if_neg h14,if_neg h15,if_neg hm,if_neg (by omega),if_pos h10,hd];rfl
 ·refine aD (aqO _ _ _ _ _ _ _ _ _ _ _ (by omega) (by omega)) ?_
  rintro(y:Bool) ⟨-,hy⟩
  have hy:y=a.syms.any fun s=> !decide (s∈b.syms):=hy
  refine aE ⟨_,rfl,rfl,fin _ ?_⟩
  rw[dG,if_neg h14,if_neg h15,if_neg hm,if_neg (by omega),if_pos h10,hd,hy,List.not_any_eq_all_not]
  simp
 ·refine aD (atD _ _ _ _ a b hna hnf2 hfal) ?_
  rintro(y:Bool) ⟨-,hy⟩
  have hy:y=b.fields.all (mA (noS m) a):=hy
  refine aE ⟨_,rfl,rfl,fin _ ?_⟩
  rw[dG,if_neg h14,if_neg h15,if_neg hm,if_neg (by omega),if_neg h10,if_pos h9,hy]
 ·rw[dG,if_neg h14,if_neg h15,if_neg hm,if_neg (by omega),if_neg h10,if_neg h9]
theorem auP(hw:dS w)(hr:dS r)(t q:Int)(ht:0≤t∧t<w.length)(hq:0≤q∧q<r.length)(hh:has.length=w.length):∃x,sq m w r t q has x:=by
 apply anl 200
 unfold aah qz
 dsimp only
 have ka:=hw.at (i:=t.toNat) (by omega)
 have kb:=hr.at (i:=q.toNat) (by omega)
 have hbr:(r.getD q.toNat (aG .atype)).branches.length≤1000:=by have:=kb.nb;omega
 have hS:yA has (noS m) w r t q=(!(has.getD t.toNat (aG .bool))||dG (noS m) w r t q (w.getD t.toNat (aG .atype)) (r.getD q.toNat (aG .atype))):=rfl
 have hB:xO w r t q=dC (fun b=>dD w r t b) (r.getD q.toNat (aG .atype)).branches 0:=rfl
 have hBr:=ab2 (fun b=>dD w r t b) (r.getD q.toNat (aG .atype)).branches 0
 rw[←hB] at hBr
 have hnb:=ka.nb
 have hns:=ka.ns
 have hna:=ka.nf
 have hns2:=kb.ns
 have hnf2:=kb.nf
 have hfal:=kb.fal
 refine aH (ixt (by omega)) (aH (ixt (by omega)) (aH (ixt (by omega)) ?_))
 have bcall:=fun(Q:Go.AM.V×List aJ→Prop)(K:Int→Ro)(h:∀x,x=xO w r t q→Tot (K x) Q)=>aD (K:=K) (Q:=Q) (atC w r t q (yU.of hr) hq hbr) (fun x hx=>h x hx.2)
 generalize has.getD t.toNat (aG .bool)=hb at hS ⊢
 generalize w.getD t.toNat (aG .atype)=a at hS hnb hns hna ⊢
 generalize r.getD q.toNat (aG .atype)=b at hS hBr hns2 hnf2 hfal ⊢
 have fin:∀x:Bool,x=(!hb||dG (noS m) w r t q a b)→nL m w r t q has x:=fun x h=>h.trans hS.symm
 refine aC (fun h=>aE ⟨_,rfl,rfl,fin _ (by rw[h];rfl)⟩) (fun h=>?_)
 have fin:∀x:Bool,x=dG (noS m) w r t q a b→nL m w r t q has x:=fun x hx=>fin x (by rw[h];exact hx)
 refine aC (fun h14=>?_) (fun h14=>?_)
 ·have h14:a.kind=14:=by simpa using h14
  have e:dG (noS m) w r t q a b=a.branches.all fun c=> !noS m (c,q):=by rw[dG,if_pos h14]
  rw[e] at fin
  refine aT (fun x=>match x with|(q',a',i,m')=>q'=q∧a'=a∧m'=m∧0≤i∧i≤(a.branches.length:Int)∧(a.branches.all fun c=> !noS m (c,q))=(a.branches.drop i.toNat).all fun c=> !noS m (c,q)) (fun x=>(a.branches.length-x.2.2.1:Int).toNat) ?_ _ _ ⟨rfl,rfl,rfl,by omega,by omega,rfl⟩ (by simp only;omega)
  rintro again ⟨q',a',i,m'⟩ ⟨rfl,rfl,rfl,i1,i2,i3⟩ ih
  dsimp only at i3 ih
  unfold tr
  dsimp only
  refine aC (fun hi=>?_) (fun hi=>aE ⟨_,rfl,rfl,fin _ ?_⟩)
  ·have hi:=of_decide_eq_true hi
   rw[agM _ (aG (.num .i64)) _ _ i1 hi] at i3
   rw[aI (i+1) (by omega)]
   refine aH (ixt (by omega)) (aC (fun hx=>aE ⟨_,rfl,rfl,fin _ ?_⟩) (fun hx=>ih _ ⟨rfl,rfl,rfl,by simp only;omega,by simp only;omega,?_⟩ (by simp only;omega)))
   ·rw[i3,show noS m' (a'.branches.getD i.toNat (aG (.num .i64)),q')=true from hx];rfl
   ·rw[i3,show noS m' (a'.branches.getD i.toNat (aG (.num .i64)),q')=false from hx];rfl
  ·have hi:=of_decide_eq_false hi
   rw[i3,List.drop_eq_nil_of_le (by omega)];rfl
 have h14:a.kind≠14:=by simpa using h14
 refine aC (fun h15=>bcall _ _ fun x hx=>?_) (fun h15=>?_)
 ·have h15:b.kind=14:=by simpa using h15
  refine aC (fun h0=>aH (ixt (by have:=of_decide_eq_true h0;omega)) (aE ⟨_,rfl,rfl,fin _ ?_⟩)) (fun h0=>aE ⟨_,rfl,rfl,fin _ ?_⟩)
  ·rw[dG,if_neg h14,if_pos h15,←hx,h0];rfl
  ·rw[dG,if_neg h14,if_pos h15,←hx,h0];rfl
 have h15:b.kind≠14:=by simpa using h15
 refine aD (agL w r t q (yU.of hr)) ?_
 rintro(x:Bool) ⟨-,hx⟩
 have hx:x=dD w r t q:=hx
 refine aC (fun h0=>aE ⟨_,rfl,rfl,fin _ ?_⟩) (fun h0=>?_)
 ·have h0:x=false:=by simpa using h0
  rw[dG,if_neg h14,if_neg h15,←hx,h0];rfl
 have h0:x=true:=by simpa using h0
 have hm:¬dD w r t q=false:=by rw[←hx,h0];decide
 refine aC (fun h12=>aE ⟨_,rfl,rfl,fin _ ?_⟩) (fun h12=>aC (fun h13=>aE ⟨_,rfl,rfl,fin _ ?_⟩) (fun h13=>aC (fun h10=>?_) (fun h10=>aC (fun h9=>?_) (fun h9=>aE ⟨_,rfl,rfl,fin _ ?_⟩))))
 all_goals
  try simp only[beq_iff_eq,beq_eq_false_iff_ne,ne_eq] at h12
  try simp only[beq_iff_eq,beq_eq_false_iff_ne,ne_eq] at h13
  try simp only[beq_iff_eq,beq_eq_false_iff_ne,ne_eq] at h10
  try simp only[beq_iff_eq,beq_eq_false_iff_ne,ne_eq] at h9
 ·rw[dG,if_neg h14,if_neg h15,if_neg hm,if_pos (.inl h12)];rfl
 ·rw[dG,if_neg h14,if_neg h15,if_neg hm,if_pos (.inr h13)];rfl
 ·have e:dG (noS m) w r t q a b=(b.hasdef||a.syms.all fun s=>decide (s∈b.syms)):=by rw[dG,if_neg h14,if_neg h15,if_neg hm,if_neg (by omega),if_pos h10]
  rw[e] at fin
  refine aT (fun x=>match x with|(a',b',i,m')=>a'=a∧b'=b∧m'=m∧0≤i∧i≤(a.syms.length:Int)∧(a.syms.all fun s=>decide (s∈b.syms))=(a.syms.drop i.toNat).all fun s=>decide (s∈b.syms)) (fun x=>(a.syms.length-x.2.2.1:Int).toNat) ?_ _ _ ⟨rfl,rfl,rfl,by omega,by omega,rfl⟩ (by simp only;omega)
  rintro again ⟨a',b',i,m'⟩ ⟨rfl,rfl,rfl,i1,i2,i3⟩ ih
  dsimp only at i3 ih
  unfold tu
  dsimp only
  refine aC (fun hi=>aC (fun hd=>?_) (fun hd=>aE ⟨_,rfl,rfl,fin _ ?_⟩)) (fun hi=>aE ⟨_,rfl,rfl,fin _ ?_⟩)
  ·have hi:=of_decide_eq_true hi
   have hd:b'.hasdef=false:=by simpa using hd
   rw[agM _ (aG .str) _ _ i1 hi] at i3
   rw[aI (i+1) (by omega)]
   refine aH (ixt (by omega)) (aD (auK _ _ (by omega)) ?_)
   rintro(y:Int) ⟨-,hy⟩
   have hy:y=dC (fun x=>decide (x=a'.syms.getD i.toNat (aG .str))) b'.syms 0:=hy
   have hm2:decide (0≤y)=decide (a'.syms.getD i.toNat (aG .str)∈b'.syms):=by rw[hy,vt,at2]
   refine aC (fun hx=>aE ⟨_,rfl,rfl,fin _ ?_⟩) (fun hx=>ih _ ⟨rfl,rfl,rfl,by simp only;omega,by simp only;omega,?_⟩ (by simp only;omega))
   ·have hx:=of_decide_eq_true hx
    rw[i3,←hm2,decide_eq_false (by omega),hd];rfl
   ·have hx:=of_decide_eq_false hx
    rw[i3,←hm2,decide_eq_true (by omega)];rfl
  ·have hd:b'.hasdef=true:=by simpa using hd
   rw[hd];rfl
  ·have hi:=of_decide_eq_false hi
   rw[i3,List.drop_eq_nil_of_le (by omega)];simp
 ·have e:dG (noS m) w r t q a b=b.fields.all (mA (noS m) a):=by rw[dG,if_neg h14,if_neg h15,if_neg hm,if_neg (by omega),if_neg h10,if_pos h9]
  rw[e] at fin
  refine aT (fun x=>match x with|(a',b',i,m')=>a'=a∧b'=b∧m'=m∧0≤i∧i≤(b.fields.length:Int)∧b.fields.all (mA (noS m) a)=(b.fields.drop i.toNat).all (mA (noS m) a)) (fun x=>(b.fields.length-x.2.2.1:Int).toNat) ?_ _ _ ⟨rfl,rfl,rfl,by omega,by omega,rfl⟩ (by simp only;omega)
  rintro again ⟨a',b',i,m'⟩ ⟨rfl,rfl,rfl,i1,i2,i3⟩ ih
  dsimp only at i3 ih
  unfold tw
  dsimp only
  refine aC (fun h=>?_) (fun h=>aE ⟨_,rfl,rfl,fin _ ?_⟩)
  ·have h:=of_decide_eq_true h
   rw[agM _ (aG .afield) _ _ i1 h] at i3
   have hf:=hfal _ (jr b'.fields i.toNat (aG .afield) (by omega))
   rw[aI (i+1) (by omega),arR]
   have hix:ixl i b'.fields=true:=ixt (by omega)
   refine aH hix ?_
   generalize b'.fields.getD i.toNat (aG .afield)=f at i3 hf ⊢
   refine aD (avE a' f (by omega) (by omega)) ?_
   rintro(x:Int) ⟨-,hx⟩
   have hx:x=kH a'.fields (f.name::f.aliases):=hx
   have hr:=ajV a'.fields (f.name::f.aliases)
   rw[←hx] at hr
   have hF:mA (noS m') a' f= !((decide (x<0)&& !f.hasdef)||(decide (0≤x)&&noS m' ((a'.fields.getD x.toNat (aG .afield)).typ,f.typ))):=by rw[hx];rfl
   have next:mA (noS m') a' f=true→Tot (again (a',b',i+1,m')) _:=fun e=>ih _ ⟨rfl,rfl,rfl,by simp only;omega,by simp only;omega,by rw[i3,e];rfl⟩ (by simp only;omega)
   have stop:mA (noS m') a' f=false→nL m' w r t q has false:=fun e=>fin _ (by rw[i3,e];rfl)
   refine aC (fun hx0=>aH hix (aC (fun hd=>aE ⟨_,rfl,rfl,stop ?_⟩) (fun hd=>aC (fun hx1=>?_) (fun hx1=>next ?_)))) (fun hx0=>aC (fun hx1=>aH (ixt (by have:=of_decide_eq_true hx1;omega)) (aH hix (aC (fun hq=>aE ⟨_,rfl,rfl,stop ?_⟩) (fun hq=>next ?_)))) (fun hx1=>?_))
   ·rw[hF,hx0,hd];rfl
   ·have:=of_decide_eq_true hx0;have:=of_decide_eq_true hx1;omega
   ·rw[hF,hx0,hd,hx1];rfl
   ·rw[hF,hx0,hx1,show noS m' ((a'.fields.getD x.toNat (aG .afield)).typ,f.typ)=true from hq];rfl
   ·rw[hF,hx0,hx1,show noS m' ((a'.fields.getD x.toNat (aG .afield)).typ,f.typ)=false from hq];rfl
   ·have:=of_decide_eq_false hx0;have:=of_decide_eq_false hx1;omega
  ·have h:=of_decide_eq_false h
   rw[i3,List.drop_eq_nil_of_le (by omega)];rfl
 ·rw[dG,if_neg h14,if_neg h15,if_neg hm,if_neg (by omega),if_neg h10,if_neg h9]
end
end Go.Proofs.Ytdpajabhmmmjoaa
end
noncomputable section
namespace Go.Proofs.Ytdpajabhmmmjoaa
open Go.AM
set_option autoImplicit false
set_option linter.unusedVariables false
set_option maxRecDepth 100000
abbrev ans:FuncId:=16
abbrev auQ:=List Bool
noncomputable def vw(a:List aA)(r:auQ):Prop:=aU Try.prog ans [.agg [.sl .atype (.may false) a]] (.sl .bool (.may false) r)∧ahk a r
noncomputable def auR:bR Try.prog:=.mk 16 fun us=>match us with
 | [.agg [.sl .atype (.may _) a]]=>let r:=pick (vw a);some (can (vw a),.sl .bool (.may false) r)
 |_=>none
end Go.Proofs.Ytdpajabhmmmjoaa
end
noncomputable section
namespace Go.Proofs.Ytdpajabhmmmjoaa
open Go.AM
set_option autoImplicit false
set_option linter.unusedVariables false
set_option maxRecDepth 100000
def vx:aL:=fun f us hp=>match f,us,hp with
 |66,[.ptr 1 0,.int .i64 a1,.int .i64 a2],[some [.mp .pb o0_0],some [.sl .atype (.may false) o1_0,.sl .atype (.may false) o1_1,.sl .bool (.may false) o1_2,.mr 0]]=>some (can (ic o0_0 o1_0 o1_1 o1_2 a1 a2),.bool (pick (ic o0_0 o1_0 o1_1 o1_2 a1 a2)),[some [.mp .pb o0_0],some [.sl .atype (.may false) o1_0,.sl .atype (.may false) o1_1,.sl .bool (.may false) o1_2,.mr 0]])
 |_,_,_=>none
noncomputable def bY:aL:=(aau vx (s3 (aco (P:=Try.prog) [auR,amK])))
theorem akE:dQ bY [66]:=(yz (by
 intro f us hp hf
 unfold vx
 split<;>first|rfl|(simp at hf)) (by
 intro f us hp hf
 unfold vx
 split<;>first|rfl|(simp at hf)) (oH _ _))
theorem al6:dB Try.prog bY:=by
 refine acw ?_ ?_
 ·intro f us hp v hp' h
  unfold vx at h
  split at h
  ·simp only[Option.some.injEq,Prod.mk.injEq] at h
   obtain⟨hc,rfl,rfl⟩:=h
   exact((wb hc).1).dim rfl
  ·simp at h
 exact acp _
def ac7:IR:=Rs [Bi 42 .lss 41 40] (Sq (Cn 42 .skip (.exit 4)) (Sq (.block 5 (Rs [Mv 43 41,Mv 12 43] (Rs [Mv 44 11,Mv 45 12,Pp (.bld 46 [vI 0,vI 0] [(0,1,44),(1,1,45)]),Pp (.alr 13 2),Fz 13 2 46] (Sq (.reg [Mv 47 9,Nk 48 47,Fa 49 3 48,Fo [1] [] (.ld 50 1 false false 49),Ld 51 2 true 13,Pp (.mget 52 .pb false (.t 50) (.t 51)),Un 53 52,Mv 54 53,Gt 54 (.mov 55 9),Gt 54 (.mov 56 11),Gt 54 (.mov 57 12),⟨some (54,true),.call 58 66 [55,56,57],some ([],[1])⟩,Gt 54 (.un 59 .not 58),Pa 60 54 59] [[],[0],[0,1],[0,1,2],[],rg 0 4,rg 0 5,rg 0 6,rg 0 7,rg 0 7,rg 0 7,rg 0 10,rg 0 11,rg 0 12]) (Cn 60 (.reg [Mv 61 9,Nk 62 61,Fa 63 3 62,Fo [1] [] (.ld 64 1 false false 63),Ld 65 2 true 13,Pp (.ment 66 .pb (.t 64) (.t 65)),Ex_ 67 1 66,Pp (.mest none (.t 64) (.t 67) (.c (.bool true))),Mb 10 true] [[],[0],[0,1],[0,1,2],[],rg 0 4,rg 0 5,rg 0 6,rg 0 7]) .skip))))) (Rg [Bc 68 .add 41 1,Mv 41 68])))
def abM:IR:=Rg [Bc 69 .add 35 1,Mv 35 69]
def pY:IR:=Rs [Bi 36 .lss 35 34] (Sq (Cn 36 .skip (.exit 2)) (Sq (.block 3 (Rs [Mv 37 35,Mv 11 37] (Rs [Fa 38 0 5,Lq 39 38,Ll 40 39,Mi 41 0] (.block 4 (.loop [2,3,4,5,9,10,11,34,35,40,41,1000000] 2 ac7))))) abM))
def pZ:IR:=Sq (Rs [Mv 31 10] (Cn 31 .skip (.exit 0))) (.block 1 (Rs [Mb 10 false] (Rs [Fa 32 0 4,Lq 33 32,Ll 34 33,Mi 35 0] (.block 2 (.loop [2,3,4,5,9,10,34,35,1000001] 2 pY)))))
def p6:IR:=Rs [Mv 70 9,Nk 71 70,Fa 72 3 71,Lo 73 72,Mv 74 2,Mv 75 3,Pp (.bld 76 [vI 0,vI 0] [(0,1,74),(1,1,75)]),Pp (.mget 77 .pb false (.t 73) (.t 76)),Un 78 77,Mv 8 78] .ret
def aoZ:IR:=Rs [Bx 4 0,Bx 5 1,Mb 8 false] (Sq (Rs [Ld 14 1 true 4,Mv 15 2,Ca 16 63 [14,15],Un 17 16,Mv 18 17,Gf 18 (.lde 19 1 true 5),Gf 18 (.mov 20 3),Gf 18 (.call 21 63 [19,20]),Gf 18 (.un 22 .not 21),Po 23 18 22] (Cn 23 (Rs [Mb 8 false] .ret) .skip)) (Sq (.reg [Ld 24 1 true 4,Ld 25 1 true 5,Ld 26 1 true 4,Ca 27 16 [26],Pp (.mkm 28 .pb),Pp (.bld 29 [fu .atype true,fu .atype true,fu .bool true,.nilm] [(0,1,24),(1,1,25),(2,1,27),(3,1,28)]),Pp (.box 30 29),Mv 9 30] [[],[],[],[2],[],rg 0 4,rg 0 5,rg 0 6]) (Sq (Rs [Mb 10 true] (.block 0 (.loop [2,3,4,5,9,10,1000002] 2 pZ))) p6)))
def vy:List RV:=[.t 8]
theorem ao0:FnC Try.prog bY [66] 0 ahm Try.f32 aoZ vy:=⟨al6,akE,Try.func32,by kernel_rfl,by kernel_rfl,by decide⟩
def tJ(R:IR→(Ex→St→Ro)→St→Ro)(again0:St→Ro):Ex→St→Ro:=(bk again0 [2,3,4,5,9,10,1000002] 2 (aP 0 (bj (R p6) (fin vy))))
abbrev eA:Type:=(Int×Int×List aA×List aA×Bool×List ((Int×Int)×Bool)×List aA×List aA×List Bool)
def bI(x:eA):St:={env:=(.undef::.undef::.int .i64 x.1::.int .i64 x.2.1::.ea [.sl .atype (.may false) x.2.2.1]::.ea [.sl .atype (.may false) x.2.2.2.1]::(U 3 (.ptr 1 0::.bool x.2.2.2.2.1::(U 68 [])))),hp:=[some [.mp .pb x.2.2.2.2.2.1],some [.sl .atype (.may false) x.2.2.2.2.2.2.1,.sl .atype (.may false) x.2.2.2.2.2.2.2.1,.sl .bool (.may false) x.2.2.2.2.2.2.2.2,.mr 0]]}
def tK(R:IR→(Ex→St→Ro)→St→Ro)(again0 again1:St→Ro):Ex→St→Ro:=(bk again1 [2,3,4,5,9,10,34,35,1000001] 2 (aP 2 (aP 1 (tJ R again0))))
abbrev gm:Type:=(Int×Int×List aA×List aA×Bool×Int×Int×List ((Int×Int)×Bool)×List aA×List aA×List Bool)
def cH(x:gm):St:={env:=(.undef::.undef::.int .i64 x.1::.int .i64 x.2.1::.ea [.sl .atype (.may false) x.2.2.1]::.ea [.sl .atype (.may false) x.2.2.2.1]::(U 3 (.ptr 1 0::.bool x.2.2.2.2.1::(U 23 (.int .i64 x.2.2.2.2.2.1::.int .i64 x.2.2.2.2.2.2.1::(U 43 [])))))),hp:=[some [.mp .pb x.2.2.2.2.2.2.2.1],some [.sl .atype (.may false) x.2.2.2.2.2.2.2.2.1,.sl .atype (.may false) x.2.2.2.2.2.2.2.2.2.1,.sl .bool (.may false) x.2.2.2.2.2.2.2.2.2.2,.mr 0]]}
def ant(R:IR→(Ex→St→Ro)→St→Ro)(again0 again1 again2:St→Ro):Ex→St→Ro:=(bk again2 [2,3,4,5,9,10,11,34,35,40,41,1000000] 2 (aP 4 (aP 3 (bj (R abM) (tK R again0 again1)))))
abbrev tL:Type:=(Int×Int×List aA×List aA×Bool×Int×Int×Int×Int×Int×List ((Int×Int)×Bool)×List aA×List aA×List Bool)
def nV(x:tL):St:={env:=(.undef::.undef::.int .i64 x.1::.int .i64 x.2.1::.ea [.sl .atype (.may false) x.2.2.1]::.ea [.sl .atype (.may false) x.2.2.2.1]::(U 3 (.ptr 1 0::.bool x.2.2.2.2.1::.int .i64 x.2.2.2.2.2.1::(U 22 (.int .i64 x.2.2.2.2.2.2.1::.int .i64 x.2.2.2.2.2.2.2.1::(U 4 (.int .i64 x.2.2.2.2.2.2.2.2.1::.int .i64 x.2.2.2.2.2.2.2.2.2.1::(U 37 [])))))))),hp:=[some [.mp .pb x.2.2.2.2.2.2.2.2.2.2.1],some [.sl .atype (.may false) x.2.2.2.2.2.2.2.2.2.2.2.1,.sl .atype (.may false) x.2.2.2.2.2.2.2.2.2.2.2.2.1,.sl .bool (.may false) x.2.2.2.2.2.2.2.2.2.2.2.2.2,.mr 0]]}
def tM(N:Nat)(again0 again1:St→Ro):(St→Ro)→St→Ro:=fun again2 s=>run bY N ac7 (ant (run bY N) again0 again1 again2) s
def pe(N:Nat)(again0:eA→Ro)(again1:gm→Ro)(again2:tL→Ro)(x:tL):Ro:=
 let v2:Int:=x.1
 let v3:Int:=x.2.1
 let v4_0:List aA:=x.2.2.1
 let v5_0:List aA:=x.2.2.2.1
 let v10:Bool:=x.2.2.2.2.1
 let v11:Int:=x.2.2.2.2.2.1
 let v34:Int:=x.2.2.2.2.2.2.1
 let v35:Int:=x.2.2.2.2.2.2.2.1
 let v40:Int:=x.2.2.2.2.2.2.2.2.1
 let v41:Int:=x.2.2.2.2.2.2.2.2.2.1
 let o0_0:List ((Int×Int)×Bool):=x.2.2.2.2.2.2.2.2.2.2.1
 let o1_0:List aA:=x.2.2.2.2.2.2.2.2.2.2.2.1
 let o1_1:List aA:=x.2.2.2.2.2.2.2.2.2.2.2.2.1
 let o1_2:List Bool:=x.2.2.2.2.2.2.2.2.2.2.2.2.2
 let z0:=fun g0 g1 g2=>again2 (v2,v3,v4_0,v5_0,g0,v11,v34,v35,v40,g1,g2,o1_0,o1_1,o1_2)
 cond (decide (v41<v40)) (
  let x3:=(oo (k:=.pb) o0_0 (v11,v41))
  cond (!x3) (
   aF (ic o0_0 o1_0 o1_1 o1_2 v11 v41) (fun(r4:Bool)=>
    cond (!r4) (
     chk (decide (List.length o0_0≤140737488355328)) (
      let x4:=(oo (k:=.pb) o0_0 (v11,v41))
      let x5:=(↑(hH (k:=.pb) o0_0 (v11,v41)):Int)
      let x6:=(oE (k:=.pb) o0_0 (v11,v41) (oo (k:=.pb) o0_0 (v11,v41)))
      chk (ixl x5 x6) (
       let x7:=(aiC (k:=.pb) x6 (Int.toNat x5) true)
       let x8:=(IntKind.wrap .i64 (v41+1))
       z0 true x8 x7))) (
     let x9:=(IntKind.wrap .i64 (v41+1))
     z0 v10 x9 o0_0))) (
   let x10:=(IntKind.wrap .i64 (v41+1))
   z0 v10 x10 o0_0)) (
  let x11:=(IntKind.wrap .i64 (v35+1))
  again1 (v2,v3,v4_0,v5_0,v10,v34,x11,o0_0,o1_0,o1_1,o1_2))
theorem al7(N:Nat)(again0 again1:St→Ro):LB (tM N again0 again1) nV (pe N (fun y=>again0 (bI y)) (fun y=>again1 (cH y))):=fun _ _=>by kernel_rfl
def pf(N:Nat)(again0:St→Ro):(St→Ro)→St→Ro:=fun again1 s=>run bY N pY (tK (run bY N) again0 again1) s
def rL(N:Nat)(again0:eA→Ro)(again1:gm→Ro)(q2:tL→Ro)(x:gm):Ro:=
 let v2:Int:=x.1
 let v3:Int:=x.2.1
 let v4_0:List aA:=x.2.2.1
 let v5_0:List aA:=x.2.2.2.1
 let v10:Bool:=x.2.2.2.2.1
 let v34:Int:=x.2.2.2.2.2.1
 let v35:Int:=x.2.2.2.2.2.2.1
 let o0_0:List ((Int×Int)×Bool):=x.2.2.2.2.2.2.2.1
 let o1_0:List aA:=x.2.2.2.2.2.2.2.2.1
 let o1_1:List aA:=x.2.2.2.2.2.2.2.2.2.1
 let o1_2:List Bool:=x.2.2.2.2.2.2.2.2.2.2
 cond (decide (v35<v34)) (
  let x2:=(↑(List.length v5_0):Int)
  q2 (v2,v3,v4_0,v5_0,v10,v35,v34,v35,x2,0,o0_0,o1_0,o1_1,o1_2)) (
  again0 (v2,v3,v4_0,v5_0,v10,o0_0,o1_0,o1_1,o1_2))
def pg(N:Nat)(again0:eA→Ro)(again1:gm→Ro)(x:gm):Ro:=rL N again0 again1 (fun z=>aS N (pe N again0 again1) z) x
def zc(N:Nat)(again0 again1:St→Ro):List (Nat×(St→Ro)):=(bQ bY N pY (tK (run bY N) again0 again1)++(bQ bY N p6 (fin vy)++[]))
theorem al8(N:Nat)(again0:St→Ro):∀(again1:St→Ro)(x:gm),pf N again0 again1 (cH x)=pg N (fun y=>again0 (bI y)) (fun y=>again1 (cH y)) x:=by
 intro again1 x
 have hX:∀C:Nat→St→Ro,bT C bY N pY (tK (bT C bY N) again0 again1) (cH x)=rL N (fun y=>again0 (bI y)) (fun y=>again1 (cH y)) (fun z=>C 1000000 (nV z)) x:=by
  intro C
  kernel_rfl
 have h:pf N again0 again1 (cH x)=rL N (fun y=>again0 (bI y)) (fun y=>again1 (cH y)) (fun z=>aW N (tM N again0 again1) (nV z)) x:=(cW (C:=fb (zc N again0 again1)) (bS (ba (l:=(zc N again0 again1)) (by kernel_rfl))) (iD (cD (cD (iD (cD (fI (bS (dR (ba (l:=(zc N again0 again1)) (by kernel_rfl)))) rfl)))))) _).trans ((hX _).trans (by kernel_rfl))
 have e2:(fun z=>aW N (tM N again0 again1) (nV z))=(fun z=>aS N (pe N (fun y=>again0 (bI y)) (fun y=>again1 (cH y))) z):=funext fun z=>aV (nV) (tM N again0 again1) (pe N (fun y=>again0 (bI y)) (fun y=>again1 (cH y))) (al7 N again0 again1) N z
 rw[h,e2]
 rfl
def tN(N:Nat):(St→Ro)→St→Ro:=fun again0 s=>run bY N pZ (tJ (run bY N) again0) s
def rM(N:Nat)(again0:eA→Ro)(q1:gm→Ro)(x:eA):Ro:=
 let v2:Int:=x.1
 let v3:Int:=x.2.1
 let v4_0:List aA:=x.2.2.1
 let v5_0:List aA:=x.2.2.2.1
 let v10:Bool:=x.2.2.2.2.1
 let o0_0:List ((Int×Int)×Bool):=x.2.2.2.2.2.1
 let o1_0:List aA:=x.2.2.2.2.2.2.1
 let o1_1:List aA:=x.2.2.2.2.2.2.2.1
 let o1_2:List Bool:=x.2.2.2.2.2.2.2.2
 cond v10 (
  let x1:=(↑(List.length v4_0):Int)
  q1 (v2,v3,v4_0,v5_0,false,x1,0,o0_0,o1_0,o1_1,o1_2)) (
  let x12:=(oo (k:=.pb) o0_0 (v2,v3))
  some (.bool (!x12),[some [.mp .pb o0_0],some [.sl .atype (.may false) o1_0,.sl .atype (.may false) o1_1,.sl .bool (.may false) o1_2,.mr 0]]))
def tO(N:Nat)(again0:eA→Ro)(x:eA):Ro:=rM N again0 (fun z=>aS N (pg N again0) z) x
def zd(N:Nat)(again0:St→Ro):List (Nat×(St→Ro)):=(bQ bY N pZ (tJ (run bY N) again0)++(bQ bY N p6 (fin vy)++[]))
theorem al9(N:Nat):∀(again0:St→Ro)(x:eA),tN N again0 (bI x)=tO N (fun y=>again0 (bI y)) x:=by
 intro again0 x
 have hX:∀C:Nat→St→Ro,bT C bY N pZ (tJ (bT C bY N) again0) (bI x)=rM N (fun y=>again0 (bI y)) (fun z=>C 1000001 (cH z)) x:=by
  intro C
  kernel_rfl
 have h:tN N again0 (bI x)=rM N (fun y=>again0 (bI y)) (fun z=>aW N (pf N again0) (cH z)) x:=(cW (C:=fb (zd N again0)) (bS (ba (l:=(zd N again0)) (by kernel_rfl))) (iD (cD (fI (bS (dR (ba (l:=(zd N again0)) (by kernel_rfl)))) rfl))) _).trans ((hX _).trans (by kernel_rfl))
 have e1:(fun z=>aW N (pf N again0) (cH z))=(fun z=>aS N (pg N (fun y=>again0 (bI y))) z):=funext fun z=>aV (cH) (pf N again0) (pg N (fun y=>again0 (bI y))) (al8 N again0) N z
 rw[h,e1]
 rfl
def qE(N:Nat)(p0_0 p1_0:List aA)(p2 p3:Int)(q0:eA→Ro):Ro:=
 aF (oM p0_0 p2) (fun(r1:Bool)=>
  cond (!r1) (
   some (.bool false,[])) (
   aF (oM p1_0 p3) (fun(r2:Bool)=>
    cond (!r2) (
     some (.bool false,[])) (
     aF (vw p0_0) (fun(r3:List Bool)=>
      q0 (p2,p3,p0_0,p1_0,true,([]:List ((Int×Int)×Bool)),p0_0,p1_0,r3))))))
def afx(N:Nat)(p0_0 p1_0:List aA)(p2 p3:Int):Ro:=qE N p0_0 p1_0 p2 p3 (fun z=>aS N (tO N) z)
theorem anu(N:Nat)(p0_0 p1_0:List aA)(p2 p3:Int)(h:Tot (afx N p0_0 p1_0 p2 p3) (fun z=>∃(y0:Bool)(rest:List aJ),z.1.dimR=.bool y0∧z.2=rest∧xn p0_0 p1_0 p2 p3 (y0))):∃r,eX p0_0 p1_0 p2 p3 r:=ao0.finP (N:=N) ((bu _ (by kernel_rfl) rfl (fun C=>qE N p0_0 p1_0 p2 p3 (fun z=>C 1000002 (bI z))) (fun C=>by kernel_rfl)).trans (Eq.trans (b:=qE N p0_0 p1_0 p2 p3 (fun z=>aW N (tN N) (bI z))) (by kernel_rfl) (congrArg (qE N p0_0 p1_0 p2 p3) (funext fun z=>aV (bI) (tN N) (tO N) (al9 N) N z)))) h fun _ ⟨y0,_,e,_,q⟩=>⟨(y0),e,q⟩
end Go.Proofs.Ytdpajabhmmmjoaa
end
noncomputable section
namespace Go.Proofs.Ytdpajabhmmmjoaa
open Go.AM
set_option autoImplicit false
set_option linter.unusedSimpArgs false
set_option linter.unusedVariables false
set_option maxRecDepth 100000
def fP(L:List (Int×Int)):abW:=L.map fun p=>(p,true)
theorem xA:∀(L:List (Int×Int))(p:Int×Int),noS (fP L) p=inL L p
 | [],p=>rfl
 |a::L,p=>by
  have ih:=xA L p
  simp only[noS,oo,fP,List.map_cons,eo,inL] at ih ⊢
  by_cases h:a=p
  ·subst h;simp
  ·rw[if_neg h,ih]
   rw[Bool.eq_iff_iff,decide_eq_true_iff,decide_eq_true_iff,List.mem_cons]
   constructor
   ·exact fun h=>.inr h
   ·rintro(e|e)
    ·exact absurd e.symm h
    ·exact e
theorem ama:∀(L:List (Int×Int))(p:Int×Int)(v:Bool),p ∉ L→oE (k:=.pb) (fP L) p v=fP L++[(p,v)]
 | [],p,v,_=>rfl
 |a::L,p,v,h=>by
  have ih:=ama L p v (fun e=>h (List.mem_cons_of_mem _ e))
  simp only[fP,List.map_cons,oE] at ih ⊢
  rw[if_neg (fun e:a=p=>h (e▸List.mem_cons_self ..)),ih]
  rfl
theorem asF:∀(L:List (Int×Int))(p:Int×Int),p ∉ L→hH (k:=.pb) (fP L) p=L.length
 | [],p,_=>rfl
 |a::L,p,h=>by
  have ih:=asF L p (fun e=>h (List.mem_cons_of_mem _ e))
  simp only[fP,List.map_cons,hH] at ih ⊢
  rw[if_neg (fun e:a=p=>h (e▸List.mem_cons_self ..)),ih]
  rfl
theorem at3:∀(L:List (Int×Int))(p:Int×Int)(v:Bool),aiC (k:=.pb) (fP L++[(p,v)]) L.length true=fP (L++[p])
 | [],p,v=>rfl
 |a::L,p,v=>by
  have ih:=at3 L p v
  simp only[fP,List.map_cons,List.cons_append,List.length_cons,aiC] at ih ⊢
  rw[ih]
theorem avG(L:List (Int×Int))(p:Int×Int):fP L++[(p,true)]=fP (L++[p]):=by simp[fP]
theorem avH(i k:Nat):ajd i (k+1)=ajd i k++[((i:Int),(k:Int))]:=by simp[ajd,List.range_succ]
theorem apA(i m:Nat):lz (i+1) m=lz i m++ajd i m:=by simp[lz,List.range_succ,List.flatMap_append]
theorem asG(n m:Nat):(lz n m).length=n*m:=by
 induction n with
 |zero=>simp[lz]
 |succ n ih=>rw[apA,List.length_append,ih,ajd,List.length_map,List.length_range,Nat.add_mul,Nat.one_mul]
theorem awt{n m i k:Nat}(hi:i<n)(hk:k<m):((i:Int),(k:Int))∈lz n m:=by
 simp only[lz,List.mem_flatMap,List.mem_range,ajd,List.mem_map]
 exact⟨i,hi,k,hk,rfl⟩
def left(A L:List (Int×Int)):Nat:=(A.filter fun p=> !inL L p).length
theorem awW(A L:List (Int×Int))(p:Int×Int):left A (L++[p])≤left A L:=by
 induction A with
 |nil=>simp[left]
 |cons a A ih=>
  simp only[left,List.filter_cons,inL,List.mem_append,List.mem_singleton] at ih ⊢
  by_cases h:a∈L
  ·simpa [h] using ih
  ·by_cases h2:a=p
   ·subst h2
    simp only[h,or_true,decide_true,Bool.not_true,Bool.false_eq_true,if_false,decide_false,Bool.not_false,if_true,List.length_cons];omega
   ·simp only[h,h2,or_false,decide_false,Bool.not_false,if_true,List.length_cons];omega
theorem at4(A L:List (Int×Int))(p:Int×Int)(hp:p∈A)(hL:p ∉ L):left A (L++[p])<left A L:=by
 induction A with
 |nil=>cases hp
 |cons a A ih=>
  have hle:=awW A L p
  by_cases h2:a=p
  ·subst h2
   simp only[left,List.filter_cons,inL,List.mem_append,List.mem_singleton] at hle ⊢
   simp only[hL,or_true,decide_true,Bool.not_true,Bool.false_eq_true,if_false,decide_false,Bool.not_false,if_true,List.length_cons]
   omega
  ·have ih:=ih (by rcases List.mem_cons.1 hp with e|e;exact absurd e.symm h2;exact e)
   clear hle
   simp only[left,List.filter_cons,inL,List.mem_append,List.mem_singleton] at ih ⊢
   by_cases h:a∈L
   ·simpa [h] using ih
   ·simp only[h,h2,or_false,decide_false,Bool.not_false,if_true,List.length_cons];omega
section
variable{has:List Bool}{w r:List aA}
theorem at5(A:List (Int×Int)):∀(ps L:List (Int×Int)),(∀p∈ps,p∈A)→
  ps.foldl (iJ has w r) L=L∨(L.length<(ps.foldl (iJ has w r) L).length∧left A (ps.foldl (iJ has w r) L)<left A L)
 | [],L,_=>.inl rfl
 |p::ps,L,h=>by
  rw[List.foldl_cons]
  have ih:=fun L=>at5 A ps L (fun q hq=>h q (List.mem_cons_of_mem _ hq))
  have ev:iJ has w r L p=if inL L p||yA has (inL L) w r p.1 p.2 then L else L++[p]:=rfl
  rw[ev]
  by_cases hv:(inL L p||yA has (inL L) w r p.1 p.2)=true
  ·rw[if_pos hv];exact ih L
  ·rw[if_neg hv]
   simp only[Bool.or_eq_true,not_or] at hv
   have hp:p ∉ L:=fun e=>hv.1 (by simp[inL,e])
   have hlt:=at4 A L p (h p (List.mem_cons_self ..)) hp
   right
   rcases ih (L++[p]) with e|⟨e1,e2⟩
   ·rw[show List.foldl (iJ has w r) (L++[p]) ps=L++[p] from e]
    exact⟨by simp,hlt⟩
   ·refine⟨by simp only[List.length_append,List.length_singleton] at e1;exact Nat.lt_of_succ_lt e1,Nat.lt_trans e2 hlt⟩
def PS(has:List Bool)(w r:List aA)(L0:List (Int×Int))(i k:Nat):List (Int×Int):=(ajd i k).foldl (iJ has w r) ((lz i r.length).foldl (iJ has w r) L0)
theorem akg(L0:List (Int×Int)):PS has w r L0 0 0=L0:=rfl
theorem at6(L0:List (Int×Int))(i k:Nat):PS has w r L0 i (k+1)=iJ has w r (PS has w r L0 i k) ((i:Int),(k:Int)):=by
 rw[PS,avH,List.foldl_append];rfl
theorem avI(L0:List (Int×Int))(i:Nat):PS has w r L0 i r.length=PS has w r L0 (i+1) 0:=by
 rw[PS,PS,apA,List.foldl_append];rfl
theorem avJ(L0:List (Int×Int)):PS has w r L0 w.length 0=wm has w r L0:=rfl
def Btw(has:List Bool)(w r:List aA)(fin:List (Int×Int))(more:Bool)(L:List (Int×Int)):Prop:=
 (more=true∧∃f,left (lz w.length r.length) L<f∧xP has w r f L=fin)∨(more=false∧L=fin)
theorem Btw.next{fin L0:List (Int×Int)}(h:Btw has w r fin true L0):
  Btw has w r fin (decide (L0.length<(wm has w r L0).length)) (wm has w r L0)∧
  2*left (lz w.length r.length) (wm has w r L0)+(if decide (L0.length<(wm has w r L0).length)=true then 1 else 0)<2*left (lz w.length r.length) L0+1:=by
 obtain⟨-,f,h1,h2⟩|⟨h, -⟩:=h
 ·obtain⟨f,rfl⟩:∃g,f=g+1:=⟨f-1,by omega⟩
  rw[xP] at h2
  rcases at5 (has:=has) (w:=w) (r:=r) (lz w.length r.length) (lz w.length r.length) L0 (fun _ h=>h) with e|⟨e1,e2⟩
  ·have e:wm has w r L0=L0:=e
   rw[e] at h2 ⊢
   rw[if_pos rfl] at h2
   simp only[Nat.lt_irrefl,decide_false]
   exact⟨.inr ⟨rfl,h2⟩,by simp⟩
  ·have e1:L0.length<(wm has w r L0).length:=e1
   have e2:left (lz w.length r.length) (wm has w r L0)<left (lz w.length r.length) L0:=e2
   rw[if_neg (by omega)] at h2
   simp only[e1,decide_true,if_true]
   exact⟨.inl ⟨rfl,f,by omega,h2⟩,by omega⟩
 ·cases h
end
section
variable{w r:List aA}(hw:dS w)(hr:dS r)(t q:Int)
include hw hr
theorem auS(hB:∃l,qj w l)(hlen:(aeo w).length=w.length):∃x,gY w r t q x:=by
 have hn:=hw.1
 have hm:=hr.1
 apply ann (2*(w.length*r.length)+200)
 unfold afv qA
 refine aD (ajL w t) ?_
 rintro(r1:Bool) ⟨-,h1⟩
 have h1:r1=isT w t:=h1
 refine aC (fun h=>aE ⟨_,_,rfl,rfl,?_⟩) (fun h=>?_)
 ·have h:r1=false:=by simpa using h
  show false=jW _ w r t q
  rw[jW,←h1,h];rfl
 have h:r1=true:=by simpa using h
 rw[h] at h1
 refine aD (ajL r q) ?_
 rintro(r2:Bool) ⟨-,h2⟩
 have h2:r2=isT r q:=h2
 refine aC (fun h=>aE ⟨_,_,rfl,rfl,?_⟩) (fun h=>?_)
 ·have h:r2=false:=by simpa using h
  show false=jW _ w r t q
  rw[jW,←h1,←h2,h];rfl
 have h:r2=true:=by simpa using h
 rw[h] at h2
 refine aD hB ?_
 rintro(has:List Bool) ⟨-,hh⟩
 have hh:has=aeo w:=hh
 rw[←hh] at hlen
 have hpost:∀x:Bool,x=(!inL (xP has w r (w.length*r.length+1) []) (t,q))→xp w r t q x:=fun x hx=>by
  show x=jW (aeo w) w r t q
  rw[jW,←h1,←h2,←hh,hx];rfl
 generalize hfin:xP has w r (w.length*r.length+1) []=fin at hpost
 have hl0:left (lz w.length r.length) []=w.length*r.length:=by
  rw[left,←asG];congr 1;simp[inL]
 refine aT (fun x=>match x with|(a,b,w',r',has',more,es)=>a=t∧b=q∧w'=w∧r'=r∧has'=has∧∃L,es=fP L∧left (lz w.length r.length) L≤w.length*r.length∧Btw has w r fin more L)
  (fun x=>2*left (lz w.length r.length) (x.2.2.2.2.2.2.map (·.1))+(if x.2.2.2.2.2.1=true then 1 else 0)) ?_ _ _ ⟨rfl,rfl,rfl,rfl,rfl,[],rfl,by omega,.inl ⟨rfl,_,by omega,hfin⟩⟩ (by simp only[List.map_nil,hl0,if_true];omega)
 rintro again0 ⟨a,b,w',r',has',more,es⟩ ⟨rfl,rfl,rfl,rfl,rfl,L0,rfl,hle,hb⟩ ih0
 have hmap:∀L:List (Int×Int),(fP L).map (·.1)=L:=fun L=>by simp[fP,Function.comp_def]
 dsimp only at ih0
 rw[hmap] at ih0
 unfold tD rD
 dsimp only
 refine aC (fun hmore=>?_) (fun hmore=>aE ⟨_,_,rfl,rfl,hpost _ ?_⟩)
 rotate_left
 ·have hmore:more=false:=hmore
  subst hmore
  obtain⟨h, -⟩|⟨-,rfl⟩:=hb
  ·cases h
  ·show (!noS (fP L0) (a,b))=_
   rw[xA]
 have hmore:more=true:=hmore
 subst hmore
 have hbn:=hb.next
 simp only[if_true] at ih0
 refine aT (fun x=>match x with|(a',b',w2,r2,has2,mo,i,es)=>a'=a∧b'=b∧w2=w'∧r2=r'∧has2=has'∧∃i':Nat,i=(i':Int)∧i'≤w'.length∧es=fP (PS has' w' r' L0 i' 0)∧mo=decide (L0.length<(PS has' w' r' L0 i' 0).length)∧L0.length≤(PS has' w' r' L0 i' 0).length)
  (fun x=>(w'.length-x.2.2.2.2.2.2.1:Int).toNat) ?_ _ _ ⟨rfl,rfl,rfl,rfl,rfl,0,rfl,by omega,rfl,by simp[akg],by simp[akg]⟩ (by simp only;omega)
 rintro again1 ⟨a',b',w2,r2,has2,mo,i,es⟩ ⟨rfl,rfl,rfl,rfl,rfl,i',rfl,hi,rfl,rfl,hge⟩ ih1
 dsimp only at ih1
 unfold oZ rC
 dsimp only
 refine aC (fun hlt=>?_) (fun hlt=>?_)
 rotate_left
 ·have hlt:=of_decide_eq_false hlt
  obtain rfl:i'=w2.length:=by omega
  rw[avJ] at hge ⊢
  exact ih0 _ ⟨rfl,rfl,rfl,rfl,rfl,_,rfl,by omega,hbn.1⟩ (by rw[hmap];exact hbn.2)
 have hlt:=of_decide_eq_true hlt
 refine aT (fun x=>match x with|(a3,b3,w3,r3,has3,mo,i,k,es)=>a3=a'∧b3=b'∧w3=w2∧r3=r2∧has3=has2∧i=(i':Int)∧∃k':Nat,k=(k':Int)∧k'≤r2.length∧es=fP (PS has2 w2 r2 L0 i' k')∧mo=decide (L0.length<(PS has2 w2 r2 L0 i' k').length)∧L0.length≤(PS has2 w2 r2 L0 i' k').length)
  (fun x=>(r2.length-x.2.2.2.2.2.2.2.1:Int).toNat) ?_ _ _ ⟨rfl,rfl,rfl,rfl,rfl,rfl,0,rfl,by omega,rfl,rfl,hge⟩ (by simp only;omega)
 rintro again2 ⟨a3,b3,w3,r3,has3,mo,i,k,es⟩ ⟨rfl,rfl,rfl,rfl,rfl,rfl,k',rfl,hk,rfl,rfl,hge2⟩ ih2
 dsimp only at ih2
 unfold oX
 dsimp only
 refine aC (fun hlk=>?_) (fun hlk=>?_)
 rotate_left
 ·have hlk:=of_decide_eq_false hlk
  obtain rfl:k'=r3.length:=by omega
  rw[avI] at hge2 ⊢
  rw[aI ((i':Int)+1) (by omega)]
  exact ih1 _ ⟨rfl,rfl,rfl,rfl,rfl,i'+1,by simp,by omega,rfl,rfl,hge2⟩ (by simp only;omega)
 have hlk:=of_decide_eq_true hlk
 rw[aI ((k':Int)+1) (by omega)]
 have hnx:=at6 (has:=has3) (w:=w3) (r:=r3) L0 i' k'
 have hno:oo (k:=.pb) (fP (PS has3 w3 r3 L0 i' k')) ((i':Int),(k':Int))=inL (PS has3 w3 r3 L0 i' k') ((i':Int),(k':Int)):=xA _ _
 rw[hno]
 generalize PS has3 w3 r3 L0 i' k'=L at*
 have keep:iJ has3 w3 r3 L ((i':Int),(k':Int))=L→Tot (again2 (a3,b3,w3,r3,has3,decide (L0.length<L.length),(i':Int),(k':Int)+1,fP L)) _:=fun e=>
  ih2 _ ⟨rfl,rfl,rfl,rfl,rfl,rfl,k'+1,by simp,by omega,by rw[hnx,e],by rw[hnx,e],by rw[hnx,e];exact hge2⟩ (by simp only;omega)
 refine aC (fun hin=>?_) (fun hin=>keep ?_)
 rotate_left
 ·have hin:inL L ((i':Int),(k':Int))=true:=by simpa using hin
  rw[iJ,hin];rfl
 have hin:inL L ((i':Int),(k':Int))=false:=by simpa using hin
 refine aD (auP _ _ _ _ hw hr _ _ (by omega) (by omega) hlen) ?_
 rintro(x:Bool) ⟨-,hx⟩
 have hx:x=yA has3 (noS (fP L)) w3 r3 (i':Int) (k':Int):=hx
 rw[show noS (fP L)=inL L from funext (xA L)] at hx
 refine aC (fun h0=>?_) (fun h0=>keep ?_)
 rotate_left
 ·have h0:x=true:=by simpa using h0
  rw[iJ,←hx,h0];simp
 have h0:x=false:=by simpa using h0
 have hv:iJ has3 w3 r3 L ((i':Int),(k':Int))=L++[((i':Int),(k':Int))]:=by rw[iJ,←hx,h0,hin];simp
 rw[hv] at hnx
 rw[ama _ _ _ (by simpa [inL] using hin),avG]
 refine ih2 _ ⟨rfl,rfl,rfl,rfl,rfl,rfl,k'+1,by simp,by omega,by rw[hnx],?_,by rw[hnx];simp;omega⟩ (by simp only;omega)
 rw[hnx,decide_eq_true (by simp;omega)]
theorem auT(hB:∃l,vw w l)(hlen:(zX w).length=w.length):∃x,eX w r t q x:=by
 have hn:=hw.1
 have hm:=hr.1
 apply anu (2*(w.length*r.length)+200)
 unfold afx qE
 refine aD (anf w t) ?_
 rintro(r1:Bool) ⟨-,h1⟩
 have h1:r1=isT w t:=h1
 refine aC (fun h=>aE ⟨_,_,rfl,rfl,?_⟩) (fun h=>?_)
 ·have h:r1=false:=by simpa using h
  show false=jW _ w r t q
  rw[jW,←h1,h];rfl
 have h:r1=true:=by simpa using h
 rw[h] at h1
 refine aD (anf r q) ?_
 rintro(r2:Bool) ⟨-,h2⟩
 have h2:r2=isT r q:=h2
 refine aC (fun h=>aE ⟨_,_,rfl,rfl,?_⟩) (fun h=>?_)
 ·have h:r2=false:=by simpa using h
  show false=jW _ w r t q
  rw[jW,←h1,←h2,h];rfl
 have h:r2=true:=by simpa using h
 rw[h] at h2
 refine aD hB ?_
 rintro(has:List Bool) ⟨-,hh⟩
 have hh:has=zX w:=hh
 rw[←hh] at hlen
 have hpost:∀x:Bool,x=(!inL (xP has w r (w.length*r.length+1) []) (t,q))→xn w r t q x:=fun x hx=>by
  show x=jW (zX w) w r t q
  rw[jW,←h1,←h2,←hh,hx];rfl
 generalize hfin:xP has w r (w.length*r.length+1) []=fin at hpost
 have hl0:left (lz w.length r.length) []=w.length*r.length:=by
  rw[left,←asG];congr 1;simp[inL]
 have h60:w.length*r.length≤60*60:=Nat.mul_le_mul hn.2 hm.2
 refine aT (fun x=>match x with|(a,b,w',r',more,es,w2,r2,has')=>a=t∧b=q∧w'=w∧r'=r∧w2=w∧r2=r∧has'=has∧∃L,es=fP L∧left (lz w.length r.length) L+L.length≤w.length*r.length∧Btw has w r fin more L)
  (fun x=>2*left (lz w.length r.length) (x.2.2.2.2.2.1.map (·.1))+(if x.2.2.2.2.1=true then 1 else 0)) ?_ _ _ ⟨rfl,rfl,rfl,rfl,rfl,rfl,rfl,[],rfl,by simp;omega,.inl ⟨rfl,_,by omega,hfin⟩⟩ (by simp only[List.map_nil,hl0,if_true];omega)
 rintro again0 ⟨a,b,w',r',more,es,w2,r2,has'⟩ ⟨rfl,rfl,rfl,rfl,rfl,rfl,rfl,L0,rfl,hle,hb⟩ ih0
 have hmap:∀L:List (Int×Int),(fP L).map (·.1)=L:=fun L=>by simp[fP,Function.comp_def]
 dsimp only at ih0
 rw[hmap] at ih0
 unfold tO rM
 dsimp only
 refine aC (fun hmore=>?_) (fun hmore=>aE ⟨_,_,rfl,rfl,hpost _ ?_⟩)
 rotate_left
 ·have hmore:more=false:=hmore
  subst hmore
  obtain⟨h, -⟩|⟨-,rfl⟩:=hb
  ·cases h
  ·show (!noS (fP L0) (a,b))=_
   rw[xA]
 have hmore:more=true:=hmore
 subst hmore
 have hbn:=hb.next
 simp only[if_true] at ih0
 refine aT (fun x=>match x with|(a',b',w3,r3,mo,n,i,es,w4,r4,has2)=>a'=a∧b'=b∧w3=w2∧r3=r2∧w4=w2∧r4=r2∧has2=has'∧n=(w2.length:Int)∧∃i':Nat,i=(i':Int)∧i'≤w2.length∧es=fP (PS has' w2 r2 L0 i' 0)∧mo=decide (L0.length<(PS has' w2 r2 L0 i' 0).length)∧L0.length≤(PS has' w2 r2 L0 i' 0).length∧left (lz w2.length r2.length) (PS has' w2 r2 L0 i' 0)+(PS has' w2 r2 L0 i' 0).length≤w2.length*r2.length)
  (fun x=>(w2.length-x.2.2.2.2.2.2.1:Int).toNat) ?_ _ _ ⟨rfl,rfl,rfl,rfl,rfl,rfl,rfl,rfl,0,rfl,by omega,rfl,by simp[akg],by simp[akg],hle⟩ (by simp only;omega)
 rintro again1 ⟨a',b',w3,r3,mo,n,i,es,w4,r4,has2⟩ ⟨rfl,rfl,rfl,rfl,rfl,rfl,rfl,rfl,i',rfl,hi,rfl,rfl,hge,hll⟩ ih1
 dsimp only at ih1
 unfold pg rL
 dsimp only
 refine aC (fun hlt=>?_) (fun hlt=>?_)
 rotate_left
 ·have hlt:=of_decide_eq_false hlt
  obtain rfl:i'=w4.length:=by omega
  rw[avJ] at hge hll ⊢
  exact ih0 _ ⟨rfl,rfl,rfl,rfl,rfl,rfl,rfl,_,rfl,hll,hbn.1⟩ (by rw[hmap];exact hbn.2)
 have hlt:=of_decide_eq_true hlt
 refine aT (fun x=>match x with|(a3,b3,w5,r5,mo,v11,n,i,m,k,es,w6,r6,has3)=>a3=a'∧b3=b'∧w5=w4∧r5=r4∧w6=w4∧r6=r4∧has3=has2∧v11=(i':Int)∧n=(w4.length:Int)∧i=(i':Int)∧m=(r4.length:Int)∧∃k':Nat,k=(k':Int)∧k'≤r4.length∧es=fP (PS has2 w4 r4 L0 i' k')∧mo=decide (L0.length<(PS has2 w4 r4 L0 i' k').length)∧L0.length≤(PS has2 w4 r4 L0 i' k').length∧left (lz w4.length r4.length) (PS has2 w4 r4 L0 i' k')+(PS has2 w4 r4 L0 i' k').length≤w4.length*r4.length)
  (fun x=>(r4.length-x.2.2.2.2.2.2.2.2.2.1:Int).toNat) ?_ _ _ ⟨rfl,rfl,rfl,rfl,rfl,rfl,rfl,rfl,rfl,rfl,rfl,0,rfl,by omega,rfl,rfl,hge,hll⟩ (by simp only;omega)
 rintro again2 ⟨a3,b3,w5,r5,mo,v11,n,i,m,k,es,w6,r6,has3⟩ ⟨rfl,rfl,rfl,rfl,rfl,rfl,rfl,rfl,rfl,rfl,rfl,k',rfl,hk,rfl,rfl,hge2,hll2⟩ ih2
 dsimp only at ih2
 unfold pe
 dsimp only
 refine aC (fun hlk=>?_) (fun hlk=>?_)
 rotate_left
 ·have hlk:=of_decide_eq_false hlk
  obtain rfl:k'=r6.length:=by omega
  rw[avI] at hge2 hll2 ⊢
  rw[aI ((i':Int)+1) (by omega)]
  exact ih1 _ ⟨rfl,rfl,rfl,rfl,rfl,rfl,rfl,rfl,i'+1,by simp,by omega,rfl,rfl,hge2,hll2⟩ (by simp only;omega)
 have hlk:=of_decide_eq_true hlk
 rw[aI ((k':Int)+1) (by omega)]
 have hnx:=at6 (has:=has3) (w:=w6) (r:=r6) L0 i' k'
 have hno:oo (k:=.pb) (fP (PS has3 w6 r6 L0 i' k')) ((i':Int),(k':Int))=inL (PS has3 w6 r6 L0 i' k') ((i':Int),(k':Int)):=xA _ _
 have hmem:((i':Int),(k':Int))∈lz w6.length r6.length:=awt (by omega) (by omega)
 rw[hno]
 generalize PS has3 w6 r6 L0 i' k'=L at*
 have keep:iJ has3 w6 r6 L ((i':Int),(k':Int))=L→Tot (again2 (a3,b3,w6,r6,decide (L0.length<L.length),(i':Int),(w6.length:Int),(i':Int),(r6.length:Int),(k':Int)+1,fP L,w6,r6,has3)) _:=fun e=>
  ih2 _ ⟨rfl,rfl,rfl,rfl,rfl,rfl,rfl,rfl,rfl,rfl,rfl,k'+1,by simp,by omega,by rw[hnx,e],by rw[hnx,e],by rw[hnx,e];exact hge2,by rw[hnx,e];exact hll2⟩ (by simp only;omega)
 refine aC (fun hin=>?_) (fun hin=>keep ?_)
 rotate_left
 ·have hin:inL L ((i':Int),(k':Int))=true:=by simpa using hin
  rw[iJ,hin];rfl
 have hin:inL L ((i':Int),(k':Int))=false:=by simpa using hin
 refine aD (avF _ _ _ _ hw hr _ _ (by omega) (by omega) hlen) ?_
 rintro(x:Bool) ⟨-,hx⟩
 have hx:x=yA has3 (noS (fP L)) w6 r6 (i':Int) (k':Int):=hx
 rw[show noS (fP L)=inL L from funext (xA L)] at hx
 refine aC (fun h0=>?_) (fun h0=>keep ?_)
 rotate_left
 ·have h0:x=true:=by simpa using h0
  rw[iJ,←hx,h0];simp
 have h0:x=false:=by simpa using h0
 have hv:iJ has3 w6 r6 L ((i':Int),(k':Int))=L++[((i':Int),(k':Int))]:=by rw[iJ,←hx,h0,hin];simp
 rw[hv] at hnx
 have hnin:((i':Int),(k':Int)) ∉ L:=by simpa [inL] using hin
 have hlt2:=at4 (lz w6.length r6.length) L _ hmem hnin
 have hml:(fP L).length=L.length:=by simp[fP]
 refine aH (by rw[hml];simp;omega) ?_
 rw[ama _ _ _ hnin,asF _ _ hnin,Int.toNat_natCast,at3]
 refine aH (ixt ⟨by omega,by simp[hml];omega⟩) ?_
 refine ih2 _ ⟨rfl,rfl,rfl,rfl,rfl,rfl,rfl,rfl,rfl,rfl,rfl,k'+1,by simp,by omega,by rw[hnx],?_,by rw[hnx];simp;omega,by rw[hnx];simp;omega⟩ (by simp only;omega)
 rw[hnx,decide_eq_true (by simp;omega)]
end
end Go.Proofs.Ytdpajabhmmmjoaa
end
noncomputable section
namespace Go.Proofs.Ytdpajabhmmmjoaa
open Go.AM
set_option autoImplicit false
set_option linter.unusedVariables false
set_option maxRecDepth 100000
end Go.Proofs.Ytdpajabhmmmjoaa
end
noncomputable section
namespace Go.Proofs.Ytdpajabhmmmjoaa
open Go.AM
set_option autoImplicit false
set_option linter.unusedVariables false
set_option maxRecDepth 100000
noncomputable def aev:aL:=tab (P:=Try.prog) [] [] [] [apR]
def afy:IR:=Rs [Bi 17 .lss 16 15] (Sq (Cn 17 .skip (.exit 1)) (Sq (.block 2 (Rs [Ix 18 .afield 14 16,Ld 19 9 true 18,Pp (.alr 7 9),Fz 7 9 19] (Sq (Rs [Mv 20 1,Fa 21 2 7,Lq 22 21,Ix 23 (.num .i64) 20 22,Lq 24 23,Bc 25 .lss 24 0] (Cn 25 (Rs [Mi 4 (-1)] .ret) .skip)) (Rg [Mv 26 5,Mv 27 1,Fa 28 2 7,Lq 29 28,Ix 30 (.num .i64) 27 29,Lq 31 30,Pp (.mx 32 false 26 31),Mv 5 32])))) (Rg [Bc 33 .add 16 1,Mv 16 33])))
def aeh:IR:=Sq (Rs [Mv 49 5,Bc 50 .lss 49 0] (Cn 50 (Rs [Mi 4 (-1)] .ret) .skip)) (Rs [Mv 51 5,Bc 52 .add 51 1,Mv 4 52] .ret)
def asH:IR:=Rs [Bx 2 0,Mi 4 0] (Rs [Mi 5 (-1)] (Sq (Rs [Fa 9 0 2,Lq 10 9] (.block 0 (Rs [Bc 12 .eql 10 9,Mv 11 12] (Cn 11 (Rs [Mi 5 0] (Rs [Fa 13 8 2,Lq 14 13,Ll 15 14,Mi 16 0] (.block 1 (.loop [1,5,14,15,16,1000000] 0 afy)))) (Rs [Bc 35 .eql 10 14,Mv 34 35] (Cn 34 (Rs [Ld 36 10 true 2,Mv 37 1,Ca 38 78 [36,37],Mv 8 38] (Rs [Mv 39 8,Bc 40 .geq 39 0] (Cn 40 (Rg [Mv 41 1,Fa 42 9 2,Lq 43 42,Mv 44 8,Ix 45 (.num .i64) 43 44,Lq 46 45,Ix 47 (.num .i64) 41 46,Lq 48 47,Mv 5 48]) .skip))) (Rs [Mi 4 0] .ret))))))) aeh))
def ajW:List RV:=[.t 4]
theorem asI:FnC Try.prog aev [] 0 ak1 Try.f76 asH ajW:=fnC Try.func76
def aqR(R:IR→(Ex→St→Ro)→St→Ro)(a:St→Ro):Ex→St→Ro:=(bk a [1,5,14,15,16,1000000] 0 (aP 1 (aP 0 (bj (R aeh) (fin ajW)))))
abbrev xb:Type:=(List Int×Int×List aM×Int×Int)
def vz:xb→St:=fun(a,b,c,d,e)=>{env:=(.undef::.sl (.num .i64) (.may false) a::(U 3 (.int .i64 b::(U 8 (.sl .afield (.may false) c::.int .i64 d::.int .i64 e::(U 36 [])))))),hp:=[]}
def abh(N:Nat):(St→Ro)→St→Ro:=fun a s=>run aev N afy (aqR (run aev N) a) s
def xc(N:Nat)(a:xb→Ro):xb→Ro:=fun(d,f,c,e,b)=>
 cond (decide (b<e)) (
 chk (ixl b c) (
 let g:=(List.getD c (Int.toNat b) (aG .afield))
 chk (ixl g.typ d) (
 let i:=List.getD d (Int.toNat g.typ) (aG (.num .i64))
 cond (decide (i<0)) (
 some (.int .i64 (-1),[])) (
 chk (ixl g.typ d) (
 let h:=List.getD d (Int.toNat g.typ) (aG (.num .i64))
 let j:=(if f<h then h else f)
 let k:=(IntKind.wrap .i64 (b+1))
 a (d,j,c,e,k)))))) (
 cond (decide (f<0)) (
 some (.int .i64 (-1),[])) (
 let l:=(IntKind.wrap .i64 (f+1))
 some (.int .i64 l,[])))
theorem ao1(N:Nat):LB (abh N) vz (xc N):=fun _ _=>by kernel_rfl
def uP(N:Nat)(a:aA)(b:List Int)(h:xb→Ro):Ro:=
 cond (a.kind==9) (
 let i:=(↑(List.length a.fields):Int)
 h (b,0,a.fields,i,0)) (
 cond (a.kind==14) (
 aF (si a b) (fun(c:Int)=>
 cond (decide (0≤c)) (
 chk (ixl c a.branches) (
 let f:=List.getD a.branches (Int.toNat c) (aG (.num .i64))
 chk (ixl f b) (
 let g:=List.getD b (Int.toNat f) (aG (.num .i64))
 cond (decide (g<0)) (
 some (.int .i64 (-1),[])) (
 let d:=(IntKind.wrap .i64 (g+1))
 some (.int .i64 d,[]))))) (
 cond (decide ((-1)<0)) (
 some (.int .i64 (-1),[])) (
 let e:=(IntKind.wrap .i64 ((-1)+1))
 some (.int .i64 e,[]))))) (
 some (.int .i64 0,[])))
def ajX(N:Nat)(a:aA)(b:List Int):Ro:=uP N a b (fun z=>aS N (xc N) z)
theorem aqS(N:Nat)(a:aA)(c:List Int)(h:Tot (ajX N a c) (fun z=>∃(d:Int)(rest:List aJ),z.1.dimR=.int .i64 d∧z.2=rest∧zV a c (d))):∃r,wl a c r:=asI.finP (N:=N) ((bu _ (by kernel_rfl) rfl (fun C=>uP N a c (fun z=>C 1000000 (vz z))) (fun C=>by kernel_rfl)).trans (Eq.trans (b:=uP N a c (fun z=>aW N (abh N) (vz z))) (by kernel_rfl) (congrArg (uP N a c) (funext fun z=>aV (vz) (abh N) (xc N) (ao1 N) N z)))) h fun _ ⟨d,_,e,_,q⟩=>⟨(d),e,q⟩
noncomputable def abi:aL:=tab (P:=Try.prog) [] [] [] []
def ac8:IR:=Rs [Bi 12 .lss 11 10] (Sq (Cn 12 .skip (.exit 0)) (Sq (.block 1 (Rs [Mv 13 11,Ix 14 (.num .i64) 9 11,Lq 15 14,Mv 6 13,Mv 7 15] (Sq (.reg [Mv 16 1,Mv 17 7,Ix 18 (.num .i64) 16 17,Lq 19 18,Bc 20 .geq 19 0,Mv 21 20,Gt 21 (.mov 22 5),Gt 21 (.bin 23 .lss 22 (kI 0)),Gt 21 (.mov 24 23),Gf 24 (.mov 25 1),Gf 24 (.mov 26 7),Gf 24 (.ixa 27 (.num .i64) 25 26),Gf 24 (.lde 28 1 false 27),Gf 24 (.mov 29 1),Gf 24 (.fad 30 9 2),Gf 24 (.lde 31 1 false 30),Gf 24 (.mov 32 5),Gf 24 (.ixa 33 (.num .i64) 31 32),Gf 24 (.lde 34 1 false 33),Gf 24 (.ixa 35 (.num .i64) 29 34),Gf 24 (.lde 36 1 false 35),Gf 24 (.bin 37 .lss 28 36),Gt 21 (.pick 38 24 (kB true) 37),Pa 39 21 38] [[],[],[0,1],[0,1,2],rg 0 3,rg 0 4,rg 0 5,rg 0 6,rg 0 7,rg 0 8,rg 0 8,rg 0 10,rg 0 11,rg 0 8,rg 0 8,rg 0 8++[14],rg 0 8,rg 0 8++[14,15,16],rg 0 8++rg 14 17,rg 0 8++rg 13 18,rg 0 8++rg 13 19,rg 0 20,rg 0 21,rg 0 22]) (Cn 39 (Rg [Mv 40 6,Mv 5 40]) .skip)))) (Rg [Bc 41 .add 11 1,Mv 11 41])))
def ac9:IR:=Rs [Mv 42 5,Mv 4 42] .ret
def ao2:IR:=Rs [Bx 2 0,Mi 4 0] (Rs [Mi 5 (-1)] (Sq (Rs [Fa 8 9 2,Lq 9 8,Ll 10 9,Mi 11 0] (.block 0 (.loop [1,2,5,9,10,11,1000000] 0 ac8))) ac9))
def afz:List RV:=[.t 4]
theorem ao3:FnC Try.prog abi [] 0 ahj Try.f78 ao2 afz:=fnC Try.func78
def anv(R:IR→(Ex→St→Ro)→St→Ro)(a:St→Ro):Ex→St→Ro:=(bk a [1,2,5,9,10,11,1000000] 0 (aP 0 (bj (R ac9) (fin afz))))
abbrev tP:Type:=(List Int×aA×Int×List Int×Int×Int)
def rN:tP→St:=fun(a,b,c,d,e,f)=>{env:=(.undef::.sl (.num .i64) (.may false) a::.ea (enc .atype b)::.undef::.undef::.int .i64 c::(U 3 (.sl (.num .i64) (.may false) d::.int .i64 e::.int .i64 f::(U 31 [])))),hp:=[]}
def ze(N:Nat):(St→Ro)→St→Ro:=fun a s=>run abi N ac8 (anv (run abi N) a) s
def tQ(N:Nat)(a:tP→Ro):tP→Ro:=fun(d,e,f,g,c,b)=>
 cond (decide (b<c)) (
 chk (ixl b g) (
 let h:=List.getD g (Int.toNat b) (aG (.num .i64))
 chk (ixl h d) (
 let k:=List.getD d (Int.toNat h) (aG (.num .i64))
 cond (decide (0≤k)) (
 cond (decide (f<0)) (
 let l:=(IntKind.wrap .i64 (b+1))
 a (d,e,b,g,c,l)) (
 chk (ixl h d) (
 let m:=List.getD d (Int.toNat h) (aG (.num .i64))
 chk (ixl f e.branches) (
 let j:=List.getD e.branches (Int.toNat f) (aG (.num .i64))
 chk (ixl j d) (
 let n:=List.getD d (Int.toNat j) (aG (.num .i64))
 cond (decide (m<n)) (
 let o:=(IntKind.wrap .i64 (b+1))
 a (d,e,b,g,c,o)) (
 let p:=(IntKind.wrap .i64 (b+1))
 a (d,e,f,g,c,p))))))) (
 let i:=(IntKind.wrap .i64 (b+1))
 a (d,e,f,g,c,i))))) (
 some (.int .i64 f,[]))
theorem amb(N:Nat):LB (ze N) rN (tQ N):=fun _ _=>by kernel_rfl
def qF(N:Nat)(a:aA)(b:List Int)(c:tP→Ro):Ro:=
 let d:=(↑(List.length a.branches):Int)
 c (b,a,(-1),a.branches,d,0)
def afA(N:Nat)(a:aA)(b:List Int):Ro:=qF N a b (fun z=>aS N (tQ N) z)
theorem anw(N:Nat)(a:aA)(c:List Int)(h:Tot (afA N a c) (fun z=>∃(d:Int)(rest:List aJ),z.1.dimR=.int .i64 d∧z.2=rest∧xl a c (d))):∃r,si a c r:=ao3.finP (N:=N) ((bu _ (by kernel_rfl) rfl (fun C=>qF N a c (fun z=>C 1000000 (rN z))) (fun C=>by kernel_rfl)).trans (Eq.trans (b:=qF N a c (fun z=>aW N (ze N) (rN z))) (by kernel_rfl) (congrArg (qF N a c) (funext fun z=>aV (rN) (ze N) (tQ N) (amb N) N z)))) h fun _ ⟨d,_,e,_,q⟩=>⟨(d),e,q⟩
def xd:ara:=fun f us=>match f,us with
 |75,[.sl (.num .i64) (.may _) a]=>some ((decide (0<List.length a)&&decide (List.length a≤1000)),none,⟨(.num .i64),a⟩)
 |_,_=>none
noncomputable def co:aL:=(adU xd (s3 (aco (P:=Try.prog) [atl])))
theorem amc:dQ co [75]:=(auA (by
 intro f us hf
 unfold xd
 split<;>first|rfl|(simp at hf)) (by
 intro f us hf
 unfold xd
 split<;>first|rfl|(simp at hf)) (oH _ _))
theorem anx:dB Try.prog co:=by
 refine awj ?_ ?_
 ·intro f us o k xs h
  unfold xd at h
  split at h
  ·simp only[Option.some.injEq,Prod.mk.injEq] at h
   obtain⟨hc,rfl,h2⟩:=h
   cases h2
   exact(auB _ hc).dim rfl
  ·simp at h
 exact acp _
def tR:IR:=Rs [Bi 16 .lss 15 14] (Sq (Cn 16 .skip (.exit 0)) (Sq (.block 1 (Rs [Mv 17 15,Mv 4 17] (.gh (.opn (.slot 3)) (.ghp (.cls (.slot 3)) (Rg [Mv 18 3,Mv 19 4,Pp (.ixw 20 (.num .i64) 18 19),Pp (.stw none 1 20 (kI (-1)))]))))) (Rg [Bc 21 .add 15 1,Mv 15 21])))
def ada:IR:=Rs [Bi 29 .lss 28 27] (Sq (Cn 29 .skip (.exit 4)) (Sq (.block 5 (Rs [Mv 30 28,Ix 31 .atype 26 28,Ld 32 10 true 31,Pp (.alr 8 10),Mv 7 30,Fz 8 10 32] (Rs [Mv 33 3,Mv 34 7,Ix 35 (.num .i64) 33 34,Lq 36 35,Bc 37 .lss 36 0] (Cn 37 (Sq (.gh (.opn (.slot 6)) (.ghp (.cls (.slot 6)) (Rg [Mv 38 6,Mv 39 7,Ld 40 10 true 8,Mv 41 3,Ca 42 76 [40,41],Pp (.ixw 43 (.num .i64) 38 39),Pp (.stw none 1 43 42)]))) (.gh (.opn (.slot 6)) (.ghp (.cls (.slot 6)) (Rg [Mv 44 5,Mv 45 44,Gf 45 (.mov 46 6),Gf 45 (.mov 47 7),Gf 45 (.ixw 48 (.num .i64) 46 47),Gf 45 (.ldw 49 1 false 48),Gf 45 (.bin 50 .geq 49 (kI 0)),Po 51 45 50,Mv 5 51])))) .skip)))) (Rg [Bc 52 .add 28 1,Mv 28 52])))
def adb:IR:=Rg [Pp (.mov 53 (.tk 6)),Pp (.mov 3 (.tk 53))]
def rO:IR:=Sq (Rs [Mv 22 5] (Cn 22 .skip (.exit 2))) (.block 3 (Sq (.gh (.fz (.slot 3)) (.ghp (.cls (.slot 6)) (Rg [Mv 23 3,Ca 24 75 [23],Pp (.mov 6 (.tk 24))]))) (Rs [Mb 5 false] (Sq (Rs [Fa 25 0 1,Lq 26 25,Ll 27 26,Mi 28 0] (.block 4 (.loop [1,3,5,6,26,27,28,1000001] 0 ada))) adb))))
def xB:IR:=Rs [Pp (.mov 54 (.tk 3)),Pp (.mov 2 (.tk 54))] (.gh (.fz (.slot 2)) .ret)
def xC:IR:=Sq (Rs [Mb 5 true] (.block 2 (.loop [1,3,5,1000002] 0 rO))) xB
def aqT:IR:=Rs [Bx 1 0,Pp (.mov 2 (.c (.ul (.num .i64) ([]:List Int))))] (Rs [Fa 9 0 1,Lq 10 9,Ll 11 10,Pp (.mku 12 (.num .i64) 11),Pp (.mov 3 (.tk 12))] (Sq (Rs [Mv 13 3,Pp (.lnw 14 13),Mi 15 0] (.block 0 (.loop [1,3,14,15,1000000] 0 tR))) xC))
def sG:List RV:=[.t 2]
theorem aqU:FnC Try.prog co [75] 0 ajc Try.f42 aqT sG:=⟨anx,amc,Try.func42,by kernel_rfl,by kernel_rfl,by decide⟩
def aai(R:IR→(Ex→St→Ro)→St→Ro)(a:St→Ro):Ex→St→Ro:=(bk a [1,3,14,15,1000000] 0 (aP 0 (bj (R xC) (fin sG))))
abbrev kD:Type:=(List aA×List Int×Int×Int)
def fx:kD→St:=fun(a,b,c,d)=>{env:=(.undef::.ea [.sl .atype (.may false) a]::.undef::.ul (.num .i64) b::(U 10 (.int .i64 c::.int .i64 d::(U 39 [])))),hp:=[]}
def vA(R:IR→(Ex→St→Ro)→St→Ro)(a:St→Ro):Ex→St→Ro:=(bk a [1,3,5,1000002] 0 (aP 2 (bj (R xB) (fin sG))))
abbrev ii:Type:=(List aA×List Int×Bool)
def cT:ii→St:=fun(a,b,c)=>{env:=(.undef::.ea [.sl .atype (.may false) a]::.undef::.ul (.num .i64) b::.undef::.bool c::(U 49 [])),hp:=[]}
def ao4(R:IR→(Ex→St→Ro)→St→Ro)(a b:St→Ro):Ex→St→Ro:=(bk b [1,3,5,6,26,27,28,1000001] 0 (aP 4 (bj (R adb) (aP 3 (vA R a)))))
abbrev vB:Type:=(List aA×List Int×Bool×List Int×List aA×Int×Int)
def ph:vB→St:=fun(a,b,c,d,e,f,g)=>{env:=(.undef::.ea [.sl .atype (.may false) a]::.undef::.sl (.num .i64) .own b::.undef::.bool c::.ul (.num .i64) d::(U 19 (.sl .atype (.may false) e::.int .i64 f::.int .i64 g::(U 26 [])))),hp:=[]}
def vC(N:Nat)(a:St→Ro):(St→Ro)→St→Ro:=fun b s=>run co N ada (ao4 (run co N) a b) s
def qG(N:Nat)(f:ii→Ro)(b:vB→Ro):vB→Ro:=fun(c,i,j,h,d,g,a)=>
 cond (decide (a<g)) (
 chk (ixl a d) (
 let o:=(List.getD d (Int.toNat a) (aG .atype))
 chk (ixl a i) (
 let p:=List.getD i (Int.toNat a) (aG (.num .i64))
 cond (decide (p<0)) (
 chk (decide (0<List.length h)) (
 aF (wl o i) (fun(q:Int)=>
 chk (decide (0≤a)&&decide (a<↑(List.length h))) (
 chk (decide ((Int.toNat a)<List.length h)) (
 let e:=(List.set h (Int.toNat a) q)
 chk (Nat.beq (List.length h) (List.length e)) (
 chk (decide (0<List.length e)) (
 cond j (
 chk (Nat.beq (List.length e) (List.length e)) (
 let k:=(IntKind.wrap .i64 (a+1))
 b (c,i,true,e,d,g,k))) (
 chk (decide (0≤a)&&decide (a<↑(List.length e))) (
 chk (decide ((Int.toNat a)<List.length e)) (
 let l:=List.getD e (Int.toNat a) (aG (.num .i64))
 chk (Nat.beq (List.length e) (List.length e)) (
 let m:=(IntKind.wrap .i64 (a+1))
 b (c,i,decide (0≤l),e,d,g,m)))))))))))) (
 let n:=(IntKind.wrap .i64 (a+1))
 b (c,i,j,h,d,g,n))))) (
 f (c,h,j))
theorem anz(N:Nat)(a:St→Ro):LB (vC N a) ph (qG N (fun y=>a (cT y))):=fun _ _=>by kernel_rfl
def qH(N:Nat):(St→Ro)→St→Ro:=fun a s=>run co N rO (vA (run co N) a) s
def tS(N:Nat)(c:ii→Ro)(d:vB→Ro):ii→Ro:=fun(a,b,e)=>
 cond e (
 chk (decide (0<List.length b)&&decide (List.length b≤1000)) (
 chk (Nat.beq (List.length b) (List.length b)) (
 let f:=(↑(List.length a):Int)
 d (a,b,false,b,a,f,0)))) (
 some (.sl (.num .i64) .own b,[]))
def nG(N:Nat)(a:ii→Ro)(x:ii):Ro:=tS N a (fun z=>aS N (qG N a) z) x
def aaj(N:Nat)(a:St→Ro):List (Nat×(St→Ro)):=(bQ co N rO (vA (run co N) a)++(bQ co N xB (fin sG)++[]))
theorem anA(N:Nat):∀(a:St→Ro)(x:ii),qH N a (cT x)=nG N (fun y=>a (cT y)) x:=by
 intro a x
 have hX:∀C:Nat→St→Ro,bT C co N rO (vA (bT C co N) a) (cT x)=tS N (fun y=>a (cT y)) (fun z=>C 1000001 (ph z)) x:=by
  intro C
  kernel_rfl
 have h:qH N a (cT x)=tS N (fun y=>a (cT y)) (fun z=>aW N (vC N a) (ph z)) x:=(cW (C:=fb (aaj N a)) (bS (ba (l:=(aaj N a)) (by kernel_rfl))) (iD (cD (fI (bS (dR (ba (l:=(aaj N a)) (by kernel_rfl)))) rfl))) _).trans ((hX _).trans (by kernel_rfl))
 have e2:(fun z=>aW N (vC N a) (ph z))=(fun z=>aS N (qG N (fun y=>a (cT y))) z):=funext fun z=>aV (ph) (vC N a) (qG N (fun y=>a (cT y))) (anz N a) N z
 rw[h,e2]
 rfl
def vD(N:Nat):(St→Ro)→St→Ro:=fun a s=>run co N tR (aai (run co N) a) s
def tT(N:Nat)(b:kD→Ro)(g:ii→Ro):kD→Ro:=fun(c,d,e,a)=>
 cond (decide (a<e)) (
 chk (decide (0<List.length d)) (
 chk (decide (0≤a)&&decide (a<↑(List.length d))) (
 chk (decide ((Int.toNat a)<List.length d)) (
 let f:=(List.set d (Int.toNat a) (-1))
 chk (Nat.beq (List.length d) (List.length f)) (
 let h:=(IntKind.wrap .i64 (a+1))
 b (c,f,e,h)))))) (
 g (c,d,true))
def vE(N:Nat)(a:kD→Ro)(x:kD):Ro:=tT N a (fun z=>aS N (nG N) z) x
def aak(N:Nat)(a:St→Ro):List (Nat×(St→Ro)):=(bQ co N tR (aai (run co N) a)++(bQ co N xC (fin sG)++[]))
theorem anB(N:Nat):∀(a:St→Ro)(x:kD),vD N a (fx x)=vE N (fun y=>a (fx y)) x:=by
 intro a x
 have hX:∀C:Nat→St→Ro,bT C co N tR (aai (bT C co N) a) (fx x)=tT N (fun y=>a (fx y)) (fun z=>C 1000002 (cT z)) x:=by
  intro C
  kernel_rfl
 have h:vD N a (fx x)=tT N (fun y=>a (fx y)) (fun z=>aW N (qH N) (cT z)) x:=(cW (C:=fb (aak N a)) (bS (ba (l:=(aak N a)) (by kernel_rfl))) (iD (cD (fI (bS (dR (ba (l:=(aak N a)) (by kernel_rfl)))) rfl))) _).trans ((hX _).trans (by kernel_rfl))
 have e1:(fun z=>aW N (qH N) (cT z))=(fun z=>aS N (nG N) z):=funext fun z=>aV (cT) (qH N) (nG N) (anA N) N z
 rw[h,e1]
 rfl
def sH(N:Nat)(a:List aA)(d:kD→Ro):Ro:=
 let b:=(↑(List.length a):Int)
 chk (decide (0≤b)&&decide (b*8≤140737488355328)) (
 let c:=(List.replicate (Int.toNat b) (aG (.num .i64)))
 let e:=(↑(List.length c):Int)
 d (a,c,e,0))
def ahW(N:Nat)(a:List aA):Ro:=sH N a (fun z=>aS N (vE N) z)
theorem ao5(N:Nat)(a:List aA)(h:Tot (ahW N a) (fun z=>∃(c:List Int)(rest:List aJ),z.1.dimR=.sl (.num .i64) (.may false) c∧z.2=rest∧s4 a (c))):∃r,qg a r:=aqU.finP (N:=N) ((bu _ (by kernel_rfl) rfl (fun C=>sH N a (fun z=>C 1000000 (fx z))) (fun C=>by kernel_rfl)).trans (Eq.trans (b:=sH N a (fun z=>aW N (vD N) (fx z))) (by kernel_rfl) (congrArg (sH N a) (funext fun z=>aV (fx) (vD N) (vE N) (anB N) N z)))) h fun _ ⟨c,_,e,_,q⟩=>⟨(c),e,q⟩
end Go.Proofs.Ytdpajabhmmmjoaa
end
noncomputable section
namespace Go.Proofs.Ytdpajabhmmmjoaa
open Go.AM
set_option autoImplicit false
set_option linter.unusedVariables false
set_option linter.unusedSimpArgs false
set_option maxRecDepth 100000
theorem atE(k:aA)(m:Nat)(hk:oJ m k)(r:List Int)(hr:r.length=m):∃b,si k r b:=by
 apply anw 1000
 unfold afA qF
 dsimp only
 have hnb:=hk.nb
 refine aT (fun x=>match x with
  |(r',k',b,l,n,i)=>r'=r∧k'=k∧l=k.branches∧n=(k.branches.length:Int)∧0≤i∧i≤(k.branches.length:Int)∧((b=-1∧∀j:Nat,(j:Int)<i→rk r (brT k j)<0)∨
    (0≤b∧b<i∧0≤rk r (brT k b.toNat)∧(∀j:Nat,(j:Int)<i→0≤rk r (brT k j)→rk r (brT k b.toNat)≤rk r (brT k j))∧(∀j,j<b.toNat→0≤rk r (brT k j)→rk r (brT k b.toNat)<rk r (brT k j)))))
  (fun x=>((k.branches.length:Int)-x.2.2.2.2.2).toNat) ?_ _ _ ⟨rfl,rfl,rfl,rfl,by simp,by simp,.inl ⟨rfl,fun j hj=>by omega⟩⟩ (by simp;omega)
 rintro again ⟨r',k',b,l,n,i⟩ ⟨rfl,rfl,rfl,rfl,i1,i2,i3⟩ ih
 dsimp only at ih
 unfold tQ
 dsimp only
 refine aC (fun h=>?_) (fun h=>?_)
 ·have h:=of_decide_eq_true h
  have hi:i.toNat<k'.branches.length:=by omega
  have hbr:=hk.branches _ (jr k'.branches i.toNat 0 hi)
  have ew:IntKind.i64.wrap (i+1)=i+1:=aI (i+1) (by omega)
  have keep:(0≤rk r' (brT k' i.toNat)→0≤b∧rk r' (brT k' b.toNat)≤rk r' (brT k' i.toNat))→Tot (again (r',k',b,k'.branches,(k'.branches.length:Int),IntKind.i64.wrap (i+1))) _:=fun hk'=>ih (r',k',b,k'.branches,_,IntKind.i64.wrap (i+1)) (by
   simp only[ew]
   refine⟨trivial,trivial,trivial,trivial,by omega,by omega,?_⟩
   rcases i3 with⟨rfl,j1⟩|⟨j1,j2,j3,j4,j5⟩
   ·refine .inl ⟨rfl,fun j hj=>?_⟩
    by_cases hji:(j:Int)<i
    ·exact j1 j hji
    ·have e:j=i.toNat:=by omega
     rw[e]
     by_cases h0:0≤rk r' (brT k' i.toNat)
     ·have:=(hk' h0).1;omega
     ·omega
   ·refine .inr ⟨j1,by omega,j3,fun j hj h0=>?_,j5⟩
    by_cases hji:(j:Int)<i
    ·exact j4 j hji h0
    ·have e:j=i.toNat:=by omega
     rw[e] at h0 ⊢;exact(hk' h0).2) (by simp only[ew];omega)
  have turn:0≤rk r' (brT k' i.toNat)→(0≤b→rk r' (brT k' i.toNat)<rk r' (brT k' b.toNat))→Tot (again (r',k',i,k'.branches,(k'.branches.length:Int),IntKind.i64.wrap (i+1))) _:=fun h0 hlt=>ih (r',k',i,k'.branches,_,IntKind.i64.wrap (i+1)) (by
   simp only[ew]
   refine⟨trivial,trivial,trivial,trivial,by omega,by omega,.inr ⟨i1,by omega,h0,fun j hj h0'=>?_,fun j hj h0'=>?_⟩⟩
   ·by_cases hji:(j:Int)<i
    ·rcases i3 with⟨rfl,j1⟩|⟨j1,j2,j3,j4,j5⟩
     ·have:=j1 j hji;omega
     ·have:=j4 j hji h0'
      have:=hlt j1
      omega
    ·have e:j=i.toNat:=by omega
     rw[e];exact Int.le_refl _
   ·rcases i3 with⟨rfl,j1⟩|⟨j1,j2,j3,j4,j5⟩
    ·have:=j1 j (by omega);omega
    ·have:=j4 j (by omega) h0'
     have:=hlt j1
     omega) (by simp only[ew];omega)
  refine vck ?_
  change Tot (chk (decide (0≤brT k' i.toNat)&&decide (brT k' i.toNat<(r'.length:Int))) (cond (decide (0≤rk r' (brT k' i.toNat))) (cond (decide (b<0)) _
   (chk (decide (0≤brT k' i.toNat)&&decide (brT k' i.toNat<(r'.length:Int))) (chk _ (chk (decide (0≤brT k' b.toNat)&&decide (brT k' b.toNat<(r'.length:Int))) (cond (decide (rk r' (brT k' i.toNat)<rk r' (brT k' b.toNat))) _ _))))) _)) _
  have hbr:0≤brT k' i.toNat∧brT k' i.toNat<(m:Int):=hbr
  refine vck (aC (fun h0=>?_) (fun h0=>keep fun h0'=>absurd h0' (of_decide_eq_false h0)))
  have h0:=of_decide_eq_true h0
  refine aC (fun h1=>turn h0 fun h1'=>absurd h1' (Int.not_le.2 (of_decide_eq_true h1))) (fun h1=>?_)
  have h1:=of_decide_eq_false h1
  have hbl:b<i:=by
   rcases i3 with⟨rfl,j1⟩|⟨j1,j2,j3,j4,j5⟩<;>omega
  have hbb:=hk.branches _ (jr k'.branches b.toNat 0 (by omega))
  have hbb:0≤brT k' b.toNat∧brT k' b.toNat<(m:Int):=hbb
  refine vck (vck (vck (aC (fun h2=>turn h0 fun _=>of_decide_eq_true h2) (fun h2=>keep fun _=>?_))))
  have h2:=of_decide_eq_false h2
  omega
 ·have h:=of_decide_eq_false h
  refine aE ⟨_,_,rfl,rfl,?_⟩
  rcases i3 with⟨rfl,j1⟩|⟨j1,j2,j3,j4,j5⟩
  ·exact .inl ⟨rfl,fun j hj=>j1 j (by omega)⟩
  ·exact .inr ⟨⟨j1,by omega,fun j hj h0=>⟨j3,j4 j (by omega) h0⟩,j5⟩,j3⟩
theorem avK(k:aA)(m:Nat)(hk:oJ m k)(r:List Int)(hr:r.length=m)(hb:∀i,i<r.length→-1≤r.getD i 0∧r.getD i 0≤1000):∃q,wl k r q:=by
 apply aqS 1000
 unfold ajX uP
 dsimp only
 have hpost:∀q,zV k r q=((q=-1∧acv k r)∨adT k r q):=fun _=>rfl
 simp only[hpost]
 refine aC (fun h9=>?_) (fun h9=>aC (fun h14=>?_) (fun h14=>?_))
 ·have h9:k.kind=9:=by simp only[bnl] at h9;exact h9
  have hnf:=hk.nf
  refine aT (fun x=>match x with
   |(r',best,l,n,i)=>r'=r∧l=k.fields∧n=(k.fields.length:Int)∧0≤i∧i≤(k.fields.length:Int)∧0≤best∧best≤1000∧(∀f∈k.fields.take i.toNat,0≤rk r f.typ∧rk r f.typ≤best)∧(1≤best→∃j,j<r.length∧r.getD j 0=best))
   (fun x=>((k.fields.length:Int)-x.2.2.2.2).toNat) ?_ _ _ ⟨rfl,rfl,rfl,by simp,by simp,by simp,by simp,by simp,by simp⟩ (by simp;omega)
  rintro again ⟨r',best,l,n,i⟩ ⟨rfl,rfl,rfl,i1,i2,i3,i4,i5,i6⟩ ih
  dsimp only at ih
  unfold xc
  dsimp only
  refine aC (fun h=>?_) (fun h=>?_)
  ·have h:=of_decide_eq_true h
   have hi:i.toNat<k.fields.length:=by omega
   have hm:=jr k.fields i.toNat (aG .afield) hi
   have hf:=hk.fields _ hm
   have ew:IntKind.i64.wrap (i+1)=i+1:=aI (i+1) (by omega)
   have ht:=aaT k.fields i.toNat (aG .afield) hi
   refine vck ?_
   generalize k.fields.getD i.toNat (aG .afield)=f at*
   refine vck ?_
   have hq:=hb f.typ.toNat (by omega)
   refine aC (fun h0=>aE ⟨_,_,rfl,rfl,.inl ⟨rfl,.inl ⟨h9,f,hm,of_decide_eq_true h0⟩⟩⟩) (fun h0=>?_)
   have h0:¬r'.getD f.typ.toNat 0<0:=of_decide_eq_false h0
   refine vck ?_
   refine ih (r',_,k.fields,_,_) ?_ (by simp only[ew];omega)
   simp only[ew]
   have ei:(i+1).toNat=i.toNat+1:=by omega
   have em:(if best<r'.getD f.typ.toNat (aG (.num .i64)) then r'.getD f.typ.toNat (aG (.num .i64)) else best)=(if best<r'.getD f.typ.toNat 0 then r'.getD f.typ.toNat 0 else best):=rfl
   rw[em,ei,ht]
   refine⟨trivial,trivial,trivial,by omega,by omega,by split<;>omega,by split<;>omega,fun g hg=>?_,fun h1=>?_⟩
   ·rcases List.mem_append.1 hg with hg|hg
    ·have:=i5 g hg;split<;>omega
    ·rw[List.mem_singleton] at hg
     subst hg
     have:rk r' g.typ=r'.getD g.typ.toNat 0:=rfl
     rw[this];split<;>omega
   ·split
    ·exact⟨f.typ.toNat,by omega,rfl⟩
    ·rename_i hh;rw[if_neg hh] at h1;exact i6 h1
  ·have h:=of_decide_eq_false h
   refine aC (fun h1=>by have:=of_decide_eq_true h1;omega) (fun h1=>aE ⟨_,_,rfl,rfl,.inr ?_⟩)
   rw[aI _ (by omega)]
   rw[List.take_of_length_le (by omega)] at i5
   exact⟨by omega,fun _=>by omega,fun h'=>by omega,fun _ f hf=>by have:=i5 f hf;omega,fun h2=>by
    obtain⟨j,hj,e⟩:=i6 (by omega)
    exact⟨j,hj,by omega⟩⟩
 ·have h9:k.kind≠9:=by simp only[bnl] at h9;exact h9
  have h14:k.kind=14:=by simp only[bnl] at h14;exact h14
  refine aD (atE k m hk r hr) ?_
  rintro(b:Int) ⟨-,hbp⟩
  refine aC (fun h0=>?_) (fun h0=>aC (fun _=>aE ⟨_,_,rfl,rfl,.inl ⟨rfl,.inr ⟨h14,fun c hc=>?_⟩⟩⟩) (fun h1=>absurd (of_decide_eq_false h1) (by decide)))
  rotate_left
  ·have h0:=of_decide_eq_false h0
   rcases hbp with⟨-,hall⟩|⟨hc', -⟩
   ·obtain⟨j,hj,rfl⟩:=List.mem_iff_getElem.1 hc
    have:=hall j hj
    unfold brT at this
    rwa [List.getD_eq_getElem?_getD,List.getElem?_eq_getElem hj] at this
   ·have:=hc'.nn;omega
  have h0:=of_decide_eq_true h0
  rcases hbp with⟨rfl,_⟩|⟨hc,hr0⟩
  ·omega
  have hlt:=hc.lt
  have hmem:=jr k.branches b.toNat 0 (by omega)
  have hbr:=hk.branches _ hmem
  refine vck ?_
  change Tot (chk (decide (0≤brT k b.toNat)&&decide (brT k b.toNat<(r.length:Int))) (cond (decide (rk r (brT k b.toNat)<0)) _ (some (V.int .i64 (IntKind.wrap .i64 (rk r (brT k b.toNat)+1)),([]:List aJ))))) _
  have hbr:0≤brT k b.toNat∧brT k b.toNat<(m:Int):=hbr
  have hq:-1≤rk r (brT k b.toNat)∧rk r (brT k b.toNat)≤1000:=hb (brT k b.toNat).toNat (by omega)
  refine vck (aC (fun h1=>by have h1:rk r (brT k b.toNat)<0:=of_decide_eq_true h1;omega) (fun h1=>aE ⟨_,_,rfl,rfl,.inr ?_⟩))
  rw[aI _ (by omega)]
  exact⟨by omega,fun _=>by omega,fun _=>⟨brT k b.toNat,hmem,hr0,by omega⟩,fun h'=>absurd h' h9,fun h2=>⟨(brT k b.toNat).toNat,by omega,rfl⟩⟩
 ·have h9:k.kind≠9:=by simp only[bnl] at h9;exact h9
  have h14:k.kind≠14:=by simp only[bnl] at h14;exact h14
  exact aE ⟨_,_,rfl,rfl,.inr ⟨by omega,fun h'=>by omega,fun h'=>absurd h' h14,fun h'=>absurd h' h9,fun h2=>by omega⟩⟩
end Go.Proofs.Ytdpajabhmmmjoaa
end
noncomputable section
namespace Go.Proofs.Ytdpajabhmmmjoaa
open Go.AM
set_option autoImplicit false
set_option linter.unusedVariables false
set_option linter.unusedSimpArgs false
set_option maxRecDepth 100000
theorem adT.mono{k:aA}{r r':List Int}{m:Int}(h:adT k r m)(hl:r'.length=r.length)(hr:∀i,0≤r.getD i 0→r'.getD i 0=r.getD i 0):adT k r' m where
 low:=h.low
 pos:=h.pos
 uni h14:=by
  obtain⟨b,hb,h0,h1⟩:=h.uni h14
  exact⟨b,hb,by unfold rk at *;rw[hr _ h0];exact h0,by unfold rk at *;rw[hr _ h0];exact h1⟩
 rcd h9 f hf:=by
  obtain⟨h0,h1⟩:=h.rcd h9 f hf
  exact⟨by unfold rk at *;rw[hr _ h0];exact h0,by unfold rk at *;rw[hr _ h0];exact h1⟩
 pre h2:=by
  obtain⟨j,hj,e⟩:=h.pre h2
  exact⟨j,by omega,by rw[hr _ (by omega)];exact e⟩
theorem ae4.step{ts:List aA}{r next:List Int}{m:Int}(h:ae4 ts r m)(hm:0≤m)(hl:next.length=ts.length)(h1:∀j,j<ts.length→0≤r.getD j 0→next.getD j 0=r.getD j 0)
  (h2:∀j,j<ts.length→r.getD j 0<0→next.getD j 0=-1∨adT (ts.getD j (aG .atype)) r (next.getD j 0)):ae4 ts next (m+1):=by
 have hrl:=h.len
 have hmono:∀i,0≤r.getD i 0→next.getD i 0=r.getD i 0:=fun i hi=>by
  by_cases hil:i<ts.length
  ·exact h1 i hil hi
  ·simp[List.getD_eq_getElem?_getD,List.getElem?_eq_none (show next.length≤i by omega),List.getElem?_eq_none (show r.length≤i by omega)]
 refine⟨hl,fun i hi=>?_,fun i hi=>?_,fun i hi h'=>?_⟩
 ·by_cases h0:0≤r.getD i 0
  ·rw[hmono i h0];omega
  ·rcases h2 i (by omega) (by omega) with e|e
   ·omega
   ·have:=e.low;omega
 ·by_cases h0:0≤r.getD i 0
  ·rw[hmono i h0];have:=h.top i (by omega);omega
  ·rcases h2 i (by omega) (by omega) with e|e
   ·omega
   ·by_cases hp:2≤next.getD i 0
    ·obtain⟨j,hj,ej⟩:=e.pre hp
     have:=h.top j hj;omega
    ·omega
 ·by_cases h0:0≤r.getD i 0
  ·rw[hmono i h0] at h' ⊢;exact(h.ok i (by omega) h').mono (by omega) hmono
  ·rcases h2 i (by omega) (by omega) with e|e
   ·omega
   ·exact e.mono (by omega) hmono
theorem anC(ts:List aA)(hs:dS ts):∃r,qg ts r:=by
 apply ao5 1000
 unfold ahW sH
 dsimp only
 obtain⟨⟨hn0,hn⟩,hall⟩:=hs
 have hs:dS ts:=⟨⟨hn0,hn⟩,hall⟩
 refine vck ?_
 have rounds:∀r,ae4 ts r 0→Tot (aS 1000 (nG 1000) (ts,r,true)) (fun z=>∃(y0:List Int)(rest:List aJ),z.1.dimR=.sl (.num .i64) (.may false) y0∧z.2=rest∧s4 ts y0):=by
  intro r hr
  have hnl:=alR r
  have hrl:=hr.len
  refine aT (fun x=>match x with|(ts',r,more)=>ts'=ts∧(more=false→∀j,j<ts.length→r.getD j 0<0→acv (ts.getD j (aG .atype)) r)∧∃m:Int,0≤m∧m+(uN r:Int)≤ts.length∧ae4 ts r m)
   (fun x=>uN x.2.1+(if x.2.2 then 1 else 0)) ?_ _ _ ⟨rfl,(fun h=>by cases h),0,by omega,by omega,hr⟩ (by simp only[if_true];omega)
  rintro again ⟨ts',r,more⟩ ⟨rfl,i0,m,i1,i2,i3⟩ ih
  dsimp only at ih
  unfold nG tS
  dsimp only
  have hrl:=i3.len
  have hnn:(0:Int)≤(uN r:Int):=by omega
  refine aC (fun hmore=>?_) (fun hmore=>aE ⟨_,_,rfl,rfl,⟨i3.len,i3.low,fun i hi=>by have:=i3.top i hi;omega,i3.ok⟩,i0 hmore⟩)
  subst hmore
  refine vck (vck ?_)
  refine aT (fun x=>match x with|(ts2,r2,mo,next,ts3,n2,i)=>ts2=ts'∧r2=r∧ts3=ts'∧n2=(ts'.length:Int)∧0≤i∧i≤(ts'.length:Int)∧next.length=ts'.length∧(∀j,j<ts'.length→(0≤r.getD j 0∨i≤(j:Int))→next.getD j 0=r.getD j 0)∧
    (∀j,j<ts'.length→(j:Int)<i→r.getD j 0<0→(next.getD j 0=-1∧acv (ts'.getD j (aG .atype)) r)∨adT (ts'.getD j (aG .atype)) r (next.getD j 0))∧
    (mo=true→∃j,j<ts'.length∧r.getD j 0<0∧0≤next.getD j 0)∧(mo=false→∀j,j<ts'.length→r.getD j 0<0→next.getD j 0<0))
   (fun x=>((ts'.length:Int)-x.2.2.2.2.2.2).toNat) ?_ _ _ ⟨rfl,rfl,rfl,rfl,by simp,by simp,by simpa using hrl,fun j _ _=>rfl,fun j _ hj=>by omega,by simp,fun _ j _ h=>h⟩ (by simp;omega)
  rintro again2 ⟨ts2,r2,mo,next,ts3,n2,i⟩ ⟨rfl,rfl,rfl,rfl,j1,j2,j3,j4,j5,j6,j7⟩ ih2
  dsimp only at ih2
  unfold qG
  dsimp only
  refine aC (fun h'=>?_) (fun h'=>?_)
  ·have h':=of_decide_eq_true h'
   have ei:IntKind.i64.wrap (i+1)=i+1:=aI (i+1) (by omega)
   have hil:i.toNat<ts3.length:=by omega
   have hty:=hs.at hil
   refine vck (vck (aC (fun h0=>?_) (fun h0=>?_)))
   ·have h0:r2.getD i.toNat 0<0:=of_decide_eq_true h0
    have hold:next.getD i.toNat 0=r2.getD i.toNat 0:=j4 _ hil (.inr (by omega))
    refine vck (aD (avK _ ts3.length hty r2 hrl fun q hq=>⟨i3.low q hq,by have:=i3.top q hq;omega⟩) ?_)
    rintro(q:Int) ⟨-,hq⟩
    have hlen:(next.set i.toNat q).length=ts3.length:=by simpa using j3
    have hq1:-1≤q:=by
     rcases hq with e|e
     ·omega
     ·have:=e.low;omega
    have nx:∀mo':Bool,(mo'=true→(mo=true∨0≤q))→(mo'=false→mo=false∧q<0)→Tot (again2 (ts3,r2,mo',next.set i.toNat q,ts3,(ts3.length:Int),IntKind.i64.wrap (i+1))) _:=fun mo' hmo hmf=>ih2 (ts3,r2,mo',next.set i.toNat q,ts3,_,IntKind.i64.wrap (i+1)) (by
     simp only[ei]
     refine⟨trivial,trivial,trivial,trivial,by omega,by omega,hlen,fun j hj hc=>?_,fun j hj hji hneg=>?_,fun hm=>?_,fun hm j hj hneg=>?_⟩
     ·have hne:i.toNat≠j:=fun e=>by rw[e] at h0;omega
      rw[gr _ _ _ _ _ hne]
      exact j4 j hj (by omega)
     ·by_cases hh:(j:Int)<i
      ·rw[gr _ _ _ _ _ (by omega)]
       exact j5 j hj hh hneg
      ·have e:j=i.toNat:=by omega
       rw[e,qw _ _ _ _ (by omega)]
       exact hq
     ·rcases hmo hm with hm|hm
      ·obtain⟨j,a1,a2,a3⟩:=j6 hm
       have hne:i.toNat≠j:=fun e=>by rw[←e,hold] at a3;omega
       exact⟨j,a1,a2,by rw[gr _ _ _ _ _ hne];exact a3⟩
      ·exact⟨i.toNat,hil,h0,by rw[qw _ _ _ _ (by omega)];exact hm⟩
     ·by_cases hh:i.toNat=j
      ·rw[←hh,qw _ _ _ _ (by omega)];exact(hmf hm).2
      ·rw[gr _ _ _ _ _ hh];exact j7 (hmf hm).1 j hj hneg) (by simp only[ei];omega)
    refine vck (vck (aH (by simp) (aH (by rw[hlen];first|(simp only[bnl,lnl];done)|(simp only[bnl,lnl];omega)) ?_)))
    refine aC (fun hm=>?_) (fun hm=>?_)
    ·exact aH (by simp) (nx true (fun _=>.inl hm) (fun h=>by cases h))
    ·refine aH (by rw[hlen];first|(simp only[bnl,lnl];done)|(simp only[bnl,lnl];omega)) (aH (by rw[hlen];first|(simp only[bnl,lnl];done)|(simp only[bnl,lnl];omega)) (aH (by simp) ?_))
     have eg:(next.set i.toNat q).getD i.toNat (aG (.num .i64))=q:=qw _ _ _ _ (by omega)
     rw[eg]
     exact nx _ (fun h=>.inr (of_decide_eq_true h)) (fun h=>⟨hm,by have:=of_decide_eq_false h;omega⟩)
   ·have h0:¬r2.getD i.toNat 0<0:=of_decide_eq_false h0
    refine ih2 (ts3,r2,mo,next,ts3,_,_) ?_ (by simp only[ei];omega)
    simp only[ei]
    refine⟨trivial,trivial,trivial,trivial,by omega,by omega,j3,fun j hj hc=>j4 j hj (by omega),fun j hj hji hneg=>?_,j6,j7⟩
    by_cases hh:(j:Int)<i
    ·exact j5 j hj hh hneg
    ·have:j=i.toNat:=by omega
     rw[this] at hneg;omega
  ·have h':=of_decide_eq_false h'
   have hst:=i3.step i1 j3 (fun j hj h0=>j4 j hj (.inl h0)) fun j hj h0=>(j5 j hj (by omega) h0).imp And.left id
   have hsub:∀j,j<next.length→next.getD j 0<0→r2.getD j 0<0:=fun j hj hx=>by
    by_cases h0:0≤r2.getD j 0
    ·rw[j4 j (by omega) (.inl h0)] at hx;omega
    ·omega
   cases hmo:mo with
   |true=>
    obtain⟨j,a1,a2,a3⟩:=j6 hmo
    have hlt:=aoT next r2 (by omega) hsub j (by omega) a3 a2
    exact ih (ts3,next,true) ⟨rfl,(fun h=>by cases h),m+1,by omega,(by dsimp only;omega),hst⟩ (by simp only[if_true];omega)
   |false=>
    have hle:=aoS next r2 (by omega) hsub
    have hj7:=j7 hmo
    refine ih (ts3,next,false) ⟨rfl,(fun _ j hj hx=>?_),m,by omega,(by dsimp only;omega),hst.len,hst.low,fun j hj=>?_,hst.ok⟩ (by simp;omega)
    ·have hx:next.getD j 0<0:=hx
     have hj:j<ts3.length:=hj
     rcases j5 j hj (by omega) (hsub j (by omega) hx) with⟨_,e⟩|e
     ·have hty:=hs.at hj
      rcases e with⟨e1,f,hf,e2⟩|⟨e1,e2⟩
      ·have:=hty.fields f hf
       exact .inl ⟨e1,f,hf,hj7 f.typ.toNat (by omega) e2⟩
      ·refine .inr ⟨e1,fun b hb=>?_⟩
       have:=hty.branches b hb
       exact hj7 b.toNat (by omega) (e2 b hb)
     ·have:=e.low;omega
    have hj:j<next.length:=hj
    show next.getD j 0≤m
    by_cases h0:0≤r2.getD j 0
    ·rw[j4 j (by omega) (.inl h0)];exact i3.top j (by omega)
    ·have:=hj7 j (by omega) (by omega);omega
 have hr0:(List.replicate (ts.length:Int).toNat (aG (.num .i64))).length=ts.length:=by simp
 refine aT (fun x=>match x with|(ts',r,n,i)=>ts'=ts∧n=(ts.length:Int)∧0≤i∧i≤(ts.length:Int)∧r.length=ts.length∧∀j,j<ts.length→(j:Int)<i→r.getD j 0=-1)
  (fun x=>((ts.length:Int)-x.2.2.2).toNat) ?_ _ _ ⟨rfl,by rw[hr0],by simp,by simp,hr0,fun j _ hj=>by omega⟩ (by simp;omega)
 rintro again ⟨ts',r,n,i⟩ ⟨rfl,rfl,i1,i2,i3,i4⟩ ih
 dsimp only at ih
 unfold vE tT
 dsimp only
 refine aC (fun h=>?_) (fun h=>?_)
 ·have h:=of_decide_eq_true h
  have ei:IntKind.i64.wrap (i+1)=i+1:=aI (i+1) (by omega)
  refine vck (vck (vck (aH (by simp) ?_)))
  refine ih (ts',_,_,_) ?_ (by simp only[ei];omega)
  simp only[ei]
  refine⟨trivial,trivial,by omega,by omega,by simpa using i3,fun j hj hji=>?_⟩
  by_cases hh:i.toNat=j
  ·rw[←hh,qw _ _ _ _ (by omega)]
  ·rw[gr _ _ _ _ _ hh];exact i4 j hj (by omega)
 ·have h:=of_decide_eq_false h
  refine rounds r ⟨i3,fun j hj=>?_,fun j hj=>?_,fun j hj h1=>?_⟩
  all_goals have:=i4 j (by omega) (by omega)
  all_goals omega
end Go.Proofs.Ytdpajabhmmmjoaa
end
noncomputable section
namespace Go.Proofs.Ytdpajabhmmmjoaa
open Go.AM
set_option autoImplicit false
set_option linter.unusedVariables false
set_option linter.unusedSimpArgs false
set_option maxRecDepth 100000
theorem amd(w:List Int)(i:Nat)(x:Int):∀l:List Int,(∀p∈l,p.toNat≠i)→an0 (w.set i x) l=an0 w l
 | [],_=>rfl
 |p::l,h=>by
  have:=amd w i x l fun p hp=>h p (by simp[hp])
  simp only[an0,this,rk]
  rw[gr _ _ _ _ _ (fun e=>h p (by simp) e.symm)]
theorem arT.set{ts:List aA}{r w:List Int}(h:arT ts r w){t:Nat}(ht:t<ts.length)(h0:w.getD t 0=0)(hr:0≤r.getD t 0){n:Int}(hn:1≤n∧n≤1000000){l:List Int}(hl:awF (ts.getD t (aG .atype)) r l)
  (hp:∀p∈l,rk w p≠0) (hsum:n=axD (1+an0 w l)):arT ts r (w.set t n):=by
 have hwl:=h.len
 have key:∀l:List Int,(∀p∈l,rk w p≠0)→(∀p∈l,p.toNat≠t):=fun l hl p hp e=>by
  have:=hl p hp
  unfold rk at this
  rw[e] at this;exact this h0
 have keep:∀l:List Int,(∀p∈l,rk w p≠0)→(∀p∈l,rk (w.set t n) p≠0):=fun l hl p hp=>by
  unfold rk
  rw[gr _ _ _ _ _ (fun e=>key l hl p hp e.symm)]
  exact hl p hp
 refine⟨by simpa using hwl,fun i hi=>?_,fun i hi hne=>?_⟩
 ·by_cases e:t=i
  ·rw[←e,qw _ _ _ _ (by omega)];omega
  ·rw[gr _ _ _ _ _ e];exact h.low i hi
 ·by_cases e:t=i
  ·rw[←e,qw _ _ _ _ (by omega)]
   exact⟨hr,l,hl,keep l hp,by rw[amd _ _ _ _ (key l hp)];exact hsum⟩
  ·rw[gr _ _ _ _ _ e] at hne ⊢
   obtain⟨a1,l',a2,a3,a4⟩:=h.ok i hi hne
   exact⟨a1,l',a2,keep l' a3,by rw[amd _ _ _ _ (key l' a3)];exact a4⟩
end Go.Proofs.Ytdpajabhmmmjoaa
end
noncomputable section
namespace Go.Proofs.Ytdpajabhmmmjoaa
open Go.AM
set_option autoImplicit false
set_option linter.unusedVariables false
set_option maxRecDepth 100000
noncomputable def agN:aL:=tab (P:=Try.prog) [] [] [] [arW]
def ahX:IR:=Rs [Bi 10 .lss 9 8] (Sq (Cn 10 .skip (.exit 0)) (Sq (.block 1 (Rs [Ix 11 (.num .i64) 7 9,Lq 12 11,Mv 5 12] (Rg [Pp (.mov 13 (.tk 3)),Mv 14 5,Bc 15 .geq 14 0,Pp (.bsl 16 .bool [15] true),Pp (.app 17 .bool (.tk 13) 16),Pp (.mov 3 (.tk 17))]))) (Rg [Bc 18 .add 9 1,Mv 9 18])))
def ahY:IR:=Rs [Pp (.mov 19 (.tk 3)),Pp (.mov 2 (.tk 19))] .ret
def atF:IR:=Rs [Bx 1 0,Pp (.mov 2 (.c (nl .bool)))] (Rs [Pp (.mov 3 (.c (nl .bool)))] (Sq (Rs [Ld 6 1 true 1,Ca 7 42 [6],Ll 8 7,Mi 9 0] (.block 0 (.loop [3,7,8,9,1000000] 0 ahX))) ahY))
def alc:List RV:=[.t 2]
theorem atG:FnC Try.prog agN [] 0 ans Try.f16 atF alc:=fnC Try.func16
def asJ(R:IR→(Ex→St→Ro)→St→Ro)(a:St→Ro):Ex→St→Ro:=(bk a [3,7,8,9,1000000] 0 (aP 0 (bj (R ahY) (fin alc))))
abbrev zf:Type:=(List Bool×List Int×Int×Int)
def xf:zf→St:=fun(a,b,c,d)=>{env:=(U 3 (.sl .bool .own a::(U 3 (.sl (.num .i64) (.may false) b::.int .i64 c::.int .i64 d::(U 10 []))))),hp:=[]}
def adc(N:Nat):(St→Ro)→St→Ro:=fun a s=>run agN N ahX (asJ (run agN N) a) s
def uQ(N:Nat)(a:zf→Ro):zf→Ro:=fun(c,d,e,b)=>
 cond (decide (b<e)) (
 chk (ixl b d) (
 let f:=List.getD d (Int.toNat b) (aG (.num .i64))
 chk (decide ((List.length c+List.length ([decide (0≤f)]:List Bool))*1≤140737488355328)) (
 let g:=(c++([decide (0≤f)]:List Bool))
 let h:=(IntKind.wrap .i64 (b+1))
 a (g,d,e,h)))) (
 some (.sl .bool .own c,[]))
theorem aqV(N:Nat):LB (adc N) xf (uQ N):=fun _ _=>by kernel_rfl
def wz(N:Nat)(a:List aA)(c:zf→Ro):Ro:=
 aF (qg a) (fun(b:List Int)=>
 let d:=(↑(List.length b):Int)
 c (([]:List Bool),b,d,0))
def ald(N:Nat)(a:List aA):Ro:=wz N a (fun z=>aS N (uQ N) z)
theorem asK(N:Nat)(a:List aA)(h:Tot (ald N a) (fun z=>∃(c:List Bool)(rest:List aJ),z.1.dimR=.sl .bool (.may false) c∧z.2=rest∧ahk a (c))):∃r,vw a r:=atG.finP (N:=N) ((bu _ (by kernel_rfl) rfl (fun C=>wz N a (fun z=>C 1000000 (xf z))) (fun C=>by kernel_rfl)).trans (Eq.trans (b:=wz N a (fun z=>aW N (adc N) (xf z))) (by kernel_rfl) (congrArg (wz N a) (funext fun z=>aV (xf) (adc N) (uQ N) (aqV N) N z)))) h fun _ ⟨c,_,e,_,q⟩=>⟨(c),e,q⟩
end Go.Proofs.Ytdpajabhmmmjoaa
end
noncomputable section
namespace Go.Proofs.Ytdpajabhmmmjoaa
open Go.AM
set_option autoImplicit false
set_option linter.unusedVariables false
set_option maxRecDepth 100000
end Go.Proofs.Ytdpajabhmmmjoaa
end
noncomputable section
namespace Go.Proofs.Ytdpajabhmmmjoaa
open Go.AM
set_option autoImplicit false
set_option linter.unusedVariables false
set_option maxRecDepth 100000
end Go.Proofs.Ytdpajabhmmmjoaa
end
noncomputable section
namespace Go.Proofs.Ytdpajabhmmmjoaa
open Go.AM
set_option autoImplicit false
set_option linter.unusedVariables false
set_option linter.unusedSimpArgs false
set_option maxRecDepth 100000
theorem at7{R R':Type}{Q:R→Prop}[Inhabited R']{C:R'→Prop}{K:R'→Option R}(h:∃r,C r)(hK:C (pick C)→Tot (K (pick C)) Q):Tot (aF C K) Q:=aH (amA h) (hK (ace h))
theorem anD(ts:List aA)(hs:dS ts):lO ts (rkS ts) ts.length:=(ace (ajU ts hs)).2.1
theorem awu(ts:List aA)(hs:dS ts):agx ts (rkS ts):=(ace (ajU ts hs)).2.2
end Go.Proofs.Ytdpajabhmmmjoaa
end
noncomputable section
namespace Go.Proofs.Ytdpajabhmmmjoaa
open Go.AM
set_option autoImplicit false
set_option linter.unusedVariables false
set_option linter.unusedSimpArgs false
set_option maxRecDepth 100000
end Go.Proofs.Ytdpajabhmmmjoaa
end
noncomputable section
namespace Go.Proofs.Ytdpajabhmmmjoaa
open Go.AM
set_option autoImplicit false
set_option linter.unusedVariables false
set_option maxRecDepth 100000
end Go.Proofs.Ytdpajabhmmmjoaa
end
