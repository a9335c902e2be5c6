import Derived.Test.YtkinflmjagfapaaDoorChecked
import Derived.WalkKit
import Derived.WalkSpells
import Derived.Laws.Externs
import Derived.Lib.Builder
import Derived.Lib.UnsafeStr
import Derived.KernelRfl
import Derived.Lib.Bytealg
import Derived.Test.YtkinflmjagfapaaDoorZ02
noncomputable section
namespace Go.AM
set_option autoImplicit false
set_option linter.unusedSimpArgs false
set_option linter.unusedVariables false
def V.flatM(n:Nat):V→Bool
 | .mr k=>decide (k<n)
 | .mp _ _=>true
 |v=>v.flatO
section
variable{I:Nat→Nat→Prop}{ρ ρ':Nat→Nat}{N N' n:Nat}{w:World}{P:Program}
theorem VRel.flatM{v:V}{cv:Value}(h:VRel I ρ N w v cv)(hf:v.flatM n=true)(hr:∀k,k<n→ρ' k=ρ k)(hn:n≤N'):VRel I ρ' N' w v cv:=by
 by_cases hm:∃k,v=.mr k
 ·obtain⟨k,rfl⟩:=hm
  have hk:k<n:=by simpa [V.flatM] using hf
  cases h with
  |mr _ _=>rw[←hr k hk];exact .mr k (by omega)
 ·refine h.flatO ?_
  cases v<;>first|exact hf|exact absurd ⟨_,rfl⟩ hm|(cases h;done)
theorem aeC{cs:List V}(h:cs.all (V.flatM n)=true):bU cs=false:=by
 unfold bU
 split
 ·simp[V.flatM,V.flatO,V.flat1] at h
 ·simp[V.flatM,V.flatO,V.flat1] at h
 ·rfl
theorem bb.frameM{f:FuncId}{avs:List V}{css css':List (List V)}{v:V}(h:bb P f avs css v css')(ha:avs.all (V.flatP css.length)=true)(hv:v.flat=true)
  (hc:css.all (fun cs=>cs.all (V.flatM css.length))=true) (hc':css'.all (fun cs=>cs.all (V.flatM css.length))=true) {hp hp':List aq} {σ:Nat→Nat}
  (hσi:∀k,k<css.length→σ k=k) (hσ:∀k k',k<css.length→k'<css.length→σ k=σ k'→k=k')
  (h1:∀(k:Nat) cs,css[k]? =some cs→hp[σ k]? =some (some cs)) (h2:hp'.length=hp.length)
  (h3:∀(k:Nat) cs,css'[k]? =some cs→hp'[σ k]? =some (some cs))
  (h4:∀id,(∀k,k<css.length→σ k≠id)→hp'[id]? =hp[id]?):cL P f (avs.map (V.ren σ)) hp v hp':=by
 obtain⟨hlen',rest,h⟩:=h
 intro w g cargs hβ hhr hlen hbare hrel
 have hcs:∀(k:Nat) cs,css[k]? =some cs→cs.all (V.flatM css.length)=true:=fun k cs hk=>List.all_eq_true.1 hc cs (List.mem_of_getElem? hk)
 have hcs':∀(k:Nat) cs,css'[k]? =some cs→cs.all (V.flatM css.length)=true:=fun k cs hk=>List.all_eq_true.1 hc' cs (List.mem_of_getElem? hk)
 have lt_of:∀(k:Nat) cs,css[k]? =some cs→k<css.length:=fun k cs hk=>(List.getElem?_eq_some_iff.1 hk).1
 have map_of:∀(k:Nat) cs,(css.map some)[k]? =some (some cs)→css[k]? =some cs:=by
  intro k cs hk
  rw[List.getElem?_map] at hk
  cases hq:css[k]? with
  |none=>rw[hq] at hk;simp at hk
  |some x=>rw[hq] at hk;simpa using hk
 have sub:∀k,k<css.length→∃cs,css[k]? =some cs∧hp[σ k]? =some (some cs):=fun k hk=>⟨css[k],List.getElem?_eq_getElem hk,h1 k _ (List.getElem?_eq_getElem hk)⟩
 let inv:Nat→Option Nat:=fun i=>(List.range css.length).find? fun k=>σ k==i
 have inv_some:∀i k,inv i=some k→k<css.length∧σ k=i:=by
  intro i k hk
  have m1:=List.mem_of_find?_eq_some hk
  have m2:=List.find?_some hk
  exact⟨List.mem_range.1 m1,by simpa using m2⟩
 have inv_of:∀k,k<css.length→inv (σ k)=some k:=by
  intro k hk
  cases hq:inv (σ k) with
  |none=>
   have:=List.find?_eq_none.1 hq k (List.mem_range.2 hk)
   simp at this
  |some k'=>
   obtain⟨m1,m2⟩:=inv_some _ _ hq
   rw[hσ k' k m1 hk m2]
 let g₀:Gh:={I:=g.I,ρ:=fun k=>g.ρ (σ k),O:=fun b=>match g.O b with|some (.cell i j)=>(inv i).map fun k=>.cell k j|_=>none,β:=g.β}
 have gO:∀b o,g₀.O b=some o→∃k j,k<css.length∧o=.cell k j∧g.O b=some (.cell (σ k) j):=by
  intro b o hb
  simp only[g₀] at hb
  split at hb
  ·rename_i i j hg
   cases hq:inv i with
   |none=>rw[hq] at hb;simp at hb
   |some k=>
    rw[hq] at hb
    obtain⟨m1,m2⟩:=inv_some _ _ hq
    exact⟨k,j,m1,by simpa using hb.symm,by rw[m2];exact hg⟩
  ·simp at hb
 have gN:∀b,(∀k j,k<css.length→g.O b≠some (.cell (σ k) j))→g₀.O b=none:=by
  intro b hb
  cases hq:g₀.O b with
  |none=>rfl
  |some o=>
   obtain⟨k,j,hk,_,hj⟩:=gO b o hq
   exact absurd hj (hb k j hk)
 have gC:∀b k j,k<css.length→g.O b=some (.cell (σ k) j)→g₀.O b=some (.cell k j):=by
  intro b k j hk hb
  simp[g₀,hb,inv_of k hk]
 have hO0:∀k,k<css.length→g₀.O (g.ρ (σ k))=none:=by
  intro k hk
  obtain⟨cs,_,hid⟩:=sub k hk
  exact gN _ (by intro k' j _ hj;rw[hhr.notO _ cs hid] at hj;cases hj)
 have h0:HR g₀ (css.map some) w:=by
  refine⟨?_,?_,?_,?_,hhr.exI,?_⟩
  ·intro k c hk
   have hk:=map_of k c hk
   refine(hhr.obj _ c (h1 k c hk)).keep rfl fun arr e fz a1 a2=>?_
   have hr:=aeC (hcs k c hk)
   refine⟨a2.len,a2.plain,by rintro k xs rfl;simp[bU] at hr,a2.cold,a2.one,?_,?_,a2.bn⟩
   ·intro j c' cv hj hcv
    exact(a2.rel j c' cv hj hcv).flatM (List.all_eq_true.1 (hcs k c hk) c' (List.mem_of_getElem? (by rw[fO hr] at hj;exact hj))) (fun i hi=>congrArg g.ρ (hσi i hi)) (by simp)
   ·intro j c' cv hj hcv
    exact(a2.own j c' cv hj hcv).reloc rfl rfl fun b hb=>gC b k j (lt_of k c hk) hb
  ·intro k k' c c' hk hk' hne
   have hk:=map_of k c hk
   have hk':=map_of k' c' hk'
   exact hhr.apart _ _ _ _ (h1 k c hk) (h1 k' c' hk') fun e=>hne (hσ k k' (lt_of k c hk) (lt_of k' c' hk') e)
  ·intro k c hk
   exact hhr.notI _ c (h1 k c (map_of k c hk))
  ·intro k c hk
   exact hO0 k (lt_of k c (map_of k c hk))
  ·intro b o hb
   obtain⟨k,j,_,_,hj⟩:=gO b o hb
   exact hhr.oLt b _ hj
 have hargs:∀(i:Nat) x cv,avs[i]? =some x→cargs[i]? =some cv→VRel g₀.I g₀.ρ (css.map some).length w x cv:=by
  intro i x cv hx hcv
  have hr:=hrel i (x.ren σ) cv (by rw[List.getElem?_map,hx];rfl) hcv
  have hx':=List.all_eq_true.1 ha x (List.mem_of_getElem? hx)
  unfold V.flatP at hx'
  split at hx'
  ·rename_i k
   have hk:k<css.length:=by simpa using hx'
   simp only[V.ren] at hr
   cases hr with
   |ptr _ _ _=>exact .ptr k 0 (by simpa using hk)
  ·rw[V.ren_flat hx'] at hr
   exact hr.flat hx'
 refine(h w g₀ cargs (hβ.sub rfl (fun h=>h) (fun h=>by simp[g₀,h])) h0 (by rw[←hlen,List.length_map]) (by
  intro x hx
  have:=hbare (x.ren σ) (List.mem_map_of_mem hx)
  rw[V.ren_bare] at this
  exact this) hargs).mono ?_
 rintro ex w' ⟨cv,g₁,rfl,q1,q2,q3,q4⟩
 have r0:∀k,k<css.length→g₁.ρ k=g.ρ (σ k):=fun k hk=>q2.up.rho k (by simpa using hk)
 have noO:∀b,(∀k,k<css.length→g.ρ (σ k)≠b)→∀(k:Nat) cs,(css.map some)[k]? =some (some cs)→g₀.ρ k≠b:=fun b hb k cs hk=>hb k (lt_of k cs (map_of k cs hk))
 have blk:∀b,b<w.heap.size→(∀k,k<css.length→g.ρ (σ k)≠b)→g₀.O b=none→w'.heap[b]? =w.heap[b]?:=fun b hb hne hO=>q2.block b hb (noO b hne) hO
 let g₂:Gh:={I:=g₁.I,ρ:=g.ρ,O:=fun b=>match g₁.O b with
  |some .res=>some .res
  |some (.cell k j)=>cond (Nat.blt k css.length) (some (.cell (σ k) j)) none
  |some (.slot _)=>none
  |none=>if b<w.heap.size∧g₀.O b=none then g.O b else none,β:=g.β}
 have hnum:css.length≤hp'.length:=by
  rcases Nat.lt_or_ge hp'.length css.length with hl|hl
  ·obtain⟨cs,_,hc2⟩:=sub (css.length-1) (by omega)
   have:=(List.getElem?_eq_some_iff.1 hc2).1
   rw[hσi _ (by omega)] at this
   omega
  ·exact hl
 have up:Up g.I g.ρ hp.length w g₂.I g₂.ρ hp'.length w':=⟨q2.up.mono,q2.up.cell,fun _ _=>rfl,by rw[h2];exact Nat.le_refl _⟩
 have olt:∀(i:Nat) c,hp[i]? =some (some c)→g.ρ i<w.heap.size:=by
  intro i c hi
  obtain⟨ob,h1⟩:=(hhr.obj i c hi).block
  exact(Array.getElem?_eq_some_iff.1 h1).1
 have fst:∀(k:Nat) cs,css'[k]? =some cs→(css'.map some++rest)[k]? =some (some cs):=by
  intro k cs hk
  rw[List.getElem?_append_left (by simpa using (List.getElem?_eq_some_iff.1 hk).1),List.getElem?_map,hk];rfl
 have key:∀(i:Nat) c,hp'[i]? =some (some c)→(∃k c₀,k<css.length∧i=σ k∧css'[k]? =some c∧hp[i]? =some (some c₀))∨((∀k,k<css.length→σ k≠i)∧hp[i]? =some (some c)):=by
  intro i c hi
  by_cases hk:∃k,k<css.length∧σ k=i
  ·obtain⟨k,hk,rfl⟩:=hk
   obtain⟨c₀,_,hc₀⟩:=sub k hk
   have hk':k<css'.length:=by omega
   have:=h3 k _ (List.getElem?_eq_getElem hk')
   rw[this] at hi
   exact .inl ⟨k,c₀,hk,rfl,by rw[List.getElem?_eq_getElem hk'];simpa using hi,hc₀⟩
  ·have hn:∀k,k<css.length→σ k≠i:=fun k hk' e=>hk ⟨k,hk',e⟩
   exact .inr ⟨hn,(h4 i hn).symm.trans hi⟩
 have live₀:∀(i:Nat) c,hp'[i]? =some (some c)→∃c₀,hp[i]? =some (some c₀):=by
  intro i c hi
  rcases key i c hi with⟨_,c₀,_,_,_,h⟩|⟨_,h⟩
  ·exact⟨c₀,h⟩
  ·exact⟨c,h⟩
 have apartσ:∀(i:Nat) c,(∀k,k<css.length→σ k≠i)→hp[i]? =some (some c)→∀k,k<css.length→g.ρ (σ k)≠g.ρ i:=by
  intro i c hn hi k hk
  obtain⟨c₀,_,hc₀⟩:=sub k hk
  exact hhr.apart _ _ _ _ hc₀ hi (hn k hk)
 have g2same:∀b,b<w.heap.size→(∀k,k<css.length→g.ρ (σ k)≠b)→g₀.O b=none→g₂.O b=g.O b:=by
  intro b hb hne hO
  have:=q2.oSame b hb (noO b hne) hO
  simp only[g₂,this]
  rw[if_pos ⟨hb,hO⟩]
 have ownBlk:∀b o,g.O b=some o→∀k,k<css.length→g.ρ (σ k)≠b:=by
  intro b o hb k hk e
  obtain⟨c₀,_,hc₀⟩:=sub k hk
  rw[←e,hhr.notO _ c₀ hc₀] at hb
  cases hb
 refine⟨cv,g₂,rfl,⟨?_,?_,?_,?_,q1.exI,?_⟩,⟨rfl,q2.os,q2.tape,q2.output,q2.size,?_,up,?_,?_,?_⟩,?_,?_⟩
 ·intro i c hi
  rcases key i c hi with⟨k,c₀,hk,rfl,hk',hid⟩|⟨hne,hi⟩
  ·refine(q1.obj k c (fst k c hk')).keep (by rw[r0 k hk]) fun arr' e' fz a1 a2=>?_
   rw[r0 k hk] at a1
   have hr:=aeC (hcs' k c hk')
   refine⟨a2.len,a2.plain,by rintro k xs rfl;simp[bU] at hr,a2.cold,a2.one,?_,?_,?_⟩
   ·intro j c' cv hj hcv
    exact(a2.rel j c' cv hj hcv).flatM (List.all_eq_true.1 (hcs' k c hk') c' (List.mem_of_getElem? (by rw[fO hr] at hj;exact hj))) (fun i hi=>by rw[r0 i hi,hσi i hi]) hnum
   ·intro j c' cv hj hcv
    refine(a2.own j c' cv hj hcv).reloc q2.beta.symm rfl fun b hb=>?_
    have hb':Nat.blt k css.length=true:=by rw[Nat.blt_eq];exact hk
    simp[g₂,hb,hb']
   ·intro j E n hj
    have:=a2.bn j E n hj
    rw[r0 k hk] at this
    exact this
  ·have hnO:g₀.O (g.ρ i)=none:=gN _ (by intro k j _ hj;rw[hhr.notO i c hi] at hj;cases hj)
   refine(hhr.obj i c hi).keep (blk _ (olt i c hi) (apartσ i c hne hi) hnO) fun arr' e' fz a1 a2=>?_
   refine⟨a2.len,a2.plain,a2.typedUp rfl (fun _ _=>rfl) up.num rfl,a2.cold,a2.one,fun j c cv hj hcv=>(a2.rel j c cv hj hcv).up up,?_,a2.bn⟩
   intro j c' cv hj hcv
   refine bK (a2.own j c' cv hj hcv) rfl (fun b j hi=>⟨up.mono b j hi,up.cell b j hi⟩) ?_
   intro b hb
   have hlt:=hhr.oLt b _ hb
   have hO:g₀.O b=none:=gN _ (by intro k j' hk hj';rw[hb] at hj';cases hj';exact hne k hk rfl)
   have hbne:=ownBlk b _ hb
   exact⟨(g2same b hlt hbne hO).trans hb,blk b hlt hbne hO,fun j hj=>q2.iSame b j hlt (noO b hbne) hO hj⟩
 ·intro i i' c c' hi hi' hne
  obtain⟨c₀,m1⟩:=live₀ i c hi
  obtain⟨c₁,m2⟩:=live₀ i' c' hi'
  exact hhr.apart _ _ _ _ m1 m2 hne
 ·intro i c hi j hj
  rcases key i c hi with⟨k,c₀,hk,rfl,hk',hid⟩|⟨hne,hi⟩
  ·have:=q1.notI k c (fst k c hk') j
   rw[r0 k hk] at this
   exact this hj
  ·have hnO:g₀.O (g.ρ i)=none:=gN _ (by intro k j _ hj;rw[hhr.notO i c hi] at hj;cases hj)
   exact hhr.notI i c hi j (q2.iSame _ j (olt i c hi) (noO _ (apartσ i c hne hi)) hnO hj)
 ·intro i c hi
  rcases key i c hi with⟨k,c₀,hk,rfl,hk',hid⟩|⟨hne,hi⟩
  ·have:=q1.notO k c (fst k c hk')
   rw[r0 k hk] at this
   simp only[g₂,this]
   split
   ·exact hhr.notO _ c₀ hid
   ·rfl
  ·have hnO:g₀.O (g.ρ i)=none:=gN _ (by intro k j _ hj;rw[hhr.notO i c hi] at hj;cases hj)
   exact(g2same _ (olt i c hi) (apartσ i c hne hi) hnO).trans (hhr.notO i c hi)
 ·intro b o hb
  simp only[g₂] at hb
  split at hb
  ·rename_i hq;exact q1.oLt b _ hq
  ·rename_i hq;exact q1.oLt b _ hq
  ·simp at hb
  ·split at hb
   ·rename_i hq;exact Nat.lt_of_lt_of_le hq.1 q2.size
   ·simp at hb
 ·intro b hb ho hO
  exact blk b hb (fun k hk e=>by obtain⟨c₀,_,hc₀⟩:=sub k hk;exact ho _ c₀ hc₀ e) (gN _ (by intro k j _ hj;rw[hO] at hj;cases hj))
 ·intro b j hb ho hO hi
  exact q2.iSame b j hb (noO b fun k hk e=>by obtain⟨c₀,_,hc₀⟩:=sub k hk;exact ho _ c₀ hc₀ e) (gN _ (by intro k j _ hj;rw[hO] at hj;cases hj)) hi
 ·intro b hb ho hO
  exact(g2same b hb (fun k hk e=>by obtain⟨c₀,_,hc₀⟩:=sub k hk;exact ho _ c₀ hc₀ e) (gN _ (by intro k j _ hj;rw[hO] at hj;cases hj))).trans hO
 ·intro i c hi
  exact .inl (live₀ i c hi)
 ·exact q3.flat hv
 ·exact q4.reloc q2.beta.symm rfl fun b hb=>by simp[g₂,hb]
def jt(n:Nat)(G:j9)(Γ:az):az:=fun f vs hp=>
 cond ((co vs).any fun i=>Nat.beq (i+1) n)
  (match fH hp (List.range n) with
  |some css=>match G f vs css with
   |some (c,v,css')=>cond (Nat.beq css.length n&&Nat.beq css'.length n&&vs.all (V.flatP n)&&v.flat&&css.all (fun cs=>cs.all (V.flatM n))&&css'.all (fun cs=>cs.all (V.flatM n)))
     (some (c,v,jn hp (List.range n) css')) none
   |none=>Γ f vs hp
  |none=>Γ f vs hp)
  (Γ f vs hp)
theorem akl:(V.ren fun k=>k)=id:=funext fun v=>by cases v<;>rfl
theorem acQ{n k:Nat}(h:k<n):(List.range n).getD k 0=k:=by
 rw[List.getD_eq_getElem?_getD,List.getElem?_range h];rfl
theorem qT{n:Nat}{G:j9}{Γ:az}(hG:∀f avs css v css',G f avs css=some (true,v,css')→bb P f avs css v css')(hΓ:bI P Γ):bI P (jt n G Γ):=by
 intro f vs hp v hp' h
 unfold jt at h
 cases hp0:(co vs).any (fun i=>Nat.beq (i+1) n) with
 |false=>rw[hp0] at h;exact hΓ _ _ _ _ _ h
 |true=>
  rw[hp0] at h
  simp only[cond_true] at h
  split at h
  ·rename_i css hcss
   split at h
   ·rename_i c v' css' hg
    cases hst:(Nat.beq css.length n&&Nat.beq css'.length n&&vs.all (V.flatP n)&&v'.flat&&css.all (fun cs=>cs.all (V.flatM n))&&css'.all (fun cs=>cs.all (V.flatM n))) with
    |false=>rw[hst] at h;simp at h
    |true=>
     rw[hst] at h
     simp only[cond_true,Option.some.injEq,Prod.mk.injEq] at h
     obtain⟨rfl,rfl,rfl⟩:=h
     simp only[Bool.and_eq_true] at hst
     obtain⟨⟨⟨⟨⟨n1,n2⟩,n3⟩,n4⟩,n5⟩,n6⟩:=hst
     obtain⟨c1,c2⟩:=uB hcss
     have n1:=Nat.eq_of_beq_eq_true n1
     have n2:=Nat.eq_of_beq_eq_true n2
     subst n1
     have c2:∀(k:Nat) cs,css[k]? =some cs→hp[k]? =some (some cs):=fun k cs hk=>by
      have hkl:k<css.length:=(List.getElem?_eq_some_iff.1 hk).1
      have:=c2 k cs hk
      rwa [acQ hkl] at this
     have:=bb.frameM (hG f _ css _ css' hg) n3 n4 n5 n6 (hp:=hp) (hp':=jn hp (List.range css.length) css') (σ:=fun k=>k) (fun _ _=>rfl) (fun _ _ _ _ e=>e)
      c2 rQ
      (by
       intro k cs hk
       have hkl:k<css'.length:=(List.getElem?_eq_some_iff.1 hk).1
       have:=zE (is:=List.range css.length) (hp:=hp) (css:=css') List.nodup_range (by
        intro i hi
        have hi:=List.mem_range.1 hi
        exact(List.getElem?_eq_some_iff.1 (c2 i _ (List.getElem?_eq_getElem hi))).1) k cs (by simpa [n2] using hkl) hk
       rwa [acQ (by omega)] at this)
      (by
       intro id hid
       refine sF fun hm=>?_
       exact hid id (List.mem_range.1 hm) rfl)
     rwa [akl,List.map_id] at this
   ·exact hΓ _ _ _ _ _ h
  ·exact hΓ _ _ _ _ _ h
theorem mW{n:Nat}{G:j9}{Γ:az}{imp:List Nat}(hG:∀f avs css,imp.contains f=false→G f avs css=none)(hΓ:b7 Γ imp):b7 (jt n G Γ) imp:=by
 refine⟨?_,?_⟩
 ·intro f vs hp hf
  have e:∀hp,jt n G Γ f vs hp=Γ f vs hp:=by
   intro hp
   unfold jt
   cases (co vs).any (fun i=>Nat.beq (i+1) n) with
   |false=>rfl
   |true=>
    simp only[cond_true]
    split
    ·rw[hG f _ _ hf]
    ·rfl
  rw[e,e]
  exact hΓ.pure f vs hp hf
 ·intro f vs hp c v hp' hf h
  cases hp0:(co vs).any (fun i=>Nat.beq (i+1) n) with
  |false=>
   have e:∀hp,jt n G Γ f vs hp=Γ f vs hp:=by
    intro hp
    unfold jt
    rw[hp0];rfl
   rw[e] at h
   obtain⟨q,q1,q2,q3⟩:=hΓ.loc f _ _ _ _ _ hf h
   exact⟨q,q1,q2,fun hp2 hl hh=>by rw[e];exact q3 hp2 hl hh⟩
  |true=>
   obtain⟨i,hi,hin⟩:=List.any_eq_true.1 hp0
   have hin:i+1=n:=by simpa using hin
   have mem:∀k∈List.range n,k∈rh (co vs):=fun k hk=>zw hi (by have:=List.mem_range.1 hk;omega)
   have memA:∀k∈List.range n,k∈rh (j0 vs):=fun k hk=>zw (sD hi) (by have:=List.mem_range.1 hk;omega)
   have same:∀hp2:List aq,(∀i∈rh (j0 vs),hp2[i]? =hp[i]?)→fH hp2 (List.range n)=fH hp (List.range n):=fun hp2 hh=>sX fun i hi=>hh i (memA i hi)
   unfold jt at h
   rw[hp0] at h
   simp only[cond_true] at h
   cases hcs:fH hp (List.range n) with
   |none=>
    rw[hcs] at h
    obtain⟨q,q1,q2,q3⟩:=hΓ.loc f _ _ _ _ _ hf h
    refine⟨q,q1,q2,fun hp2 hl hh=>?_⟩
    simp only[jt,hp0,cond_true,same hp2 hh,hcs]
    exact q3 hp2 hl hh
   |some css=>
    rw[hcs] at h
    simp only at h
    cases hg:G f vs css with
    |none=>
     rw[hg] at h
     obtain⟨q,q1,q2,q3⟩:=hΓ.loc f _ _ _ _ _ hf h
     refine⟨q,q1,q2,fun hp2 hl hh=>?_⟩
     simp only[jt,hp0,cond_true,same hp2 hh,hcs,hg]
     exact q3 hp2 hl hh
    |some x=>
     obtain⟨c',v',css'⟩:=x
     rw[hg] at h
     simp only at h
     cases hst:(Nat.beq css.length n&&Nat.beq css'.length n&&vs.all (V.flatP n)&&v'.flat&&css.all (fun cs=>cs.all (V.flatM n))&&css'.all (fun cs=>cs.all (V.flatM n))) with
     |false=>rw[hst] at h;simp at h
     |true=>
      rw[hst] at h
      simp only[cond_true,Option.some.injEq,Prod.mk.injEq] at h
      obtain⟨rfl,rfl,rfl⟩:=h
      refine⟨(List.range n).zip (css'.map some),?_,pw _ _ _,fun hp2 hl hh=>?_⟩
      ·intro p hp
       obtain⟨a,b⟩:=p
       exact mem _ (List.of_mem_zip hp).1
      ·simp only[jt,hp0,cond_true,same hp2 hh,hcs,hg,hst]
       rw[pw]
end
end Go.AM
end
noncomputable section
namespace Go.Proofs.YtkinflmjagfapaaDoor
open Go.RowKit
set_option autoImplicit false
set_option linter.unusedVariables false
theorem aeU(x:Value)(w:World):(callFunc 129 #[x]).run Tryd.prog w=.ok (.value x) w:=by
 rw[run_callFunc_extern Tryd.func129 (by kernel_rfl) (by kernel_rfl) (by kernel_rfl) (e:=Extern.AbiNoEscape.same) (by kernel_rfl)]
 rw[Lib.run_noEscape]
 rfl
set_option maxHeartbeats 1000000 in
set_option maxRecDepth 100000 in
theorem alb(b o:Nat)(w:World)(h0:w.cell? ⟨b,o,none⟩=some (.pointer (some ⟨b,o,none⟩))):
  Calls Tryd.prog 109 #[.pointer (some ⟨b,o,none⟩)] w fun e w'=>e=.returned (.tuple #[])∧w'=w:=by
 obtain⟨j,hj,hjs⟩:∃j,Tryd.prog.info? 122=some j∧j.size=2:=Option.map_eq_some_iff.1 (show (Tryd.prog.info? 122).map (·.size)=some 2 by kernel_rfl)
 go_enter Tryd.func109,Tryd.ntmps109
 go_wp2
 rw[Lib.run_neq_ptr_same w _ Tryd.underlying120 hj]
 go_wp2
 go_end0
 exact⟨rfl,rfl⟩
set_option maxHeartbeats 1000000 in
set_option maxRecDepth 100000 in
theorem akm(b o E n:Nat)(w:World)(h0:w.cell? ⟨b,o,none⟩=some (.pointer none))(hsh:w.shape? b=some (E,n))(ho:o<n)
  (hl:liesAt Tryd.prog Tryd.prog.depth E (n / Tryd.prog.cellsOf E) o 122 1=true) (hfz:w.frozen? ⟨b,o,none⟩=false):
  Calls Tryd.prog 109 #[.pointer (some ⟨b,o,none⟩)] w fun e w'=>e=.returned (.tuple #[])∧w'=w.setCell ⟨b,o,none⟩ (.pointer (some ⟨b,o,none⟩)):=by
 obtain⟨j,hj,hjs⟩:∃j,Tryd.prog.info? 122=some j∧j.size=2:=Option.map_eq_some_iff.1 (show (Tryd.prog.info? 122).map (·.size)=some 2 by kernel_rfl)
 go_enter Tryd.func109,Tryd.ntmps109
 go_wp2
 rw[Lib.run_to_unsafe w ⟨b,o,none⟩ Tryd.underlying120 Tryd.underlying155 hj (by rw[hjs];decide) hsh ho]
 simp only[Result.andThen]
 rw[Oper.upon_value]
 go_wp2
 rw[aeU]
 rw[Oper.upon_value]
 go_wp2
 rw[Lib.run_from_unsafe w ⟨b,o,none⟩ Tryd.underlying155 Tryd.underlying120 hj hsh hl]
 simp only[Result.andThen]
 rw[Oper.upon_value]
 go_wp2
 go_end0
 exact⟨rfl,rfl⟩
end Go.Proofs.YtkinflmjagfapaaDoor
end
noncomputable section
namespace Go.Proofs.YtkinflmjagfapaaDoor
open Go.AM
set_option autoImplicit false
set_option linter.unusedVariables false
set_option linter.unusedSimpArgs false
theorem row_cell{cs:List V}{o:Nat}{v:V}(h:cs[o]? =some v)(hv:v.one=true):bU cs=false:=by
 cases hr:bU cs with
 |false=>rfl
 |true=>
  unfold bU at hr
  split at hr
  ·cases o with
   |zero=>simp at h;subst h;cases hv
   |succ o=>simp at h
  ·cases o with
   |zero=>simp at h;subst h;cases hv
   |succ o=>simp at h
  ·cases hr
theorem map_cell{cs:List V}{o:Nat}{v:V}(h:cs[o]? =some v)(hv:v.one=true):hH cs=false:=by
 cases hr:hH cs with
 |false=>rfl
 |true=>
  obtain⟨k,es,rfl⟩:=sN hr
  cases o with
  |zero=>simp at h;subst h;cases hv
  |succ o=>simp at h
theorem z6{env:List V}{hp:List aq}{id:Nat}{cs:List V}(h:hp[id]? =some (some cs))(hr:bU cs=false)(hm:hH cs=false):St.obj {env:=env,hp:=hp} id=some cs:=by
 unfold St.obj
 rw[List.getD_eq_getElem?_getD,h]
 simp only[Option.getD_some]
 split
 ·rename_i e
  cases e
  simp[bU] at hr
 ·rename_i e
  cases e
  simp[bU] at hr
 ·rename_i e
  cases e
  simp[hH] at hm
 ·rfl
theorem SR.ofHR{g:Gh}{hp:List aq}{w:World}(h:HR g hp w):SR g {env:=[],hp:=hp} w {tmps:= #[],defers:=[]}:=
 ⟨h,⟨rfl,by simp,by simp⟩⟩
theorem aeV{α:Type}{l:List α}{o:Nat}{x:α}(h:l[o]? =some x):l.take o++[x]++l.drop (o+1)=l:=by
 obtain⟨hlt,rfl⟩:=List.getElem?_eq_some_iff.1 h
 rw[List.append_assoc,List.singleton_append,←List.drop_eq_getElem_cons hlt,List.take_append_drop]
noncomputable def ab8(E n o:Nat):Bool:=liesAt Tryd.prog Tryd.prog.depth E (n / Tryd.prog.cellsOf E) o 122 1
theorem akn{hp:List aq}{id:Nat}{x:aq}(h:hp[id]? =some x):hp.set id x=hp:=by
 apply List.ext_getElem?
 intro j
 rw[List.getElem?_set]
 split
 ·rename_i e;subst e
  obtain⟨hlt,rfl⟩:=List.getElem?_eq_some_iff.1 h
  simp[hlt]
 ·rfl
theorem al7{id o E n:Nat}{cs:List V}{hp:List aq}(hid:hp[id]? =some (some cs))(hb:cs[o]? =some (.bn E n))(hl:ab8 E n o=true):
  cL Tryd.prog 109 [.ptr id o] hp (.tup []) hp:=by
 intro w g cargs hβ hhr hlen hbare hrel
 match cargs,hlen,hrel with
 |⟨[cv]⟩,hlen,hrel=>
  have r:=hrel 0 (.ptr id o) cv rfl rfl
  cases r with
  |ptr _ _ hlt=>
  obtain⟨arr,e,fz,h1,h2'⟩:=(hhr.obj id cs hid).row (map_cell hb rfl)
  have hrow:=row_cell hb rfl
  obtain⟨rfl,h2⟩:=h2'.low hrow
  obtain⟨rfl,rfl,h3⟩:=h2.bn o E n hb
  have hoc:o<cs.length:=(List.getElem?_eq_some_iff.1 hb).1
  have hlen:=h2.len
  have hcell:w.cell? ⟨g.ρ id,o,none⟩=arr[o]?:=aD h1 o
  rcases h3 with h3|h3
  ·have hsh:w.shape? (g.ρ id)=some (E,arr.size):=by simp[World.shape?,h1]
   refine(akm (g.ρ id) o E arr.size w (by rw[hcell,h3]) hsh (by omega) hl (by simp[World.frozen?,h1])).mono ?_
   rintro e w' ⟨rfl,rfl⟩
   obtain⟨p1,p2⟩:=(SR.ofHR hhr).putCells (id:=id) (o:=o) (cs:=cs) (news:=[.bn E arr.size]) (us:=[.pointer (some ⟨g.ρ id,o,none⟩)]) (z6 hid hrow (map_cell hb rfl)) rfl (by simp[V.one]) (by simp;omega) (by
    intro i c u hc hu
    cases i with
    |zero=>simp at hc hu;subst hc hu;exact .bn _ _ _
    |succ i=>simp at hc) (by
    intro i c u hc hu
    cases i with
    |zero=>simp at hc hu;subst hc hu;simp[ax]
    |succ i=>simp at hc) (by
    intro i E' n' hi
    cases i with
    |zero=>simp at hi;obtain⟨rfl,rfl⟩:=hi;exact⟨hb,.inr rfl⟩
    |succ i=>simp at hi)
   have e1:cs.take o++[V.bn E arr.size]++cs.drop (o+[V.bn E arr.size].length)=cs:=aeV hb
   simp only[St.setObj] at p1
   rw[e1,akn hid] at p1 p2
   exact⟨_,g,rfl,p1.hr,p2,.tup [] #[] rfl (by simp),by simp[ax]⟩
  ·refine(alb (g.ρ id) o w (by rw[hcell,h3])).mono ?_
   rintro e w' ⟨rfl,rfl⟩
   exact⟨_,g,rfl,hhr,FR.refl _ _ _,.tup [] #[] rfl (by simp),by simp[ax]⟩
 |⟨[]⟩,hlen,_=>simp at hlen
 |⟨_::_::_⟩,hlen,_=>simp at hlen
def Gcc(f:Nat)(vs:List V)(hp:List aq):Option (Bool×V×List aq):=
 if f=109 then
  match vs with
  | [.ptr id o]=>match hp.getD id none with
    |some cs=>match cs.getD o .undef with
     | .bn E n=>some (ab8 E n o,.tup [],hp)
     |_=>none
    |none=>none
  |_=>none
 else none
theorem ajE:bI Tryd.prog Gcc:=by
 intro f vs hp v hp' h
 unfold Gcc at h
 split at h
 ·rename_i hf
  subst hf
  split at h
  ·rename_i id o
   split at h
   ·rename_i cs hcs
    split at h
    ·rename_i E n hb
     simp only[Option.some.injEq,Prod.mk.injEq] at h
     obtain⟨hl,rfl,rfl⟩:=h
     have h1:hp[id]? =some (some cs):=by
      rw[List.getD_eq_getElem?_getD] at hcs
      cases hq:hp[id]? with
      |none=>rw[hq] at hcs;simp at hcs
      |some x=>rw[hq] at hcs;simpa using hcs
     have h2:cs[o]? =some (.bn E n):=by
      rw[List.getD_eq_getElem?_getD] at hb
      cases hq:cs[o]? with
      |none=>rw[hq] at hb;simp at hb
      |some x=>rw[hq] at hb;simpa using hb
     exact al7 h1 h2 hl
    ·simp at h
   ·simp at h
  ·simp at h
 ·simp at h
theorem agB:b7 Gcc [109]:=by
 refine⟨?_,?_⟩
 ·intro f vs hp hf
  have:f≠109:=by rintro rfl;simp at hf
  simp[Gcc,this]
 ·intro f vs hp c v hp' hf
  simp only[List.contains_cons,List.contains_nil,Bool.or_false,beq_iff_eq] at hf
  omega
def iM:IR:=.ret
def iN:IR:=(.seq (.reg [Mv 17 1,Pp (.lens 18 (.t 17)),Mv 4 18,Pp (.mov 5 (.c (.nilif)))] []) iM)
def iO:IR:=(.seq (.reg [Mv 8 0,Mv 9 0,Nk 10 9,Fa 11 1 10,Pp (.ld 12 1 false true (.t 11)),Mv 13 1,Pp (.apps 14 (.tk 12) (.t 13)),Nk 15 8,Fa 16 1 15,Pp (.st none 1 (.t 16) (.tk 14))] []) iN)
def iP:IR:=(.seq (.reg [Mv 6 0,Pp (.call (some 7) 109 [(.t 6)])] []) iO)
def eg:IR:=(.seq (.reg [Pp (.mov 4 (.c (.int .i64 0))),Pp (.mov 5 (.c (.nilif)))] []) iP)
def eh:List RV:=[.t 4,.t 5]
theorem al8(base:Nat):(bz Tryd.prog [109] base eg (Tryd.f90.body.getD .skip)&&lg Tryd.prog eh Tryd.f90.results.toList)=true:=by kernel_rfl
theorem alT{id o E n:Nat}{cs:List V}{hp:List aq}{l s:List UInt8}(hid:hp[id]? =some (some cs))(hb:cs[o]? =some (.bn E n))(hl:ab8 E n o=true)(hc:cs[o+1]? =some (.sl .u8 .own l))
  (hlen:l.length+s.length≤140737488355328):
  callF Gcc 1 19 eh eg [.ptr id o,.str s] hp=some (.tup [.int .i64 (s.length:Int),.nilif],hp.set id (some (cs.set (o+1) (.sl .u8 .own (l++s))))):=by
 have hlt:id<hp.length:=(List.getElem?_eq_some_iff.1 hid).1
 have hco:o+1<cs.length:=(List.getElem?_eq_some_iff.1 hc).1
 have hobj:hp.getD id none=some cs:=by simp[List.getD,hid]
 have hob1:∀env,St.obj {env:=env,hp:=hp} id=some cs:=fun env=>z6 hid (row_cell hb rfl) (map_cell hb rfl)
 have hob2:∀env,St.obj {env:=env,hp:=hp.set id (some (cs.set (o+1) (.sl .u8 (.may false) l)))} id=some (cs.set (o+1) (.sl .u8 (.may false) l)):=fun env=>z6 (by rw[List.getElem?_set_self hlt]) (row_cell (o:=o) (v:=.bn E n) (by rw[List.getElem?_set_ne (by omega)];exact hb) rfl) (map_cell (o:=o) (v:=.bn E n) (by rw[List.getElem?_set_ne (by omega)];exact hb) rfl)
 have hbo:cs.getD o .undef=.bn E n:=by simp[List.getD,hb]
 have hco2:cs.getD (o+1) .undef=.sl .u8 .own l:=by simp[List.getD,hc]
 have hcall:Gcc 109 [.ptr id o] hp=some (true,.tup [],hp):=by simp only[Gcc,if_true,hobj,hbo,hl]
 have htd:(cs.drop (o+1)).take 1=[.sl .u8 .own l]:=by
  rw[List.drop_eq_getElem_cons hco]
  have:cs[o+1]=.sl .u8 .own l:=by simpa [List.getElem?_eq_getElem hco] using hc
  simp[this]
 have hidx:hp[id]=some cs:=by simpa [List.getElem?_eq_getElem hlt] using hid
 have hle:o+1+1≤cs.length:=hco
 have hhd:(cs.drop (o+1)).head?.getD .undef=.sl .u8 .own l:=by rw[List.head?_drop,hc];rfl
 have hfit:l.length+s.length≤mN:=hlen
 have hset:(cs.set (o+1) (.sl .u8 (.may false) l)).take (o+1)++V.sl .u8 .own (l++s)::cs.drop (o+1+1)=cs.set (o+1) (.sl .u8 .own (l++s)):=by
  rw[List.take_set_of_le (Nat.le_refl _),List.set_eq_take_append_cons_drop,if_pos hco]
 simp[AM.Mv,AM.Pp,AM.Fa,AM.Nk,AM.stepO,AM.Fl.dis,AM.Fl.app,AM.ASrc.fix,AM.callF,AM.run,AM.kseq,AM.fin,AM.resultOf,AM.rvs,AM.RV.ev,iM,iN,iO,iP,eg,eh,AM.runOps,AM.chk,AM.start,AM.step,AM.St.set,AM.St.get,AM.St.setO,AM.ASrc.ev,AM.ASrc.after,AM.disown,hob1,hob2,AM.St.setObj,hcall,hobj,htd,AM.loaded,AM.noBn,hlt,hidx,hc,hle,hhd,AM.V.cells,AM.V.one,hfit,hset]
 rw[List.drop_set_of_lt (by omega),hset]
theorem al9{id o E n:Nat}{cs:List V}{hp:List aq}{l s:List UInt8}(hid:hp[id]? =some (some cs))(hb:cs[o]? =some (.bn E n))(hl:ab8 E n o=true)(hc:cs[o+1]? =some (.sl .u8 .own l))
  (hlen:l.length+s.length≤140737488355328):
  cL Tryd.prog 90 [.ptr id o,.str s] hp (.tup [.int .i64 (s.length:Int),.nilif]) (hp.set id (some (cs.set (o+1) (.sl .u8 .own (l++s))))):=by
 have hch:=al8 hp.length
 simp only[Bool.and_eq_true] at hch
 exact vc ajE agB Tryd.func90 (show Tryd.f90.body=some (Tryd.f90.body.getD .skip) by kernel_rfl) hch.1 hch.2 (by decide) (alT hid hb hl hc hlen)
def ju:IR:=.ret
def jv:IR:=(.seq (.reg [Pp (.mov 4 (.c (.nilif)))] []) ju)
def jw:IR:=(.seq (.reg [Mv 7 0,Mv 8 0,Nk 9 8,Fa 10 1 9,Pp (.ld 11 1 false true (.t 10)),Mv 12 1,Pp (.bsl 13 .u8 [(.t 12)] false),Pp (.app 14 .u8 (.tk 11) (.t 13)),Nk 15 7,Fa 16 1 15,Pp (.st none 1 (.t 16) (.tk 14))] []) jv)
def jx:IR:=(.seq (.reg [Mv 5 0,Pp (.call (some 6) 109 [(.t 5)])] []) jw)
def fM:IR:=(.seq (.reg [Pp (.mov 4 (.c (.nilif)))] []) jx)
def fN:List RV:=[.t 4]
theorem ama(base:Nat):(bz Tryd.prog [109] base fM (Tryd.f88.body.getD .skip)&&lg Tryd.prog fN Tryd.f88.results.toList)=true:=by kernel_rfl
theorem alU{id o E n:Nat}{cs:List V}{hp:List aq}{l:List UInt8}{c:Int}(hid:hp[id]? =some (some cs))(hb:cs[o]? =some (.bn E n))(hl:ab8 E n o=true)(hc:cs[o+1]? =some (.sl .u8 .own l))
  (hlen:l.length+1≤140737488355328):
  callF Gcc 1 17 fN fM [.ptr id o,.int .u8 c] hp=some (.nilif,hp.set id (some (cs.set (o+1) (.sl .u8 .own (l++[UInt8.ofNat c.toNat]))))):=by
 have hlt:id<hp.length:=(List.getElem?_eq_some_iff.1 hid).1
 have hco:o+1<cs.length:=(List.getElem?_eq_some_iff.1 hc).1
 have hobj:hp.getD id none=some cs:=by simp[List.getD,hid]
 have hob1:∀env,St.obj {env:=env,hp:=hp} id=some cs:=fun env=>z6 hid (row_cell hb rfl) (map_cell hb rfl)
 have hob2:∀env,St.obj {env:=env,hp:=hp.set id (some (cs.set (o+1) (.sl .u8 (.may false) l)))} id=some (cs.set (o+1) (.sl .u8 (.may false) l)):=fun env=>z6 (by rw[List.getElem?_set_self hlt]) (row_cell (o:=o) (v:=.bn E n) (by rw[List.getElem?_set_ne (by omega)];exact hb) rfl) (map_cell (o:=o) (v:=.bn E n) (by rw[List.getElem?_set_ne (by omega)];exact hb) rfl)
 have hbo:cs.getD o .undef=.bn E n:=by simp[List.getD,hb]
 have hco2:cs.getD (o+1) .undef=.sl .u8 .own l:=by simp[List.getD,hc]
 have hcall:Gcc 109 [.ptr id o] hp=some (true,.tup [],hp):=by simp only[Gcc,if_true,hobj,hbo,hl]
 have htd:(cs.drop (o+1)).take 1=[.sl .u8 .own l]:=by
  rw[List.drop_eq_getElem_cons hco]
  have:cs[o+1]=.sl .u8 .own l:=by simpa [List.getElem?_eq_getElem hco] using hc
  simp[this]
 have hidx:hp[id]=some cs:=by simpa [List.getElem?_eq_getElem hlt] using hid
 have hle:o+1+1≤cs.length:=hco
 have hhd:(cs.drop (o+1)).head?.getD .undef=.sl .u8 .own l:=by rw[List.head?_drop,hc];rfl
 have hfit:l.length+1≤mN:=hlen
 have hset:(cs.set (o+1) (.sl .u8 (.may false) l)).take (o+1)++V.sl .u8 .own (l++[UInt8.ofNat c.toNat])::cs.drop (o+1+1)=cs.set (o+1) (.sl .u8 .own (l++[UInt8.ofNat c.toNat])):=by
  rw[List.take_set_of_le (Nat.le_refl _),List.set_eq_take_append_cons_drop,if_pos hco]
 simp[AM.Mv,AM.Pp,AM.Fa,AM.Nk,AM.stepO,AM.Fl.dis,AM.Fl.app,AM.ASrc.fix,AM.callF,AM.run,AM.kseq,AM.fin,AM.resultOf,AM.rvs,AM.RV.ev,ju,jv,jw,jx,fM,fN,AM.runOps,AM.chk,AM.start,AM.step,AM.St.set,AM.St.get,AM.St.setO,AM.ASrc.ev,AM.ASrc.after,AM.disown,hob1,hob2,AM.St.setObj,hcall,hobj,htd,AM.loaded,AM.noBn,hlt,hidx,hc,hle,hhd,AM.V.cells,AM.V.one,hfit,hset,AM.decAll,AM.dec,AM.EK.bytes]
 rw[List.drop_set_of_lt (by omega),hset]
theorem amb{id o E n:Nat}{cs:List V}{hp:List aq}{l:List UInt8}{c:Int}(hid:hp[id]? =some (some cs))(hb:cs[o]? =some (.bn E n))(hl:ab8 E n o=true)(hc:cs[o+1]? =some (.sl .u8 .own l))
  (hlen:l.length+1≤140737488355328):
  cL Tryd.prog 88 [.ptr id o,.int .u8 c] hp .nilif (hp.set id (some (cs.set (o+1) (.sl .u8 .own (l++[UInt8.ofNat c.toNat]))))):=by
 have hch:=ama hp.length
 simp only[Bool.and_eq_true] at hch
 exact vc ajE agB Tryd.func88 (show Tryd.f88.body=some (Tryd.f88.body.getD .skip) by kernel_rfl) hch.1 hch.2 (by decide) (alU hid hb hl hc hlen)
end Go.Proofs.YtkinflmjagfapaaDoor
end
noncomputable section
namespace Go.AM
set_option autoImplicit false
set_option linter.unusedVariables false
theorem HR.other{g:Gh}{hp:List aq}{w w':World}(h:HR g hp w)(hs:w.heap.size≤w'.heap.size)
  (hc:∀b j,b<w.heap.size→w'.cell? ⟨b,j,none⟩=w.cell? ⟨b,j,none⟩)
  (ho:∀(id:Nat) cs,hp[id]? =some (some cs)→w'.heap[g.ρ id]? =w.heap[g.ρ id]?)
  (hw:∀(id j:Nat) cs c cv,hp[id]? =some (some cs)→(cellsOf cs)[j]? =some c→ax g w (.cell id j) c cv→ax g w' (.cell id j) c cv):
  HR g hp w'∧Up g.I g.ρ hp.length w g.I g.ρ hp.length w':=by
 have hlt:∀b j,g.I b j→b<w.heap.size:=by
  intro b j hi
  have:=h.exI b j hi
  rcases Nat.lt_or_ge b w.heap.size with h'|h'
  ·exact h'
  ·simp[World.cell?,Array.getElem?_eq_none h'] at this
 have u:Up g.I g.ρ hp.length w g.I g.ρ hp.length w':=⟨fun _ _ h=>h,fun b j hi=>hc b j (hlt b j hi),fun _ _=>rfl,Nat.le_refl _⟩
 refine⟨⟨?_,h.apart,h.notI,h.notO,fun b j hi=>by rw[hc b j (hlt b j hi)];exact h.exI b j hi,fun b o hO=>Nat.lt_of_lt_of_le (h.oLt b o hO) hs⟩,u⟩
 intro id cs hid
 refine(h.obj id cs hid).keep (ho id cs hid) fun arr e fz _ h2=>?_
 exact⟨h2.len,h2.plain,h2.typed,h2.cold,h2.one,fun j c cv hc hv=>(h2.rel j c cv hc hv).up u,fun j c cv hc hv=>hw id j cs c cv hid hc (h2.own j c cv hc hv),h2.bn⟩
theorem HR.disownCell{g:Gh}{hp:List aq}{w:World}(h:HR g hp w){id j:Nat}{cs:List V}{k:EK}{o:Fl}{xs:List (Ty k)}(hid:hp[id]? =some (some cs))(hj:cs[j]? =some (.sl k o xs)):
  HR g (hp.set id (some (cs.set j (.sl k (.may false) xs)))) w:=by
 have hl:id<hp.length:=(List.getElem?_eq_some_iff.1 hid).1
 have hjl:j<cs.length:=(List.getElem?_eq_some_iff.1 hj).1
 have key:∀(i:Nat) c,(hp.set id (some (cs.set j (.sl k (.may false) xs))))[i]? =some (some c)→∃c',hp[i]? =some (some c')∧((i≠id∧c=c')∨(i=id∧c'=cs∧c=cs.set j (.sl k (.may false) xs))):=by
  intro i c hi
  rw[List.getElem?_set] at hi
  split at hi
  ·rename_i e;subst e
   exact⟨cs,hid,.inr ⟨rfl,rfl,by simpa using hi.symm⟩⟩
  ·rename_i e
   exact⟨c,hi,.inl ⟨fun h=>e h.symm,rfl⟩⟩
 refine⟨?_,?_,?_,?_,h.exI,h.oLt⟩
 ·intro i c hi
  obtain⟨c',hc',r⟩:=key i c hi
  rcases r with⟨hne,rfl⟩|⟨rfl,rfl,rfl⟩
  ·rw[List.length_set]
   exact h.obj i c hc'
  ·obtain⟨arr,e,fz,h1,h2'⟩:=(h.obj i c' hc').row (Go.Proofs.YtkinflmjagfapaaDoor.map_cell hj rfl)
   obtain⟨rfl,h2⟩:=h2'.low (Go.Proofs.YtkinflmjagfapaaDoor.row_cell hj rfl)
   refine .ofRow0 h1 ⟨by simpa using h2.len,?_,?_,?_,?_⟩
   ·intro c hc
    rcases List.mem_or_eq_of_mem_set hc with h'|h'
    ·exact h2.one c h'
    ·subst h';rfl
   ·intro i c cv hc hv
    rw[List.length_set]
    rw[List.getElem?_set] at hc
    split at hc
    ·rename_i e;subst e
     simp only[Option.some.injEq] at hc
     subst hc
     exact(h2.rel j _ cv hj hv).own (by simp) (by simp)
    ·exact h2.rel i c cv hc hv
   ·intro i c cv hc hv
    rw[List.getElem?_set] at hc
    split at hc
    ·rename_i e;subst e
     simp only[Option.some.injEq] at hc
     subst hc
     simp[ax]
    ·exact h2.own i c cv hc hv
   ·intro i E n hc
    rw[List.getElem?_set] at hc
    split at hc
    ·rename_i e;subst e
     simp at hc
    ·exact h2.bn i E n hc
 ·intro i i' c c' hi hi' hne
  obtain⟨d,hd,_⟩:=key i c hi
  obtain⟨d',hd',_⟩:=key i' c' hi'
  exact h.apart i i' d d' hd hd' hne
 ·intro i c hi
  obtain⟨d,hd,_⟩:=key i c hi
  exact h.notI i d hd
 ·intro i c hi
  obtain⟨d,hd,_⟩:=key i c hi
  exact h.notO i d hd
end Go.AM
namespace Go.Proofs.YtkinflmjagfapaaDoor
open Go.AM Go.RowKit
set_option autoImplicit false
set_option linter.unusedVariables false
theorem ajF{P:Program}{e:TypeId}(hc:P.cellsOf e=1)(count off n:Nat)(hn:off+n≤count):liesAt P P.depth e count off e n=true:=by
 have hd:P.depth=(2*(P.types.size+Made.depth)+1)+1:=rfl
 rw[hd]
 simp only[liesAt,Bool.or_eq_true]
 left
 rw[hd]
 simp[rowAt,hc,hn,sameLayout,Nat.mod_one]
theorem yM{P:Program}(w:World)(pt it ty e:TypeId)(hp:P.underlying pt=some (.pointer e))(hc:P.cellsOf e=1)(g off cells:Nat)(hsh:w.shape? g=some (e,cells))(l:List UInt8)(h0:l≠[])(hn:off+l.length≤cells)(h63:l.length≤9223372036854775807)
  (hcell:∀j x,l[j]? =some x→w.cell? ((⟨g,off,none⟩:Addr).add j)=some (.int .u8 x.toNat)):
  (Builtin.unsafeString_ #[pt,it] ty #[.pointer (some ⟨g,off,none⟩),.int .i64 l.length]).run P w=.ok (.string ⟨l.toArray⟩) (w.freeze ⟨g,off,none⟩ l.length):=by
 have hl:l.length≠0:=by simpa using h0
 have hlb:=Lib.run_loadBytes (P:=P) w l ⟨g,off,none⟩ .empty hcell
 have hlies:=ajF (P:=P) hc (cells / P.cellsOf e) off l.length (by rw[hc];simpa using hn)
 have h63':¬(9223372036854775807:Int)<(l.length:Int):=by omega
 have hmax:IntKind.i64.max=9223372036854775807:=rfl
 have hneg:¬(l.length:Int)<0:=by omega
 show (asInt (.int .i64 l.length) >>=_:Sem Value).run P w=_
 simp[asInt,asIntOf,hmax,h63',hneg,hl,variablesAt,hsh,elemOf,run_underlying hp,hlies,hlb]
set_option maxHeartbeats 2000000 in
set_option maxRecDepth 100000 in
theorem alc(b o n:Nat)(v p:Value)(s:ByteArray)(w w':World)(h1:w.drew.cell? ⟨b,o+1,none⟩=some v)(h1':w'.cell? ⟨b,o+1,none⟩=some v)(hv:∃ad cap,v=.slice ad n cap)
  (hSD:(Builtin.unsafeSliceData_ #[22] 141 #[v]).run Tryd.prog w.drew=.ok p w')
  (w'':World) (hUS:(Builtin.unsafeString_ #[141,3] 9 #[p,.int .i64 n]).run Tryd.prog w'=.ok (.string s) w''):
  Calls Tryd.prog 91 #[.pointer (some ⟨b,o,none⟩)] w fun e x=>e=.returned (.string s)∧x=w'':=by
 obtain⟨ad,cap,rfl⟩:=hv
 go_enter Tryd.func91,Tryd.ntmps91
 go_wp2
 go_region
 all_goals (go_wp2;go_ret;exact⟨rfl,rfl⟩)
theorem agC:Tryd.prog.underlying 141=some (.pointer (iW Tryd.prog)):=by kernel_rfl
theorem aiQ:Tryd.prog.cellsOf (iW Tryd.prog)=1:=by kernel_rfl
theorem ahL(w:World)(a:Addr)(n b:Nat)(h:b≠a.block):(w.freeze a n).heap[b]? =w.heap[b]?:=by
 unfold World.freeze
 split
 ·rfl
 ·rw[Array.getElem?_modify,if_neg (fun e=>h e.symm)]
theorem ahM(w:World)(a:Addr)(n b j:Nat):(w.freeze a n).cell? ⟨b,j,none⟩=w.cell? ⟨b,j,none⟩:=by
 unfold World.freeze
 by_cases hn:n=0
 ·simp only[hn,if_true]
 ·simp only[hn,if_false,World.cell?,Array.getElem?_modify]
  by_cases e:a.block=b
  ·subst e
   simp only[if_true]
   cases hb:w.heap[a.block]? with
   |none=>rfl
   |some o=>cases o<;>rfl
  ·simp only[e,if_false]
theorem ahN(w:World)(a:Addr)(n:Nat):(w.freeze a n).heap.size=w.heap.size:=by
 unfold World.freeze
 split<;>simp
theorem uE(w:World)(a:Addr)(n:Nat):(w.freeze a n).os=w.os∧(w.freeze a n).tape=w.tape∧(w.freeze a n).output=w.output:=by
 unfold World.freeze
 split<;>simp
theorem amc{id o:Nat}{cs:List V}{hp:List aq}{l:List UInt8}(hid:hp[id]? =some (some cs))(hc:cs[o+1]? =some (.sl .u8 .own l)):
  cL Tryd.prog 91 [.ptr id o] hp (.str l) (hp.set id (some (cs.set (o+1) (.sl .u8 (.may false) l)))):=by
 intro w g cargs hβ hhr hlen hbare hrel
 match cargs,hlen,hrel with
 |⟨[cv]⟩,hlen,hrel=>
  have r:=hrel 0 (.ptr id o) cv rfl rfl
  cases r with
  |ptr _ _ hlt=>
  obtain⟨arr,e,fz,h1,h2'⟩:=(hhr.obj id cs hid).row (map_cell hc rfl)
  obtain⟨rfl,h2⟩:=h2'.low (row_cell hc rfl)
  have hoc:o+1<arr.size:=by
   have:=(List.getElem?_eq_some_iff.1 hc).1
   rw[h2.len] at this
   exact this
  have hcell:w.cell? ⟨g.ρ id,o+1,none⟩=arr[o+1]?:=aD h1 (o+1)
  obtain⟨sv,hsv⟩:∃sv,arr[o+1]? =some sv:=⟨_,Array.getElem?_eq_getElem hoc⟩
  have hv:=h2.rel (o+1) _ sv hc hsv
  have ho:=h2.own (o+1) _ sv hc hsv
  rw[hsv] at hcell
  have hhr':=(hhr.disownCell hid hc).drew
  have hlen':(hp.set id (some (cs.set (o+1) (.sl .u8 (.may false) l)))).length=hp.length:=by simp
  have hold:∀(i:Nat) c,(hp.set id (some (cs.set (o+1) (.sl .u8 (.may false) l))))[i]? =some (some c)→∃c',hp[i]? =some (some c'):=by
   intro i c hi
   rw[List.getElem?_set] at hi
   split at hi
   ·rename_i e;subst e;exact⟨cs,hid⟩
   ·exact⟨c,hi⟩
  have fin:∀(w'':World),(∀b j,b<w.heap.size→w''.cell? ⟨b,j,none⟩=w.cell? ⟨b,j,none⟩)→w.heap.size≤w''.heap.size→w''.os=w.os→w''.tape=w.tape→w''.output=w.output→
    (∀b,b<w.heap.size→(∀ad len cap,sv=.slice (some ad) len cap→len≠0→b≠ad.block)→w''.heap[b]? =w.heap[b]?)→
    HR g (hp.set id (some (cs.set (o+1) (.sl .u8 (.may false) l)))) w''∧FR g hp w g (hp.set id (some (cs.set (o+1) (.sl .u8 (.may false) l)))) w'':=by
   intro w'' e1 e2 e3 e4 e5 e6
   have hO:∀ad len cap,sv=.slice (some ad) len cap→g.O ad.block=some (.cell id (o+1)):=by
    intro ad len cap e
    subst e
    exact ho.1
   obtain⟨q1,q2⟩:=HR.other (w':=w'') (hhr.disownCell hid hc) e2 e1 (by
    intro i c hi
    obtain⟨c',hc'⟩:=hold i c hi
    have hlt':g.ρ i<w.heap.size:=(hhr.obj i c' hc').lt
    refine e6 _ hlt' ?_
    intro ad len cap he _ hne
    have:=hO ad len cap he
    rw[←hne,hhr.notO i c' hc'] at this
    cases this) (by
    intro i j cs' c cv hi hj hown
    by_cases hij:i=id∧j=o+1
    ·obtain⟨rfl,rfl⟩:=hij
     rw[List.getElem?_set,if_pos rfl,if_pos hlt] at hi
     simp only[Option.some.injEq] at hi
     subst hi
     have hco:o+1<cs.length:=(List.getElem?_eq_some_iff.1 hc).1
     have hcc:(cs.set (o+1) (V.sl .u8 (.may false) l))[o+1]? =some (.sl .u8 (.may false) l):=List.getElem?_set_self hco
     rw[fO (row_cell hcc rfl),hcc] at hj
     simp only[Option.some.injEq] at hj
     subst hj
     simp[ax]
    ·refine bK hown rfl (fun b j' hI=>⟨hI,e1 b j' ?_⟩) (fun b hO'=>⟨hO',e6 b (hhr.oLt b _ hO') ?_,fun _ h=>h⟩)
     ·have hs:=hhr.exI b j' hI
      rcases Nat.lt_or_ge b w.heap.size with h'|h'
      ·exact h'
      ·simp[World.cell?,Array.getElem?_eq_none h'] at hs
     ·intro ad len cap he _ hne
      have:=hO ad len cap he
      rw[←hne,hO'] at this
      simp only[Option.some.injEq,Occ.cell.injEq] at this
      exact hij this)
   refine⟨q1,rfl,e3,e4,e5,e2,?_,by rw[hlen'] at q2 ⊢;exact q2,fun _ _ _ _ _ h=>h,fun _ _ _ h=>h,?_⟩
   ·intro b hb _ hO'
    refine e6 b hb ?_
    intro ad len cap he _ hne
    have:=hO ad len cap he
    rw[←hne,hO'] at this
    cases this
   ·intro i c hi
    exact .inl (hold i c hi)
  have res:∀(p:Value)(w' w'':World)(n:Nat),l.length=n→(∃ad cap,sv=.slice ad n cap)→w'.cell? ⟨g.ρ id,o+1,none⟩=some sv→
    (Builtin.unsafeSliceData_ #[22] 141 #[sv]).run Tryd.prog w.drew=.ok p w'→(Builtin.unsafeString_ #[141,3] 9 #[p,.int .i64 n]).run Tryd.prog w'=.ok (.string ⟨l.toArray⟩) w''→
    HR g (hp.set id (some (cs.set (o+1) (.sl .u8 (.may false) l)))) w''∧FR g hp w g (hp.set id (some (cs.set (o+1) (.sl .u8 (.may false) l)))) w''→l.length≤cb→
    Calls Tryd.prog 91 ⟨[.pointer (some ⟨g.ρ id,o,none⟩)]⟩ w fun e w'=>∃cv g',e=.returned cv∧HR g' (hp.set id (some (cs.set (o+1) (.sl .u8 (.may false) l)))) w'∧FR g hp w g' (hp.set id (some (cs.set (o+1) (.sl .u8 (.may false) l)))) w'∧VRel g'.I g'.ρ (hp.set id (some (cs.set (o+1) (.sl .u8 (.may false) l)))).length w' (.str l) cv∧ax g' w' .res (.str l) cv:=by
   intro p w' w'' n hn hex hcl hSD hUS hfin hmx
   refine(alc (g.ρ id) o n sv p ⟨l.toArray⟩ w w' hcell hcl hex hSD w'' hUS).mono ?_
   rintro e x ⟨rfl,rfl⟩
   exact⟨_,g,rfl,hfin.1,hfin.2,.str _ _ (by simp) (by simpa [ByteArray.size] using hmx),by simp[ax]⟩
  cases hv with
  |sle _ _ ad hne=>exact absurd rfl hne
  |sln k o=>
   refine res (.pointer none) w.drew w.drew 0 rfl ⟨_,_,rfl⟩ hcell rfl (Lib.run_unsafeString_none _ _ _ _ _) (fin _ (fun _ _ _=>rfl) (Nat.le_refl _) rfl rfl rfl (fun _ _ _=>rfl)) (by simp)
  |sl k oo xs b off len cap hl hcp hm hf f hI hw hvv=>
   obtain⟨u1,⟨arr',e',fz,u2,u3,u4⟩,u5⟩:=ho
   have he':e'=iW Tryd.prog:=(u4 rfl).trans hβ.1
   have hsh:w.drew.shape? b=some (iW Tryd.prog,arr'.size):=by
    have:w.drew.heap[b]? =some (.cells arr' e' fz):=u2
    simp[World.shape?,this,he']
   have hsz:EK.u8.sz=1:=rfl
   simp only[hsz,Nat.mul_one] at u3 u5 hw hI
   subst hl
   by_cases h0:l=[]
   ·subst h0
    by_cases hc0:cap=0
    ·subst hc0
     have f:=fQ w.drew (.view ⟨b,off,none⟩ (iW Tryd.prog))
     refine res _ _ _ 0 rfl ⟨_,_,rfl⟩ ?_ (Lib.run_unsafeSliceData_zero w.drew _ _ (iW Tryd.prog) agC ⟨b,off,none⟩ 0 _ hsh) (Lib.run_unsafeString_none _ _ _ _ _) (fin _ ?_ ?_ rfl rfl rfl ?_) (by simp)
     ·have hlt':g.ρ id<w.heap.size:=(Array.getElem?_eq_some_iff.1 h1).1
      have:=f.2.1 (g.ρ id) hlt'
      unfold World.cell? at hcell ⊢
      rw[this]
      exact hcell
     ·intro b' j hb'
      have:=f.2.1 b' hb'
      unfold World.cell?
      rw[this]
      rfl
     ·rw[f.1];exact Nat.le_succ _
     ·intro b' hb' _
      exact f.2.1 b' hb'
    ·refine res _ w.drew _ 0 rfl ⟨_,_,rfl⟩ hcell (Lib.run_unsafeSliceData_row _ _ _ _ _ _ hc0) (Lib.run_unsafeString_none _ _ _ _ _) (fin _ (fun _ _ _=>rfl) (Nat.le_refl _) rfl rfl rfl (fun _ _ _=>rfl)) (by simp)
   ·have hlen0:l.length≠0:=by simpa using h0
    refine res _ w.drew _ l.length rfl ⟨_,_,rfl⟩ hcell (Lib.run_unsafeSliceData_row _ _ _ _ _ _ (by omega)) (yM _ _ _ _ _ agC aiQ b off arr'.size hsh l h0 (by omega) (by unfold cb at hm;omega) ?_) (fin _ ?_ ?_ ?_ ?_ ?_ ?_) (by omega)
    ·intro j x hj
     have hx:=hw j x 0 hj (by simp[enc])
     have hr:=hvv j x 0 _ hj (by simp[enc];rfl)
     generalize f j 0=z at hx hr
     cases hr
     by_cases hj0:j=0
     ·subst hj0;simpa [Addr.add] using hx
     ·simpa [Addr.add,hj0] using hx
    ·intro b j _;rw[ahM];rfl
    ·rw[ahN];exact Nat.le_refl _
    ·exact(uE _ _ _).1
    ·exact(uE _ _ _).2.1
    ·exact(uE _ _ _).2.2
    ·intro b' hb' hne
     rw[ahL _ _ _ _ (hne _ _ _ rfl hlen0)];rfl
 |⟨[]⟩,hlen,_=>simp at hlen
 |⟨_::_::_⟩,hlen,_=>simp at hlen
end Go.Proofs.YtkinflmjagfapaaDoor
end
noncomputable section
namespace Go.Proofs.YtkinflmjagfapaaDoor
open Go.AM
set_option autoImplicit false
set_option linter.unusedVariables false
set_option linter.unusedSimpArgs false
def adE(E n o:Nat):Bool:=(E==122&&n==2&&o==0)
theorem aeD{E n o:Nat}(h:adE E n o=true):ab8 E n o=true:=by
 simp only[adE,Bool.or_eq_true,Bool.and_eq_true,beq_iff_eq] at h
 obtain⟨⟨rfl,rfl⟩,rfl⟩:=h;kernel_rfl
theorem getD_some{hp:List aq}{id:Nat}{cs:List V}(h:hp.getD id none=some cs):hp[id]? =some (some cs):=by
 rw[List.getD_eq_getElem?_getD] at h
 cases hq:hp[id]? with
 |none=>rw[hq] at h;simp at h
 |some x=>rw[hq] at h;simpa using h
theorem rE{cs:List V}{o:Nat}{v:V}(h:cs.getD o .undef=v)(hv:v≠.undef):cs[o]? =some v:=by
 rw[List.getD_eq_getElem?_getD] at h
 cases hq:cs[o]? with
 |none=>rw[hq] at h;exact absurd h.symm hv
 |some x=>rw[hq] at h;simpa using h
def gWS(id o:Nat)(s:List UInt8)(hp:List aq):Option (Bool×V×List aq):=
 match hp.getD id none with
 |some cs=>match cs.getD o .undef,cs.getD (o+1) .undef with
  | .bn E n,.sl .u8 .own l=>cond (adE E n o) (some (decide (l.length+s.length≤140737488355328),.tup [.int .i64 (s.length:Int),.nilif],hp.set id (some (cs.set (o+1) (.sl .u8 .own (l++s)))))) none
  |_,_=>none
 |none=>none
def gST(id o:Nat)(hp:List aq):Option (Bool×V×List aq):=
 match hp.getD id none with
 |some cs=>match cs.getD (o+1) .undef with
  | .sl .u8 .own l=>some (true,.str l,hp.set id (some (cs.set (o+1) (.sl .u8 (.may false) l))))
  |_=>none
 |none=>none
def gWB(id o:Nat)(c:Int)(hp:List aq):Option (Bool×V×List aq):=
 match hp.getD id none with
 |some cs=>match cs.getD o .undef,cs.getD (o+1) .undef with
  | .bn E n,.sl .u8 .own l=>cond (adE E n o) (some (decide (l.length+1≤140737488355328),.nilif,hp.set id (some (cs.set (o+1) (.sl .u8 .own (l++[UInt8.ofNat c.toNat])))))) none
  |_,_=>none
 |none=>none
theorem alV{id o:Nat}{c:Int}{hp hp':List aq}{v:V}(h:gWB id o c hp=some (true,v,hp')):cL Tryd.prog 88 [.ptr id o,.int .u8 c] hp v hp':=by
 unfold gWB at h
 split at h
 ·rename_i cs hcs
  split at h
  ·rename_i E n l hb hl
   cases hlie:adE E n o with
   |false=>rw[hlie] at h;simp at h
   |true=>
    rw[hlie] at h
    simp only[cond_true,Option.some.injEq,Prod.mk.injEq,decide_eq_true_eq] at h
    obtain⟨hlen,rfl,rfl⟩:=h
    exact amb (getD_some hcs) (rE hb (by simp)) (aeD hlie) (rE hl (by simp)) hlen
  ·simp at h
 ·simp at h
theorem alW{id o:Nat}{s:List UInt8}{hp hp':List aq}{v:V}(h:gWS id o s hp=some (true,v,hp')):cL Tryd.prog 90 [.ptr id o,.str s] hp v hp':=by
 unfold gWS at h
 split at h
 ·rename_i cs hcs
  split at h
  ·rename_i E n l hb hl
   cases hlie:adE E n o with
   |false=>rw[hlie] at h;simp at h
   |true=>
    rw[hlie] at h
    simp only[cond_true,Option.some.injEq,Prod.mk.injEq,decide_eq_true_eq] at h
    obtain⟨hlen,rfl,rfl⟩:=h
    exact al9 (getD_some hcs) (rE hb (by simp)) (aeD hlie) (rE hl (by simp)) hlen
  ·simp at h
 ·simp at h
theorem alX{id o:Nat}{hp hp':List aq}{v:V}(h:gST id o hp=some (true,v,hp')):cL Tryd.prog 91 [.ptr id o] hp v hp':=by
 unfold gST at h
 split at h
 ·rename_i cs hcs
  split at h
  ·rename_i l hl
   simp only[Option.some.injEq,Prod.mk.injEq,true_and] at h
   obtain⟨rfl,rfl⟩:=h
   exact amc (getD_some hcs) (rE hl (by simp))
  ·simp at h
 ·simp at h
def acR(Γ:az):az:=fun f vs hp=>
 if f=90 then
  match vs with
  | [.ptr id o,.str s]=>gWS id o s hp
  |_=>none
 else if f=91 then
  match vs with
  | [.ptr id o]=>gST id o hp
  |_=>none
 else if f=88 then
  match vs with
  | [.ptr id o,.int .u8 c]=>gWB id o c hp
  |_=>none
 else Γ f vs hp
theorem ako{Γ:az}(hΓ:bI Tryd.prog Γ):bI Tryd.prog (acR Γ):=by
 intro f vs hp v hp' h
 unfold acR at h
 split at h
 ·rename_i hf;subst hf
  split at h
  ·exact alW h
  ·simp at h
 ·split at h
  ·rename_i hf;subst hf
   split at h
   ·exact alX h
   ·simp at h
  ·split at h
   ·rename_i hf;subst hf
    split at h
    ·exact alV h
    ·simp at h
   ·exact hΓ _ _ _ _ _ h
theorem aiR{Γ:az}(hΓ:b7 Γ []):b7 (acR Γ) [90,91,88]:=by
 refine⟨?_,?_⟩
 ·intro f vs hp hf
  simp only[List.contains_cons,List.contains_nil,Bool.or_false,Bool.or_eq_false_iff,beq_eq_false_iff_ne,ne_eq,decide_eq_true_eq,Bool.not_eq_true,List.mem_cons,List.not_mem_nil,not_or,not_false_eq_true,or_false] at hf
  simp only[acR,hf,if_false]
  exact hΓ.pure f vs hp (by simp)
 ·intro f vs hp c v hp' hf h
  simp only[List.contains_cons,List.contains_nil,Bool.or_false,Bool.or_eq_true,beq_iff_eq] at hf
  omega
end Go.Proofs.YtkinflmjagfapaaDoor
end
noncomputable section
namespace Go.Proofs.YtkinflmjagfapaaDoor
open Go.AM
set_option autoImplicit false
set_option linter.unusedVariables false
set_option maxRecDepth 100000
abbrev iQ:FuncId:=110
abbrev rS:FuncId:=54
abbrev lF:FuncId:=89
def qu:Nat→List V→Option (Bool×V):=fun f vs=>match f,vs with
 |110,[.str a0,.int .u8 a1]=>some (true,.int .i64 (iJ a0 a1))
 |_,_=>none
def iZ:az:=(kK qu)
theorem tE:b7 iZ []:=(hU _ _)
theorem uF(h_internal_stringslite_IndexByte:∀(a0:Bs)(a1:Int),aF Tryd.prog iQ [.str a0,.int .u8 a1] (.int .i64 (iJ a0 a1))):bI Tryd.prog iZ:=by
 intro f vs hp v hp' h0
 obtain⟨h,he⟩:=tY h0
 subst he
 unfold qu at h
 split at h
 ·simp only[Option.some.injEq,Prod.mk.injEq] at h
  obtain⟨hc,rfl⟩:=h
  exact((h_internal_stringslite_IndexByte _ _).dim rfl).frame rfl rfl _
 ·simp at h
def pH:IR:=Rs [Mi 4 0] (Rs [Mv 5 0,Mv 6 1,Ca 7 110 [5,6],Mv 4 7] .ret)
def pI:List RV:=[.t 4]
theorem vk:(bz Tryd.prog [] 0 pH (Tryd.f89.body.getD .skip)&&lg Tryd.prog pI Tryd.f89.results.toList)=true:=by kernel_rfl
theorem uG:Tryd.f89.body=some (Tryd.f89.body.getD .skip):=by kernel_rfl
def wN(N:Nat)(p0:Bs)(p1:Int):Ro:=
 some (.int .i64 (iJ p0 p1),[])
def pJ(N:Nat)(p0:Bs)(p1:Int):Ro:=wN N p0 p1
theorem vl(N:Nat)(p0:Bs)(p1:Int):callF iZ N 8 pI pH [.str p0,.int .u8 p1] []=pJ N p0 p1:=by kernel_rfl
theorem wO(hΓ:bI Tryd.prog iZ)(N:Nat)(p0:Bs)(p1:Int){v:V}{hp:List aq}(h:pJ N p0 p1=some (v,hp)):aF Tryd.prog lF [.str p0,.int .u8 p1] v:=by
 have hc:=vk
 simp only[Bool.and_eq_true] at hc
 exact⟨hp,vc hΓ tE Tryd.func89 uG hc.1 hc.2 (by decide) ((vl N p0 p1).trans h)⟩
def xN:Nat→List V→Option (Bool×V):=fun f vs=>match f,vs with
 |89,[.str a0,.int .u8 a1]=>some (true,.int .i64 (iJ a0 a1))
 |_,_=>none
def gZ:az:=(acR (kK xN))
theorem aba:b7 gZ [90,91,88]:=((aiR (hU _ _)).mono (by decide) (by decide))
theorem ab9(h_strings_IndexByte:∀(a0:Bs)(a1:Int),aF Tryd.prog lF [.str a0,.int .u8 a1] (.int .i64 (iJ a0 a1))):bI Tryd.prog gZ:=by
 refine ako ?_
 intro f vs hp v hp' h0
 obtain⟨h,he⟩:=tY h0
 subst he
 unfold xN at h
 split at h
 ·simp only[Option.some.injEq,Prod.mk.injEq] at h
  obtain⟨hc,rfl⟩:=h
  exact((h_strings_IndexByte _ _).dim rfl).frame rfl rfl _
 ·simp at h
def sg:IR:=Rs [Bi 11 .lss 10 9] (Sq (Cn 11 .skip (.exit 0)) (Sq (.block 1 (Rs [Mv 12 10,Mv 4 12] (Rs [Mv 13 0,Mv 14 4,Pp (.idx 15 13 14),Mv 5 15] (Rs [Mv 16 5,Ca 17 89 [kS [34,92,8,12,10,13,9],16],Mv 6 17] (Rs [Mv 18 6,Bc 19 .geq 18 0] (Cn 19 (Rs [Ca 20 88 [3,.c (.int .u8 92)]] (Rg [Mv 21 6,Pp (.idx 22 (kS [34,92,98,102,110,114,116]) 21),Ca 23 88 [3,22]])) (Rs [Mv 24 5,Pp (.bin 25 .lss 24 (.c (.int .u8 32)))] (Cn 25 (Rs [Ca 26 90 [3,kS [92,117,48,48]]] (Rs [Mv 27 5,Pp (.bin 28 .shr 27 (kU 4)),Pp (.idx 29 (kS [48,49,50,51,52,53,54,55,56,57,97,98,99,100,101,102]) 28),Ca 30 88 [3,29]] (Rg [Mv 31 5,Pp (.bin 32 .and 31 (.c (.int .u8 15))),Pp (.idx 33 (kS [48,49,50,51,52,53,54,55,56,57,97,98,99,100,101,102]) 32),Ca 34 88 [3,33]]))) (Rg [Mv 35 5,Ca 36 88 [3,35]]))))))))) (Rg [Bc 37 .add 10 1,Mv 10 37])))
def sh:IR:=Rs [Ca 38 88 [3,.c (.int .u8 34)]] (Rs [Ca 39 91 [3],Mv 2 39] .ret)
def qU:IR:=Rs [Ms 2 []] (Rs [Pp (.newb 3 [.bn 122 2,.sl .u8 .own ([]:Bs)])] (Rs [Ca 7 88 [3,.c (.int .u8 34)]] (Sq (Rs [Mv 8 0,Pp (.lens 9 8),Mi 10 0] (.block 0 (.loop [0,3,9,10,1000000] 1 sg))) sh)))
def mX:List RV:=[.t 2]
theorem acS:(bz Tryd.prog [90,91,88] 0 qU (Tryd.f54.body.getD .skip)&&lg Tryd.prog mX Tryd.f54.results.toList)=true:=by kernel_rfl
theorem aca:Tryd.f54.body=some (Tryd.f54.body.getD .skip):=by kernel_rfl
def acT(R:IR→(Ex→St→Ro)→St→Ro)(again0:St→Ro):Ex→St→Ro:=(bG again0 [0,3,9,10,1000000] 1 (aJ 0 (kseq (R sh) (fin mX))))
abbrev lQ:Type:=(Bs×Int×Int×Bs)
def kN(x:lQ):St:={env:=(.str x.1::.undef::.undef::.ptr 0 0::(U 5 (.int .i64 x.2.1::.int .i64 x.2.2.1::(U 29 [])))),hp:=[some [.bn 122 2,.sl .u8 .own x.2.2.2]]}
def pK(N:Nat):(St→Ro)→St→Ro:=fun again0 s=>run gZ N sg (acT (run gZ N) again0) s
def dv(N:Nat)(again0:lQ→Ro)(x:lQ):Ro:=
 let v0:Bs:=x.1
 let v9:Int:=x.2.1
 let v10:Int:=x.2.2.1
 let o0_1:Bs:=x.2.2.2
 cond (decide (v10<v9)) (
  chk (ixl v10 v0) (
   let x2:=(↑(UInt8.toNat (List.getD v0 (Int.toNat v10) 0)):Int)
   let x3:=(iJ ([34,92,8,12,10,13,9]:Bs) x2)
   cond (decide (0≤x3)) (
    chk (decide (List.length o0_1+1≤140737488355328)) (
     chk (ixl x3 ([34,92,98,102,110,114,116]:Bs)) (
      let x4:=(↑(UInt8.toNat (List.getD ([34,92,98,102,110,114,116]:Bs) (Int.toNat x3) 0)):Int)
      chk (decide (List.length (o0_1++[UInt8.ofNat (Int.toNat 92)])+1≤140737488355328)) (
       let x5:=(IntKind.wrap .i64 (v10+1))
       again0 (v0,v9,x5,((o0_1++[UInt8.ofNat (Int.toNat 92)])++[UInt8.ofNat (Int.toNat x4)])))))) (
    cond (decide (x2<32)) (
     chk (decide (List.length o0_1+List.length ([92,117,48,48]:Bs)≤140737488355328)) (
      let x6:=(↑(List.length ([92,117,48,48]:Bs)):Int)
      chk (ixl (pn .u8 x2 4) ([48,49,50,51,52,53,54,55,56,57,97,98,99,100,101,102]:Bs)) (
       let x7:=(↑(UInt8.toNat (List.getD ([48,49,50,51,52,53,54,55,56,57,97,98,99,100,101,102]:Bs) (Int.toNat (pn .u8 x2 4)) 0)):Int)
       chk (decide (List.length (o0_1++([92,117,48,48]:Bs))+1≤140737488355328)) (
        chk (ixl (cl .and .u8 x2 15) ([48,49,50,51,52,53,54,55,56,57,97,98,99,100,101,102]:Bs)) (
         let x8:=(↑(UInt8.toNat (List.getD ([48,49,50,51,52,53,54,55,56,57,97,98,99,100,101,102]:Bs) (Int.toNat (cl .and .u8 x2 15)) 0)):Int)
         chk (decide (List.length ((o0_1++([92,117,48,48]:Bs))++[UInt8.ofNat (Int.toNat x7)])+1≤140737488355328)) (
          let x9:=(IntKind.wrap .i64 (v10+1))
          again0 (v0,v9,x9,(((o0_1++([92,117,48,48]:Bs))++[UInt8.ofNat (Int.toNat x7)])++[UInt8.ofNat (Int.toNat x8)])))))))) (
     chk (decide (List.length o0_1+1≤140737488355328)) (
      let x10:=(IntKind.wrap .i64 (v10+1))
      again0 (v0,v9,x10,(o0_1++[UInt8.ofNat (Int.toNat x2)]))))))) (
  chk (decide (List.length o0_1+1≤140737488355328)) (
   let x11:=(o0_1++[UInt8.ofNat (Int.toNat 34)])
   some (.str x11,[some [.bn 122 2,.sl .u8 (.may false) (o0_1++[UInt8.ofNat (Int.toNat 34)])]])))
theorem acb(N:Nat):LB (pK N) kN (dv N):=fun _ _=>by kernel_rfl
def ke(N:Nat)(p0:Bs)(q0:lQ→Ro):Ro:=
 chk (decide (List.length ([]:Bs)+1≤140737488355328)) (
  let x1:=(↑(List.length p0):Int)
  q0 (p0,x1,0,(([]:Bs)++[UInt8.ofNat (Int.toNat 34)])))
def mY(N:Nat)(p0:Bs):Ro:=ke N p0 (fun z=>aP N (dv N) z)
def aeW(N:Nat):List (Nat×(St→Ro)):=cC gZ N qU (fin mX)++[]
theorem acU(N:Nat)(p0:Bs):callF gZ N 40 mX qU [.str p0] []=mY N p0:=
 ((cd (aeW N) (by kernel_rfl) rfl (fun C=>ke N p0 (fun z=>C 1000000 (kN z))) (fun C=>by kernel_rfl)).trans (Eq.trans (b:=ke N p0 (fun z=>bd N (pK N) (kN z))) (by kernel_rfl) (congrArg (ke N p0) (funext fun z=>be (kN) (pK N) (dv N) (acb N) N z))))
theorem adF(hΓ:bI Tryd.prog gZ)(N:Nat)(p0:Bs){v:V}{hp:List aq}(h:mY N p0=some (v,hp)):aF Tryd.prog rS [.str p0] v:=by
 have hc:=acS
 simp only[Bool.and_eq_true] at hc
 exact⟨hp,vc hΓ aba Tryd.func54 aca hc.1 hc.2 (by decide) ((acU N p0).trans h)⟩
end Go.Proofs.YtkinflmjagfapaaDoor
end
noncomputable section
namespace Go.Proofs.YtkinflmjagfapaaDoor
open Go.AM Go.RowKit
set_option autoImplicit false
set_option linter.unusedVariables false
theorem ald(s:ByteArray)(c:Int)(w:World):(callFunc 130 #[.string s,.int .u8 c]).run Tryd.prog w=.ok (.value (.int .i64 (Lib.indexByte s.data.toList c.toNat.toUInt8))) w:=by
 rw[run_callFunc_extern Tryd.func130 (by kernel_rfl) (by kernel_rfl) (by kernel_rfl) (e:=Extern.BytealgIndexByte.indexByte) (by kernel_rfl)]
 rw[Lib.run_indexByteString]
 rfl
set_option maxHeartbeats 1000000 in
set_option maxRecDepth 100000 in
theorem ale(s:ByteArray)(c:Int)(w:World):Calls Tryd.prog 110 #[.string s,.int .u8 c] w fun e w'=>e=.returned (.int .i64 (Lib.indexByte s.data.toList c.toNat.toUInt8))∧w'=w:=by
 go_enter Tryd.func110,Tryd.ntmps110
 go_wp2
 rw[ald]
 rw[Oper.upon_value]
 go_wp2
 go_ret
 exact⟨rfl,rfl⟩
theorem agD:∀(l:List UInt8)(c:Nat),c<256→Lib.indexByte l c.toUInt8=iJ l (c:Int)∧ -1≤iJ l (c:Int)∧iJ l (c:Int)≤(l.length:Int)
 | [],c,h=>by simp[Lib.indexByte,iJ,zI]
 |b::l,c,h=>by
  have ih:=agD l c h
  have hb:(b==c.toUInt8)=decide (b.toNat=c):=by
   have e:(c.toUInt8).toNat=c:=by simp[Nat.toUInt8];omega
   by_cases hc:b.toNat=c
   ·have:b=c.toUInt8:=by apply UInt8.toNat_inj.1;rw[e];exact hc
    simp[this,e]
   ·have:b≠c.toUInt8:=by rintro rfl;exact hc e
    simp[this,hc]
  simp only[Lib.indexByte,iJ,zI,Int.toNat_natCast,hb] at ih ⊢
  by_cases hc:b.toNat=c
  ·simp[hc];omega
  ·simp only[hc,decide_false,if_false,Bool.false_eq_true]
   cases hi:zI l c with
   |none=>rw[hi] at ih;simp at ih ⊢;simp[ih];omega
   |some k=>
    rw[hi] at ih
    simp only[Option.map_some] at ih ⊢
    rw[ih.1]
    have:((k:Int)== -1)=false:=by simp
    rw[this]
    simp
    omega
theorem mZ(s:List UInt8)(c:Int):aF Tryd.prog iQ [.str s,.int .u8 c] (.int .i64 (iJ s c)):=by
 refine⟨[],?_⟩
 intro w g cargs hβ hhr hlen hbare hrel
 match cargs,hlen,hrel with
 |⟨[c0,c1]⟩,hlen,hrel=>
  have r0:=hrel 0 (.str s) c0 rfl rfl
  have r1:=hrel 1 (.int .u8 c) c1 rfl rfl
  cases r0 with
  |str _ b hl hm=>
  cases r1 with
  |int _ _ hr=>
  subst hl
  refine(ale b c w).mono ?_
  rintro e w' ⟨rfl,rfl⟩
  obtain⟨n,rfl⟩:∃n:Nat,c=(n:Int):=⟨c.toNat,by have:(0:Int)≤c:=hr.1;omega⟩
  have hn:n<256:=by have:(n:Int)≤255:=hr.2;omega
  have h:=agD b.data.toList n hn
  have hm':(b.data.toList.length:Int)≤9223372036854775807:=by
   have h1:b.size≤9223372036854775807:=hm
   have h2:b.data.toList.length=b.size:=by simp
   omega
  refine⟨_,g,rfl,hhr,FR.refl _ _ _,?_,by simp[ax]⟩
  rw[Int.toNat_natCast,h.1]
  exact .int _ _ ⟨by show (-9223372036854775808:Int)≤_;omega,by show _≤(9223372036854775807:Int);omega⟩
 |⟨[]⟩,hlen,_=>simp at hlen
 |⟨[_]⟩,hlen,_=>simp at hlen
 |⟨_::_::_::_⟩,hlen,_=>simp at hlen
end Go.Proofs.YtkinflmjagfapaaDoor
end
noncomputable section
namespace Go.Proofs.YtkinflmjagfapaaDoor
open Go.AM
set_option autoImplicit false
set_option linter.unusedSimpArgs false
set_option linter.unusedVariables false
theorem alY(k:Nat)(hk:k≤8)(a:Nat)(ha:a<256):cl .and .u8 (a:Int) ((2^k-1:Nat):Int)=((a%2^k:Nat):Int):=by
 have h2:2^k≤2^8:=Nat.pow_le_pow_right (by omega) hk
 have h1:1≤2^k:=Nat.one_le_two_pow
 rw[wG .u8 rfl a (2^k-1) ha (by show 2^k-1<2^8;omega),Nat.and_two_pow_sub_one_eq_mod]
theorem ajG(p:Nat→Bool)(h:(List.range 256).all p=true):∀n,n<256→p n=true:=fun n hn=>List.all_eq_true.1 h n (List.mem_range.2 hn)
def akp(n:Nat):Bool:=
 let k:=iJ [34,92,8,12,10,13,9] (n:Int)
 if 0≤k then decide (k<7)&&decide (hD (UInt8.ofNat n)=[92,([34,92,98,102,110,114,116]:List UInt8).getD k.toNat 0])
 else if n<32 then decide (hD (UInt8.ofNat n)=[92,117,48,48,([48,49,50,51,52,53,54,55,56,57,97,98,99,100,101,102]:List UInt8).getD (n / 16) 0,([48,49,50,51,52,53,54,55,56,57,97,98,99,100,101,102]:List UInt8).getD (n%16) 0])
 else decide (hD (UInt8.ofNat n)=[UInt8.ofNat n])
theorem alf:(List.range 256).all akp=true:=by kernel_rfl
theorem ahO(N:Nat)(rec:(List UInt8×Int×Int×List UInt8)→Option (V×List aq))(s o:List UInt8)(i:Nat)(hi:i<s.length)(hs:s.length≤9223372036854775806)(ho:o.length≤100000000):
  dv N rec (s,(s.length:Int),(i:Int),o)=rec (s,(s.length:Int),((i+1:Nat):Int),o++hD (s.getD i 0)):=by
 have hb:(s.getD i 0).toNat<256:=UInt8.toNat_lt _
 have ht:=ajG akp alf _ hb
 simp only[dv,Int.toNat_natCast]
 obtain⟨c,hc⟩:∃c,s.getD i 0=c:=⟨_,rfl⟩
 simp only[hc] at hb ht ⊢
 have e4:pn .u8 (c.toNat:Int) 4=((c.toNat / 16:Nat):Int):=ago .u8 c.toNat 4 (by decide)
 have e15:cl .and .u8 (c.toNat:Int) 15=((c.toNat%16:Nat):Int):=alY 4 (by omega) _ hb
 simp only[akp,UInt8.ofNat_toNat] at ht
 by_cases h1:(0:Int)≤iJ [34,92,8,12,10,13,9] (c.toNat:Int)
 ·rw[if_pos h1] at ht
  simp only[Bool.and_eq_true,decide_eq_true_eq] at ht
  obtain⟨ht1,ht2⟩:=ht
  have h7:([34,92,98,102,110,114,116]:List UInt8).length=7:=rfl
  simp(disch:=omega) only[jo,h1,ht2,h7,List.length_append,List.length_cons,List.length_nil,UInt8.ofNat_toNat,List.append_assoc,List.cons_append,List.nil_append]
  rfl
 ·rw[if_neg h1] at ht
  by_cases h2:c.toNat<32
  ·rw[if_pos h2] at ht
   simp only[decide_eq_true_eq] at ht
   have x1:ixl ((c.toNat / 16:Nat):Int) ([48,49,50,51,52,53,54,55,56,57,97,98,99,100,101,102]:List UInt8)=true:=ixt (by simp only[List.length_cons,List.length_nil];omega)
   have x2:ixl ((c.toNat%16:Nat):Int) ([48,49,50,51,52,53,54,55,56,57,97,98,99,100,101,102]:List UInt8)=true:=ixt (by simp only[List.length_cons,List.length_nil];omega)
   simp(disch:=omega) only[jo,ht,x1,x2,e4,e15,List.length_append,List.length_cons,List.length_nil,UInt8.ofNat_toNat,List.append_assoc,List.cons_append,List.nil_append]
   rfl
  ·rw[if_neg h2] at ht
   simp only[decide_eq_true_eq] at ht
   simp(disch:=omega) only[jo,ht,UInt8.ofNat_toNat]
   rfl
theorem wP(c:UInt8):(hD c).length≤6:=by
 unfold hD
 repeat' split
 all_goals simp
theorem abb(N:Nat)(s:List UInt8)(hs:s.length≤10000)(hN:s.length<N):(mY N s).map (·.1)=some (.str (aM s)):=by
 have h:(aP N (dv N) (s,(s.length:Int),(0:Int),[34])).map (·.1)=some (V.str (aM s)):=by
  have key:=aeA (B:=dv N) (fun x:List UInt8×Int×Int×List UInt8=>x.1=s∧x.2.1=(s.length:Int)∧∃i:Nat,x.2.2.1=(i:Int)∧i≤s.length∧x.2.2.2.length≤1+6*i)
   (fun x=>s.length-x.2.2.1.toNat) (fun x=>V.str (x.2.2.2++((s.drop x.2.2.1.toNat).flatMap hD++[34]))) ?_ N (s,(s.length:Int),(0:Int),[34]) ⟨rfl,rfl,0,rfl,by omega,by simp⟩ (by simpa using hN)
  ·rw[key];rfl
  ·rintro rec ⟨x1,x2,x3,o⟩ ⟨h1,h2,i,h3,hi,ho⟩ hrec
   dsimp only at h1 h2 h3 hi ho
   subst h1 h2 h3
   by_cases hl:i<x1.length
   ·rw[ahO N rec x1 o i hl (by omega) (by omega)]
    have hq:=wP (x1.getD i 0)
    rw[hrec (x1,(x1.length:Int),((i+1:Nat):Int),o++hD (x1.getD i 0)) ⟨rfl,rfl,i+1,rfl,by omega,by simp only[List.length_append];omega⟩ (by simp;omega)]
    simp only[Int.toNat_natCast]
    rw[List.drop_eq_getElem_cons hl,List.flatMap_cons]
    simp[List.getD,hl]
   ·have e:i=x1.length:=by omega
    subst e
    simp only[dv,Int.toNat_natCast,List.drop_length,List.flatMap_nil,List.nil_append]
    simp(disch:=omega) only[jo,]
    rfl
 simp only[mY,ke]
 simp(disch:=omega) only[jo,List.length_nil,List.nil_append]
 exact h
theorem aiS(a0:List UInt8)(a1:Int):aF Tryd.prog lF [.str a0,.int .u8 a1] (.int .i64 (iJ a0 a1)):=
 wO (uF mZ) 1000 a0 a1 rfl
theorem aiT(s:List UInt8)(hs:s.length≤10000):aF Tryd.prog rS [.str s] (.str (aM s)):=by
 obtain⟨hp1,h1⟩:=alR (abb 10001 s hs (by omega))
 exact adF (ab9 aiS) 10001 s h1
end Go.Proofs.YtkinflmjagfapaaDoor
end
noncomputable section
namespace Go.Proofs.YtkinflmjagfapaaDoor
open Go.AM
set_option autoImplicit false
set_option linter.unusedVariables false
set_option maxRecDepth 100000
abbrev rF:FuncId:=59
abbrev qv:FuncId:=27
abbrev jU:FuncId:=86
abbrev abD:FuncId:=37
abbrev z7:FuncId:=74
abbrev xO:FuncId:=16
abbrev z8:FuncId:=15
abbrev xP:FuncId:=57
abbrev aaa:FuncId:=58
abbrev abE:FuncId:=28
abbrev aab:FuncId:=26
abbrev vm:FuncId:=56
abbrev xQ:FuncId:=9
abbrev xR:FuncId:=17
abbrev pL:FuncId:=52
abbrev yN:FuncId:=53
abbrev qV:FuncId:=55
abbrev aeX:=Bool
noncomputable def lj(r:aeX):Prop:=aF Tryd.prog xQ [] (.bool r)∧oK  r
noncomputable def aeY:cq Tryd.prog:=.mk 9 fun us=>match us with
 | []=>let r:=pick lj;some (can lj,.bool r)
 |_=>none
abbrev agE:=Bs
noncomputable def iR(a0_0:List am)(r:agE):Prop:=aF Tryd.prog z8 [.agg [.sl .atype (.may false) a0_0]] (.str r)∧ud a0_0 r
noncomputable def s6:cq Tryd.prog:=.mk 15 fun us=>match us with
 | [.agg [.sl .atype (.may _) a0_0]]=>let r:=pick (iR a0_0);some (can (iR a0_0),.str r)
 |_=>none
abbrev aeZ:=Int
noncomputable def jj(a0_0:List am)(r:aeZ):Prop:=aF Tryd.prog xO [.agg [.sl .atype (.may false) a0_0]] (.int .u64 r)∧s3 a0_0 r
noncomputable def xS:cq Tryd.prog:=.mk 16 fun us=>match us with
 | [.agg [.sl .atype (.may _) a0_0]]=>let r:=pick (jj a0_0);some (can (jj a0_0),.int .u64 r)
 |_=>none
abbrev ae0:=Int
noncomputable def jk(a0:Bs)(r:ae0):Prop:=aF Tryd.prog xR [.str a0] (.int .u64 r)∧oJ a0 r
noncomputable def xT:cq Tryd.prog:=.mk 17 fun us=>match us with
 | [.str a0]=>let r:=pick (jk a0);some (can (jk a0),.int .u64 r)
 |_=>none
abbrev agF:=Bs
noncomputable def ej(a0:ak)(r:agF):Prop:=aF Tryd.prog aab [.agg (enc .jnode a0)] (.str r)∧du a0 r
noncomputable def aac:cq Tryd.prog:=.mk 26 fun us=>match us with
 | [.agg [.int .i64 a0_0,.int .i64 a0_1,.str a0_2,.sl .jnode (.may _) a0_3,.sl .str (.may _) a0_4]]=>let r:=pick (ej (⟨a0_0,a0_1,a0_2,a0_3,a0_4⟩));some (can (ej (⟨a0_0,a0_1,a0_2,a0_3,a0_4⟩)),.str r)
 |_=>none
abbrev yO:=ak×List (Int×Bool)×List am
noncomputable def aw(o0_0:List (Int×Bool))(o1_0:List am)(a1:Int)(r:yO):Prop:=bb Tryd.prog qv [.ptr 1 0,.int .i64 a1] [[.mp .ib o0_0],[.sl .atype (.may false) o1_0,.mr 0]] (.agg (enc .jnode r.1)) [[.mp .ib r.2.1],[.sl .atype (.may false) r.2.2,.mr 0]]∧dB o0_0 o1_0 a1 r
abbrev ahP:=Int
noncomputable def nS(a0:Bs)(r:ahP):Prop:=aF Tryd.prog abE [.str a0] (.int .u64 r)∧qS a0 r
noncomputable def ahQ:cq Tryd.prog:=.mk 28 fun us=>match us with
 | [.str a0]=>let r:=pick (nS a0);some (can (nS a0),.int .u64 r)
 |_=>none
abbrev ahR:=Bs
noncomputable def iE(a0:Int)(r:ahR):Prop:=aF Tryd.prog abD [.int .i64 a0] (.str r)∧kb a0 r
noncomputable def abF:cq Tryd.prog:=.mk 37 fun us=>match us with
 | [.int .i64 a0]=>let r:=pick (iE a0);some (can (iE a0),.str r)
 |_=>none
abbrev wQ:=Bs
noncomputable def eo(a0:Bool)(r:wQ):Prop:=aF Tryd.prog pL [.bool a0] (.str r)∧nt a0 r
noncomputable def wR:cq Tryd.prog:=.mk 52 fun us=>match us with
 | [.bool a0]=>let r:=pick (eo a0);some (can (eo a0),.str r)
 |_=>none
abbrev yP:=Bs
noncomputable def ja(a0 a1:Int)(r:yP):Prop:=aF Tryd.prog yN [.int .i64 a0,.int .i64 a1] (.str r)∧uC a0 a1 r
noncomputable def yQ:cq Tryd.prog:=.mk 53 fun us=>match us with
 | [.int .i64 a0,.int .i64 a1]=>let r:=pick (ja a0 a1);some (can (ja a0 a1),.str r)
 |_=>none
abbrev ae1:=Bs
noncomputable def lk(a0:Bs)(r:ae1):Prop:=aF Tryd.prog rS [.str a0] (.str r)∧sZ a0 r
noncomputable def ae2:cq Tryd.prog:=.mk 54 fun us=>match us with
 | [.str a0]=>let r:=pick (lk a0);some (can (lk a0),.str r)
 |_=>none
abbrev adG:=Bs
noncomputable def kf(a0:Bss)(a1:Bs)(r:adG):Prop:=aF Tryd.prog qV [.sl .str (.may false) a0,.str a1] (.str r)∧aa5 a0 a1 r
noncomputable def adH:cq Tryd.prog:=.mk 55 fun us=>match us with
 | [.sl .str (.may _) a0,.str a1]=>let r:=pick (kf a0 a1);some (can (kf a0 a1),.str r)
 |_=>none
abbrev adI:=Bss
noncomputable def iH(a0:List ak)(r:adI):Prop:=aF Tryd.prog vm [.sl .jnode (.may false) a0] (.ul .str r)∧sa a0 r
noncomputable def adJ:cq Tryd.prog:=.mk 56 fun us=>match us with
 | [.sl .jnode (.may _) a0]=>let r:=pick (iH a0);some (can (iH a0),.ul .str r)
 |_=>none
abbrev ae3:=Int×Int×Bs×Bool×List ak×Bool×Bss
noncomputable def dd(a0f:Bool)(a0:Bss)(a1f:Bool)(a1:List ak)(r:ae3):Prop:=aF Tryd.prog xP [.sl .str (.may a0f) a0,.sl .jnode (.may a1f) a1] (.agg [.int .i64 r.1,.int .i64 r.2.1,.str r.2.2.1,.sl .jnode (.may r.2.2.2.1) r.2.2.2.2.1,.sl .str (.may r.2.2.2.2.2.1) r.2.2.2.2.2.2])∧s0 a0f a0 a1f a1 r
noncomputable def xU:cq Tryd.prog:=.mk 57 fun us=>match us with
 | [.sl .str (.may a0f) a0,.sl .jnode (.may a1f) a1]=>let r:=pick (dd a0f a0 a1f a1);some (can (dd a0f a0 a1f a1),.agg [.int .i64 r.1,.int .i64 r.2.1,.str r.2.2.1,.sl .jnode (.may r.2.2.2.1) r.2.2.2.2.1,.sl .str (.may r.2.2.2.2.2.1) r.2.2.2.2.2.2])
 |_=>none
abbrev agG:=ak
noncomputable def bp(a0:Bs)(r:agG):Prop:=aF Tryd.prog aaa [.str a0] (.agg (enc .jnode r))∧eb a0 r
noncomputable def aad:cq Tryd.prog:=.mk 58 fun us=>match us with
 | [.str a0]=>let r:=pick (bp a0);some (can (bp a0),.agg (enc .jnode r))
 |_=>none
abbrev aae:=ak×List (Int×Bool)×List am
noncomputable def aS(o0_0:List (Int×Bool))(o1_0:List am)(a1:am)(r:aae):Prop:=bb Tryd.prog rF [.ptr 1 0,.agg (enc .atype a1)] [[.mp .ib o0_0],[.sl .atype (.may false) o1_0,.mr 0]] (.agg (enc .jnode r.1)) [[.mp .ib r.2.1],[.sl .atype (.may false) r.2.2,.mr 0]]∧oU o0_0 o1_0 a1 r
abbrev agH:=Bss
noncomputable def mA(r:agH):Prop:=aF Tryd.prog z7 [] (.sl .str (.may false) r)∧uc  r
noncomputable def agI:cq Tryd.prog:=.mk 74 fun us=>match us with
 | []=>let r:=pick mA;some (can mA,.sl .str (.may false) r)
 |_=>none
abbrev qi:=Bs
noncomputable def cY(a0:Bool)(r:qi):Prop:=aF Tryd.prog jU [.bool a0] (.str r)∧iK a0 r
noncomputable def qj:cq Tryd.prog:=.mk 86 fun us=>match us with
 | [.bool a0]=>let r:=pick (cY a0);some (can (cY a0),.str r)
 |_=>none
end Go.Proofs.YtkinflmjagfapaaDoor
end
noncomputable section
namespace Go.Proofs.YtkinflmjagfapaaDoor
open Go.AM
set_option autoImplicit false
set_option linter.unusedVariables false
set_option maxRecDepth 100000
abbrev oW:FuncId:=51
abbrev pM:FuncId:=25
abbrev vn:FuncId:=11
abbrev oL:FuncId:=3
abbrev aaf:FuncId:=65
abbrev aag:FuncId:=33
abbrev abG:FuncId:=32
abbrev xV:FuncId:=14
abbrev acc:=Bool
noncomputable def s7(a0 a1:Bs)(a2:Int)(r:acc):Prop:=aF Tryd.prog oL [.sl .u8 (.may false) a0,.sl .u8 (.may false) a1,.int .u8 a2] (.bool r)∧lD a0 a1 a2 r
abbrev adK:=ak
noncomputable def bC(a0:ak)(a1:Bs)(a2:Int)(r:adK):Prop:=aF Tryd.prog vn [.agg (enc .jnode a0),.sl .u8 (.may false) a1,.int .u8 a2] (.agg (enc .jnode r))∧sb a0 a1 a2 r
noncomputable def vo:cq Tryd.prog:=.mk 11 fun us=>match us with
 | [.agg [.int .i64 a0_0,.int .i64 a0_1,.str a0_2,.sl .jnode (.may _) a0_3,.sl .str (.may _) a0_4],.sl .u8 (.may _) a1,.int .u8 a2]=>let r:=pick (bC (⟨a0_0,a0_1,a0_2,a0_3,a0_4⟩) a1 a2);some (can (bC (⟨a0_0,a0_1,a0_2,a0_3,a0_4⟩) a1 a2),.agg (enc .jnode r))
 |_=>none
abbrev ae4:=Bs
noncomputable def ll(a0_0:List am)(r:ae4):Prop:=aF Tryd.prog xV [.agg [.sl .atype (.may false) a0_0]] (.str r)∧s4 a0_0 r
noncomputable def ae5:cq Tryd.prog:=.mk 14 fun us=>match us with
 | [.agg [.sl .atype (.may _) a0_0]]=>let r:=pick (ll a0_0);some (can (ll a0_0),.str r)
 |_=>none
abbrev wS:=Bs×List (Int×Bool)×List am
noncomputable def aB(o0_0:List (Int×Bool))(o1_0:List am)(a1:Int)(r:wS):Prop:=bb Tryd.prog pM [.ptr 1 0,.int .i64 a1] [[.mp .ib o0_0],[.sl .atype (.may false) o1_0,.mr 0]] (.str r.1) [[.mp .ib r.2.1],[.sl .atype (.may false) r.2.2,.mr 0]]∧eW o0_0 o1_0 a1 r
abbrev ahS:=Bs
noncomputable def nT(a0:Int)(r:ahS):Prop:=aF Tryd.prog abG [.int .i64 a0] (.str r)∧vg a0 r
noncomputable def ahT:cq Tryd.prog:=.mk 32 fun us=>match us with
 | [.int .i64 a0]=>let r:=pick (nT a0);some (can (nT a0),.str r)
 |_=>none
abbrev agJ:=Bs
noncomputable def bq(a0:Bs)(r:agJ):Prop:=aF Tryd.prog aag [.str a0] (.str r)∧pD a0 r
noncomputable def aah:cq Tryd.prog:=.mk 33 fun us=>match us with
 | [.str a0]=>let r:=pick (bq a0);some (can (bq a0),.str r)
 |_=>none
abbrev vp:=Bs×List (Int×Bool)×List am
noncomputable def aY(o0_0:List (Int×Bool))(o1_0:List am)(a1:am)(r:vp):Prop:=bb Tryd.prog oW [.ptr 1 0,.agg (enc .atype a1)] [[.mp .ib o0_0],[.sl .atype (.may false) o1_0,.mr 0]] (.str r.1) [[.mp .ib r.2.1],[.sl .atype (.may false) r.2.2,.mr 0]]∧mu o0_0 o1_0 a1 r
abbrev agK:=Bs
noncomputable def kg(a0:Int)(r:agK):Prop:=aF Tryd.prog aaf [.int .u64 a0] (.str r)∧pE a0 r
noncomputable def agL:cq Tryd.prog:=.mk 65 fun us=>match us with
 | [.int .u64 a0]=>let r:=pick (kg a0);some (can (kg a0),.str r)
 |_=>none
end Go.Proofs.YtkinflmjagfapaaDoor
end
noncomputable section
namespace Go.AM
set_option autoImplicit false
def reJ(x:ak):ak:=.mk x.kind x.n x.s x.l x.names
instance:Inhabited pm:=⟨.mk 0 [] [] [] 0⟩
instance:Inhabited ak:=⟨.mk 0 0 [] [] []⟩
instance:Inhabited bo:=⟨⟨[],[],0,false,.mk 0 0 [] [] []⟩⟩
instance:Inhabited am:=⟨⟨0,[],[],0,[],false,[],0,[],[]⟩⟩
theorem mB:∀x,reJ x=x
 | .mk _ _ _ _ _=>rfl
end Go.AM
end
noncomputable section
namespace Go.Proofs.YtkinflmjagfapaaDoor
open Go.AM
set_option autoImplicit false
set_option linter.unusedVariables false
set_option maxRecDepth 100000
noncomputable def acd:az:=tab (P:=Tryd.prog) [ahE] [yD] [] [aeY,ags,vo,ae5,s6,xS,xT]
def abc:IR:=Rs [Mb 6 false] (Sq (Rs [Ca 10 9 [],Un 11 10] (Cn 11 (Rs [Mb 6 false] .ret) .skip)) (Sq (Rs [Mv 12 0,Ll 13 12,Bc 14 .gtr 13 120,Mv 15 14,Gf 15 (.mov 16 1),Gf 15 (.lenl 17 16),Gf 15 (.bin 18 .gtr 17 (kI 8)),Po 19 15 18] (Cn 19 (Rs [Mb 6 true] .ret) .skip)) (Rs [Mv 21 0,Ca 22 12 [21],Ca 23 13 [22],Mv 24 1,Mv 25 2,Ca 26 11 [23,24,25],Ca 27 10 [26],Mv 20 27,Ex_ 28 0 20,Ex_ 29 1 20,Pp (.alr 7 1),Fz 7 1 28,Mv 8 29] (Sq (Rs [Mv 30 8,Bc 31 .neq 30 0] (Cn 31 (Rs [Mb 6 true] .ret) .skip)) (Rs [Ld 32 1 true 7,Ca 33 14 [32],Mv 9 33] (Rs [Ld 34 1 true 7,Ca 35 15 [34],Mv 36 9,Bi 37 .eql 35 36,Mv 38 37,Gt 38 (.lde 39 1 true 7),Gt 38 (.call 40 16 [39]),Gt 38 (.mov 41 9),Gt 38 (.call 42 17 [41]),Gt 38 (.bin 43 .eql 40 42),Pa 44 38 43,Mv 6 44] .ret))))))
def abd:List RV:=[.t 6]
theorem abe:FnC Tryd.prog acd [12,13,2000013] 0 oL Tryd.f3 abc abd:=fnC Tryd.func3
def si(N:Nat)(p0 p1:Bs)(p2:Int):Ro:=
 let z0:=fun g0 g1 g2=>(some (.bool g0,[some [.sl .u8 (.may false) g1,.int .i64 g2]]):Ro)
 an (lj) (fun(r1:Bool)=>
  cond (!r1) (
   some (.bool false,[])) (
   let x1:=(↑(List.length p0):Int)
   cond (decide (120<x1)) (
    some (.bool true,[])) (
    let x2:=(↑(List.length p1):Int)
    cond (decide (8<x2)) (
     some (.bool true,[])) (
     an (nQ p0) (fun r2=>
      an (fo r2.1 r2.2) (fun r3=>
       an (bC ⟨r3.1,r3.2.1,r3.2.2.1,r3.2.2.2.1,r3.2.2.2.2.1⟩ p1 p2) (fun(r4:ak)=>
        an (mv r4.kind r4.n r4.s r4.l r4.names) (fun r5=>
         cond (!(r5.2==0)) (
          z0 true r3.2.2.2.2.2.1 r3.2.2.2.2.2.2) (
          an (ll r5.1) (fun(r6:Bs)=>
           an (iR r5.1) (fun(r7:Bs)=>
            cond (decide (r7=r6)) (
             an (jj r5.1) (fun(r8:Int)=>
              an (jk r6) (fun(r9:Int)=>
               z0 (r8==r9) r3.2.2.2.2.2.1 r3.2.2.2.2.2.2))) (
             z0 false r3.2.2.2.2.2.1 r3.2.2.2.2.2.2))))))))))))
def sj(N:Nat)(p0 p1:Bs)(p2:Int):Ro:=si N p0 p1 p2
theorem aai(N:Nat)(p0 p1:Bs)(p2:Int)(h:Tot (sj N p0 p1 p2) (fun z=>∃(y0:Bool)(rest:List aq),z.1.dimR=.bool y0∧z.2=rest∧lD p0 p1 p2 (y0))):∃r,s7 p0 p1 p2 r:=abe.finP (N:=N) (by kernel_rfl) h fun _ ⟨y0,_,e,_,q⟩=>⟨(y0),e,q⟩
end Go.Proofs.YtkinflmjagfapaaDoor
end
noncomputable section
namespace Go.Proofs.YtkinflmjagfapaaDoor
open Go.AM
set_option autoImplicit false
set_option linter.unusedVariables false
set_option maxRecDepth 100000
noncomputable def adL:az:=tab (P:=Tryd.prog) [] [] [] [vo]
def acV:IR:=Rs [Bx 3 0,Pp (.new 6 [vI 0,vI 0,vS,nl .jnode,nl .str])] (Sq (Rs [Mv 10 1,Ll 11 10,Bc 12 .eql 11 0,Mv 13 12,Gf 13 (.fad 14 3 3),Gf 13 (.lde 15 1 false 14),Gf 13 (.lenl 16 15),Gf 13 (.bin 17 .eql 16 (kI 0)),Po 18 13 17] (Cn 18 (Rs [Pp (.bsl 19 .str [kS [105,110,116],kS [115,116,114,105,110,103],kS [114,101,99,111,114,100],kS [101,110,117,109],kS [110,117,108,108],kS [120],kS [78,97],kS [115,46,84,111,112],kS [97,45,98],kS [],kS [109,97,112],kS [97,114,114,97,121],kS [102,105,120,101,100],kS [84,111,112],kS [115,46,78,97],kS [78,46,98]] true),Mv 7 19] (Sq (Rs [Mv 20 2,Pp (.bin 21 .rem 20 (.c (.int .u8 8)))] (.block 0 (Rs [Pp (.bin 23 .eql 21 (.c (.int .u8 0))),Mv 22 23] (Cn 22 (Rs [Mv 24 2,Pp (.cvi 25 .i64 24),Pp (.bld 26 [vI 0,vI 0,vS,fu .jnode true,fu .str true] [(0,1,kI 3),(1,1,25)]),Sv 5 6 26] .ret) (Rs [Pp (.bin 28 .eql 21 (.c (.int .u8 1))),Mv 27 28] (Cn 27 (Rs [Pp (.bld 29 [vI 0,vI 0,vS,fu .jnode true,fu .str true] [(0,1,kI 1)]),Sv 5 6 29] .ret) (Rs [Pp (.bin 31 .eql 21 (.c (.int .u8 2))),Mv 30 31] (Cn 30 (Rs [Fa 32 3 3,Lq 33 32,Pp (.bld 34 [vI 0,vI 0,vS,fu .jnode true,fu .str true] [(0,1,kI 5),(3,1,33)]),Sv 5 6 34] .ret) .skip)))))))) (Rs [Mv 35 7,Mv 36 2,Pp (.bin 37 .quo 36 (.c (.int .u8 8))),Pp (.cvi 38 .i64 37),Mv 39 7,Ll 40 39,Bi 41 .rem 38 40,Ix 42 .str 35 41,Lq 43 42,Pp (.bld 44 [vI 0,vI 0,vS,fu .jnode true,fu .str true] [(0,1,kI 4),(2,1,43)]),Sv 5 6 44] .ret))) .skip)) (Rs [Ld 45 5 true 3,Pp (.new 8 [vI 0,vI 0,vS,.ul .jnode ([]:List ak),.ul .str ([]:Bss)]),Sv 5 8 45] (Sq (.reg [Pp (.blu 46 .jnode),Fa 47 3 3,Lq 48 47,Pp (.apu 49 .jnode (.tk 46) 48),Pp (.blu 50 .str),Fa 51 4 3,Lq 52 51,Pp (.apu 53 .str (.tk 50) 52),Fa 54 3 8,Fo [] [1] (.st none 1 54 (.tk 49)),Fa 55 4 8,Fo [] [1] (.st none 1 55 (.tk 53))] [[],[],[1],[0,1,2],[],[],[5],rg 0 6,rg 0 3,rg 0 8,rg 0 9,rg 0 10]) (Sq (.reg [Mv 56 1,Pp (.ixa 57 .u8 56 (kI 0)),Lq 58 57,Pp (.cvi 59 .i64 58),Fa 60 3 3,Lq 61 60,Ll 62 61,Bi 63 .rem 59 62,Mv 9 63] [[],[0],[0,1],[0,1,2],[],[4],[4,5],rg 0 6,rg 0 7]) (Sq (.block 1 (Rs [Mv 78 1,Ll 79 78,Bc 80 .eql 79 1,Mv 81 80,Gt 81 (.mov 82 2),Gt 81 (.bin 83 .rem 82 (.c (.int .u8 5))),Gt 81 (.bin 84 .eql 83 (.c (.int .u8 0))),Pa 85 81 84,Mv 86 85,Gt 86 (.fad 87 4 8),Gt 86 (.ld 88 1 false false 87),Gt 86 (.lnw 89 88),Gt 86 (.fad 90 3 8),Gt 86 (.ld 91 1 false false 90),Gt 86 (.lnw 92 91),Gt 86 (.bin 93 .eql 89 92),Pa 94 86 93,Mv 77 94] (Cn 77 (.gh (.opn (.cell 1 3)) (.gh (.opn (.cell 1 4)) (.ghp (.cls (.cell 1 3)) (.ghp (.cls (.cell 1 4)) (.reg [Fa 95 3 8,Fo [1] [] (.ld 96 1 false false 95),Mv 97 9,Pp (.slw 98 .jnode (.t 96) none (some (.t 97))),Fa 99 3 8,Fo [1] [] (.ld 100 1 false false 99),Mv 101 9,Bc 102 .add 101 1,Pp (.slw 103 .jnode (.t 100) (some (.t 102)) none),Fo [] [2] (.apx 104 .jnode (.t 98) (.t 103)),Fa 105 4 8,Fo [1] [] (.ld 106 1 false false 105),Mv 107 9,Pp (.slw 108 .str (.t 106) none (some (.t 107))),Fa 109 4 8,Fo [1] [] (.ld 110 1 false false 109),Mv 111 9,Bc 112 .add 111 1,Pp (.slw 113 .str (.t 110) (some (.t 112)) none),Fo [] [4] (.apx 114 .str (.t 108) (.t 113)),Fa 115 3 8,Fo [] [1] (.st none 1 115 (.tk 104)),Fa 116 4 8,Fo [] [1] (.st none 1 116 (.tk 114))] [[],[0],[],[0,1,2],[],[4],[],[6],rg 4 7,rg 0 8,[],[10],[],[10,11,12],[],[14],[],[16],rg 14 17,rg 0 18,rg 0 11++[14,15],rg 0 20,rg 0 21,rg 0 22]))))) (Rs [Mv 118 1,Ll 119 118,Bc 120 .eql 119 1,Mv 121 120,Gt 121 (.mov 122 2),Gt 121 (.bin 123 .rem 122 (.c (.int .u8 5))),Gt 121 (.bin 124 .eql 123 (.c (.int .u8 1))),Pa 125 121 124,Mv 126 125,Gt 126 (.fad 127 0 3),Gt 126 (.lde 128 1 false 127),Gt 126 (.bin 129 .eql 128 (kI 5)),Pa 130 126 129,Mv 117 130] (Cn 117 (.gh (.fz (.cell 1 3)) (.reg [Fa 131 3 8,Fo [] [1] (.ld 132 1 false true 131),Fa 133 3 8,Fo [1] [] (.ld 134 1 false false 133),Mv 135 9,Ix 136 .jnode 134 135,Ld 137 5 true 136,Pp (.bsl 138 .jnode [137] true),Pp (.app 139 .jnode (.tk 132) 138),Fa 140 3 8,Fo [] [1] (.st none 1 140 (.tk 139))] [[],[0],[],[2],[],[2,3,4],rg 2 5,rg 2 6,rg 0 7,rg 0 8,rg 0 9])) (.gh (.opn (.cell 1 3)) (.ghp (.cls (.cell 1 3)) (.reg [Fa 64 3 8,Fo [1] [] (.ld 65 1 false false 64),Mv 66 9,Fa 67 3 3,Lq 68 67,Mv 69 9,Ix 70 .jnode 68 69,Ld 71 5 true 70,Mv 72 1,Pp (.subl 73 .u8 72 (some (kI 1)) none),Mv 74 2,Ca 75 11 [71,73,74],Pp (.ixw 76 .jnode 65 66),Fo [] [2] (.stw none 5 76 75)] [[],[0],[],[],[3],[],[3,4,5],rg 3 6,[],[8],[],rg 3 10,rg 0 11,rg 0 12])))))))) (Sq (.gh (.fz (.cell 1 4)) (.gh (.fz (.cell 1 3)) (Rg [Pp (.ld 141 5 true false 8),Sv 5 6 141]))) .ret))))))
def acW:List RV:=[.cell 6 5 true]
theorem acX:FnC Tryd.prog adL [] 0 vn Tryd.f11 acV acW:=fnC Tryd.func11
def pN(N:Nat)(p0:ak)(p1:Bs)(p2:Int):Ro:=
 let x1:=(↑(List.length p1):Int)
 let z0:=fun g0 g1 g2 g3 g4=>(some (.agg [.int .i64 g0,.int .i64 g1,.str g2,.sl .jnode (.may g3) g4,.sl .str (.may true) ([]:Bss)],[some [.int .i64 g0,.int .i64 g1,.str g2,.sl .jnode (.may g3) g4,.sl .str (.may true) ([]:Bss)]]):Ro)
 let z1:=fun g0 g1 g2=>(some (.agg [.int .i64 p0.kind,.int .i64 p0.n,.str p0.s,.sl .jnode (.may false) g0,.sl .str (.may false) g1],g2):Ro)
 cond (x1==0) (
  cond ((Int.tmod p2 8)==0) (
   z0 3 (IntKind.wrap .i64 p2) ([]:Bs) true ([]:List ak)) (
   cond ((Int.tmod p2 8)==1) (
    z0 1 0 ([]:Bs) true ([]:List ak)) (
    cond ((Int.tmod p2 8)==2) (
     z0 5 0 ([]:Bs) false p0.l) (
     let x2:=(IntKind.wrap .u8 (Int.tdiv p2 8))
     let x3:=(↑(List.length ([([105,110,116]:Bs),([115,116,114,105,110,103]:Bs),([114,101,99,111,114,100]:Bs),([101,110,117,109]:Bs),([110,117,108,108]:Bs),([120]:Bs),([78,97]:Bs),([115,46,84,111,112]:Bs),([97,45,98]:Bs),([]:Bs),([109,97,112]:Bs),([97,114,114,97,121]:Bs),([102,105,120,101,100]:Bs),([84,111,112]:Bs),([115,46,78,97]:Bs),([78,46,98]:Bs)]:Bss)):Int)
     chk ((!(x3==0))) (
      let x4:=(Int.tmod (IntKind.wrap .i64 x2) x3)
      chk (ixl x4 ([([105,110,116]:Bs),([115,116,114,105,110,103]:Bs),([114,101,99,111,114,100]:Bs),([101,110,117,109]:Bs),([110,117,108,108]:Bs),([120]:Bs),([78,97]:Bs),([115,46,84,111,112]:Bs),([97,45,98]:Bs),([]:Bs),([109,97,112]:Bs),([97,114,114,97,121]:Bs),([102,105,120,101,100]:Bs),([84,111,112]:Bs),([115,46,78,97]:Bs),([78,46,98]:Bs)]:Bss)) (
       let x5:=List.getD ([([105,110,116]:Bs),([115,116,114,105,110,103]:Bs),([114,101,99,111,114,100]:Bs),([101,110,117,109]:Bs),([110,117,108,108]:Bs),([120]:Bs),([78,97]:Bs),([115,46,84,111,112]:Bs),([97,45,98]:Bs),([]:Bs),([109,97,112]:Bs),([97,114,114,97,121]:Bs),([102,105,120,101,100]:Bs),([84,111,112]:Bs),([115,46,78,97]:Bs),([78,46,98]:Bs)]:Bss) (Int.toNat x4) (av .str)
       z0 4 0 x5 true ([]:List ak))))))) (
  let x6:=(↑(List.length p0.l):Int)
  cond (x6==0) (
   cond ((Int.tmod p2 8)==0) (
    z0 3 (IntKind.wrap .i64 p2) ([]:Bs) true ([]:List ak)) (
    cond ((Int.tmod p2 8)==1) (
     z0 1 0 ([]:Bs) true ([]:List ak)) (
     cond ((Int.tmod p2 8)==2) (
      z0 5 0 ([]:Bs) false p0.l) (
      let x7:=(IntKind.wrap .u8 (Int.tdiv p2 8))
      let x8:=(↑(List.length ([([105,110,116]:Bs),([115,116,114,105,110,103]:Bs),([114,101,99,111,114,100]:Bs),([101,110,117,109]:Bs),([110,117,108,108]:Bs),([120]:Bs),([78,97]:Bs),([115,46,84,111,112]:Bs),([97,45,98]:Bs),([]:Bs),([109,97,112]:Bs),([97,114,114,97,121]:Bs),([102,105,120,101,100]:Bs),([84,111,112]:Bs),([115,46,78,97]:Bs),([78,46,98]:Bs)]:Bss)):Int)
      chk ((!(x8==0))) (
       let x9:=(Int.tmod (IntKind.wrap .i64 x7) x8)
       chk (ixl x9 ([([105,110,116]:Bs),([115,116,114,105,110,103]:Bs),([114,101,99,111,114,100]:Bs),([101,110,117,109]:Bs),([110,117,108,108]:Bs),([120]:Bs),([78,97]:Bs),([115,46,84,111,112]:Bs),([97,45,98]:Bs),([]:Bs),([109,97,112]:Bs),([97,114,114,97,121]:Bs),([102,105,120,101,100]:Bs),([84,111,112]:Bs),([115,46,78,97]:Bs),([78,46,98]:Bs)]:Bss)) (
        let x10:=List.getD ([([105,110,116]:Bs),([115,116,114,105,110,103]:Bs),([114,101,99,111,114,100]:Bs),([101,110,117,109]:Bs),([110,117,108,108]:Bs),([120]:Bs),([78,97]:Bs),([115,46,84,111,112]:Bs),([97,45,98]:Bs),([]:Bs),([109,97,112]:Bs),([97,114,114,97,121]:Bs),([102,105,120,101,100]:Bs),([84,111,112]:Bs),([115,46,78,97]:Bs),([78,46,98]:Bs)]:Bss) (Int.toNat x9) (av .str)
        z0 4 0 x10 true ([]:List ak))))))) (
   chk (decide ((List.length ([]:List ak)+List.length p0.l)*80≤140737488355328)) (
    let x11:=(([]:List ak)++p0.l)
    chk (decide ((List.length ([]:Bss)+List.length p0.names)*16≤140737488355328)) (
     let x12:=(([]:Bss)++p0.names)
     chk (decide ((0:Int)<↑(List.length p1))) (
      let x13:=(List.getD p1 (Int.toNat 0) (av .u8)).toNat
      let x14:=(↑(List.length p0.l):Int)
      chk ((!(x14==0))) (
       let x15:=(Int.tmod (IntKind.wrap .i64 x13) x14)
       let x16:=(↑(List.length p1):Int)
       cond (x16==1) (
        cond ((Int.tmod p2 5)==0) (
         let x17:=(↑(List.length x12):Int)
         let x18:=(↑(List.length x11):Int)
         cond (x17==x18) (
          chk (decide (0<List.length x11)) (
           chk (decide (0<List.length x12)) (
            chk ((decide (0≤x15)&&decide (x15≤(↑(List.length x11):Int)))) (
             let x19:=(IntKind.wrap .i64 (x15+1))
             chk ((decide (0≤x19)&&decide (x19≤(↑(List.length x11):Int)))) (
              chk ((decide ((Int.toNat x15)≤(Int.toNat x19))&&decide ((Int.toNat x19)+((List.length x11)-(Int.toNat x19))≤List.length x11))) (
               let x20:=((Int.toNat x15)+((List.length x11)-(Int.toNat x19)))
               let x21:=((List.take (Int.toNat x15) x11)++(List.take ((List.length x11)-(Int.toNat x19)) (List.drop (Int.toNat x19) x11)))
               chk ((decide (0≤x15)&&decide (x15≤(↑(List.length x12):Int)))) (
                let x22:=(IntKind.wrap .i64 (x15+1))
                chk ((decide (0≤x22)&&decide (x22≤(↑(List.length x12):Int)))) (
                 chk ((decide ((Int.toNat x15)≤(Int.toNat x22))&&decide ((Int.toNat x22)+((List.length x12)-(Int.toNat x22))≤List.length x12))) (
                  let x23:=((Int.toNat x15)+((List.length x12)-(Int.toNat x22)))
                  let x24:=((List.take (Int.toNat x15) x12)++(List.take ((List.length x12)-(Int.toNat x22)) (List.drop (Int.toNat x22) x12)))
                  chk (Nat.beq x23 (List.length x24)) (
                   chk (Nat.beq x20 (List.length x21)) (
                    z1 x21 x24 [some [.int .i64 p0.kind,.int .i64 p0.n,.str p0.s,.sl .jnode (.may false) x21,.sl .str (.may false) x24],some [.int .i64 p0.kind,.int .i64 p0.n,.str p0.s,.sl .jnode .own x21,.sl .str .own x24],none,none,none,none]))))))))))) (
          let x25:=(↑(List.length p1):Int)
          cond (x25==1) (
           cond ((Int.tmod p2 5)==1) (
            cond (p0.kind==5) (
             chk (ixl x15 x11) (
              let x26:=(List.getD x11 (Int.toNat x15) (av .jnode))
              chk (decide ((List.length x11+List.length ([(reJ x26)]:List ak))*80≤140737488355328)) (
               let x27:=(x11++([(reJ x26)]:List ak))
               z1 x27 x12 [some [.int .i64 p0.kind,.int .i64 p0.n,.str p0.s,.sl .jnode (.may false) x27,.sl .str (.may false) x12],some [.int .i64 p0.kind,.int .i64 p0.n,.str p0.s,.sl .jnode .own x27,.sl .str .own x12]]))) (
             chk (decide (0<List.length x11)) (
              chk (ixl x15 p0.l) (
               let x28:=(List.getD p0.l (Int.toNat x15) (av .jnode))
               chk ((decide (0≤1)&&decide (1≤(↑(List.length p1):Int)))) (
                let x29:=(List.drop (Int.toNat 1) (List.take (List.length p1) p1))
                an (bC (reJ x28) x29 p2) (fun(r1:ak)=>
                 chk ((decide (0≤x15)&&decide (x15<↑(List.length x11)))) (
                  chk (decide ((Int.toNat x15)<List.length x11)) (
                   let x30:=(List.set x11 (Int.toNat x15) (reJ r1))
                   chk (Nat.beq (List.length x11) (List.length x30)) (
                    z1 x30 x12 [some [.int .i64 p0.kind,.int .i64 p0.n,.str p0.s,.sl .jnode (.may false) x30,.sl .str (.may false) x12],some [.int .i64 p0.kind,.int .i64 p0.n,.str p0.s,.sl .jnode .own x30,.sl .str .own x12],none,none]))))))))) (
            chk (decide (0<List.length x11)) (
             chk (ixl x15 p0.l) (
              let x31:=(List.getD p0.l (Int.toNat x15) (av .jnode))
              chk ((decide (0≤1)&&decide (1≤(↑(List.length p1):Int)))) (
               let x32:=(List.drop (Int.toNat 1) (List.take (List.length p1) p1))
               an (bC (reJ x31) x32 p2) (fun(r2:ak)=>
                chk ((decide (0≤x15)&&decide (x15<↑(List.length x11)))) (
                 chk (decide ((Int.toNat x15)<List.length x11)) (
                  let x33:=(List.set x11 (Int.toNat x15) (reJ r2))
                  chk (Nat.beq (List.length x11) (List.length x33)) (
                   z1 x33 x12 [some [.int .i64 p0.kind,.int .i64 p0.n,.str p0.s,.sl .jnode (.may false) x33,.sl .str (.may false) x12],some [.int .i64 p0.kind,.int .i64 p0.n,.str p0.s,.sl .jnode .own x33,.sl .str .own x12],none,none]))))))))) (
           chk (decide (0<List.length x11)) (
            chk (ixl x15 p0.l) (
             let x34:=(List.getD p0.l (Int.toNat x15) (av .jnode))
             chk ((decide (0≤1)&&decide (1≤(↑(List.length p1):Int)))) (
              let x35:=(List.drop (Int.toNat 1) (List.take (List.length p1) p1))
              an (bC (reJ x34) x35 p2) (fun(r3:ak)=>
               chk ((decide (0≤x15)&&decide (x15<↑(List.length x11)))) (
                chk (decide ((Int.toNat x15)<List.length x11)) (
                 let x36:=(List.set x11 (Int.toNat x15) (reJ r3))
                 chk (Nat.beq (List.length x11) (List.length x36)) (
                  z1 x36 x12 [some [.int .i64 p0.kind,.int .i64 p0.n,.str p0.s,.sl .jnode (.may false) x36,.sl .str (.may false) x12],some [.int .i64 p0.kind,.int .i64 p0.n,.str p0.s,.sl .jnode .own x36,.sl .str .own x12],none,none])))))))))) (
         let x37:=(↑(List.length p1):Int)
         cond (x37==1) (
          cond ((Int.tmod p2 5)==1) (
           cond (p0.kind==5) (
            chk (ixl x15 x11) (
             let x38:=(List.getD x11 (Int.toNat x15) (av .jnode))
             chk (decide ((List.length x11+List.length ([(reJ x38)]:List ak))*80≤140737488355328)) (
              let x39:=(x11++([(reJ x38)]:List ak))
              z1 x39 x12 [some [.int .i64 p0.kind,.int .i64 p0.n,.str p0.s,.sl .jnode (.may false) x39,.sl .str (.may false) x12],some [.int .i64 p0.kind,.int .i64 p0.n,.str p0.s,.sl .jnode .own x39,.sl .str .own x12]]))) (
            chk (decide (0<List.length x11)) (
             chk (ixl x15 p0.l) (
              let x40:=(List.getD p0.l (Int.toNat x15) (av .jnode))
              chk ((decide (0≤1)&&decide (1≤(↑(List.length p1):Int)))) (
               let x41:=(List.drop (Int.toNat 1) (List.take (List.length p1) p1))
               an (bC (reJ x40) x41 p2) (fun(r4:ak)=>
                chk ((decide (0≤x15)&&decide (x15<↑(List.length x11)))) (
                 chk (decide ((Int.toNat x15)<List.length x11)) (
                  let x42:=(List.set x11 (Int.toNat x15) (reJ r4))
                  chk (Nat.beq (List.length x11) (List.length x42)) (
                   z1 x42 x12 [some [.int .i64 p0.kind,.int .i64 p0.n,.str p0.s,.sl .jnode (.may false) x42,.sl .str (.may false) x12],some [.int .i64 p0.kind,.int .i64 p0.n,.str p0.s,.sl .jnode .own x42,.sl .str .own x12],none,none]))))))))) (
           chk (decide (0<List.length x11)) (
            chk (ixl x15 p0.l) (
             let x43:=(List.getD p0.l (Int.toNat x15) (av .jnode))
             chk ((decide (0≤1)&&decide (1≤(↑(List.length p1):Int)))) (
              let x44:=(List.drop (Int.toNat 1) (List.take (List.length p1) p1))
              an (bC (reJ x43) x44 p2) (fun(r5:ak)=>
               chk ((decide (0≤x15)&&decide (x15<↑(List.length x11)))) (
                chk (decide ((Int.toNat x15)<List.length x11)) (
                 let x45:=(List.set x11 (Int.toNat x15) (reJ r5))
                 chk (Nat.beq (List.length x11) (List.length x45)) (
                  z1 x45 x12 [some [.int .i64 p0.kind,.int .i64 p0.n,.str p0.s,.sl .jnode (.may false) x45,.sl .str (.may false) x12],some [.int .i64 p0.kind,.int .i64 p0.n,.str p0.s,.sl .jnode .own x45,.sl .str .own x12],none,none]))))))))) (
          chk (decide (0<List.length x11)) (
           chk (ixl x15 p0.l) (
            let x46:=(List.getD p0.l (Int.toNat x15) (av .jnode))
            chk ((decide (0≤1)&&decide (1≤(↑(List.length p1):Int)))) (
             let x47:=(List.drop (Int.toNat 1) (List.take (List.length p1) p1))
             an (bC (reJ x46) x47 p2) (fun(r6:ak)=>
              chk ((decide (0≤x15)&&decide (x15<↑(List.length x11)))) (
               chk (decide ((Int.toNat x15)<List.length x11)) (
                let x48:=(List.set x11 (Int.toNat x15) (reJ r6))
                chk (Nat.beq (List.length x11) (List.length x48)) (
                 z1 x48 x12 [some [.int .i64 p0.kind,.int .i64 p0.n,.str p0.s,.sl .jnode (.may false) x48,.sl .str (.may false) x12],some [.int .i64 p0.kind,.int .i64 p0.n,.str p0.s,.sl .jnode .own x48,.sl .str .own x12],none,none])))))))))) (
        let x49:=(↑(List.length p1):Int)
        cond (x49==1) (
         cond ((Int.tmod p2 5)==1) (
          cond (p0.kind==5) (
           chk (ixl x15 x11) (
            let x50:=(List.getD x11 (Int.toNat x15) (av .jnode))
            chk (decide ((List.length x11+List.length ([(reJ x50)]:List ak))*80≤140737488355328)) (
             let x51:=(x11++([(reJ x50)]:List ak))
             z1 x51 x12 [some [.int .i64 p0.kind,.int .i64 p0.n,.str p0.s,.sl .jnode (.may false) x51,.sl .str (.may false) x12],some [.int .i64 p0.kind,.int .i64 p0.n,.str p0.s,.sl .jnode .own x51,.sl .str .own x12]]))) (
           chk (decide (0<List.length x11)) (
            chk (ixl x15 p0.l) (
             let x52:=(List.getD p0.l (Int.toNat x15) (av .jnode))
             chk ((decide (0≤1)&&decide (1≤(↑(List.length p1):Int)))) (
              let x53:=(List.drop (Int.toNat 1) (List.take (List.length p1) p1))
              an (bC (reJ x52) x53 p2) (fun(r7:ak)=>
               chk ((decide (0≤x15)&&decide (x15<↑(List.length x11)))) (
                chk (decide ((Int.toNat x15)<List.length x11)) (
                 let x54:=(List.set x11 (Int.toNat x15) (reJ r7))
                 chk (Nat.beq (List.length x11) (List.length x54)) (
                  z1 x54 x12 [some [.int .i64 p0.kind,.int .i64 p0.n,.str p0.s,.sl .jnode (.may false) x54,.sl .str (.may false) x12],some [.int .i64 p0.kind,.int .i64 p0.n,.str p0.s,.sl .jnode .own x54,.sl .str .own x12],none,none]))))))))) (
          chk (decide (0<List.length x11)) (
           chk (ixl x15 p0.l) (
            let x55:=(List.getD p0.l (Int.toNat x15) (av .jnode))
            chk ((decide (0≤1)&&decide (1≤(↑(List.length p1):Int)))) (
             let x56:=(List.drop (Int.toNat 1) (List.take (List.length p1) p1))
             an (bC (reJ x55) x56 p2) (fun(r8:ak)=>
              chk ((decide (0≤x15)&&decide (x15<↑(List.length x11)))) (
               chk (decide ((Int.toNat x15)<List.length x11)) (
                let x57:=(List.set x11 (Int.toNat x15) (reJ r8))
                chk (Nat.beq (List.length x11) (List.length x57)) (
                 z1 x57 x12 [some [.int .i64 p0.kind,.int .i64 p0.n,.str p0.s,.sl .jnode (.may false) x57,.sl .str (.may false) x12],some [.int .i64 p0.kind,.int .i64 p0.n,.str p0.s,.sl .jnode .own x57,.sl .str .own x12],none,none]))))))))) (
         chk (decide (0<List.length x11)) (
          chk (ixl x15 p0.l) (
           let x58:=(List.getD p0.l (Int.toNat x15) (av .jnode))
           chk ((decide (0≤1)&&decide (1≤(↑(List.length p1):Int)))) (
            let x59:=(List.drop (Int.toNat 1) (List.take (List.length p1) p1))
            an (bC (reJ x58) x59 p2) (fun(r9:ak)=>
             chk ((decide (0≤x15)&&decide (x15<↑(List.length x11)))) (
              chk (decide ((Int.toNat x15)<List.length x11)) (
               let x60:=(List.set x11 (Int.toNat x15) (reJ r9))
               chk (Nat.beq (List.length x11) (List.length x60)) (
                z1 x60 x12 [some [.int .i64 p0.kind,.int .i64 p0.n,.str p0.s,.sl .jnode (.may false) x60,.sl .str (.may false) x12],some [.int .i64 p0.kind,.int .i64 p0.n,.str p0.s,.sl .jnode .own x60,.sl .str .own x12],none,none])))))))))))))))
def pO(N:Nat)(p0:ak)(p1:Bs)(p2:Int):Ro:=pN N p0 p1 p2
theorem s8(N:Nat)(p0:ak)(p1:Bs)(p2:Int)(h:Tot (pO N p0 p1 p2) (fun z=>∃(y0:ak)(rest:List aq),z.1.dimR=.agg (enc .jnode y0)∧z.2=rest∧sb p0 p1 p2 (y0))):∃r,bC p0 p1 p2 r:=acX.finP (N:=N) (by kernel_rfl) h fun _ ⟨y0,_,e,_,q⟩=>⟨(y0),e,q⟩
end Go.Proofs.YtkinflmjagfapaaDoor
end
noncomputable section
namespace Go.Proofs.YtkinflmjagfapaaDoor
open Go.AM
set_option autoImplicit false
set_option linter.unusedVariables false
set_option maxRecDepth 100000
noncomputable def bv:az:=tab (P:=Tryd.prog) [] [qt,kM,nE,aa9,zZ] [] [zU,rp]
def ia:IR:=Cn 62 (Sq (.reg [Mv 72 2,Nk 73 72,Fo [1] [] (.ld 74 1 false false 73),Mv 75 0,Mv 76 2,Nk 77 76,Fo [1] [] (.ld 78 1 false false 77),Ll 79 78,Fo [] [0] (.call 80 45 [75,79]),Ix 81 .str 74 80,Lq 82 81,Ca 83 48 [82],Fo [] [2] (.st none 5 6 83)] [[],[0],[0,1],[],[],[4],[4,5],[4,5,6],rg 3 7,rg 0 8,rg 0 9,rg 0 10,rg 0 11]) .ret) .skip
def oX:IR:=Rs [Mv 84 2,Nk 85 84,Lo 86 85,Ll 87 86,Bc 88 .rem 87 26,Pp (.bin 89 .add (kI 97) 88),Pp (.cvi 90 .u8 89),Pp (.bsl 91 .u8 [90] true),Pp (.b2s 92 91),Pp (.bin 93 .add (kS [78]) 92),Mv 9 93] (Rs [Mv 94 2,Mv 95 2,Nk 96 95,Pp (.ld 97 1 false true 96),Mv 98 9,Pp (.bsl 99 .str [98] true),Pp (.app 100 .str (.tk 97) 99),Nk 101 94,Sk 1 101 100] (Sq (.block 1 (Rs [Mv 103 7,Bc 104 .eql 103 15,Mv 102 104] (Cn 102 (Rs [Pp (.bsl 105 .str [kS [116,121,112,101],kS [110,97,109,101],kS [115,105,122,101]] true),Ca 106 48 [kS [102,105,120,101,100]],Mv 107 9,Ca 108 48 [107],Mv 109 0,Ca 110 45 [109,kI 4],Pp (.bld 111 [vI 0,vI 0,vS,fu .jnode true,fu .str true] [(0,1,kI 3),(1,1,110)]),Pp (.bsl 112 .jnode [106,108,111] true),Ca 113 47 [105,112],Sv 5 6 113] .ret) (Rs [Mv 115 7,Bc 116 .eql 115 16,Mv 114 116] (Cn 114 (Rs [Ca 117 48 [kS [88]],Ca 118 48 [kS [89]],Ca 119 48 [kS [90]],Pp (.bsl 120 .jnode [117,118,119] true),Mv 121 0,Ca 122 45 [121,kI 3],Pp (.bin 123 .add (kI 1) 122),Pp (.subl 124 .jnode 120 none (some 123)),Mv 10 124] (Rs [Pp (.bsl 125 .str [kS [116,121,112,101],kS [110,97,109,101],kS [115,121,109,98,111,108,115]] true),Ca 126 48 [kS [101,110,117,109]],Mv 127 9,Ca 128 48 [127],Mv 129 10,Pp (.bld 130 [vI 0,vI 0,vS,fu .jnode true,fu .str true] [(0,1,kI 5),(3,1,129)]),Pp (.bsl 131 .jnode [126,128,130] true),Ca 132 47 [125,131],Pp (.new 11 [vI 0,vI 0,vS,nl .jnode,nl .str]),Sv 5 11 132] (Sq (Rs [Mv 133 0,Ca 134 45 [133,kI 2],Bc 135 .eql 134 0] (Cn 135 (.reg [Fa 136 4 11,Fo [3] [] (.ld 137 1 false false 136),Pp (.bsl 138 .str [kS [100,101,102,97,117,108,116]] true),Pp (.app 139 .str (.tk 137) 138),Fa 140 3 11,Fo [3] [] (.ld 141 1 false false 140),Ca 142 48 [kS [88]],Pp (.bsl 143 .jnode [142] true),Pp (.app 144 .jnode (.tk 141) 143),Fa 145 4 11,Fo [] [3] (.st none 1 145 (.tk 139)),Fa 146 3 11,Fo [] [3] (.st none 1 146 (.tk 144))] [[],[0],[],[0,1,2],[],[4],rg 0 3,[0,1,2,3,6],rg 0 7,rg 0 5,rg 0 9,rg 0 10,rg 0 11]) .skip)) (Rs [Pp (.ld 147 5 true false 11),Sv 5 6 147] .ret)))) .skip))))) (Rs [Mv 148 0,Mv 149 9,Mv 150 1,Mv 151 2,Ca 152 24 [148,149,150,151],Sv 5 6 152] .ret)))
def kh:IR:=.cut [0,1,2,6,7,1000001] 3 oX
def gv:IR:=Rs [Pp (.bsl 22 .str [kS [105,110,116],kS [108,111,110,103],kS [115,116,114,105,110,103],kS [98,121,116,101,115],kS [98,111,111,108,101,97,110],kS [110,117,108,108],kS [102,108,111,97,116],kS [100,111,117,98,108,101]] true),Mv 8 22] (Sq (.block 0 (Rs [Mv 24 7,Bc 25 .lss 24 8,Mv 23 25] (Cn 23 (Rs [Mv 26 8,Mv 27 7,Ix 28 .str 26 27,Lq 29 28,Ca 30 48 [29],Sv 5 6 30] .ret) (Rs [Mv 32 7,Bc 33 .lss 32 10,Mv 31 33] (Cn 31 (Rs [Pp (.bsl 34 .str [kS [116,121,112,101],kS [105,116,101,109,115]] true),Ca 35 48 [kS [97,114,114,97,121]],Mv 36 0,Mv 37 1,Bc 38 .add 37 1,Mv 39 2,Ca 40 46 [36,38,39],Pp (.bsl 41 .jnode [35,40] true),Ca 42 47 [34,41],Sv 5 6 42] .ret) (Rs [Mv 44 7,Bc 45 .eql 44 10,Mv 43 45] (Cn 43 (Rs [Pp (.bsl 46 .str [kS [116,121,112,101],kS [118,97,108,117,101,115]] true),Ca 47 48 [kS [109,97,112]],Mv 48 0,Mv 49 1,Bc 50 .add 49 1,Mv 51 2,Ca 52 46 [48,50,51],Pp (.bsl 53 .jnode [47,52] true),Ca 54 47 [46,53],Sv 5 6 54] .ret) (Rs [Mv 56 7,Bc 57 .lss 56 14,Mv 55 57] (Cn 55 (Rs [Mv 58 0,Mv 59 1,Mv 60 2,Ca 61 84 [58,59,60],Sv 5 6 61] .ret) (Rs [Mv 63 7,Bc 64 .eql 63 14,Mv 65 64,Gt 65 (.mov 66 2),Gt 65 (.nck 67 66),Gt 65 (.ld 68 1 false false 67),Gt 65 (.lenl 69 68),Gt 65 (.bin 70 .gtr 69 (kI 0)),Pa 71 65 70,Mv 62 71] (.cut [0,1,2,6,7,62,1000000] 3 ia))))))))))) kh)
def aaj:IR:=Rs [Pp (.new 6 [vI 0,vI 0,vS,nl .jnode,nl .str])] (Rs [Mv 12 0,Ca 13 45 [12,kI 20],Mv 7 13] (Sq (Rs [Mv 14 1,Bc 15 .gtr 14 3,Mv 16 15,Gf 16 (.mov 17 0),Gf 16 (.call 18 83 [17]),Po 19 16 18] (Cn 19 (Rg [Mv 20 7,Bc 21 .rem 20 8,Mv 7 21]) .skip)) (.cut [0,1,2,6,7,1000002] 3 gv)))
def c7:List RV:=[.cell 6 5 true]
theorem aak:FnC Tryd.prog bv [24,45,46,83,84,2000024,2000045,2000046,2000083,2000084] 2 sd Tryd.f46 aaj c7:=fnC Tryd.func46
abbrev ft:Type:=(Int×Int×Bs×Int×Bss×Int×Int×Bs×List ak×Bss)
def ep:ft→St:=fun(a,b,c,d,e,f,g,h,i,j)=>{env:=(.ptr 0 0::.int .i64 a::.ptr 1 0::(U 3 (.ptr 2 0::.int .i64 b::(U 145 [])))),hp:=[some [.sl .u8 (.may false) c,.int .i64 d],some [.sl .str .own e],some [.int .i64 f,.int .i64 g,.str h,.sl .jnode .own i,.sl .str .own j]]}
abbrev fv:Type:=(Int×Int×Bool×Bs×Int×Bss×Int×Int×Bs×List ak×Bss)
def dh:fv→St:=fun(b,c,d,e,f,g,h,i,j,k,a)=>{env:=(.ptr 0 0::.int .i64 b::.ptr 1 0::(U 3 (.ptr 2 0::.int .i64 c::(U 54 (.bool d::(U 90 [])))))),hp:=[some [.sl .u8 (.may false) e,.int .i64 f],some [.sl .str .own g],some [.int .i64 h,.int .i64 i,.str j,.sl .jnode .own k,.sl .str .own a]]}
def lG(R:IR→(Ex→St→Ro)→St→Ro):Ex→St→Ro:=(aJ 0 (kseq (R kh) (fin c7)))
abbrev lH:Type:=(Int×Int×Bs×Int×Bss×Int×Int×Bs×List ak×Bss)
def ic:lH→St:=fun(a,b,c,d,e,f,g,h,i,j)=>{env:=(.ptr 0 0::.int .i64 a::.ptr 1 0::(U 3 (.ptr 2 0::.int .i64 b::(U 145 [])))),hp:=[some [.sl .u8 (.may false) c,.int .i64 d],some [.sl .str .own e],some [.int .i64 f,.int .i64 g,.str h,.sl .jnode .own i,.sl .str .own j]]}
def lI(N:Nat):St→Ro:=fun s=>run bv N oX (fin c7) s
def fw(N:Nat):lH→Ro:=fun(v1,x,h,i,j,_,_,_,_,_)=>
 let x7:=(↑(List.length j):Int)
 let y:=(IntKind.wrap .i64 (97+(Int.tmod x7 26)))
 let z:=fun g0 g1 g2 g3 g4 g5 g6 g7 g8 g9=>(some (.agg [.int .i64 g0,.int .i64 g1,.str g2,.sl .jnode (.may g3) g4,.sl .str (.may g5) g6],[some [.sl .u8 (.may false) g7,.int .i64 g8],some [.sl .str .own g9],some [.int .i64 g0,.int .i64 g1,.str g2,.sl .jnode (.may g3) g4,.sl .str (.may g5) g6]]):Ro)
 chk (decide (List.length ([78]:Bs)+List.length ([(UInt8.ofNat (Int.toNat (IntKind.wrap .u8 y)))]:Bs)≤9223372036854775807)) (
 let v:=(([78]:Bs)++([(UInt8.ofNat (Int.toNat (IntKind.wrap .u8 y)))]:Bs))
 chk (decide ((List.length j+List.length ([v]:Bss))*16≤140737488355328)) (
 let p:=(j++([v]:Bss))
 cond (x==15) (
 an (aR ([102,105,120,101,100]:Bs)) (fun k=>
 an (aR v) (fun l=>
 an (aO h i 4) (fun q=>
 an (c6 true ([([116,121,112,101]:Bs),([110,97,109,101]:Bs),([115,105,122,101]:Bs)]:Bss) true ([⟨k.1,k.2.1,k.2.2.1,k.2.2.2.1,k.2.2.2.2⟩,⟨l.1,l.2.1,l.2.2.1,l.2.2.2.1,l.2.2.2.2⟩,⟨3,q.1,([]:Bs),([]:List ak),([]:Bss)⟩]:List ak)) (fun g=>
 z g.1 g.2.1 g.2.2.1 g.2.2.2.1 g.2.2.2.2.1 g.2.2.2.2.2.1 g.2.2.2.2.2.2 q.2.1 q.2.2 p))))) (
 cond (x==16) (
 an (aR ([88]:Bs)) (fun c=>
 an (aR ([89]:Bs)) (fun d=>
 an (aR ([90]:Bs)) (fun e=>
 an (aO h i 3) (fun r=>
 let s:=(IntKind.wrap .i64 (1+r.1))
 chk (decide (0≤s)&&decide (s≤(↑(List.length ([⟨c.1,c.2.1,c.2.2.1,c.2.2.2.1,c.2.2.2.2⟩,⟨d.1,d.2.1,d.2.2.1,d.2.2.2.1,d.2.2.2.2⟩,⟨e.1,e.2.1,e.2.2.1,e.2.2.2.1,e.2.2.2.2⟩]:List ak)):Int))) (
 let w:=(List.drop 0 (List.take (Int.toNat s) ([⟨c.1,c.2.1,c.2.2.1,c.2.2.2.1,c.2.2.2.2⟩,⟨d.1,d.2.1,d.2.2.1,d.2.2.2.1,d.2.2.2.2⟩,⟨e.1,e.2.1,e.2.2.1,e.2.2.2.1,e.2.2.2.2⟩]:List ak)))
 an (aR ([101,110,117,109]:Bs)) (fun m=>
 an (aR v) (fun n=>
 an (c6 true ([([116,121,112,101]:Bs),([110,97,109,101]:Bs),([115,121,109,98,111,108,115]:Bs)]:Bss) true ([⟨m.1,m.2.1,m.2.2.1,m.2.2.2.1,m.2.2.2.2⟩,⟨n.1,n.2.1,n.2.2.1,n.2.2.2.1,n.2.2.2.2⟩,⟨5,0,([]:Bs),w,([]:Bss)⟩]:List ak)) (fun a=>
 an (aO r.2.1 r.2.2 2) (fun o=>
 cond (o.1==0) (
 chk ((a.2.2.2.2.2.1&&decide (0<List.length ([([100,101,102,97,117,108,116]:Bs)]:Bss)))&&decide ((List.length a.2.2.2.2.2.2+List.length ([([100,101,102,97,117,108,116]:Bs)]:Bss))*16≤140737488355328)) (
 let t:=(a.2.2.2.2.2.2++([([100,101,102,97,117,108,116]:Bs)]:Bss))
 an (aR ([88]:Bs)) (fun b=>
 chk ((a.2.2.2.1&&decide (0<List.length ([⟨b.1,b.2.1,b.2.2.1,b.2.2.2.1,b.2.2.2.2⟩]:List ak)))&&decide ((List.length a.2.2.2.2.1+List.length ([⟨b.1,b.2.1,b.2.2.1,b.2.2.2.1,b.2.2.2.2⟩]:List ak))*80≤140737488355328)) (
 let u:=(a.2.2.2.2.1++([⟨b.1,b.2.1,b.2.2.1,b.2.2.2.1,b.2.2.2.2⟩]:List ak))
 some (.agg [.int .i64 a.1,.int .i64 a.2.1,.str a.2.2.1,.sl .jnode (.may false) u,.sl .str (.may false) t],[some [.sl .u8 (.may false) o.2.1,.int .i64 o.2.2],some [.sl .str .own p],some [.int .i64 a.1,.int .i64 a.2.1,.str a.2.2.1,.sl .jnode (.may false) u,.sl .str (.may false) t],some [.int .i64 a.1,.int .i64 a.2.1,.str a.2.2.1,.sl .jnode .own u,.sl .str .own t]]))))) (
 some (.agg [.int .i64 a.1,.int .i64 a.2.1,.str a.2.2.1,.sl .jnode (.may a.2.2.2.1) a.2.2.2.2.1,.sl .str (.may a.2.2.2.2.2.1) a.2.2.2.2.2.2],[some [.sl .u8 (.may false) o.2.1,.int .i64 o.2.2],some [.sl .str .own p],some [.int .i64 a.1,.int .i64 a.2.1,.str a.2.2.1,.sl .jnode (.may a.2.2.2.1) a.2.2.2.2.1,.sl .str (.may a.2.2.2.2.2.1) a.2.2.2.2.2.2],some [.int .i64 a.1,.int .i64 a.2.1,.str a.2.2.1,.sl .jnode (.may a.2.2.2.1) a.2.2.2.2.1,.sl .str (.may a.2.2.2.2.2.1) a.2.2.2.2.2.2]])))))))))))) (
 an (dx h i p v v1) (fun f=>
 z f.1 f.2.1 f.2.2.1 false f.2.2.2.1 false f.2.2.2.2.1 f.2.2.2.2.2.1 f.2.2.2.2.2.2.1 f.2.2.2.2.2.2.2)))))
theorem wT(N:Nat):LJ (lI N) ic (fw N):=fun _=>by kernel_rfl
def jb(N:Nat):St→Ro:=fun s=>run bv N ia (lG (run bv N)) s
def ig(N:Nat)(l:lH→Ro):fv→Ro:=fun(m,n,k,d,e,b,f,g,h,i,j)=>
 cond k (
 let o:=(↑(List.length b):Int)
 an (aO d e o) (fun c=>
 chk (ixl c.1 b) (
 let p:=List.getD b (Int.toNat c.1) (av .str)
 an (aR p) (fun a=>
 some (.agg [.int .i64 a.1,.int .i64 a.2.1,.str a.2.2.1,.sl .jnode (.may false) a.2.2.2.1,.sl .str (.may false) a.2.2.2.2],[some [.sl .u8 (.may false) c.2.1,.int .i64 c.2.2],some [.sl .str .own b],some [.int .i64 a.1,.int .i64 a.2.1,.str a.2.2.1,.sl .jnode (.may false) a.2.2.2.1,.sl .str (.may false) a.2.2.2.2]]))))) (
 l (m,n,d,e,b,f,g,h,i,j))
def fx(N:Nat)(x:fv):Ro:=ig N (fun z=>fw N z) x
def lJ(N:Nat):List (Nat×(St→Ro)):=(cC bv N ia (lG (run bv N))++(cC bv N kh (fin c7)++[]))
theorem wU(N:Nat):∀(x:fv),jb N (dh x)=fx N x:=by
 intro x
 have hX:∀C:Nat→St→Ro,cp C bv N ia (lG (cp C bv N)) (dh x)=ig N (fun z=>C 1000001 (ic z)) x:=by
  intro C
  kernel_rfl
 have h:jb N (dh x)=ig N (fun z=>lI N (ic z)) x:=(fJ (C:=iX (lJ N)) (cX (bi (l:=(lJ N)) (by kernel_rfl))) (fI (kL (cX (gt (bi (l:=(lJ N)) (by kernel_rfl)))) rfl)) _).trans ((hX _).trans (by kernel_rfl))
 have e2:(fun z=>lI N (ic z))=(fun z=>fw N z):=funext fun z=>wT N z
 rw[h,e2]
 rfl
def lK(N:Nat):St→Ro:=fun s=>run bv N gv (fin c7) s
def ii(N:Nat)(q1:fv→Ro):ft→Ro:=fun(r,d,b,c,a,j,k,l,m,n)=>
 let s:=fun t u v w x y z g7 g8 g9=>(some (.agg [.int .i64 t,.int .i64 u,.str v,.sl .jnode (.may w) x,.sl .str (.may y) z],[some [.sl .u8 (.may false) g7,.int .i64 g8],some [.sl .str .own g9],some [.int .i64 t,.int .i64 u,.str v,.sl .jnode (.may w) x,.sl .str (.may y) z]]):Ro)
 let z1:=fun t=>q1 (r,d,t,b,c,a,j,k,l,m,n)
 cond (decide (d<8)) (
 chk (ixl d ([([105,110,116]:Bs),([108,111,110,103]:Bs),([115,116,114,105,110,103]:Bs),([98,121,116,101,115]:Bs),([98,111,111,108,101,97,110]:Bs),([110,117,108,108]:Bs),([102,108,111,97,116]:Bs),([100,111,117,98,108,101]:Bs)]:Bss)) (
 let x1:=List.getD ([([105,110,116]:Bs),([108,111,110,103]:Bs),([115,116,114,105,110,103]:Bs),([98,121,116,101,115]:Bs),([98,111,111,108,101,97,110]:Bs),([110,117,108,108]:Bs),([102,108,111,97,116]:Bs),([100,111,117,98,108,101]:Bs)]:Bss) (Int.toNat d) (av .str)
 an (aR x1) (fun o=>
 s o.1 o.2.1 o.2.2.1 false o.2.2.2.1 false o.2.2.2.2 b c a))) (
 cond (decide (d<10)) (
 an (aR ([97,114,114,97,121]:Bs)) (fun p=>
 let x2:=(IntKind.wrap .i64 (r+1))
 an (bZ b c a x2) (fun e=>
 an (c6 true ([([116,121,112,101]:Bs),([105,116,101,109,115]:Bs)]:Bss) true ([⟨p.1,p.2.1,p.2.2.1,p.2.2.2.1,p.2.2.2.2⟩,⟨e.1,e.2.1,e.2.2.1,e.2.2.2.1,e.2.2.2.2.1⟩]:List ak)) (fun h=>
 s h.1 h.2.1 h.2.2.1 h.2.2.2.1 h.2.2.2.2.1 h.2.2.2.2.2.1 h.2.2.2.2.2.2 e.2.2.2.2.2.1 e.2.2.2.2.2.2.1 e.2.2.2.2.2.2.2)))) (
 cond (d==10) (
 an (aR ([109,97,112]:Bs)) (fun q=>
 let x3:=(IntKind.wrap .i64 (r+1))
 an (bZ b c a x3) (fun f=>
 an (c6 true ([([116,121,112,101]:Bs),([118,97,108,117,101,115]:Bs)]:Bss) true ([⟨q.1,q.2.1,q.2.2.1,q.2.2.2.1,q.2.2.2.2⟩,⟨f.1,f.2.1,f.2.2.1,f.2.2.2.1,f.2.2.2.2.1⟩]:List ak)) (fun i=>
 s i.1 i.2.1 i.2.2.1 i.2.2.2.1 i.2.2.2.2.1 i.2.2.2.2.2.1 i.2.2.2.2.2.2 f.2.2.2.2.2.1 f.2.2.2.2.2.2.1 f.2.2.2.2.2.2.2)))) (
 cond (decide (d<14)) (
 an (gp b c a r) (fun g=>
 s g.1 g.2.1 g.2.2.1 false g.2.2.2.1 false g.2.2.2.2.1 g.2.2.2.2.2.1 g.2.2.2.2.2.2.1 g.2.2.2.2.2.2.2)) (
 cond (d==14) (
 let x4:=(↑(List.length a):Int)
 z1 (decide (0<x4))) (
 z1 false)))))
def jc(N:Nat)(x:ft):Ro:=ii N (fun z=>fx N z) x
def qw(N:Nat):List (Nat×(St→Ro)):=(cC bv N gv (fin c7)++[])
theorem wV(N:Nat):∀(x:ft),lK N (ep x)=jc N x:=by
 intro x
 have hX:∀C:Nat→St→Ro,cp C bv N gv (fin c7) (ep x)=ii N (fun z=>C 1000000 (dh z)) x:=by
  intro C
  kernel_rfl
 have h:lK N (ep x)=ii N (fun z=>jb N (dh z)) x:=(fJ (C:=iX (qw N)) (cX (bi (l:=(qw N)) (by kernel_rfl))) rfl _).trans ((hX _).trans (by kernel_rfl))
 have e1:(fun z=>jb N (dh z))=(fun z=>fx N z):=funext fun z=>wU N z
 rw[h,e1]
 rfl
def gq(N:Nat)(c:Bs)(d:Int)(e:Bss)(g:Int)(h:ft→Ro):Ro:=
 let f:=fun i j k=>h (g,i,j,k,e,0,0,([]:Bs),([]:List ak),([]:Bss))
 an (aO c d 20) (fun b=>
 cond (decide (3<g)) (
 f (Int.tmod b.1 8) b.2.1 b.2.2) (
 an (hF b.2.1 b.2.2) (fun a=>
 cond a.1 (
 f (Int.tmod b.1 8) a.2.1 a.2.2) (
 f b.1 a.2.1 a.2.2))))
def rG(N:Nat)(a:Bs)(b:Int)(c:Bss)(d:Int):Ro:=gq N a b c d (fun z=>jc N z)
theorem yR(N:Nat)(a:Bs)(c:Int)(d:Bss)(g:Int)(h:Tot (rG N a c d g) (fun z=>∃(i:Int)(j:Int)(k:Bs)(l:List ak)(m:Bss)(n:Bs)(o:Int)(p:Bss)(rest:List aq),z.1.dimR=.agg [.int .i64 i,.int .i64 j,.str k,.sl .jnode (.may false) l,.sl .str (.may false) m]∧z.2=some [.sl .u8 (.may false) n,.int .i64 o]::some [.sl .str .own p]::rest∧dg a c d g (i,j,k,l,m,n,o,p))):∃r,bZ a c d g r:=FnC.finO (css:=[[.sl .u8 (.may false) a,.int .i64 c],[.sl .str .own d]]) aak (N:=N) ((cd _ (by kernel_rfl) rfl (fun C=>gq N a c d g (fun z=>C 1000002 (ep z))) (fun C=>by kernel_rfl)).trans (Eq.trans (b:=gq N a c d g (fun z=>lK N (ep z))) (by kernel_rfl) (congrArg (gq N a c d g) (funext fun z=>wV N z)))) h fun _ ⟨i,j,k,l,m,n,o,p,_,e,f,q⟩=>⟨(i,j,k,l,m,n,o,p),e,⟨_,f⟩,q⟩
noncomputable def aal:az:=tab (P:=Tryd.prog) [] [kM,nE] [] [rp]
def yS:IR:=Rs [Pp (.new 6 [vI 0,vI 0,vS,nl .jnode,nl .str])] (Rs [Ca 9 48 [kS [110,117,108,108]],Pp (.bsl 10 .jnode [9] true),Pp (.bld 11 [vI 0,vI 0,vS,nl .jnode,nl .str] [(0,1,kI 5),(3,1,10)]),Pp (.new 7 [vI 0,vI 0,vS,nl .jnode,nl .str]),Sv 5 7 11] (Sq (Rs [Mv 12 0,Ca 13 45 [12,kI 2],Bc 14 .eql 13 0] (Cn 14 (.reg [Fa 15 3 7,Fo [3] [] (.ld 16 1 false false 15),Pp (.bsl 17 .str [kS [105,110,116],kS [115,116,114,105,110,103]] true),Mv 18 0,Fo [] [0] (.call 19 45 [18,kI 2]),Ix 20 .str 17 19,Lq 21 20,Ca 22 48 [21],Pp (.bsl 23 .jnode [22] true),Pp (.app 24 .jnode (.tk 16) 23),Fa 25 3 7,Fo [] [3] (.st none 1 25 (.tk 24))] [[],[0],[],[],[3],[2,3,4],rg 2 5,rg 2 6,rg 2 7,rg 0 8,rg 0 9,rg 0 10]) .skip)) (Rs [Mv 26 0,Mv 27 1,Bc 28 .add 27 1,Mv 29 2,Ca 30 46 [26,28,29],Pp (.alr 8 5),Fz 8 5 30] (Sq (Rs [Fa 31 0 8,Lq 32 31,Bc 33 .eql 32 6] (Cn 33 (Rg [Fa 34 3 7,Pp (.ld 35 1 false true 34),Ld 36 5 true 8,Pp (.bsl 37 .jnode [36] true),Pp (.app 38 .jnode (.tk 35) 37),Fa 39 3 7,Sk 1 39 38]) .skip)) (Rs [Pp (.ld 40 5 true false 7),Sv 5 6 40] .ret)))))
def yT:List RV:=[.cell 6 5 true]
theorem yU:FnC Tryd.prog aal [45,46,2000045,2000046] 2 rx Tryd.f84 yS yT:=fnC Tryd.func84
def qA(N:Nat)(f:Bs)(g:Int)(e:Bss)(l:Int):Ro:=
 let i:=fun m n q r s t=>(some (.agg [.int .i64 5,.int .i64 0,.str ([]:Bs),.sl .jnode (.may m) n,.sl .str (.may false) ([]:Bss)],[some [.sl .u8 (.may false) q,.int .i64 r],some [.sl .str .own s],some [.int .i64 5,.int .i64 0,.str ([]:Bs),.sl .jnode (.may m) n,.sl .str (.may false) ([]:Bss)],some [.int .i64 5,.int .i64 0,.str ([]:Bs),t,.sl .str .own ([]:Bss)]]):Ro)
 an (aR ([110,117,108,108]:Bs)) (fun a=>
 an (aO f g 2) (fun h=>
 cond (h.1==0) (
 an (aO h.2.1 h.2.2 2) (fun j=>
 chk (ixl j.1 ([([105,110,116]:Bs),([115,116,114,105,110,103]:Bs)]:Bss)) (
 let u:=List.getD ([([105,110,116]:Bs),([115,116,114,105,110,103]:Bs)]:Bss) (Int.toNat j.1) (av .str)
 an (aR u) (fun d=>
 chk ((true&&decide (0<List.length ([⟨d.1,d.2.1,d.2.2.1,d.2.2.2.1,d.2.2.2.2⟩]:List ak)))&&decide ((List.length ([⟨a.1,a.2.1,a.2.2.1,a.2.2.2.1,a.2.2.2.2⟩]:List ak)+List.length ([⟨d.1,d.2.1,d.2.2.1,d.2.2.2.1,d.2.2.2.2⟩]:List ak))*80≤140737488355328)) (
 let k:=(([⟨a.1,a.2.1,a.2.2.1,a.2.2.2.1,a.2.2.2.2⟩]:List ak)++([⟨d.1,d.2.1,d.2.2.1,d.2.2.2.1,d.2.2.2.2⟩]:List ak))
 let v:=(IntKind.wrap .i64 (l+1))
 an (bZ j.2.1 j.2.2 e v) (fun c=>
 cond (c.1==6) (
 chk (decide ((List.length k+List.length ([⟨c.1,c.2.1,c.2.2.1,c.2.2.2.1,c.2.2.2.2.1⟩]:List ak))*80≤140737488355328)) (
 let o:=(k++([⟨c.1,c.2.1,c.2.2.1,c.2.2.2.1,c.2.2.2.2.1⟩]:List ak))
 i false o c.2.2.2.2.2.1 c.2.2.2.2.2.2.1 c.2.2.2.2.2.2.2 (.sl .jnode .own o))) (
 i false k c.2.2.2.2.2.1 c.2.2.2.2.2.2.1 c.2.2.2.2.2.2.2 (.sl .jnode .own k)))))))) (
 let w:=(IntKind.wrap .i64 (l+1))
 an (bZ h.2.1 h.2.2 e w) (fun b=>
 cond (b.1==6) (
 chk ((true&&decide (0<List.length ([⟨b.1,b.2.1,b.2.2.1,b.2.2.2.1,b.2.2.2.2.1⟩]:List ak)))&&decide ((List.length ([⟨a.1,a.2.1,a.2.2.1,a.2.2.2.1,a.2.2.2.2⟩]:List ak)+List.length ([⟨b.1,b.2.1,b.2.2.1,b.2.2.2.1,b.2.2.2.2.1⟩]:List ak))*80≤140737488355328)) (
 let p:=(([⟨a.1,a.2.1,a.2.2.1,a.2.2.2.1,a.2.2.2.2⟩]:List ak)++([⟨b.1,b.2.1,b.2.2.1,b.2.2.2.1,b.2.2.2.2.1⟩]:List ak))
 i false p b.2.2.2.2.2.1 b.2.2.2.2.2.2.1 b.2.2.2.2.2.2.2 (.sl .jnode .own p))) (
 i true ([⟨a.1,a.2.1,a.2.2.1,a.2.2.2.1,a.2.2.2.2⟩]:List ak) b.2.2.2.2.2.1 b.2.2.2.2.2.2.1 b.2.2.2.2.2.2.2 (.sl .jnode (.may true) ([⟨a.1,a.2.1,a.2.2.1,a.2.2.2.1,a.2.2.2.2⟩]:List ak)))))))
def qB(N:Nat)(a:Bs)(b:Int)(c:Bss)(d:Int):Ro:=qA N a b c d
theorem wW(N:Nat)(a:Bs)(b:Int)(c:Bss)(o:Int)(h:Tot (qB N a b c o) (fun z=>∃(d:Int)(g:Int)(i:Bs)(j:List ak)(k:Bss)(l:Bs)(m:Int)(n:Bss)(rest:List aq),z.1.dimR=.agg [.int .i64 d,.int .i64 g,.str i,.sl .jnode (.may false) j,.sl .str (.may false) k]∧z.2=some [.sl .u8 (.may false) l,.int .i64 m]::some [.sl .str .own n]::rest∧oR a b c o (d,g,i,j,k,l,m,n))):∃r,gp a b c o r:=FnC.finO (css:=[[.sl .u8 (.may false) a,.int .i64 b],[.sl .str .own c]]) yU (N:=N) (by kernel_rfl) h fun _ ⟨d,g,i,j,k,l,m,n,_,e,f,q⟩=>⟨(d,g,i,j,k,l,m,n),e,⟨_,f⟩,q⟩
noncomputable def lL:az:=tab (P:=Tryd.prog) [] [kM,nE,wK] [] [zU,rp]
def nU:IR:=Sq (Rs [Mv 17 10,Mv 18 11,Bi 19 .lss 17 18] (Cn 19 .skip (.exit 0))) (Sq (.block 1 (Rs [Mv 22 0,Mv 23 2,Bc 24 .add 23 1,Mv 25 3,Ca 26 46 [22,24,25],Pp (.alr 12 5),Fz 12 5 26] (Sq (.reg [Pp (.bsl 27 .str [kS [110,97,109,101],kS [116,121,112,101]] true),Mv 28 10,Pp (.bin 29 .add (kI 97) 28),Pp (.cvi 30 .u8 29),Pp (.bsl 31 .u8 [30] true),Pp (.b2s 32 31),Pp (.bin 33 .add (kS [102]) 32),Ca 34 48 [33],Ld 35 5 true 12,Pp (.bsl 36 .jnode [34,35] true),Ca 37 47 [27,36],Pp (.new 13 [vI 0,vI 0,vS,nl .jnode,nl .str]),Fo [] [4] (.st none 5 13 37)] [[],[],[1],[1,2],[1,2,3],rg 1 4,rg 1 5,rg 1 6,[],rg 1 8,rg 0 9,[],rg 0 11]) (Sq (Rs [Mv 38 0,Ca 39 45 [38,kI 3],Bc 40 .eql 39 0] (Cn 40 (.reg [Fa 41 4 13,Fo [4] [] (.ld 42 1 false false 41),Pp (.bsl 43 .str [kS [100,101,102,97,117,108,116]] true),Pp (.app 44 .str (.tk 42) 43),Fa 45 3 13,Fo [4] [] (.ld 46 1 false false 45),Mv 47 0,Ld 48 5 true 12,Fo [] [0] (.call 49 49 [47,48]),Pp (.bsl 50 .jnode [49] true),Pp (.app 51 .jnode (.tk 46) 50),Fa 52 4 13,Fo [] [4] (.st none 1 52 (.tk 44)),Fa 53 3 13,Fo [] [4] (.st none 1 53 (.tk 51))] [[],[0],[],[0,1,2],[],[4],[],[],[0,1,2,3,6,7],[0,1,2,3,6,7,8],rg 0 9,rg 0 5,rg 0 11,rg 0 12,rg 0 13]) .skip)) (Rg [Fa 54 3 9,Pp (.ld 55 1 false true 54),Pp (.ld 56 5 true false 13),Pp (.bsl 57 .jnode [56] true),Pp (.app 58 .jnode (.tk 55) 57),Fa 59 3 9,Sk 1 59 58]))))) (Rg [Mv 20 10,Bc 21 .add 20 1,Mv 10 21]))
def nu:IR:=Sq (.reg [Pp (.bsl 60 .str [kS [116,121,112,101],kS [110,97,109,101],kS [110,97,109,101,115,112,97,99,101],kS [102,105,101,108,100,115]] true),Ca 61 48 [kS [114,101,99,111,114,100]],Mv 62 1,Ca 63 48 [62],Ca 64 48 [kS [115]],Fo [3] [] (.ld 65 5 true false 9),Pp (.bsl 66 .jnode [61,63,64,65] true),Ca 67 47 [60,66],Fo [] [2] (.st none 5 8 67)] [[],[],[],[1,2],[1,2,3],[],rg 1 5,rg 0 6,rg 0 7]) .ret
def wX:IR:=Rs [Pp (.new 8 [vI 0,vI 0,vS,nl .jnode,nl .str])] (Rs [Pp (.bld 14 [vI 0,vI 0,vS,nl .jnode,nl .str] [(0,1,kI 5)]),Pp (.new 9 [vI 0,vI 0,vS,nl .jnode,nl .str]),Sv 5 9 14] (Sq (Rs [Mv 15 0,Ca 16 45 [15,kI 5],Mi 10 0,Mv 11 16] (.block 0 (.loop [0,1,2,3,8,9,10,11,1000000] 4 nU))) nu))
def pP:List RV:=[.cell 8 5 true]
theorem wY:FnC Tryd.prog lL [45,46,49,2000045,2000046,2000049] 2 qn Tryd.f24 wX pP:=fnC Tryd.func24
def vq(R:IR→(Ex→St→Ro)→St→Ro)(a:St→Ro):Ex→St→Ro:=(bG a [0,1,2,3,8,9,10,11,1000000] 4 (aJ 0 (kseq (R nu) (fin pP))))
abbrev gw:Type:=(Bs×Int×Int×Int×Bs×Int×Bss×Int×Int×Bs×List ak×Bss×Int×Int×Bs×List ak×Bss)
def fS:gw→St:=fun(h,i,j,k,l,m,n,o,p,q,a,b,c,d,e,f,g)=>{env:=(.ptr 0 0::.str h::.int .i64 i::.ptr 1 0::(U 4 (.ptr 2 0::.ptr 3 0::.int .i64 j::.int .i64 k::(U 56 [])))),hp:=[some [.sl .u8 (.may false) l,.int .i64 m],some [.sl .str .own n],some [.int .i64 o,.int .i64 p,.str q,.sl .jnode .own a,.sl .str .own b],some [.int .i64 c,.int .i64 d,.str e,.sl .jnode .own f,.sl .str .own g]]}
def kj(N:Nat):(St→Ro)→St→Ro:=fun a s=>run lL N nU (vq (run lL N) a) s
def gz(N:Nat)(j:gw→Ro):gw→Ro:=fun(z,v2,k,o,l,m,n,p,q,r,s,t,f,g,h,c,i)=>
 let z0:=fun g0 g1 g2 g3 g4=>j (z,v2,g0,o,g1,g2,g3,p,q,r,s,t,f,g,h,g4,i)
 cond (decide (k<o)) (
 let x1:=(IntKind.wrap .i64 (v2+1))
 an (bZ l m n x1) (fun e=>
 let x2:=(IntKind.wrap .i64 (97+k))
 chk (decide (List.length ([102]:Bs)+List.length ([(UInt8.ofNat (Int.toNat (IntKind.wrap .u8 x2)))]:Bs)≤9223372036854775807)) (
 let x3:=(([102]:Bs)++([(UInt8.ofNat (Int.toNat (IntKind.wrap .u8 x2)))]:Bs))
 an (aR x3) (fun u=>
 an (c6 true ([([110,97,109,101]:Bs),([116,121,112,101]:Bs)]:Bss) true ([⟨u.1,u.2.1,u.2.2.1,u.2.2.2.1,u.2.2.2.2⟩,⟨e.1,e.2.1,e.2.2.1,e.2.2.2.1,e.2.2.2.2.1⟩]:List ak)) (fun b=>
 an (aO e.2.2.2.2.2.1 e.2.2.2.2.2.2.1 3) (fun v=>
 cond (v.1==0) (
 chk ((b.2.2.2.2.2.1&&decide (0<List.length ([([100,101,102,97,117,108,116]:Bs)]:Bss)))&&decide ((List.length b.2.2.2.2.2.2+List.length ([([100,101,102,97,117,108,116]:Bs)]:Bss))*16≤140737488355328)) (
 let x4:=(b.2.2.2.2.2.2++([([100,101,102,97,117,108,116]:Bs)]:Bss))
 an (ec v.2.1 v.2.2 e.1 e.2.1 e.2.2.1 e.2.2.2.1 e.2.2.2.2.1) (fun d=>
 chk ((b.2.2.2.1&&decide (0<List.length ([⟨d.1,d.2.1,d.2.2.1,d.2.2.2.1,d.2.2.2.2.1⟩]:List ak)))&&decide ((List.length b.2.2.2.2.1+List.length ([⟨d.1,d.2.1,d.2.2.1,d.2.2.2.1,d.2.2.2.2.1⟩]:List ak))*80≤140737488355328)) (
 let x5:=(b.2.2.2.2.1++([⟨d.1,d.2.1,d.2.2.1,d.2.2.2.1,d.2.2.2.2.1⟩]:List ak))
 chk (decide ((List.length c+List.length ([⟨b.1,b.2.1,b.2.2.1,x5,x4⟩]:List ak))*80≤140737488355328)) (
 let x6:=(c++([⟨b.1,b.2.1,b.2.2.1,x5,x4⟩]:List ak))
 let x7:=(IntKind.wrap .i64 (k+1))
 z0 x7 d.2.2.2.2.2.1 d.2.2.2.2.2.2 e.2.2.2.2.2.2.2 x6))))) (
 chk (decide ((List.length c+List.length ([⟨b.1,b.2.1,b.2.2.1,b.2.2.2.2.1,b.2.2.2.2.2.2⟩]:List ak))*80≤140737488355328)) (
 let x8:=(c++([⟨b.1,b.2.1,b.2.2.1,b.2.2.2.2.1,b.2.2.2.2.2.2⟩]:List ak))
 let x9:=(IntKind.wrap .i64 (k+1))
 z0 x9 v.2.1 v.2.2 e.2.2.2.2.2.2.2 x8)))))))) (
 an (aR ([114,101,99,111,114,100]:Bs)) (fun w=>
 an (aR z) (fun x=>
 an (aR ([115]:Bs)) (fun y=>
 an (c6 true ([([116,121,112,101]:Bs),([110,97,109,101]:Bs),([110,97,109,101,115,112,97,99,101]:Bs),([102,105,101,108,100,115]:Bs)]:Bss) true ([⟨w.1,w.2.1,w.2.2.1,w.2.2.2.1,w.2.2.2.2⟩,⟨x.1,x.2.1,x.2.2.1,x.2.2.2.1,x.2.2.2.2⟩,⟨y.1,y.2.1,y.2.2.1,y.2.2.2.1,y.2.2.2.2⟩,⟨f,g,h,c,i⟩]:List ak)) (fun a=>
 some (.agg [.int .i64 a.1,.int .i64 a.2.1,.str a.2.2.1,.sl .jnode (.may a.2.2.2.1) a.2.2.2.2.1,.sl .str (.may a.2.2.2.2.2.1) a.2.2.2.2.2.2],[some [.sl .u8 (.may false) l,.int .i64 m],some [.sl .str .own n],some [.int .i64 a.1,.int .i64 a.2.1,.str a.2.2.1,.sl .jnode (.may a.2.2.2.1) a.2.2.2.2.1,.sl .str (.may a.2.2.2.2.2.1) a.2.2.2.2.2.2],some [.int .i64 f,.int .i64 g,.str h,.sl .jnode .own c,.sl .str .own i]]))))))
theorem uH(N:Nat):LB (kj N) fS (gz N):=fun _ _=>by kernel_rfl
def eu(N:Nat)(a:Bs)(b:Int)(c:Bss)(e:Bs)(f:Int)(g:gw→Ro):Ro:=
 an (aO a b 5) (fun d=>
 g (e,f,0,d.1,d.2.1,d.2.2,c,0,0,([]:Bs),([]:List ak),([]:Bss),5,0,([]:Bs),([]:List ak),([]:Bss)))
def pQ(N:Nat)(a:Bs)(b:Int)(c:Bss)(d:Bs)(e:Int):Ro:=eu N a b c d e (fun z=>aP N (gz N) z)
theorem vr(N:Nat)(a:Bs)(c:Int)(d:Bss)(g:Bs)(i:Int)(h:Tot (pQ N a c d g i) (fun z=>∃(j:Int)(k:Int)(l:Bs)(m:List ak)(n:Bss)(o:Bs)(p:Int)(s:Bss)(rest:List aq),z.1.dimR=.agg [.int .i64 j,.int .i64 k,.str l,.sl .jnode (.may false) m,.sl .str (.may false) n]∧z.2=some [.sl .u8 (.may false) o,.int .i64 p]::some [.sl .str .own s]::rest∧nL a c d g i (j,k,l,m,n,o,p,s))):∃r,dx a c d g i r:=FnC.finO (css:=[[.sl .u8 (.may false) a,.int .i64 c],[.sl .str .own d]]) wY (N:=N) ((cd _ (by kernel_rfl) rfl (fun C=>eu N a c d g i (fun z=>C 1000000 (fS z))) (fun C=>by kernel_rfl)).trans (Eq.trans (b:=eu N a c d g i (fun z=>bd N (kj N) (fS z))) (by kernel_rfl) (congrArg (eu N a c d g i) (funext fun z=>be (fS) (kj N) (gz N) (uH N) N z)))) h fun _ ⟨j,k,l,m,n,o,p,s,_,e,f,q⟩=>⟨(j,k,l,m,n,o,p,s),e,⟨_,f⟩,q⟩
noncomputable def bw:az:=tab (P:=Tryd.prog) [] [kM] [] [rp,aiO]
def ez:IR:=Cn 12 (Rs [Mv 17 0,Ca 18 45 [17,kI 200],Bc 19 .sub 18 50,Pp (.bld 20 [vI 0,vI 0,vS,nl .jnode,nl .str] [(0,1,kI 3),(1,1,19)]),Sv 5 4 20] .ret) (Sq (Rs [Pp (.bin 22 .eql 11 (kS [115,116,114,105,110,103])),Mv 21 22] (Cn 21 .skip (Rg [Pp (.bin 23 .eql 11 (kS [98,121,116,101,115])),Mv 21 23]))) (Cn 21 (Rs [Pp (.bsl 24 .str [kS [],kS [100],kS [195,164]] true),Mv 25 0,Ca 26 45 [25,kI 3],Ix 27 .str 24 26,Lq 28 27,Ca 29 48 [28],Sv 5 4 29] .ret) (Rs [Pp (.bin 31 .eql 11 (kS [98,111,111,108,101,97,110])),Mv 30 31] (Cn 30 (Rs [Mv 32 0,Ca 33 45 [32,kI 2],Pp (.bld 34 [vI 0,vI 0,vS,nl .jnode,nl .str] [(0,1,kI 2),(1,1,33)]),Sv 5 4 34] .ret) (Rs [Pp (.bin 36 .eql 11 (kS [110,117,108,108])),Mv 35 36] (Cn 35 (Rs [Pp (.bld 37 [vI 0,vI 0,vS,nl .jnode,nl .str] [(0,1,kI 1)]),Sv 5 4 37] .ret) .skip))))))
def iS:IR:=Sq (Rs [Fa 38 0 3,Lq 39 38,Bc 40 .eql 39 5] (Cn 40 (Rs [Pp (.bld 41 [vI 0,vI 0,vS,nl .jnode,nl .str] [(0,1,kI 1)]),Sv 5 4 41] .ret) .skip)) (Rs [Ld 43 5 true 3,Ca 44 85 [43,kS [116,121,112,101]],Mv 42 44,Ex_ 45 0 42,Ex_ 46 1 42,Pp (.alr 5 5),Fz 5 5 45,Mv 6 46] (Sq (Rs [Fa 47 2 5,Lq 48 47] (.block 1 (Rs [Pp (.bin 50 .eql 48 (kS [97,114,114,97,121])),Mv 49 50] (Cn 49 (Rs [Pp (.bld 51 [vI 0,vI 0,vS,nl .jnode,nl .str] [(0,1,kI 5)]),Sv 5 4 51] .ret) (Rs [Pp (.bin 53 .eql 48 (kS [101,110,117,109])),Mv 52 53] (Cn 52 (Rs [Ca 54 48 [kS [88]],Sv 5 4 54] .ret) .skip)))))) (Rs [Pp (.bld 55 [vI 0,vI 0,vS,nl .jnode,nl .str] [(0,1,kI 6)]),Sv 5 4 55] .ret)))
def iT:IR:=.cut [3,4,1000001] 2 iS
def vt:IR:=Rs [Bx 3 1,Pp (.new 4 [vI 0,vI 0,vS,nl .jnode,nl .str])] (Sq (Rs [Fa 7 0 3,Lq 8 7,Bc 9 .eql 8 4] (Cn 9 (Rs [Fa 10 2 3,Lq 11 10] (.block 0 (Sq (Rs [Pp (.bin 13 .eql 11 (kS [105,110,116])),Mv 12 13] (Cn 12 .skip (Rs [Pp (.bin 14 .eql 11 (kS [108,111,110,103])),Mv 12 14] (Cn 12 .skip (Rs [Pp (.bin 15 .eql 11 (kS [102,108,111,97,116])),Mv 12 15] (Cn 12 .skip (Rg [Pp (.bin 16 .eql 11 (kS [100,111,117,98,108,101])),Mv 12 16]))))))) (.cut [0,3,4,11,12,1000000] 2 ez)))) .skip)) iT)
def dQ:List RV:=[.cell 4 5 true]
theorem vu:FnC Tryd.prog bw [45,2000045] 1 pF Tryd.f49 vt dQ:=fnC Tryd.func49
abbrev dC:Type:=(Int×Int×Bs×List ak×Bss×Bs×Bool×Bs×Int×Int×Int×Bs×List ak×Bss)
def dj:dC→St:=fun(e,f,g,h,i,j,k,l,m,n,a,b,c,d)=>{env:=(.ptr 0 0::.undef::.undef::.ea [.int .i64 e,.int .i64 f,.str g,.sl .jnode (.may false) h,.sl .str (.may false) i]::.ptr 1 0::(U 6 (.str j::.bool k::(U 43 [])))),hp:=[some [.sl .u8 (.may false) l,.int .i64 m],some [.int .i64 n,.int .i64 a,.str b,.sl .jnode .own c,.sl .str .own d]]}
def jH(R:IR→(Ex→St→Ro)→St→Ro):Ex→St→Ro:=(aJ 0 (kseq (R iT) (fin dQ)))
abbrev jI:Type:=(Int×Int×Bs×List ak×Bss×Bs×Int×Int×Int×Bs×List ak×Bss)
def eX:jI→St:=fun(c,d,e,f,g,h,i,j,k,l,a,b)=>{env:=(U 3 (.ea [.int .i64 c,.int .i64 d,.str e,.sl .jnode (.may false) f,.sl .str (.may false) g]::.ptr 1 0::(U 51 []))),hp:=[some [.sl .u8 (.may false) h,.int .i64 i],some [.int .i64 j,.int .i64 k,.str l,.sl .jnode .own a,.sl .str .own b]]}
def jJ(N:Nat):St→Ro:=fun s=>run bw N iS (fin dQ) s
def dD(N:Nat):jI→Ro:=fun(a,c,d,e,f,g,h,_,_,_,_,_)=>
 let i:=fun k l m o p q r=>(some (.agg [.int .i64 k,.int .i64 l,.str m,.sl .jnode (.may false) o,.sl .str (.may false) p],[some [.sl .u8 (.may false) g,.int .i64 h],some [.int .i64 k,.int .i64 l,.str m,q,r]]):Ro)
 cond (a==5) (
 i 1 0 ([]:Bs) ([]:List ak) ([]:Bss) (.sl .jnode .own ([]:List ak)) (.sl .str .own ([]:Bss))) (
 an (mV a c d e f ([116,121,112,101]:Bs)) (fun n=>
 let s:=decide (n.2.2.1=([97,114,114,97,121]:Bs))
 cond s (
 i 5 0 ([]:Bs) ([]:List ak) ([]:Bss) (.sl .jnode .own ([]:List ak)) (.sl .str .own ([]:Bss))) (
 let j:=decide (n.2.2.1=([101,110,117,109]:Bs))
 cond j (
 an (aR ([88]:Bs)) (fun b=>
 i b.1 b.2.1 b.2.2.1 b.2.2.2.1 b.2.2.2.2 (.sl .jnode (.may false) b.2.2.2.1) (.sl .str (.may false) b.2.2.2.2))) (
 i 6 0 ([]:Bs) ([]:List ak) ([]:Bss) (.sl .jnode .own ([]:List ak)) (.sl .str .own ([]:Bss))))))
theorem tF(N:Nat):LJ (jJ N) eX (dD N):=fun _=>by kernel_rfl
def jK(N:Nat):St→Ro:=fun s=>run bw N ez (jH (run bw N)) s
def eY(N:Nat)(y:jI→Ro):dC→Ro:=fun(f,g,h,i,j,c,s,a,b,k,l,m,n,o)=>
 let p:=fun v w x z g4 g5 g6 g7 g8=>(some (.agg [.int .i64 v,.int .i64 w,.str x,.sl .jnode (.may false) z,.sl .str (.may false) g4],[some [.sl .u8 (.may false) g5,.int .i64 g6],some [.int .i64 v,.int .i64 w,.str x,g7,g8]]):Ro)
 cond s (
 an (aO a b 200) (fun t=>
 let x2:=(IntKind.wrap .i64 (t.1-50))
 p 3 x2 ([]:Bs) ([]:List ak) ([]:Bss) t.2.1 t.2.2 (.sl .jnode .own ([]:List ak)) (.sl .str .own ([]:Bss)))) (
 let x3:=decide (c=([115,116,114,105,110,103]:Bs))
 cond x3 (
 an (aO a b 3) (fun q=>
 chk (ixl q.1 ([([]:Bs),([100]:Bs),([195,164]:Bs)]:Bss)) (
 let x4:=List.getD ([([]:Bs),([100]:Bs),([195,164]:Bs)]:Bss) (Int.toNat q.1) (av .str)
 an (aR x4) (fun d=>
 p d.1 d.2.1 d.2.2.1 d.2.2.2.1 d.2.2.2.2 q.2.1 q.2.2 (.sl .jnode (.may false) d.2.2.2.1) (.sl .str (.may false) d.2.2.2.2))))) (
 let x5:=decide (c=([98,121,116,101,115]:Bs))
 cond x5 (
 an (aO a b 3) (fun r=>
 chk (ixl r.1 ([([]:Bs),([100]:Bs),([195,164]:Bs)]:Bss)) (
 let x6:=List.getD ([([]:Bs),([100]:Bs),([195,164]:Bs)]:Bss) (Int.toNat r.1) (av .str)
 an (aR x6) (fun e=>
 p e.1 e.2.1 e.2.2.1 e.2.2.2.1 e.2.2.2.2 r.2.1 r.2.2 (.sl .jnode (.may false) e.2.2.2.1) (.sl .str (.may false) e.2.2.2.2))))) (
 let x7:=decide (c=([98,111,111,108,101,97,110]:Bs))
 cond x7 (
 an (aO a b 2) (fun u=>
 p 2 u.1 ([]:Bs) ([]:List ak) ([]:Bss) u.2.1 u.2.2 (.sl .jnode .own ([]:List ak)) (.sl .str .own ([]:Bss)))) (
 let x8:=decide (c=([110,117,108,108]:Bs))
 cond x8 (
 p 1 0 ([]:Bs) ([]:List ak) ([]:Bss) a b (.sl .jnode .own ([]:List ak)) (.sl .str .own ([]:Bss))) (
 y (f,g,h,i,j,a,b,k,l,m,n,o))))))
def fT(N:Nat)(x:dC):Ro:=eY N (fun z=>dD N z) x
def jL(N:Nat):List (Nat×(St→Ro)):=(cC bw N ez (jH (run bw N))++(cC bw N iT (fin dQ)++[]))
theorem tG(N:Nat):∀(x:dC),jK N (dj x)=fT N x:=by
 intro x
 have hX:∀C:Nat→St→Ro,cp C bw N ez (jH (cp C bw N)) (dj x)=eY N (fun z=>C 1000001 (eX z)) x:=by
  intro C
  kernel_rfl
 have h:jK N (dj x)=eY N (fun z=>jJ N (eX z)) x:=(fJ (C:=iX (jL N)) (cX (bi (l:=(jL N)) (by kernel_rfl))) (fI (kL (cX (gt (bi (l:=(jL N)) (by kernel_rfl)))) rfl)) _).trans ((hX _).trans (by kernel_rfl))
 have e1:(fun z=>jJ N (eX z))=(fun z=>dD N z):=funext fun z=>tF N z
 rw[h,e1]
 rfl
abbrev jM:Type:=(Int×Int×Bs×List ak×Bss×Bs×Int×Int×Int×Bs×List ak×Bss)
def jd:jM→St:=fun(c,d,e,f,g,h,i,j,k,l,a,b)=>{env:=(U 3 (.ea [.int .i64 c,.int .i64 d,.str e,.sl .jnode (.may false) f,.sl .str (.may false) g]::.ptr 1 0::(U 51 []))),hp:=[some [.sl .u8 (.may false) h,.int .i64 i],some [.int .i64 j,.int .i64 k,.str l,.sl .jnode .own a,.sl .str .own b]]}
def nV(N:Nat):St→Ro:=fun s=>run bw N iS (fin dQ) s
def fU(N:Nat):jM→Ro:=fun(b,c,d,e,f,g,h,_,_,_,_,_)=>
 let i:=fun l m n p q r s=>(some (.agg [.int .i64 l,.int .i64 m,.str n,.sl .jnode (.may false) p,.sl .str (.may false) q],[some [.sl .u8 (.may false) g,.int .i64 h],some [.int .i64 l,.int .i64 m,.str n,r,s]]):Ro)
 cond (b==5) (
 i 1 0 ([]:Bs) ([]:List ak) ([]:Bss) (.sl .jnode .own ([]:List ak)) (.sl .str .own ([]:Bss))) (
 an (mV b c d e f ([116,121,112,101]:Bs)) (fun o=>
 let j:=decide (o.2.2.1=([97,114,114,97,121]:Bs))
 cond j (
 i 5 0 ([]:Bs) ([]:List ak) ([]:Bss) (.sl .jnode .own ([]:List ak)) (.sl .str .own ([]:Bss))) (
 let k:=decide (o.2.2.1=([101,110,117,109]:Bs))
 cond k (
 an (aR ([88]:Bs)) (fun a=>
 i a.1 a.2.1 a.2.2.1 a.2.2.2.1 a.2.2.2.2 (.sl .jnode (.may false) a.2.2.2.1) (.sl .str (.may false) a.2.2.2.2))) (
 i 6 0 ([]:Bs) ([]:List ak) ([]:Bss) (.sl .jnode .own ([]:List ak)) (.sl .str .own ([]:Bss))))))
theorem tH(N:Nat):LJ (nV N) jd (fU N):=fun _=>by kernel_rfl
def dR(N:Nat)(c:Bs)(d b e:Int)(a:Bs)(f:List ak)(g:Bss)(l:dC→Ro)(m:jM→Ro):Ro:=
 let h:=fun n=>l (b,e,a,f,g,a,n,c,d,0,0,([]:Bs),([]:List ak),([]:Bss))
 cond (b==4) (
 let o:=decide (a=([105,110,116]:Bs))
 cond o (
 h true) (
 let i:=decide (a=([108,111,110,103]:Bs))
 cond i (
 h true) (
 let j:=decide (a=([102,108,111,97,116]:Bs))
 cond j (
 h true) (
 let k:=decide (a=([100,111,117,98,108,101]:Bs))
 h k)))) (
 m (b,e,a,f,g,c,d,0,0,([]:Bs),([]:List ak),([]:Bss)))
def oY(N:Nat)(a:Bs)(b c d:Int)(e:Bs)(f:List ak)(g:Bss):Ro:=dR N a b c d e f g (fun z=>fT N z) (fun z=>fU N z)
theorem uI(N:Nat)(a:Bs)(c d g:Int)(i:Bs)(j:List ak)(k:Bss)(h:Tot (oY N a c d g i j k) (fun z=>∃(l:Int)(m:Int)(n:Bs)(o:List ak)(p:Bss)(s:Bs)(t:Int)(rest:List aq),z.1.dimR=.agg [.int .i64 l,.int .i64 m,.str n,.sl .jnode (.may false) o,.sl .str (.may false) p]∧z.2=some [.sl .u8 (.may false) s,.int .i64 t]::rest∧di a c d g i j k (l,m,n,o,p,s,t))):∃r,ec a c d g i j k r:=FnC.finO (css:=[[.sl .u8 (.may false) a,.int .i64 c]]) vu (N:=N) ((cd _ (by kernel_rfl) rfl (fun C=>dR N a c d g i j k (fun z=>C 1000000 (dj z)) (fun z=>C 1000001 (jd z))) (fun C=>by kernel_rfl)).trans (Eq.trans (b:=dR N a c d g i j k (fun z=>jK N (dj z)) (fun z=>nV N (jd z))) (by kernel_rfl) (congr (congrArg (dR N a c d g i j k) (funext fun z=>tG N z)) (funext fun z=>tH N z)))) h fun _ ⟨l,m,n,o,p,s,t,_,e,f,q⟩=>⟨(l,m,n,o,p,s,t),e,⟨_,f⟩,q⟩
end Go.Proofs.YtkinflmjagfapaaDoor
end
