import Derived.Test.YtkinflmjagfapaaDoorChecked
import Derived.WalkKit
import Derived.WalkSpells
import Derived.Laws.Externs
import Derived.Lib.Builder
import Derived.Lib.UnsafeStr
import Derived.KernelRfl
import Derived.Lib.Bytealg
import Derived.Test.YtkinflmjagfapaaDoorZ02
noncomputable section
namespace Go.AM
set_option autoImplicit false
set_option linter.unusedSimpArgs false
set_option linter.unusedVariables false
def V.flatM(n:Nat):V→Bool
 | .mr k=>decide (k<n)
 | .mp _ _=>true
 |v=>v.flatO
section
variable{I:Nat→Nat→Prop}{ρ ρ':Nat→Nat}{N N' n:Nat}{w:World}{P:Program}
theorem VRel.flatM{v:V}{cv:Value}(h:VRel I ρ N w v cv)(hf:v.flatM n=true)(hr:∀k,k<n→ρ' k=ρ k)(hn:n≤N'):VRel I ρ' N' w v cv:=by
 by_cases hm:∃k,v=.mr k
 ·obtain⟨k,rfl⟩:=hm
  have hk:k<n:=by simpa [V.flatM] using hf
  cases h with
  |mr _ _=>rw[←hr k hk];exact .mr k (by omega)
 ·refine h.flatO ?_
  cases v<;>first|exact hf|exact absurd ⟨_,rfl⟩ hm|(cases h;done)
theorem ab6{cs:List V}(h:cs.all (V.flatM n)=true):bG cs=false:=by
 unfold bG
 split
 ·simp[V.flatM,V.flatO,V.flat1] at h
 ·simp[V.flatM,V.flatO,V.flat1] at h
 ·rfl
theorem aX.frameM{f:FuncId}{avs:List V}{css css':List (List V)}{v:V}(h:aX P f avs css v css')(ha:avs.all (V.flatP css.length)=true)(hv:v.flat=true)
  (hc:css.all (fun cs=>cs.all (V.flatM css.length))=true) (hc':css'.all (fun cs=>cs.all (V.flatM css.length))=true) {hp hp':List aq} {σ:Nat→Nat}
  (hσi:∀k,k<css.length→σ k=k) (hσ:∀k k',k<css.length→k'<css.length→σ k=σ k'→k=k')
  (h1:∀(k:Nat) cs,css[k]? =some cs→hp[σ k]? =some (some cs)) (h2:hp'.length=hp.length)
  (h3:∀(k:Nat) cs,css'[k]? =some cs→hp'[σ k]? =some (some cs))
  (h4:∀id,(∀k,k<css.length→σ k≠id)→hp'[id]? =hp[id]?):cm P f (avs.map (V.ren σ)) hp v hp':=by
 obtain⟨hlen',rest,h⟩:=h
 intro w g cargs hβ hhr hlen hbare hrel
 have hcs:∀(k:Nat) cs,css[k]? =some cs→cs.all (V.flatM css.length)=true:=fun k cs hk=>List.all_eq_true.1 hc cs (List.mem_of_getElem? hk)
 have hcs':∀(k:Nat) cs,css'[k]? =some cs→cs.all (V.flatM css.length)=true:=fun k cs hk=>List.all_eq_true.1 hc' cs (List.mem_of_getElem? hk)
 have lt_of:∀(k:Nat) cs,css[k]? =some cs→k<css.length:=fun k cs hk=>(List.getElem?_eq_some_iff.1 hk).1
 have map_of:∀(k:Nat) cs,(css.map some)[k]? =some (some cs)→css[k]? =some cs:=by
  intro k cs hk
  rw[List.getElem?_map] at hk
  cases hq:css[k]? with
  |none=>rw[hq] at hk;simp at hk
  |some x=>rw[hq] at hk;simpa using hk
 have sub:∀k,k<css.length→∃cs,css[k]? =some cs∧hp[σ k]? =some (some cs):=fun k hk=>⟨css[k],List.getElem?_eq_getElem hk,h1 k _ (List.getElem?_eq_getElem hk)⟩
 let inv:Nat→Option Nat:=fun i=>(List.range css.length).find? fun k=>σ k==i
 have inv_some:∀i k,inv i=some k→k<css.length∧σ k=i:=by
  intro i k hk
  have m1:=List.mem_of_find?_eq_some hk
  have m2:=List.find?_some hk
  exact⟨List.mem_range.1 m1,by simpa using m2⟩
 have inv_of:∀k,k<css.length→inv (σ k)=some k:=by
  intro k hk
  cases hq:inv (σ k) with
  |none=>
   have:=List.find?_eq_none.1 hq k (List.mem_range.2 hk)
   simp at this
  |some k'=>
   obtain⟨m1,m2⟩:=inv_some _ _ hq
   rw[hσ k' k m1 hk m2]
 let g₀:Gh:={I:=g.I,ρ:=fun k=>g.ρ (σ k),O:=fun b=>match g.O b with|some (.cell i j)=>(inv i).map fun k=>.cell k j|_=>none,β:=g.β}
 have gO:∀b o,g₀.O b=some o→∃k j,k<css.length∧o=.cell k j∧g.O b=some (.cell (σ k) j):=by
  intro b o hb
  simp only[g₀] at hb
  split at hb
  ·rename_i i j hg
   cases hq:inv i with
   |none=>rw[hq] at hb;simp at hb
   |some k=>
    rw[hq] at hb
    obtain⟨m1,m2⟩:=inv_some _ _ hq
    exact⟨k,j,m1,by simpa using hb.symm,by rw[m2];exact hg⟩
  ·simp at hb
 have gN:∀b,(∀k j,k<css.length→g.O b≠some (.cell (σ k) j))→g₀.O b=none:=by
  intro b hb
  cases hq:g₀.O b with
  |none=>rfl
  |some o=>
   obtain⟨k,j,hk,_,hj⟩:=gO b o hq
   exact absurd hj (hb k j hk)
 have gC:∀b k j,k<css.length→g.O b=some (.cell (σ k) j)→g₀.O b=some (.cell k j):=by
  intro b k j hk hb
  simp[g₀,hb,inv_of k hk]
 have hO0:∀k,k<css.length→g₀.O (g.ρ (σ k))=none:=by
  intro k hk
  obtain⟨cs,_,hid⟩:=sub k hk
  exact gN _ (by intro k' j _ hj;rw[hhr.notO _ cs hid] at hj;cases hj)
 have h0:HR g₀ (css.map some) w:=by
  refine⟨?_,?_,?_,?_,hhr.exI,?_⟩
  ·intro k c hk
   have hk:=map_of k c hk
   refine(hhr.obj _ c (h1 k c hk)).keep rfl fun arr e fz a1 a2=>?_
   have hr:=ab6 (hcs k c hk)
   refine⟨a2.len,a2.plain,by rintro k xs rfl;simp[bG] at hr,a2.cold,a2.one,?_,?_,a2.bn⟩
   ·intro j c' cv hj hcv
    exact(a2.rel j c' cv hj hcv).flatM (List.all_eq_true.1 (hcs k c hk) c' (List.mem_of_getElem? (by rw[fa hr] at hj;exact hj))) (fun i hi=>congrArg g.ρ (hσi i hi)) (by simp)
   ·intro j c' cv hj hcv
    exact(a2.own j c' cv hj hcv).reloc rfl rfl fun b hb=>gC b k j (lt_of k c hk) hb
  ·intro k k' c c' hk hk' hne
   have hk:=map_of k c hk
   have hk':=map_of k' c' hk'
   exact hhr.apart _ _ _ _ (h1 k c hk) (h1 k' c' hk') fun e=>hne (hσ k k' (lt_of k c hk) (lt_of k' c' hk') e)
  ·intro k c hk
   exact hhr.notI _ c (h1 k c (map_of k c hk))
  ·intro k c hk
   exact hO0 k (lt_of k c (map_of k c hk))
  ·intro b o hb
   obtain⟨k,j,_,_,hj⟩:=gO b o hb
   exact hhr.oLt b _ hj
 have hargs:∀(i:Nat) x cv,avs[i]? =some x→cargs[i]? =some cv→VRel g₀.I g₀.ρ (css.map some).length w x cv:=by
  intro i x cv hx hcv
  have hr:=hrel i (x.ren σ) cv (by rw[List.getElem?_map,hx];rfl) hcv
  have hx':=List.all_eq_true.1 ha x (List.mem_of_getElem? hx)
  unfold V.flatP at hx'
  split at hx'
  ·rename_i k
   have hk:k<css.length:=by simpa using hx'
   simp only[V.ren] at hr
   cases hr with
   |ptr _ _ _=>exact .ptr k 0 (by simpa using hk)
  ·rw[V.ren_flat hx'] at hr
   exact hr.flat hx'
 refine(h w g₀ cargs hβ h0 (by rw[←hlen,List.length_map]) (by
  intro x hx
  have:=hbare (x.ren σ) (List.mem_map_of_mem hx)
  rw[V.ren_bare] at this
  exact this) hargs).mono ?_
 rintro ex w' ⟨cv,g₁,rfl,q1,q2,q3,q4⟩
 have r0:∀k,k<css.length→g₁.ρ k=g.ρ (σ k):=fun k hk=>q2.up.rho k (by simpa using hk)
 have noO:∀b,(∀k,k<css.length→g.ρ (σ k)≠b)→∀(k:Nat) cs,(css.map some)[k]? =some (some cs)→g₀.ρ k≠b:=fun b hb k cs hk=>hb k (lt_of k cs (map_of k cs hk))
 have blk:∀b,b<w.heap.size→(∀k,k<css.length→g.ρ (σ k)≠b)→g₀.O b=none→w'.heap[b]? =w.heap[b]?:=fun b hb hne hO=>q2.block b hb (noO b hne) hO
 let g₂:Gh:={I:=g₁.I,ρ:=g.ρ,O:=fun b=>match g₁.O b with
  |some .res=>some .res
  |some (.cell k j)=>cond (Nat.blt k css.length) (some (.cell (σ k) j)) none
  |some (.slot _)=>none
  |none=>if b<w.heap.size∧g₀.O b=none then g.O b else none,β:=g.β}
 have hnum:css.length≤hp'.length:=by
  rcases Nat.lt_or_ge hp'.length css.length with hl|hl
  ·obtain⟨cs,_,hc2⟩:=sub (css.length-1) (by omega)
   have:=(List.getElem?_eq_some_iff.1 hc2).1
   rw[hσi _ (by omega)] at this
   omega
  ·exact hl
 have up:Up g.I g.ρ hp.length w g₂.I g₂.ρ hp'.length w':=⟨q2.up.mono,q2.up.cell,fun _ _=>rfl,by rw[h2];exact Nat.le_refl _⟩
 have olt:∀(i:Nat) c,hp[i]? =some (some c)→g.ρ i<w.heap.size:=by
  intro i c hi
  obtain⟨ob,h1⟩:=(hhr.obj i c hi).block
  exact(Array.getElem?_eq_some_iff.1 h1).1
 have fst:∀(k:Nat) cs,css'[k]? =some cs→(css'.map some++rest)[k]? =some (some cs):=by
  intro k cs hk
  rw[List.getElem?_append_left (by simpa using (List.getElem?_eq_some_iff.1 hk).1),List.getElem?_map,hk];rfl
 have key:∀(i:Nat) c,hp'[i]? =some (some c)→(∃k c₀,k<css.length∧i=σ k∧css'[k]? =some c∧hp[i]? =some (some c₀))∨((∀k,k<css.length→σ k≠i)∧hp[i]? =some (some c)):=by
  intro i c hi
  by_cases hk:∃k,k<css.length∧σ k=i
  ·obtain⟨k,hk,rfl⟩:=hk
   obtain⟨c₀,_,hc₀⟩:=sub k hk
   have hk':k<css'.length:=by omega
   have:=h3 k _ (List.getElem?_eq_getElem hk')
   rw[this] at hi
   exact .inl ⟨k,c₀,hk,rfl,by rw[List.getElem?_eq_getElem hk'];simpa using hi,hc₀⟩
  ·have hn:∀k,k<css.length→σ k≠i:=fun k hk' e=>hk ⟨k,hk',e⟩
   exact .inr ⟨hn,(h4 i hn).symm.trans hi⟩
 have live₀:∀(i:Nat) c,hp'[i]? =some (some c)→∃c₀,hp[i]? =some (some c₀):=by
  intro i c hi
  rcases key i c hi with⟨_,c₀,_,_,_,h⟩|⟨_,h⟩
  ·exact⟨c₀,h⟩
  ·exact⟨c,h⟩
 have apartσ:∀(i:Nat) c,(∀k,k<css.length→σ k≠i)→hp[i]? =some (some c)→∀k,k<css.length→g.ρ (σ k)≠g.ρ i:=by
  intro i c hn hi k hk
  obtain⟨c₀,_,hc₀⟩:=sub k hk
  exact hhr.apart _ _ _ _ hc₀ hi (hn k hk)
 have g2same:∀b,b<w.heap.size→(∀k,k<css.length→g.ρ (σ k)≠b)→g₀.O b=none→g₂.O b=g.O b:=by
  intro b hb hne hO
  have:=q2.oSame b hb (noO b hne) hO
  simp only[g₂,this]
  rw[if_pos ⟨hb,hO⟩]
 have ownBlk:∀b o,g.O b=some o→∀k,k<css.length→g.ρ (σ k)≠b:=by
  intro b o hb k hk e
  obtain⟨c₀,_,hc₀⟩:=sub k hk
  rw[←e,hhr.notO _ c₀ hc₀] at hb
  cases hb
 refine⟨cv,g₂,rfl,⟨?_,?_,?_,?_,q1.exI,?_⟩,⟨rfl,q2.os,q2.tape,q2.output,q2.size,?_,up,?_,?_,?_⟩,?_,?_⟩
 ·intro i c hi
  rcases key i c hi with⟨k,c₀,hk,rfl,hk',hid⟩|⟨hne,hi⟩
  ·refine(q1.obj k c (fst k c hk')).keep (by rw[r0 k hk]) fun arr' e' fz a1 a2=>?_
   rw[r0 k hk] at a1
   have hr:=ab6 (hcs' k c hk')
   refine⟨a2.len,a2.plain,by rintro k xs rfl;simp[bG] at hr,a2.cold,a2.one,?_,?_,?_⟩
   ·intro j c' cv hj hcv
    exact(a2.rel j c' cv hj hcv).flatM (List.all_eq_true.1 (hcs' k c hk') c' (List.mem_of_getElem? (by rw[fa hr] at hj;exact hj))) (fun i hi=>by rw[r0 i hi,hσi i hi]) hnum
   ·intro j c' cv hj hcv
    refine(a2.own j c' cv hj hcv).reloc q2.beta.symm rfl fun b hb=>?_
    have hb':Nat.blt k css.length=true:=by rw[Nat.blt_eq];exact hk
    simp[g₂,hb,hb']
   ·intro j E n hj
    have:=a2.bn j E n hj
    rw[r0 k hk] at this
    exact this
  ·have hnO:g₀.O (g.ρ i)=none:=gN _ (by intro k j _ hj;rw[hhr.notO i c hi] at hj;cases hj)
   refine(hhr.obj i c hi).keep (blk _ (olt i c hi) (apartσ i c hne hi) hnO) fun arr' e' fz a1 a2=>?_
   refine⟨a2.len,a2.plain,a2.typedUp rfl (fun _ _=>rfl) up.num rfl,a2.cold,a2.one,fun j c cv hj hcv=>(a2.rel j c cv hj hcv).up up,?_,a2.bn⟩
   intro j c' cv hj hcv
   refine bx (a2.own j c' cv hj hcv) rfl (fun b j hi=>⟨up.mono b j hi,up.cell b j hi⟩) ?_
   intro b hb
   have hlt:=hhr.oLt b _ hb
   have hO:g₀.O b=none:=gN _ (by intro k j' hk hj';rw[hb] at hj';cases hj';exact hne k hk rfl)
   have hbne:=ownBlk b _ hb
   exact⟨(g2same b hlt hbne hO).trans hb,blk b hlt hbne hO,fun j hj=>q2.iSame b j hlt (noO b hbne) hO hj⟩
 ·intro i i' c c' hi hi' hne
  obtain⟨c₀,m1⟩:=live₀ i c hi
  obtain⟨c₁,m2⟩:=live₀ i' c' hi'
  exact hhr.apart _ _ _ _ m1 m2 hne
 ·intro i c hi j hj
  rcases key i c hi with⟨k,c₀,hk,rfl,hk',hid⟩|⟨hne,hi⟩
  ·have:=q1.notI k c (fst k c hk') j
   rw[r0 k hk] at this
   exact this hj
  ·have hnO:g₀.O (g.ρ i)=none:=gN _ (by intro k j _ hj;rw[hhr.notO i c hi] at hj;cases hj)
   exact hhr.notI i c hi j (q2.iSame _ j (olt i c hi) (noO _ (apartσ i c hne hi)) hnO hj)
 ·intro i c hi
  rcases key i c hi with⟨k,c₀,hk,rfl,hk',hid⟩|⟨hne,hi⟩
  ·have:=q1.notO k c (fst k c hk')
   rw[r0 k hk] at this
   simp only[g₂,this]
   split
   ·exact hhr.notO _ c₀ hid
   ·rfl
  ·have hnO:g₀.O (g.ρ i)=none:=gN _ (by intro k j _ hj;rw[hhr.notO i c hi] at hj;cases hj)
   exact(g2same _ (olt i c hi) (apartσ i c hne hi) hnO).trans (hhr.notO i c hi)
 ·intro b o hb
  simp only[g₂] at hb
  split at hb
  ·rename_i hq;exact q1.oLt b _ hq
  ·rename_i hq;exact q1.oLt b _ hq
  ·simp at hb
  ·split at hb
   ·rename_i hq;exact Nat.lt_of_lt_of_le hq.1 q2.size
   ·simp at hb
 ·intro b hb ho hO
  exact blk b hb (fun k hk e=>by obtain⟨c₀,_,hc₀⟩:=sub k hk;exact ho _ c₀ hc₀ e) (gN _ (by intro k j _ hj;rw[hO] at hj;cases hj))
 ·intro b j hb ho hO hi
  exact q2.iSame b j hb (noO b fun k hk e=>by obtain⟨c₀,_,hc₀⟩:=sub k hk;exact ho _ c₀ hc₀ e) (gN _ (by intro k j _ hj;rw[hO] at hj;cases hj)) hi
 ·intro b hb ho hO
  exact(g2same b hb (fun k hk e=>by obtain⟨c₀,_,hc₀⟩:=sub k hk;exact ho _ c₀ hc₀ e) (gN _ (by intro k j _ hj;rw[hO] at hj;cases hj))).trans hO
 ·intro i c hi
  exact .inl (live₀ i c hi)
 ·exact q3.flat hv
 ·exact q4.reloc q2.beta.symm rfl fun b hb=>by simp[g₂,hb]
def kK(n:Nat)(G:mj)(Γ:ay):ay:=fun f vs hp=>
 cond ((bV vs).any fun i=>Nat.beq (i+1) n)
  (match eV hp (List.range n) with
  |some css=>match G f vs css with
   |some (c,v,css')=>cond (Nat.beq css.length n&&Nat.beq css'.length n&&vs.all (V.flatP n)&&v.flat&&css.all (fun cs=>cs.all (V.flatM n))&&css'.all (fun cs=>cs.all (V.flatM n)))
     (some (c,v,iC hp (List.range n) css')) none
   |none=>Γ f vs hp
  |none=>Γ f vs hp)
  (Γ f vs hp)
theorem ahj:(V.ren fun k=>k)=id:=funext fun v=>by cases v<;>rfl
theorem aaB{n k:Nat}(h:k<n):(List.range n).getD k 0=k:=by
 rw[List.getD_eq_getElem?_getD,List.getElem?_range h];rfl
theorem zQ{n:Nat}{G:mj}{Γ:ay}(hG:∀f avs css v css',G f avs css=some (true,v,css')→aX P f avs css v css')(hΓ:bL P Γ):bL P (kK n G Γ):=by
 intro f vs hp v hp' h
 unfold kK at h
 cases hp0:(bV vs).any (fun i=>Nat.beq (i+1) n) with
 |false=>rw[hp0] at h;exact hΓ _ _ _ _ _ h
 |true=>
  rw[hp0] at h
  simp only[cond_true] at h
  split at h
  ·rename_i css hcss
   split at h
   ·rename_i c v' css' hg
    cases hst:(Nat.beq css.length n&&Nat.beq css'.length n&&vs.all (V.flatP n)&&v'.flat&&css.all (fun cs=>cs.all (V.flatM n))&&css'.all (fun cs=>cs.all (V.flatM n))) with
    |false=>rw[hst] at h;simp at h
    |true=>
     rw[hst] at h
     simp only[cond_true,Option.some.injEq,Prod.mk.injEq] at h
     obtain⟨rfl,rfl,rfl⟩:=h
     simp only[Bool.and_eq_true] at hst
     obtain⟨⟨⟨⟨⟨n1,n2⟩,n3⟩,n4⟩,n5⟩,n6⟩:=hst
     obtain⟨c1,c2⟩:=sm hcss
     have n1:=Nat.eq_of_beq_eq_true n1
     have n2:=Nat.eq_of_beq_eq_true n2
     subst n1
     have c2:∀(k:Nat) cs,css[k]? =some cs→hp[k]? =some (some cs):=fun k cs hk=>by
      have hkl:k<css.length:=(List.getElem?_eq_some_iff.1 hk).1
      have:=c2 k cs hk
      rwa [aaB hkl] at this
     have:=aX.frameM (hG f _ css _ css' hg) n3 n4 n5 n6 (hp:=hp) (hp':=iC hp (List.range css.length) css') (σ:=fun k=>k) (fun _ _=>rfl) (fun _ _ _ _ e=>e)
      c2 qh
      (by
       intro k cs hk
       have hkl:k<css'.length:=(List.getElem?_eq_some_iff.1 hk).1
       have:=xk (is:=List.range css.length) (hp:=hp) (css:=css') List.nodup_range (by
        intro i hi
        have hi:=List.mem_range.1 hi
        exact(List.getElem?_eq_some_iff.1 (c2 i _ (List.getElem?_eq_getElem hi))).1) k cs (by simpa [n2] using hkl) hk
       rwa [aaB (by omega)] at this)
      (by
       intro id hid
       refine qK fun hm=>?_
       exact hid id (List.mem_range.1 hm) rfl)
     rwa [ahj,List.map_id] at this
   ·exact hΓ _ _ _ _ _ h
  ·exact hΓ _ _ _ _ _ h
theorem uF{n:Nat}{G:mj}{Γ:ay}{imp:List Nat}(hG:∀f avs css,imp.contains f=false→G f avs css=none)(hΓ:bX Γ imp):bX (kK n G Γ) imp:=by
 refine⟨?_,?_⟩
 ·intro f vs hp hf
  have e:∀hp,kK n G Γ f vs hp=Γ f vs hp:=by
   intro hp
   unfold kK
   cases (bV vs).any (fun i=>Nat.beq (i+1) n) with
   |false=>rfl
   |true=>
    simp only[cond_true]
    split
    ·rw[hG f _ _ hf]
    ·rfl
  rw[e,e]
  exact hΓ.pure f vs hp hf
 ·intro f vs hp c v hp' hf h
  cases hp0:(bV vs).any (fun i=>Nat.beq (i+1) n) with
  |false=>
   have e:∀hp,kK n G Γ f vs hp=Γ f vs hp:=by
    intro hp
    unfold kK
    rw[hp0];rfl
   rw[e] at h
   obtain⟨q,q1,q2,q3⟩:=hΓ.loc f _ _ _ _ _ hf h
   exact⟨q,q1,q2,fun hp2 hl hh=>by rw[e];exact q3 hp2 hl hh⟩
  |true=>
   obtain⟨i,hi,hin⟩:=List.any_eq_true.1 hp0
   have hin:i+1=n:=by simpa using hin
   have mem:∀k∈List.range n,k∈pD (bV vs):=fun k hk=>xb hi (by have:=List.mem_range.1 hk;omega)
   have memA:∀k∈List.range n,k∈pD (ji vs):=fun k hk=>xb (qJ hi) (by have:=List.mem_range.1 hk;omega)
   have same:∀hp2:List aq,(∀i∈pD (ji vs),hp2[i]? =hp[i]?)→eV hp2 (List.range n)=eV hp (List.range n):=fun hp2 hh=>qZ fun i hi=>hh i (memA i hi)
   unfold kK at h
   rw[hp0] at h
   simp only[cond_true] at h
   cases hcs:eV hp (List.range n) with
   |none=>
    rw[hcs] at h
    obtain⟨q,q1,q2,q3⟩:=hΓ.loc f _ _ _ _ _ hf h
    refine⟨q,q1,q2,fun hp2 hl hh=>?_⟩
    simp only[kK,hp0,cond_true,same hp2 hh,hcs]
    exact q3 hp2 hl hh
   |some css=>
    rw[hcs] at h
    simp only at h
    cases hg:G f vs css with
    |none=>
     rw[hg] at h
     obtain⟨q,q1,q2,q3⟩:=hΓ.loc f _ _ _ _ _ hf h
     refine⟨q,q1,q2,fun hp2 hl hh=>?_⟩
     simp only[kK,hp0,cond_true,same hp2 hh,hcs,hg]
     exact q3 hp2 hl hh
    |some x=>
     obtain⟨c',v',css'⟩:=x
     rw[hg] at h
     simp only at h
     cases hst:(Nat.beq css.length n&&Nat.beq css'.length n&&vs.all (V.flatP n)&&v'.flat&&css.all (fun cs=>cs.all (V.flatM n))&&css'.all (fun cs=>cs.all (V.flatM n))) with
     |false=>rw[hst] at h;simp at h
     |true=>
      rw[hst] at h
      simp only[cond_true,Option.some.injEq,Prod.mk.injEq] at h
      obtain⟨rfl,rfl,rfl⟩:=h
      refine⟨(List.range n).zip (css'.map some),?_,nU _ _ _,fun hp2 hl hh=>?_⟩
      ·intro p hp
       obtain⟨a,b⟩:=p
       exact mem _ (List.of_mem_zip hp).1
      ·simp only[kK,hp0,cond_true,same hp2 hh,hcs,hg,hst]
       rw[nU]
end
end Go.AM
end
noncomputable section
namespace Go.Proofs.YtkinflmjagfapaaDoor
open Go.RowKit
set_option autoImplicit false
set_option linter.unusedVariables false
theorem acn(x:Value)(w:World):(callFunc 129 #[x]).run Tryd.prog w=.ok (.value x) w:=by
 rw[run_callFunc_extern Tryd.func129 (by kernel_rfl) (by kernel_rfl) (by kernel_rfl) (e:=Extern.AbiNoEscape.same) (by kernel_rfl)]
 rw[Lib.run_noEscape]
 rfl
set_option maxHeartbeats 1000000 in
set_option maxRecDepth 100000 in
theorem ah1(b o:Nat)(w:World)(h0:w.cell? ⟨b,o,none⟩=some (.pointer (some ⟨b,o,none⟩))):
  Calls Tryd.prog 109 #[.pointer (some ⟨b,o,none⟩)] w fun e w'=>e=.returned (.tuple #[])∧w'=w:=by
 obtain⟨j,hj,hjs⟩:∃j,Tryd.prog.info? 122=some j∧j.size=2:=Option.map_eq_some_iff.1 (show (Tryd.prog.info? 122).map (·.size)=some 2 by kernel_rfl)
 go_enter Tryd.func109,Tryd.ntmps109
 go_wp2
 rw[Lib.run_neq_ptr_same w _ Tryd.underlying120 hj]
 go_wp2
 go_end0
 exact⟨rfl,rfl⟩
set_option maxHeartbeats 1000000 in
set_option maxRecDepth 100000 in
theorem ahk(b o E n:Nat)(w:World)(h0:w.cell? ⟨b,o,none⟩=some (.pointer none))(hsh:w.shape? b=some (E,n))(ho:o<n)
  (hl:liesAt Tryd.prog Tryd.prog.depth E (n / Tryd.prog.cellsOf E) o 122 1=true) (hfz:w.frozen? ⟨b,o,none⟩=false):
  Calls Tryd.prog 109 #[.pointer (some ⟨b,o,none⟩)] w fun e w'=>e=.returned (.tuple #[])∧w'=w.setCell ⟨b,o,none⟩ (.pointer (some ⟨b,o,none⟩)):=by
 obtain⟨j,hj,hjs⟩:∃j,Tryd.prog.info? 122=some j∧j.size=2:=Option.map_eq_some_iff.1 (show (Tryd.prog.info? 122).map (·.size)=some 2 by kernel_rfl)
 go_enter Tryd.func109,Tryd.ntmps109
 go_wp2
 rw[Lib.run_to_unsafe w ⟨b,o,none⟩ Tryd.underlying120 Tryd.underlying155 hj (by rw[hjs];decide) hsh ho]
 simp only[Result.andThen]
 rw[Oper.upon_value]
 go_wp2
 rw[acn]
 rw[Oper.upon_value]
 go_wp2
 rw[Lib.run_from_unsafe w ⟨b,o,none⟩ Tryd.underlying155 Tryd.underlying120 hj hsh hl]
 simp only[Result.andThen]
 rw[Oper.upon_value]
 go_wp2
 go_end0
 exact⟨rfl,rfl⟩
end Go.Proofs.YtkinflmjagfapaaDoor
end
noncomputable section
namespace Go.Proofs.YtkinflmjagfapaaDoor
open Go.AM
set_option autoImplicit false
set_option linter.unusedVariables false
set_option linter.unusedSimpArgs false
theorem row_cell{cs:List V}{o:Nat}{v:V}(h:cs[o]? =some v)(hv:v.one=true):bG cs=false:=by
 cases hr:bG cs with
 |false=>rfl
 |true=>
  unfold bG at hr
  split at hr
  ·cases o with
   |zero=>simp at h;subst h;cases hv
   |succ o=>simp at h
  ·cases o with
   |zero=>simp at h;subst h;cases hv
   |succ o=>simp at h
  ·cases hr
theorem map_cell{cs:List V}{o:Nat}{v:V}(h:cs[o]? =some v)(hv:v.one=true):gt cs=false:=by
 cases hr:gt cs with
 |false=>rfl
 |true=>
  obtain⟨k,es,rfl⟩:=qQ hr
  cases o with
  |zero=>simp at h;subst h;cases hv
  |succ o=>simp at h
theorem xF{env:List V}{hp:List aq}{id:Nat}{cs:List V}(h:hp[id]? =some (some cs))(hr:bG cs=false)(hm:gt cs=false):St.obj {env:=env,hp:=hp} id=some cs:=by
 unfold St.obj
 rw[List.getD_eq_getElem?_getD,h]
 simp only[Option.getD_some]
 split
 ·rename_i e
  cases e
  simp[bG] at hr
 ·rename_i e
  cases e
  simp[bG] at hr
 ·rename_i e
  cases e
  simp[gt] at hm
 ·rfl
theorem SR.ofHR{g:Gh}{hp:List aq}{w:World}(h:HR g hp w):SR g {env:=[],hp:=hp} w {tmps:= #[],defers:=[]}:=
 ⟨h,⟨rfl,by simp,by simp⟩⟩
theorem aco{α:Type}{l:List α}{o:Nat}{x:α}(h:l[o]? =some x):l.take o++[x]++l.drop (o+1)=l:=by
 obtain⟨hlt,rfl⟩:=List.getElem?_eq_some_iff.1 h
 rw[List.append_assoc,List.singleton_append,←List.drop_eq_getElem_cons hlt,List.take_append_drop]
noncomputable def zR(E n o:Nat):Bool:=liesAt Tryd.prog Tryd.prog.depth E (n / Tryd.prog.cellsOf E) o 122 1
theorem ahl{hp:List aq}{id:Nat}{x:aq}(h:hp[id]? =some x):hp.set id x=hp:=by
 apply List.ext_getElem?
 intro j
 rw[List.getElem?_set]
 split
 ·rename_i e;subst e
  obtain⟨hlt,rfl⟩:=List.getElem?_eq_some_iff.1 h
  simp[hlt]
 ·rfl
theorem aiU{id o E n:Nat}{cs:List V}{hp:List aq}(hid:hp[id]? =some (some cs))(hb:cs[o]? =some (.bn E n))(hl:zR E n o=true):
  cm Tryd.prog 109 [.ptr id o] hp (.tup []) hp:=by
 intro w g cargs hβ hhr hlen hbare hrel
 match cargs,hlen,hrel with
 |⟨[cv]⟩,hlen,hrel=>
  have r:=hrel 0 (.ptr id o) cv rfl rfl
  cases r with
  |ptr _ _ hlt=>
  obtain⟨arr,e,fz,h1,h2'⟩:=(hhr.obj id cs hid).row (map_cell hb rfl)
  have hrow:=row_cell hb rfl
  obtain⟨rfl,h2⟩:=h2'.low hrow
  obtain⟨rfl,rfl,h3⟩:=h2.bn o E n hb
  have hoc:o<cs.length:=(List.getElem?_eq_some_iff.1 hb).1
  have hlen:=h2.len
  have hcell:w.cell? ⟨g.ρ id,o,none⟩=arr[o]?:=aE h1 o
  rcases h3 with h3|h3
  ·have hsh:w.shape? (g.ρ id)=some (E,arr.size):=by simp[World.shape?,h1]
   refine(ahk (g.ρ id) o E arr.size w (by rw[hcell,h3]) hsh (by omega) hl (by simp[World.frozen?,h1])).mono ?_
   rintro e w' ⟨rfl,rfl⟩
   obtain⟨p1,p2⟩:=(SR.ofHR hhr).putCells (id:=id) (o:=o) (cs:=cs) (news:=[.bn E arr.size]) (us:=[.pointer (some ⟨g.ρ id,o,none⟩)]) (xF hid hrow (map_cell hb rfl)) rfl (by simp[V.one]) (by simp;omega) (by
    intro i c u hc hu
    cases i with
    |zero=>simp at hc hu;subst hc hu;exact .bn _ _ _
    |succ i=>simp at hc) (by
    intro i c u hc hu
    cases i with
    |zero=>simp at hc hu;subst hc hu;simp[av]
    |succ i=>simp at hc) (by
    intro i E' n' hi
    cases i with
    |zero=>simp at hi;obtain⟨rfl,rfl⟩:=hi;exact⟨hb,.inr rfl⟩
    |succ i=>simp at hi)
   have e1:cs.take o++[V.bn E arr.size]++cs.drop (o+[V.bn E arr.size].length)=cs:=aco hb
   simp only[St.setObj] at p1
   rw[e1,ahl hid] at p1 p2
   exact⟨_,g,rfl,p1.hr,p2,.tup [] #[] rfl (by simp),by simp[av]⟩
  ·refine(ah1 (g.ρ id) o w (by rw[hcell,h3])).mono ?_
   rintro e w' ⟨rfl,rfl⟩
   exact⟨_,g,rfl,hhr,FR.refl _ _ _,.tup [] #[] rfl (by simp),by simp[av]⟩
 |⟨[]⟩,hlen,_=>simp at hlen
 |⟨_::_::_⟩,hlen,_=>simp at hlen
def Gcc(f:Nat)(vs:List V)(hp:List aq):Option (Bool×V×List aq):=
 if f=109 then
  match vs with
  | [.ptr id o]=>match hp.getD id none with
    |some cs=>match cs.getD o .undef with
     | .bn E n=>some (zR E n o,.tup [],hp)
     |_=>none
    |none=>none
  |_=>none
 else none
theorem agJ:bL Tryd.prog Gcc:=by
 intro f vs hp v hp' h
 unfold Gcc at h
 split at h
 ·rename_i hf
  subst hf
  split at h
  ·rename_i id o
   split at h
   ·rename_i cs hcs
    split at h
    ·rename_i E n hb
     simp only[Option.some.injEq,Prod.mk.injEq] at h
     obtain⟨hl,rfl,rfl⟩:=h
     have h1:hp[id]? =some (some cs):=by
      rw[List.getD_eq_getElem?_getD] at hcs
      cases hq:hp[id]? with
      |none=>rw[hq] at hcs;simp at hcs
      |some x=>rw[hq] at hcs;simpa using hcs
     have h2:cs[o]? =some (.bn E n):=by
      rw[List.getD_eq_getElem?_getD] at hb
      cases hq:cs[o]? with
      |none=>rw[hq] at hb;simp at hb
      |some x=>rw[hq] at hb;simpa using hb
     exact aiU h1 h2 hl
    ·simp at h
   ·simp at h
  ·simp at h
 ·simp at h
theorem adV:bX Gcc [109]:=by
 refine⟨?_,?_⟩
 ·intro f vs hp hf
  have:f≠109:=by rintro rfl;simp at hf
  simp[Gcc,this]
 ·intro f vs hp c v hp' hf
  simp only[List.contains_cons,List.contains_nil,Bool.or_false,beq_iff_eq] at hf
  omega
def gZ:IR:=.ret
def hC:IR:=(.seq (.reg [Mv 17 1,Pp (.lens 18 (.t 17)),Mv 4 18,Pp (.mov 5 (.c (.nilif)))] []) gZ)
def hD:IR:=(.seq (.reg [Mv 8 0,Mv 9 0,Nk 10 9,Fa 11 1 10,Pp (.ld 12 1 false true (.t 11)),Mv 13 1,Pp (.apps 14 (.tk 12) (.t 13)),Nk 15 8,Fa 16 1 15,Pp (.st none 1 (.t 16) (.tk 14))] []) hC)
def hF:IR:=(.seq (.reg [Mv 6 0,Pp (.call (some 7) 109 [(.t 6)])] []) hD)
def dN:IR:=(.seq (.reg [Pp (.mov 4 (.c (.int .i64 0))),Pp (.mov 5 (.c (.nilif)))] []) hF)
def dO:List RV:=[.t 4,.t 5]
theorem aiV(base:Nat):(bo Tryd.prog [109] base dN (Tryd.f90.body.getD .skip)&&j8 Tryd.prog dO Tryd.f90.results.toList)=true:=by kernel_rfl
theorem aiH{id o E n:Nat}{cs:List V}{hp:List aq}{l s:List UInt8}(hid:hp[id]? =some (some cs))(hb:cs[o]? =some (.bn E n))(hl:zR E n o=true)(hc:cs[o+1]? =some (.sl .u8 .own l))
  (hlen:l.length+s.length≤140737488355328):
  callF Gcc 1 19 dO dN [.ptr id o,.str s] hp=some (.tup [.int .i64 (s.length:Int),.nilif],hp.set id (some (cs.set (o+1) (.sl .u8 .own (l++s))))):=by
 have hlt:id<hp.length:=(List.getElem?_eq_some_iff.1 hid).1
 have hco:o+1<cs.length:=(List.getElem?_eq_some_iff.1 hc).1
 have hobj:hp.getD id none=some cs:=by simp[List.getD,hid]
 have hob1:∀env,St.obj {env:=env,hp:=hp} id=some cs:=fun env=>xF hid (row_cell hb rfl) (map_cell hb rfl)
 have hob2:∀env,St.obj {env:=env,hp:=hp.set id (some (cs.set (o+1) (.sl .u8 (.may false) l)))} id=some (cs.set (o+1) (.sl .u8 (.may false) l)):=fun env=>xF (by rw[List.getElem?_set_self hlt]) (row_cell (o:=o) (v:=.bn E n) (by rw[List.getElem?_set_ne (by omega)];exact hb) rfl) (map_cell (o:=o) (v:=.bn E n) (by rw[List.getElem?_set_ne (by omega)];exact hb) rfl)
 have hbo:cs.getD o .undef=.bn E n:=by simp[List.getD,hb]
 have hco2:cs.getD (o+1) .undef=.sl .u8 .own l:=by simp[List.getD,hc]
 have hcall:Gcc 109 [.ptr id o] hp=some (true,.tup [],hp):=by simp only[Gcc,if_true,hobj,hbo,hl]
 have htd:(cs.drop (o+1)).take 1=[.sl .u8 .own l]:=by
  rw[List.drop_eq_getElem_cons hco]
  have:cs[o+1]=.sl .u8 .own l:=by simpa [List.getElem?_eq_getElem hco] using hc
  simp[this]
 have hidx:hp[id]=some cs:=by simpa [List.getElem?_eq_getElem hlt] using hid
 have hle:o+1+1≤cs.length:=hco
 have hhd:(cs.drop (o+1)).head?.getD .undef=.sl .u8 .own l:=by rw[List.head?_drop,hc];rfl
 have hfit:l.length+s.length≤lB:=hlen
 have hset:(cs.set (o+1) (.sl .u8 (.may false) l)).take (o+1)++V.sl .u8 .own (l++s)::cs.drop (o+1+1)=cs.set (o+1) (.sl .u8 .own (l++s)):=by
  rw[List.take_set_of_le (Nat.le_refl _),List.set_eq_take_append_cons_drop,if_pos hco]
 simp[AM.Mv,AM.Pp,AM.Fa,AM.Nk,AM.stepO,AM.Fl.dis,AM.Fl.app,AM.ASrc.fix,AM.callF,AM.run,AM.kseq,AM.fin,AM.resultOf,AM.rvs,AM.RV.ev,gZ,hC,hD,hF,dN,dO,AM.runOps,AM.chk,AM.start,AM.step,AM.St.set,AM.St.get,AM.St.setO,AM.ASrc.ev,AM.ASrc.after,AM.disown,hob1,hob2,AM.St.setObj,hcall,hobj,htd,AM.loaded,AM.noBn,hlt,hidx,hc,hle,hhd,AM.V.cells,AM.V.one,hfit,hset]
 rw[List.drop_set_of_lt (by omega),hset]
theorem aiW{id o E n:Nat}{cs:List V}{hp:List aq}{l s:List UInt8}(hid:hp[id]? =some (some cs))(hb:cs[o]? =some (.bn E n))(hl:zR E n o=true)(hc:cs[o+1]? =some (.sl .u8 .own l))
  (hlen:l.length+s.length≤140737488355328):
  cm Tryd.prog 90 [.ptr id o,.str s] hp (.tup [.int .i64 (s.length:Int),.nilif]) (hp.set id (some (cs.set (o+1) (.sl .u8 .own (l++s))))):=by
 have hch:=aiV hp.length
 simp only[Bool.and_eq_true] at hch
 exact s5 agJ adV Tryd.func90 (show Tryd.f90.body=some (Tryd.f90.body.getD .skip) by kernel_rfl) hch.1 hch.2 (by decide) (aiH hid hb hl hc hlen)
def iG:IR:=.ret
def iH:IR:=(.seq (.reg [Pp (.mov 4 (.c (.nilif)))] []) iG)
def iI:IR:=(.seq (.reg [Mv 7 0,Mv 8 0,Nk 9 8,Fa 10 1 9,Pp (.ld 11 1 false true (.t 10)),Mv 12 1,Pp (.bsl 13 .u8 [(.t 12)] false),Pp (.app 14 .u8 (.tk 11) (.t 13)),Nk 15 7,Fa 16 1 15,Pp (.st none 1 (.t 16) (.tk 14))] []) iH)
def iJ:IR:=(.seq (.reg [Mv 5 0,Pp (.call (some 6) 109 [(.t 5)])] []) iI)
def eZ:IR:=(.seq (.reg [Pp (.mov 4 (.c (.nilif)))] []) iJ)
def e8:List RV:=[.t 4]
theorem aiX(base:Nat):(bo Tryd.prog [109] base eZ (Tryd.f88.body.getD .skip)&&j8 Tryd.prog e8 Tryd.f88.results.toList)=true:=by kernel_rfl
theorem aiI{id o E n:Nat}{cs:List V}{hp:List aq}{l:List UInt8}{c:Int}(hid:hp[id]? =some (some cs))(hb:cs[o]? =some (.bn E n))(hl:zR E n o=true)(hc:cs[o+1]? =some (.sl .u8 .own l))
  (hlen:l.length+1≤140737488355328):
  callF Gcc 1 17 e8 eZ [.ptr id o,.int .u8 c] hp=some (.nilif,hp.set id (some (cs.set (o+1) (.sl .u8 .own (l++[UInt8.ofNat c.toNat]))))):=by
 have hlt:id<hp.length:=(List.getElem?_eq_some_iff.1 hid).1
 have hco:o+1<cs.length:=(List.getElem?_eq_some_iff.1 hc).1
 have hobj:hp.getD id none=some cs:=by simp[List.getD,hid]
 have hob1:∀env,St.obj {env:=env,hp:=hp} id=some cs:=fun env=>xF hid (row_cell hb rfl) (map_cell hb rfl)
 have hob2:∀env,St.obj {env:=env,hp:=hp.set id (some (cs.set (o+1) (.sl .u8 (.may false) l)))} id=some (cs.set (o+1) (.sl .u8 (.may false) l)):=fun env=>xF (by rw[List.getElem?_set_self hlt]) (row_cell (o:=o) (v:=.bn E n) (by rw[List.getElem?_set_ne (by omega)];exact hb) rfl) (map_cell (o:=o) (v:=.bn E n) (by rw[List.getElem?_set_ne (by omega)];exact hb) rfl)
 have hbo:cs.getD o .undef=.bn E n:=by simp[List.getD,hb]
 have hco2:cs.getD (o+1) .undef=.sl .u8 .own l:=by simp[List.getD,hc]
 have hcall:Gcc 109 [.ptr id o] hp=some (true,.tup [],hp):=by simp only[Gcc,if_true,hobj,hbo,hl]
 have htd:(cs.drop (o+1)).take 1=[.sl .u8 .own l]:=by
  rw[List.drop_eq_getElem_cons hco]
  have:cs[o+1]=.sl .u8 .own l:=by simpa [List.getElem?_eq_getElem hco] using hc
  simp[this]
 have hidx:hp[id]=some cs:=by simpa [List.getElem?_eq_getElem hlt] using hid
 have hle:o+1+1≤cs.length:=hco
 have hhd:(cs.drop (o+1)).head?.getD .undef=.sl .u8 .own l:=by rw[List.head?_drop,hc];rfl
 have hfit:l.length+1≤lB:=hlen
 have hset:(cs.set (o+1) (.sl .u8 (.may false) l)).take (o+1)++V.sl .u8 .own (l++[UInt8.ofNat c.toNat])::cs.drop (o+1+1)=cs.set (o+1) (.sl .u8 .own (l++[UInt8.ofNat c.toNat])):=by
  rw[List.take_set_of_le (Nat.le_refl _),List.set_eq_take_append_cons_drop,if_pos hco]
 simp[AM.Mv,AM.Pp,AM.Fa,AM.Nk,AM.stepO,AM.Fl.dis,AM.Fl.app,AM.ASrc.fix,AM.callF,AM.run,AM.kseq,AM.fin,AM.resultOf,AM.rvs,AM.RV.ev,iG,iH,iI,iJ,eZ,e8,AM.runOps,AM.chk,AM.start,AM.step,AM.St.set,AM.St.get,AM.St.setO,AM.ASrc.ev,AM.ASrc.after,AM.disown,hob1,hob2,AM.St.setObj,hcall,hobj,htd,AM.loaded,AM.noBn,hlt,hidx,hc,hle,hhd,AM.V.cells,AM.V.one,hfit,hset,AM.decAll,AM.dec,AM.EK.bytes]
 rw[List.drop_set_of_lt (by omega),hset]
theorem aiY{id o E n:Nat}{cs:List V}{hp:List aq}{l:List UInt8}{c:Int}(hid:hp[id]? =some (some cs))(hb:cs[o]? =some (.bn E n))(hl:zR E n o=true)(hc:cs[o+1]? =some (.sl .u8 .own l))
  (hlen:l.length+1≤140737488355328):
  cm Tryd.prog 88 [.ptr id o,.int .u8 c] hp .nilif (hp.set id (some (cs.set (o+1) (.sl .u8 .own (l++[UInt8.ofNat c.toNat]))))):=by
 have hch:=aiX hp.length
 simp only[Bool.and_eq_true] at hch
 exact s5 agJ adV Tryd.func88 (show Tryd.f88.body=some (Tryd.f88.body.getD .skip) by kernel_rfl) hch.1 hch.2 (by decide) (aiI hid hb hl hc hlen)
end Go.Proofs.YtkinflmjagfapaaDoor
end
noncomputable section
namespace Go.AM
set_option autoImplicit false
set_option linter.unusedVariables false
theorem HR.other{g:Gh}{hp:List aq}{w w':World}(h:HR g hp w)(hs:w.heap.size≤w'.heap.size)
  (hc:∀b j,b<w.heap.size→w'.cell? ⟨b,j,none⟩=w.cell? ⟨b,j,none⟩)
  (ho:∀(id:Nat) cs,hp[id]? =some (some cs)→w'.heap[g.ρ id]? =w.heap[g.ρ id]?)
  (hw:∀(id j:Nat) cs c cv,hp[id]? =some (some cs)→(cellsOf cs)[j]? =some c→av g w (.cell id j) c cv→av g w' (.cell id j) c cv):
  HR g hp w'∧Up g.I g.ρ hp.length w g.I g.ρ hp.length w':=by
 have hlt:∀b j,g.I b j→b<w.heap.size:=by
  intro b j hi
  have:=h.exI b j hi
  rcases Nat.lt_or_ge b w.heap.size with h'|h'
  ·exact h'
  ·simp[World.cell?,Array.getElem?_eq_none h'] at this
 have u:Up g.I g.ρ hp.length w g.I g.ρ hp.length w':=⟨fun _ _ h=>h,fun b j hi=>hc b j (hlt b j hi),fun _ _=>rfl,Nat.le_refl _⟩
 refine⟨⟨?_,h.apart,h.notI,h.notO,fun b j hi=>by rw[hc b j (hlt b j hi)];exact h.exI b j hi,fun b o hO=>Nat.lt_of_lt_of_le (h.oLt b o hO) hs⟩,u⟩
 intro id cs hid
 refine(h.obj id cs hid).keep (ho id cs hid) fun arr e fz _ h2=>?_
 exact⟨h2.len,h2.plain,h2.typed,h2.cold,h2.one,fun j c cv hc hv=>(h2.rel j c cv hc hv).up u,fun j c cv hc hv=>hw id j cs c cv hid hc (h2.own j c cv hc hv),h2.bn⟩
theorem HR.disownCell{g:Gh}{hp:List aq}{w:World}(h:HR g hp w){id j:Nat}{cs:List V}{k:EK}{o:Fl}{xs:List (Ty k)}(hid:hp[id]? =some (some cs))(hj:cs[j]? =some (.sl k o xs)):
  HR g (hp.set id (some (cs.set j (.sl k (.may false) xs)))) w:=by
 have hl:id<hp.length:=(List.getElem?_eq_some_iff.1 hid).1
 have hjl:j<cs.length:=(List.getElem?_eq_some_iff.1 hj).1
 have key:∀(i:Nat) c,(hp.set id (some (cs.set j (.sl k (.may false) xs))))[i]? =some (some c)→∃c',hp[i]? =some (some c')∧((i≠id∧c=c')∨(i=id∧c'=cs∧c=cs.set j (.sl k (.may false) xs))):=by
  intro i c hi
  rw[List.getElem?_set] at hi
  split at hi
  ·rename_i e;subst e
   exact⟨cs,hid,.inr ⟨rfl,rfl,by simpa using hi.symm⟩⟩
  ·rename_i e
   exact⟨c,hi,.inl ⟨fun h=>e h.symm,rfl⟩⟩
 refine⟨?_,?_,?_,?_,h.exI,h.oLt⟩
 ·intro i c hi
  obtain⟨c',hc',r⟩:=key i c hi
  rcases r with⟨hne,rfl⟩|⟨rfl,rfl,rfl⟩
  ·rw[List.length_set]
   exact h.obj i c hc'
  ·obtain⟨arr,e,fz,h1,h2'⟩:=(h.obj i c' hc').row (Go.Proofs.YtkinflmjagfapaaDoor.map_cell hj rfl)
   obtain⟨rfl,h2⟩:=h2'.low (Go.Proofs.YtkinflmjagfapaaDoor.row_cell hj rfl)
   refine .ofRow0 h1 ⟨by simpa using h2.len,?_,?_,?_,?_⟩
   ·intro c hc
    rcases List.mem_or_eq_of_mem_set hc with h'|h'
    ·exact h2.one c h'
    ·subst h';rfl
   ·intro i c cv hc hv
    rw[List.length_set]
    rw[List.getElem?_set] at hc
    split at hc
    ·rename_i e;subst e
     simp only[Option.some.injEq] at hc
     subst hc
     exact(h2.rel j _ cv hj hv).own (by simp) (by simp)
    ·exact h2.rel i c cv hc hv
   ·intro i c cv hc hv
    rw[List.getElem?_set] at hc
    split at hc
    ·rename_i e;subst e
     simp only[Option.some.injEq] at hc
     subst hc
     simp[av]
    ·exact h2.own i c cv hc hv
   ·intro i E n hc
    rw[List.getElem?_set] at hc
    split at hc
    ·rename_i e;subst e
     simp at hc
    ·exact h2.bn i E n hc
 ·intro i i' c c' hi hi' hne
  obtain⟨d,hd,_⟩:=key i c hi
  obtain⟨d',hd',_⟩:=key i' c' hi'
  exact h.apart i i' d d' hd hd' hne
 ·intro i c hi
  obtain⟨d,hd,_⟩:=key i c hi
  exact h.notI i d hd
 ·intro i c hi
  obtain⟨d,hd,_⟩:=key i c hi
  exact h.notO i d hd
end Go.AM
namespace Go.Proofs.YtkinflmjagfapaaDoor
open Go.AM Go.RowKit
set_option autoImplicit false
set_option linter.unusedVariables false
theorem agK{P:Program}{e:TypeId}(hc:P.cellsOf e=1)(count off n:Nat)(hn:off+n≤count):liesAt P P.depth e count off e n=true:=by
 have hd:P.depth=(2*(P.types.size+Made.depth)+1)+1:=rfl
 rw[hd]
 simp only[liesAt,Bool.or_eq_true]
 left
 rw[hd]
 simp[rowAt,hc,hn,sameLayout,Nat.mod_one]
theorem wt{P:Program}(w:World)(pt it ty e:TypeId)(hp:P.underlying pt=some (.pointer e))(hc:P.cellsOf e=1)(g off cells:Nat)(hsh:w.shape? g=some (e,cells))(l:List UInt8)(h0:l≠[])(hn:off+l.length≤cells)(h63:l.length≤9223372036854775807)
  (hcell:∀j x,l[j]? =some x→w.cell? ((⟨g,off,none⟩:Addr).add j)=some (.int .u8 x.toNat)):
  (Builtin.unsafeString_ #[pt,it] ty #[.pointer (some ⟨g,off,none⟩),.int .i64 l.length]).run P w=.ok (.string ⟨l.toArray⟩) (w.freeze ⟨g,off,none⟩ l.length):=by
 have hl:l.length≠0:=by simpa using h0
 have hlb:=Lib.run_loadBytes (P:=P) w l ⟨g,off,none⟩ .empty hcell
 have hlies:=agK (P:=P) hc (cells / P.cellsOf e) off l.length (by rw[hc];simpa using hn)
 have h63':¬(9223372036854775807:Int)<(l.length:Int):=by omega
 have hmax:IntKind.i64.max=9223372036854775807:=rfl
 have hneg:¬(l.length:Int)<0:=by omega
 show (asInt (.int .i64 l.length) >>=_:Sem Value).run P w=_
 simp[asInt,asIntOf,hmax,h63',hneg,hl,variablesAt,hsh,elemOf,run_underlying hp,hlies,hlb]
set_option maxHeartbeats 2000000 in
set_option maxRecDepth 100000 in
theorem ah2(b o n:Nat)(v p:Value)(s:ByteArray)(w w':World)(h1:w.drew.cell? ⟨b,o+1,none⟩=some v)(h1':w'.cell? ⟨b,o+1,none⟩=some v)(hv:∃ad cap,v=.slice ad n cap)
  (hSD:(Builtin.unsafeSliceData_ #[22] 141 #[v]).run Tryd.prog w.drew=.ok p w')
  (w'':World) (hUS:(Builtin.unsafeString_ #[141,3] 9 #[p,.int .i64 n]).run Tryd.prog w'=.ok (.string s) w''):
  Calls Tryd.prog 91 #[.pointer (some ⟨b,o,none⟩)] w fun e x=>e=.returned (.string s)∧x=w'':=by
 obtain⟨ad,cap,rfl⟩:=hv
 go_enter Tryd.func91,Tryd.ntmps91
 go_wp2
 go_region
 all_goals (go_wp2;go_ret;exact⟨rfl,rfl⟩)
theorem adW:Tryd.prog.underlying 141=some (.pointer (dn Tryd.prog)):=by kernel_rfl
theorem afX:Tryd.prog.cellsOf (dn Tryd.prog)=1:=by kernel_rfl
theorem aeW(w:World)(a:Addr)(n b:Nat)(h:b≠a.block):(w.freeze a n).heap[b]? =w.heap[b]?:=by
 unfold World.freeze
 split
 ·rfl
 ·rw[Array.getElem?_modify,if_neg (fun e=>h e.symm)]
theorem aeX(w:World)(a:Addr)(n b j:Nat):(w.freeze a n).cell? ⟨b,j,none⟩=w.cell? ⟨b,j,none⟩:=by
 unfold World.freeze
 by_cases hn:n=0
 ·simp only[hn,if_true]
 ·simp only[hn,if_false,World.cell?,Array.getElem?_modify]
  by_cases e:a.block=b
  ·subst e
   simp only[if_true]
   cases hb:w.heap[a.block]? with
   |none=>rfl
   |some o=>cases o<;>rfl
  ·simp only[e,if_false]
theorem aeY(w:World)(a:Addr)(n:Nat):(w.freeze a n).heap.size=w.heap.size:=by
 unfold World.freeze
 split<;>simp
theorem sC(w:World)(a:Addr)(n:Nat):(w.freeze a n).os=w.os∧(w.freeze a n).tape=w.tape∧(w.freeze a n).output=w.output:=by
 unfold World.freeze
 split<;>simp
theorem aiZ{id o:Nat}{cs:List V}{hp:List aq}{l:List UInt8}(hid:hp[id]? =some (some cs))(hc:cs[o+1]? =some (.sl .u8 .own l)):
  cm Tryd.prog 91 [.ptr id o] hp (.str l) (hp.set id (some (cs.set (o+1) (.sl .u8 (.may false) l)))):=by
 intro w g cargs hβ hhr hlen hbare hrel
 match cargs,hlen,hrel with
 |⟨[cv]⟩,hlen,hrel=>
  have r:=hrel 0 (.ptr id o) cv rfl rfl
  cases r with
  |ptr _ _ hlt=>
  obtain⟨arr,e,fz,h1,h2'⟩:=(hhr.obj id cs hid).row (map_cell hc rfl)
  obtain⟨rfl,h2⟩:=h2'.low (row_cell hc rfl)
  have hoc:o+1<arr.size:=by
   have:=(List.getElem?_eq_some_iff.1 hc).1
   rw[h2.len] at this
   exact this
  have hcell:w.cell? ⟨g.ρ id,o+1,none⟩=arr[o+1]?:=aE h1 (o+1)
  obtain⟨sv,hsv⟩:∃sv,arr[o+1]? =some sv:=⟨_,Array.getElem?_eq_getElem hoc⟩
  have hv:=h2.rel (o+1) _ sv hc hsv
  have ho:=h2.own (o+1) _ sv hc hsv
  rw[hsv] at hcell
  have hhr':=(hhr.disownCell hid hc).drew
  have hlen':(hp.set id (some (cs.set (o+1) (.sl .u8 (.may false) l)))).length=hp.length:=by simp
  have hold:∀(i:Nat) c,(hp.set id (some (cs.set (o+1) (.sl .u8 (.may false) l))))[i]? =some (some c)→∃c',hp[i]? =some (some c'):=by
   intro i c hi
   rw[List.getElem?_set] at hi
   split at hi
   ·rename_i e;subst e;exact⟨cs,hid⟩
   ·exact⟨c,hi⟩
  have fin:∀(w'':World),(∀b j,b<w.heap.size→w''.cell? ⟨b,j,none⟩=w.cell? ⟨b,j,none⟩)→w.heap.size≤w''.heap.size→w''.os=w.os→w''.tape=w.tape→w''.output=w.output→
    (∀b,b<w.heap.size→(∀ad len cap,sv=.slice (some ad) len cap→len≠0→b≠ad.block)→w''.heap[b]? =w.heap[b]?)→
    HR g (hp.set id (some (cs.set (o+1) (.sl .u8 (.may false) l)))) w''∧FR g hp w g (hp.set id (some (cs.set (o+1) (.sl .u8 (.may false) l)))) w'':=by
   intro w'' e1 e2 e3 e4 e5 e6
   have hO:∀ad len cap,sv=.slice (some ad) len cap→g.O ad.block=some (.cell id (o+1)):=by
    intro ad len cap e
    subst e
    exact ho.1
   obtain⟨q1,q2⟩:=HR.other (w':=w'') (hhr.disownCell hid hc) e2 e1 (by
    intro i c hi
    obtain⟨c',hc'⟩:=hold i c hi
    have hlt':g.ρ i<w.heap.size:=(hhr.obj i c' hc').lt
    refine e6 _ hlt' ?_
    intro ad len cap he _ hne
    have:=hO ad len cap he
    rw[←hne,hhr.notO i c' hc'] at this
    cases this) (by
    intro i j cs' c cv hi hj hown
    by_cases hij:i=id∧j=o+1
    ·obtain⟨rfl,rfl⟩:=hij
     rw[List.getElem?_set,if_pos rfl,if_pos hlt] at hi
     simp only[Option.some.injEq] at hi
     subst hi
     have hco:o+1<cs.length:=(List.getElem?_eq_some_iff.1 hc).1
     have hcc:(cs.set (o+1) (V.sl .u8 (.may false) l))[o+1]? =some (.sl .u8 (.may false) l):=List.getElem?_set_self hco
     rw[fa (row_cell hcc rfl),hcc] at hj
     simp only[Option.some.injEq] at hj
     subst hj
     simp[av]
    ·refine bx hown rfl (fun b j' hI=>⟨hI,e1 b j' ?_⟩) (fun b hO'=>⟨hO',e6 b (hhr.oLt b _ hO') ?_,fun _ h=>h⟩)
     ·have hs:=hhr.exI b j' hI
      rcases Nat.lt_or_ge b w.heap.size with h'|h'
      ·exact h'
      ·simp[World.cell?,Array.getElem?_eq_none h'] at hs
     ·intro ad len cap he _ hne
      have:=hO ad len cap he
      rw[←hne,hO'] at this
      simp only[Option.some.injEq,Occ.cell.injEq] at this
      exact hij this)
   refine⟨q1,rfl,e3,e4,e5,e2,?_,by rw[hlen'] at q2 ⊢;exact q2,fun _ _ _ _ _ h=>h,fun _ _ _ h=>h,?_⟩
   ·intro b hb _ hO'
    refine e6 b hb ?_
    intro ad len cap he _ hne
    have:=hO ad len cap he
    rw[←hne,hO'] at this
    cases this
   ·intro i c hi
    exact .inl (hold i c hi)
  have res:∀(p:Value)(w' w'':World)(n:Nat),l.length=n→(∃ad cap,sv=.slice ad n cap)→w'.cell? ⟨g.ρ id,o+1,none⟩=some sv→
    (Builtin.unsafeSliceData_ #[22] 141 #[sv]).run Tryd.prog w.drew=.ok p w'→(Builtin.unsafeString_ #[141,3] 9 #[p,.int .i64 n]).run Tryd.prog w'=.ok (.string ⟨l.toArray⟩) w''→
    HR g (hp.set id (some (cs.set (o+1) (.sl .u8 (.may false) l)))) w''∧FR g hp w g (hp.set id (some (cs.set (o+1) (.sl .u8 (.may false) l)))) w''→l.length≤bN→
    Calls Tryd.prog 91 ⟨[.pointer (some ⟨g.ρ id,o,none⟩)]⟩ w fun e w'=>∃cv g',e=.returned cv∧HR g' (hp.set id (some (cs.set (o+1) (.sl .u8 (.may false) l)))) w'∧FR g hp w g' (hp.set id (some (cs.set (o+1) (.sl .u8 (.may false) l)))) w'∧VRel g'.I g'.ρ (hp.set id (some (cs.set (o+1) (.sl .u8 (.may false) l)))).length w' (.str l) cv∧av g' w' .res (.str l) cv:=by
   intro p w' w'' n hn hex hcl hSD hUS hfin hmx
   refine(ah2 (g.ρ id) o n sv p ⟨l.toArray⟩ w w' hcell hcl hex hSD w'' hUS).mono ?_
   rintro e x ⟨rfl,rfl⟩
   exact⟨_,g,rfl,hfin.1,hfin.2,.str _ _ (by simp) (by simpa [ByteArray.size] using hmx),by simp[av]⟩
  cases hv with
  |sle _ _ ad hne=>exact absurd rfl hne
  |sln k o=>
   refine res (.pointer none) w.drew w.drew 0 rfl ⟨_,_,rfl⟩ hcell rfl (Lib.run_unsafeString_none _ _ _ _ _) (fin _ (fun _ _ _=>rfl) (Nat.le_refl _) rfl rfl rfl (fun _ _ _=>rfl)) (by simp)
  |sl k oo xs b off len cap hl hcp hm hf f hI hw hvv=>
   obtain⟨u1,⟨arr',e',fz,u2,u3,u4⟩,u5⟩:=ho
   have he':e'=dn Tryd.prog:=(u4 rfl).trans hβ
   have hsh:w.drew.shape? b=some (dn Tryd.prog,arr'.size):=by
    have:w.drew.heap[b]? =some (.cells arr' e' fz):=u2
    simp[World.shape?,this,he']
   have hsz:EK.u8.sz=1:=rfl
   simp only[hsz,Nat.mul_one] at u3 u5 hw hI
   subst hl
   by_cases h0:l=[]
   ·subst h0
    by_cases hc0:cap=0
    ·subst hc0
     have f:=fc w.drew (.view ⟨b,off,none⟩ (dn Tryd.prog))
     refine res _ _ _ 0 rfl ⟨_,_,rfl⟩ ?_ (Lib.run_unsafeSliceData_zero w.drew _ _ (dn Tryd.prog) adW ⟨b,off,none⟩ 0 _ hsh) (Lib.run_unsafeString_none _ _ _ _ _) (fin _ ?_ ?_ rfl rfl rfl ?_) (by simp)
     ·have hlt':g.ρ id<w.heap.size:=(Array.getElem?_eq_some_iff.1 h1).1
      have:=f.2.1 (g.ρ id) hlt'
      unfold World.cell? at hcell ⊢
      rw[this]
      exact hcell
     ·intro b' j hb'
      have:=f.2.1 b' hb'
      unfold World.cell?
      rw[this]
      rfl
     ·rw[f.1];exact Nat.le_succ _
     ·intro b' hb' _
      exact f.2.1 b' hb'
    ·refine res _ w.drew _ 0 rfl ⟨_,_,rfl⟩ hcell (Lib.run_unsafeSliceData_row _ _ _ _ _ _ hc0) (Lib.run_unsafeString_none _ _ _ _ _) (fin _ (fun _ _ _=>rfl) (Nat.le_refl _) rfl rfl rfl (fun _ _ _=>rfl)) (by simp)
   ·have hlen0:l.length≠0:=by simpa using h0
    refine res _ w.drew _ l.length rfl ⟨_,_,rfl⟩ hcell (Lib.run_unsafeSliceData_row _ _ _ _ _ _ (by omega)) (wt _ _ _ _ _ adW afX b off arr'.size hsh l h0 (by omega) (by unfold bN at hm;omega) ?_) (fin _ ?_ ?_ ?_ ?_ ?_ ?_) (by omega)
    ·intro j x hj
     have hx:=hw j x 0 hj (by simp[enc])
     have hr:=hvv j x 0 _ hj (by simp[enc];rfl)
     generalize f j 0=z at hx hr
     cases hr
     by_cases hj0:j=0
     ·subst hj0;simpa [Addr.add] using hx
     ·simpa [Addr.add,hj0] using hx
    ·intro b j _;rw[aeX];rfl
    ·rw[aeY];exact Nat.le_refl _
    ·exact(sC _ _ _).1
    ·exact(sC _ _ _).2.1
    ·exact(sC _ _ _).2.2
    ·intro b' hb' hne
     rw[aeW _ _ _ _ (hne _ _ _ rfl hlen0)];rfl
 |⟨[]⟩,hlen,_=>simp at hlen
 |⟨_::_::_⟩,hlen,_=>simp at hlen
end Go.Proofs.YtkinflmjagfapaaDoor
end
noncomputable section
namespace Go.Proofs.YtkinflmjagfapaaDoor
open Go.AM
set_option autoImplicit false
set_option linter.unusedVariables false
set_option linter.unusedSimpArgs false
def abc(E n o:Nat):Bool:=(E==122&&n==2&&o==0)
theorem ab7{E n o:Nat}(h:abc E n o=true):zR E n o=true:=by
 simp only[abc,Bool.or_eq_true,Bool.and_eq_true,beq_iff_eq] at h
 obtain⟨⟨rfl,rfl⟩,rfl⟩:=h;kernel_rfl
theorem getD_some{hp:List aq}{id:Nat}{cs:List V}(h:hp.getD id none=some cs):hp[id]? =some (some cs):=by
 rw[List.getD_eq_getElem?_getD] at h
 cases hq:hp[id]? with
 |none=>rw[hq] at h;simp at h
 |some x=>rw[hq] at h;simpa using h
theorem pX{cs:List V}{o:Nat}{v:V}(h:cs.getD o .undef=v)(hv:v≠.undef):cs[o]? =some v:=by
 rw[List.getD_eq_getElem?_getD] at h
 cases hq:cs[o]? with
 |none=>rw[hq] at h;exact absurd h.symm hv
 |some x=>rw[hq] at h;simpa using h
def gWS(id o:Nat)(s:List UInt8)(hp:List aq):Option (Bool×V×List aq):=
 match hp.getD id none with
 |some cs=>match cs.getD o .undef,cs.getD (o+1) .undef with
  | .bn E n,.sl .u8 .own l=>cond (abc E n o) (some (decide (l.length+s.length≤140737488355328),.tup [.int .i64 (s.length:Int),.nilif],hp.set id (some (cs.set (o+1) (.sl .u8 .own (l++s)))))) none
  |_,_=>none
 |none=>none
def gST(id o:Nat)(hp:List aq):Option (Bool×V×List aq):=
 match hp.getD id none with
 |some cs=>match cs.getD (o+1) .undef with
  | .sl .u8 .own l=>some (true,.str l,hp.set id (some (cs.set (o+1) (.sl .u8 (.may false) l))))
  |_=>none
 |none=>none
def gWB(id o:Nat)(c:Int)(hp:List aq):Option (Bool×V×List aq):=
 match hp.getD id none with
 |some cs=>match cs.getD o .undef,cs.getD (o+1) .undef with
  | .bn E n,.sl .u8 .own l=>cond (abc E n o) (some (decide (l.length+1≤140737488355328),.nilif,hp.set id (some (cs.set (o+1) (.sl .u8 .own (l++[UInt8.ofNat c.toNat])))))) none
  |_,_=>none
 |none=>none
theorem aiJ{id o:Nat}{c:Int}{hp hp':List aq}{v:V}(h:gWB id o c hp=some (true,v,hp')):cm Tryd.prog 88 [.ptr id o,.int .u8 c] hp v hp':=by
 unfold gWB at h
 split at h
 ·rename_i cs hcs
  split at h
  ·rename_i E n l hb hl
   cases hlie:abc E n o with
   |false=>rw[hlie] at h;simp at h
   |true=>
    rw[hlie] at h
    simp only[cond_true,Option.some.injEq,Prod.mk.injEq,decide_eq_true_eq] at h
    obtain⟨hlen,rfl,rfl⟩:=h
    exact aiY (getD_some hcs) (pX hb (by simp)) (ab7 hlie) (pX hl (by simp)) hlen
  ·simp at h
 ·simp at h
theorem aiK{id o:Nat}{s:List UInt8}{hp hp':List aq}{v:V}(h:gWS id o s hp=some (true,v,hp')):cm Tryd.prog 90 [.ptr id o,.str s] hp v hp':=by
 unfold gWS at h
 split at h
 ·rename_i cs hcs
  split at h
  ·rename_i E n l hb hl
   cases hlie:abc E n o with
   |false=>rw[hlie] at h;simp at h
   |true=>
    rw[hlie] at h
    simp only[cond_true,Option.some.injEq,Prod.mk.injEq,decide_eq_true_eq] at h
    obtain⟨hlen,rfl,rfl⟩:=h
    exact aiW (getD_some hcs) (pX hb (by simp)) (ab7 hlie) (pX hl (by simp)) hlen
  ·simp at h
 ·simp at h
theorem aiL{id o:Nat}{hp hp':List aq}{v:V}(h:gST id o hp=some (true,v,hp')):cm Tryd.prog 91 [.ptr id o] hp v hp':=by
 unfold gST at h
 split at h
 ·rename_i cs hcs
  split at h
  ·rename_i l hl
   simp only[Option.some.injEq,Prod.mk.injEq,true_and] at h
   obtain⟨rfl,rfl⟩:=h
   exact aiZ (getD_some hcs) (pX hl (by simp))
  ·simp at h
 ·simp at h
def aaC(Γ:ay):ay:=fun f vs hp=>
 if f=90 then
  match vs with
  | [.ptr id o,.str s]=>gWS id o s hp
  |_=>none
 else if f=91 then
  match vs with
  | [.ptr id o]=>gST id o hp
  |_=>none
 else if f=88 then
  match vs with
  | [.ptr id o,.int .u8 c]=>gWB id o c hp
  |_=>none
 else Γ f vs hp
theorem ahm{Γ:ay}(hΓ:bL Tryd.prog Γ):bL Tryd.prog (aaC Γ):=by
 intro f vs hp v hp' h
 unfold aaC at h
 split at h
 ·rename_i hf;subst hf
  split at h
  ·exact aiK h
  ·simp at h
 ·split at h
  ·rename_i hf;subst hf
   split at h
   ·exact aiL h
   ·simp at h
  ·split at h
   ·rename_i hf;subst hf
    split at h
    ·exact aiJ h
    ·simp at h
   ·exact hΓ _ _ _ _ _ h
theorem afY{Γ:ay}(hΓ:bX Γ []):bX (aaC Γ) [90,91,88]:=by
 refine⟨?_,?_⟩
 ·intro f vs hp hf
  simp only[List.contains_cons,List.contains_nil,Bool.or_false,Bool.or_eq_false_iff,beq_eq_false_iff_ne,ne_eq,decide_eq_true_eq,Bool.not_eq_true,List.mem_cons,List.not_mem_nil,not_or,not_false_eq_true,or_false] at hf
  simp only[aaC,hf,if_false]
  exact hΓ.pure f vs hp (by simp)
 ·intro f vs hp c v hp' hf h
  simp only[List.contains_cons,List.contains_nil,Bool.or_false,Bool.or_eq_true,beq_iff_eq] at hf
  omega
end Go.Proofs.YtkinflmjagfapaaDoor
end
noncomputable section
namespace Go.Proofs.YtkinflmjagfapaaDoor
open Go.AM
set_option autoImplicit false
set_option linter.unusedVariables false
set_option maxRecDepth 100000
abbrev hH:FuncId:=110
abbrev qi:FuncId:=54
abbrev ku:FuncId:=89
def oW:Nat→List V→Option (Bool×V):=fun f vs=>match f,vs with
 |110,[.str a0,.int .u8 a1]=>some (true,.int .i64 (gW a0 a1))
 |_,_=>none
def ig:ay:=(mQ oW)
theorem rB:bX ig []:=(lD _ _)
theorem sD(h_internal_stringslite_IndexByte:∀(a0:Bs)(a1:Int),aH Tryd.prog hH [.str a0,.int .u8 a1] (.int .i64 (gW a0 a1))):bL Tryd.prog ig:=by
 intro f vs hp v hp' h0
 obtain⟨h,he⟩:=xd h0
 subst he
 unfold oW at h
 split at h
 ·simp only[Option.some.injEq,Prod.mk.injEq] at h
  obtain⟨hc,rfl⟩:=h
  exact((h_internal_stringslite_IndexByte _ _).dim rfl).frame rfl rfl _
 ·simp at h
def n9:IR:=Rs [Mi 4 0] (Rs [Mv 5 0,Mv 6 1,Ca 7 110 [5,6],Mv 4 7] .ret)
def oa:List RV:=[.t 4]
theorem td:(bo Tryd.prog [] 0 n9 (Tryd.f89.body.getD .skip)&&j8 Tryd.prog oa Tryd.f89.results.toList)=true:=by kernel_rfl
theorem sE:Tryd.f89.body=some (Tryd.f89.body.getD .skip):=by kernel_rfl
def uG(N:Nat)(p0:Bs)(p1:Int):Ro:=
 some (.int .i64 (gW p0 p1),[])
def od(N:Nat)(p0:Bs)(p1:Int):Ro:=uG N p0 p1
theorem te(N:Nat)(p0:Bs)(p1:Int):callF ig N 8 oa n9 [.str p0,.int .u8 p1] []=od N p0 p1:=by kernel_rfl
theorem uH(hΓ:bL Tryd.prog ig)(N:Nat)(p0:Bs)(p1:Int){v:V}{hp:List aq}(h:od N p0 p1=some (v,hp)):aH Tryd.prog ku [.str p0,.int .u8 p1] v:=by
 have hc:=td
 simp only[Bool.and_eq_true] at hc
 exact⟨hp,s5 hΓ rB Tryd.func89 sE hc.1 hc.2 (by decide) ((te N p0 p1).trans h)⟩
def vv:Nat→List V→Option (Bool×V):=fun f vs=>match f,vs with
 |89,[.str a0,.int .u8 a1]=>some (true,.int .i64 (gW a0 a1))
 |_,_=>none
def gl:ay:=(aaC (mQ vv))
theorem yL:bX gl [90,91,88]:=((afY (lD _ _)).mono (by decide) (by decide))
theorem zS(h_strings_IndexByte:∀(a0:Bs)(a1:Int),aH Tryd.prog ku [.str a0,.int .u8 a1] (.int .i64 (gW a0 a1))):bL Tryd.prog gl:=by
 refine ahm ?_
 intro f vs hp v hp' h0
 obtain⟨h,he⟩:=xd h0
 subst he
 unfold vv at h
 split at h
 ·simp only[Option.some.injEq,Prod.mk.injEq] at h
  obtain⟨hc,rfl⟩:=h
  exact((h_strings_IndexByte _ _).dim rfl).frame rfl rfl _
 ·simp at h
def qu:IR:=Rs [Bi 11 .lss 10 9] (Sq (Cn 11 .skip (.exit 0)) (Sq (.block 1 (Rs [Mv 12 10,Mv 4 12] (Rs [Mv 13 0,Mv 14 4,Pp (.idx 15 13 14),Mv 5 15] (Rs [Mv 16 5,Ca 17 89 [kS [34,92,8,12,10,13,9],16],Mv 6 17] (Rs [Mv 18 6,Bc 19 .geq 18 0] (Cn 19 (Rs [Ca 20 88 [3,.c (.int .u8 92)]] (Rg [Mv 21 6,Pp (.idx 22 (kS [34,92,98,102,110,114,116]) 21),Ca 23 88 [3,22]])) (Rs [Mv 24 5,Pp (.bin 25 .lss 24 (.c (.int .u8 32)))] (Cn 25 (Rs [Ca 26 90 [3,kS [92,117,48,48]]] (Rs [Mv 27 5,Pp (.bin 28 .shr 27 (kU 4)),Pp (.idx 29 (kS [48,49,50,51,52,53,54,55,56,57,97,98,99,100,101,102]) 28),Ca 30 88 [3,29]] (Rg [Mv 31 5,Pp (.bin 32 .and 31 (.c (.int .u8 15))),Pp (.idx 33 (kS [48,49,50,51,52,53,54,55,56,57,97,98,99,100,101,102]) 32),Ca 34 88 [3,33]]))) (Rg [Mv 35 5,Ca 36 88 [3,35]]))))))))) (Rg [Bc 37 .add 10 1,Mv 10 37])))
def qv:IR:=Rs [Ca 38 88 [3,.c (.int .u8 34)]] (Rs [Ca 39 91 [3],Mv 2 39] .ret)
def pp:IR:=Rs [Ms 2 []] (Rs [Pp (.newb 3 [.bn 122 2,.sl .u8 .own ([]:Bs)])] (Rs [Ca 7 88 [3,.c (.int .u8 34)]] (Sq (Rs [Mv 8 0,Pp (.lens 9 8),Mi 10 0] (.block 0 (.loop [0,3,9,10,1000000] 1 qu))) qv)))
def lK:List RV:=[.t 2]
theorem aaD:(bo Tryd.prog [90,91,88] 0 pp (Tryd.f54.body.getD .skip)&&j8 Tryd.prog lK Tryd.f54.results.toList)=true:=by kernel_rfl
theorem zT:Tryd.f54.body=some (Tryd.f54.body.getD .skip):=by kernel_rfl
def aaE(R:IR→(Ex→St→Ro)→St→Ro)(again0:St→Ro):Ex→St→Ro:=(bO again0 [0,3,9,10,1000000] 1 (aJ 0 (kseq (R qv) (fin lK))))
abbrev kL:Type:=(Bs×Int×Int×Bs)
def jM(x:kL):St:={env:=(.str x.1::.undef::.undef::.ptr 0 0::(U 5 (.int .i64 x.2.1::.int .i64 x.2.2.1::(U 29 [])))),hp:=[some [.bn 122 2,.sl .u8 .own x.2.2.2]]}
def oe(N:Nat):(St→Ro)→St→Ro:=fun again0 s=>run gl N qu (aaE (run gl N) again0) s
def c7(N:Nat)(again0:kL→Ro)(x:kL):Ro:=
 let v0:Bs:=x.1
 let v9:Int:=x.2.1
 let v10:Int:=x.2.2.1
 let o0_1:Bs:=x.2.2.2
 cond (decide (v10<v9)) (
  chk (ixl v10 v0) (
   let x2:=(↑(UInt8.toNat (List.getD v0 (Int.toNat v10) 0)):Int)
   let x3:=(gW ([34,92,8,12,10,13,9]:Bs) x2)
   cond (decide (0≤x3)) (
    chk (decide (List.length o0_1+1≤140737488355328)) (
     chk (ixl x3 ([34,92,98,102,110,114,116]:Bs)) (
      let x4:=(↑(UInt8.toNat (List.getD ([34,92,98,102,110,114,116]:Bs) (Int.toNat x3) 0)):Int)
      chk (decide (List.length (o0_1++[UInt8.ofNat (Int.toNat 92)])+1≤140737488355328)) (
       let x5:=(IntKind.wrap .i64 (v10+1))
       again0 (v0,v9,x5,((o0_1++[UInt8.ofNat (Int.toNat 92)])++[UInt8.ofNat (Int.toNat x4)])))))) (
    cond (decide (x2<32)) (
     chk (decide (List.length o0_1+List.length ([92,117,48,48]:Bs)≤140737488355328)) (
      let x6:=(↑(List.length ([92,117,48,48]:Bs)):Int)
      chk (ixl (nO .u8 x2 4) ([48,49,50,51,52,53,54,55,56,57,97,98,99,100,101,102]:Bs)) (
       let x7:=(↑(UInt8.toNat (List.getD ([48,49,50,51,52,53,54,55,56,57,97,98,99,100,101,102]:Bs) (Int.toNat (nO .u8 x2 4)) 0)):Int)
       chk (decide (List.length (o0_1++([92,117,48,48]:Bs))+1≤140737488355328)) (
        chk (ixl (bU .and .u8 x2 15) ([48,49,50,51,52,53,54,55,56,57,97,98,99,100,101,102]:Bs)) (
         let x8:=(↑(UInt8.toNat (List.getD ([48,49,50,51,52,53,54,55,56,57,97,98,99,100,101,102]:Bs) (Int.toNat (bU .and .u8 x2 15)) 0)):Int)
         chk (decide (List.length ((o0_1++([92,117,48,48]:Bs))++[UInt8.ofNat (Int.toNat x7)])+1≤140737488355328)) (
          let x9:=(IntKind.wrap .i64 (v10+1))
          again0 (v0,v9,x9,(((o0_1++([92,117,48,48]:Bs))++[UInt8.ofNat (Int.toNat x7)])++[UInt8.ofNat (Int.toNat x8)])))))))) (
     chk (decide (List.length o0_1+1≤140737488355328)) (
      let x10:=(IntKind.wrap .i64 (v10+1))
      again0 (v0,v9,x10,(o0_1++[UInt8.ofNat (Int.toNat x2)]))))))) (
  chk (decide (List.length o0_1+1≤140737488355328)) (
   let x11:=(o0_1++[UInt8.ofNat (Int.toNat 34)])
   some (.str x11,[some [.bn 122 2,.sl .u8 (.may false) (o0_1++[UInt8.ofNat (Int.toNat 34)])]])))
theorem zU(N:Nat):LB (oe N) jM (c7 N):=fun _ _=>by kernel_rfl
def jo(N:Nat)(p0:Bs)(q0:kL→Ro):Ro:=
 chk (decide (List.length ([]:Bs)+1≤140737488355328)) (
  let x1:=(↑(List.length p0):Int)
  q0 (p0,x1,0,(([]:Bs)++[UInt8.ofNat (Int.toNat 34)])))
def lL(N:Nat)(p0:Bs):Ro:=jo N p0 (fun z=>aT N (c7 N) z)
def acp(N:Nat):List (Nat×(St→Ro)):=ca gl N pp (fin lK)++[]
theorem aaF(N:Nat)(p0:Bs):callF gl N 40 lK pp [.str p0] []=lL N p0:=
 ((cn (acp N) (by kernel_rfl) rfl (fun C=>jo N p0 (fun z=>C 1000000 (jM z))) (fun C=>by kernel_rfl)).trans (Eq.trans (b:=jo N p0 (fun z=>bh N (oe N) (jM z))) (by kernel_rfl) (congrArg (jo N p0) (funext fun z=>bj (jM) (oe N) (c7 N) (zU N) N z))))
theorem abd(hΓ:bL Tryd.prog gl)(N:Nat)(p0:Bs){v:V}{hp:List aq}(h:lL N p0=some (v,hp)):aH Tryd.prog qi [.str p0] v:=by
 have hc:=aaD
 simp only[Bool.and_eq_true] at hc
 exact⟨hp,s5 hΓ yL Tryd.func54 zT hc.1 hc.2 (by decide) ((aaF N p0).trans h)⟩
end Go.Proofs.YtkinflmjagfapaaDoor
end
noncomputable section
namespace Go.Proofs.YtkinflmjagfapaaDoor
open Go.AM Go.RowKit
set_option autoImplicit false
set_option linter.unusedVariables false
theorem ah3(s:ByteArray)(c:Int)(w:World):(callFunc 130 #[.string s,.int .u8 c]).run Tryd.prog w=.ok (.value (.int .i64 (Lib.indexByte s.data.toList c.toNat.toUInt8))) w:=by
 rw[run_callFunc_extern Tryd.func130 (by kernel_rfl) (by kernel_rfl) (by kernel_rfl) (e:=Extern.BytealgIndexByte.indexByte) (by kernel_rfl)]
 rw[Lib.run_indexByteString]
 rfl
set_option maxHeartbeats 1000000 in
set_option maxRecDepth 100000 in
theorem ah4(s:ByteArray)(c:Int)(w:World):Calls Tryd.prog 110 #[.string s,.int .u8 c] w fun e w'=>e=.returned (.int .i64 (Lib.indexByte s.data.toList c.toNat.toUInt8))∧w'=w:=by
 go_enter Tryd.func110,Tryd.ntmps110
 go_wp2
 rw[ah3]
 rw[Oper.upon_value]
 go_wp2
 go_ret
 exact⟨rfl,rfl⟩
theorem adX:∀(l:List UInt8)(c:Nat),c<256→Lib.indexByte l c.toUInt8=gW l (c:Int)∧ -1≤gW l (c:Int)∧gW l (c:Int)≤(l.length:Int)
 | [],c,h=>by simp[Lib.indexByte,gW,xn]
 |b::l,c,h=>by
  have ih:=adX l c h
  have hb:(b==c.toUInt8)=decide (b.toNat=c):=by
   have e:(c.toUInt8).toNat=c:=by simp[Nat.toUInt8];omega
   by_cases hc:b.toNat=c
   ·have:b=c.toUInt8:=by apply UInt8.toNat_inj.1;rw[e];exact hc
    simp[this,e]
   ·have:b≠c.toUInt8:=by rintro rfl;exact hc e
    simp[this,hc]
  simp only[Lib.indexByte,gW,xn,Int.toNat_natCast,hb] at ih ⊢
  by_cases hc:b.toNat=c
  ·simp[hc];omega
  ·simp only[hc,decide_false,if_false,Bool.false_eq_true]
   cases hi:xn l c with
   |none=>rw[hi] at ih;simp at ih ⊢;simp[ih];omega
   |some k=>
    rw[hi] at ih
    simp only[Option.map_some] at ih ⊢
    rw[ih.1]
    have:((k:Int)== -1)=false:=by simp
    rw[this]
    simp
    omega
theorem lM(s:List UInt8)(c:Int):aH Tryd.prog hH [.str s,.int .u8 c] (.int .i64 (gW s c)):=by
 refine⟨[],?_⟩
 intro w g cargs hβ hhr hlen hbare hrel
 match cargs,hlen,hrel with
 |⟨[c0,c1]⟩,hlen,hrel=>
  have r0:=hrel 0 (.str s) c0 rfl rfl
  have r1:=hrel 1 (.int .u8 c) c1 rfl rfl
  cases r0 with
  |str _ b hl hm=>
  cases r1 with
  |int _ _ hr=>
  subst hl
  refine(ah4 b c w).mono ?_
  rintro e w' ⟨rfl,rfl⟩
  obtain⟨n,rfl⟩:∃n:Nat,c=(n:Int):=⟨c.toNat,by have:(0:Int)≤c:=hr.1;omega⟩
  have hn:n<256:=by have:(n:Int)≤255:=hr.2;omega
  have h:=adX b.data.toList n hn
  have hm':(b.data.toList.length:Int)≤9223372036854775807:=by
   have h1:b.size≤9223372036854775807:=hm
   have h2:b.data.toList.length=b.size:=by simp
   omega
  refine⟨_,g,rfl,hhr,FR.refl _ _ _,?_,by simp[av]⟩
  rw[Int.toNat_natCast,h.1]
  exact .int _ _ ⟨by show (-9223372036854775808:Int)≤_;omega,by show _≤(9223372036854775807:Int);omega⟩
 |⟨[]⟩,hlen,_=>simp at hlen
 |⟨[_]⟩,hlen,_=>simp at hlen
 |⟨_::_::_::_⟩,hlen,_=>simp at hlen
end Go.Proofs.YtkinflmjagfapaaDoor
end
noncomputable section
namespace Go.Proofs.YtkinflmjagfapaaDoor
open Go.AM
set_option autoImplicit false
set_option linter.unusedSimpArgs false
set_option linter.unusedVariables false
theorem aiM(k:Nat)(hk:k≤8)(a:Nat)(ha:a<256):bU .and .u8 (a:Int) ((2^k-1:Nat):Int)=((a%2^k:Nat):Int):=by
 have h2:2^k≤2^8:=Nat.pow_le_pow_right (by omega) hk
 have h1:1≤2^k:=Nat.one_le_two_pow
 rw[uu .u8 rfl a (2^k-1) ha (by show 2^k-1<2^8;omega),Nat.and_two_pow_sub_one_eq_mod]
theorem agL(p:Nat→Bool)(h:(List.range 256).all p=true):∀n,n<256→p n=true:=fun n hn=>List.all_eq_true.1 h n (List.mem_range.2 hn)
def ahn(n:Nat):Bool:=
 let k:=gW [34,92,8,12,10,13,9] (n:Int)
 if 0≤k then decide (k<7)&&decide (gq (UInt8.ofNat n)=[92,([34,92,98,102,110,114,116]:List UInt8).getD k.toNat 0])
 else if n<32 then decide (gq (UInt8.ofNat n)=[92,117,48,48,([48,49,50,51,52,53,54,55,56,57,97,98,99,100,101,102]:List UInt8).getD (n / 16) 0,([48,49,50,51,52,53,54,55,56,57,97,98,99,100,101,102]:List UInt8).getD (n%16) 0])
 else decide (gq (UInt8.ofNat n)=[UInt8.ofNat n])
theorem ah5:(List.range 256).all ahn=true:=by kernel_rfl
theorem aeZ(N:Nat)(rec:(List UInt8×Int×Int×List UInt8)→Option (V×List aq))(s o:List UInt8)(i:Nat)(hi:i<s.length)(hs:s.length≤9223372036854775806)(ho:o.length≤100000000):
  c7 N rec (s,(s.length:Int),(i:Int),o)=rec (s,(s.length:Int),((i+1:Nat):Int),o++gq (s.getD i 0)):=by
 have hb:(s.getD i 0).toNat<256:=UInt8.toNat_lt _
 have ht:=agL ahn ah5 _ hb
 simp only[c7,Int.toNat_natCast]
 obtain⟨c,hc⟩:∃c,s.getD i 0=c:=⟨_,rfl⟩
 simp only[hc] at hb ht ⊢
 have e4:nO .u8 (c.toNat:Int) 4=((c.toNat / 16:Nat):Int):=adH .u8 c.toNat 4 (by decide)
 have e15:bU .and .u8 (c.toNat:Int) 15=((c.toNat%16:Nat):Int):=aiM 4 (by omega) _ hb
 simp only[ahn,UInt8.ofNat_toNat] at ht
 by_cases h1:(0:Int)≤gW [34,92,8,12,10,13,9] (c.toNat:Int)
 ·rw[if_pos h1] at ht
  simp only[Bool.and_eq_true,decide_eq_true_eq] at ht
  obtain⟨ht1,ht2⟩:=ht
  have h7:([34,92,98,102,110,114,116]:List UInt8).length=7:=rfl
  simp(disch:=omega) only[uv,h1,ht2,h7,List.length_append,List.length_cons,List.length_nil,UInt8.ofNat_toNat,List.append_assoc,List.cons_append,List.nil_append]
  rfl
 ·rw[if_neg h1] at ht
  by_cases h2:c.toNat<32
  ·rw[if_pos h2] at ht
   simp only[decide_eq_true_eq] at ht
   have x1:ixl ((c.toNat / 16:Nat):Int) ([48,49,50,51,52,53,54,55,56,57,97,98,99,100,101,102]:List UInt8)=true:=ixt (by simp only[List.length_cons,List.length_nil];omega)
   have x2:ixl ((c.toNat%16:Nat):Int) ([48,49,50,51,52,53,54,55,56,57,97,98,99,100,101,102]:List UInt8)=true:=ixt (by simp only[List.length_cons,List.length_nil];omega)
   simp(disch:=omega) only[uv,ht,x1,x2,e4,e15,List.length_append,List.length_cons,List.length_nil,UInt8.ofNat_toNat,List.append_assoc,List.cons_append,List.nil_append]
   rfl
  ·rw[if_neg h2] at ht
   simp only[decide_eq_true_eq] at ht
   simp(disch:=omega) only[uv,ht,UInt8.ofNat_toNat]
   rfl
theorem aaG(c:UInt8):(gq c).length≤6:=by
 unfold gq
 repeat' split
 all_goals simp
theorem yM(N:Nat)(s:List UInt8)(hs:s.length≤10000)(hN:s.length<N):(lL N s).map (·.1)=some (.str (aZ s)):=by
 have h:(aT N (c7 N) (s,(s.length:Int),(0:Int),[34])).map (·.1)=some (V.str (aZ s)):=by
  have key:=ab4 (B:=c7 N) (fun x:List UInt8×Int×Int×List UInt8=>x.1=s∧x.2.1=(s.length:Int)∧∃i:Nat,x.2.2.1=(i:Int)∧i≤s.length∧x.2.2.2.length≤1+6*i)
   (fun x=>s.length-x.2.2.1.toNat) (fun x=>V.str (x.2.2.2++((s.drop x.2.2.1.toNat).flatMap gq++[34]))) ?_ N (s,(s.length:Int),(0:Int),[34]) ⟨rfl,rfl,0,rfl,by omega,by simp⟩ (by simpa using hN)
  ·rw[key];rfl
  ·rintro rec ⟨x1,x2,x3,o⟩ ⟨h1,h2,i,h3,hi,ho⟩ hrec
   dsimp only at h1 h2 h3 hi ho
   subst h1 h2 h3
   by_cases hl:i<x1.length
   ·rw[aeZ N rec x1 o i hl (by omega) (by omega)]
    have hq:=aaG (x1.getD i 0)
    rw[hrec (x1,(x1.length:Int),((i+1:Nat):Int),o++gq (x1.getD i 0)) ⟨rfl,rfl,i+1,rfl,by omega,by simp only[List.length_append];omega⟩ (by simp;omega)]
    simp only[Int.toNat_natCast]
    rw[List.drop_eq_getElem_cons hl,List.flatMap_cons]
    simp[List.getD,hl]
   ·have e:i=x1.length:=by omega
    subst e
    simp only[c7,Int.toNat_natCast,List.drop_length,List.flatMap_nil,List.nil_append]
    simp(disch:=omega) only[uv,]
    rfl
 simp only[lL,jo]
 simp(disch:=omega) only[uv,List.length_nil,List.nil_append]
 exact h
theorem afZ(a0:List UInt8)(a1:Int):aH Tryd.prog ku [.str a0,.int .u8 a1] (.int .i64 (gW a0 a1)):=
 uH (sD lM) 1000 a0 a1 rfl
theorem af0(s:List UInt8)(hs:s.length≤10000):aH Tryd.prog qi [.str s] (.str (aZ s)):=by
 obtain⟨hp1,h1⟩:=aiE (yM 10001 s hs (by omega))
 exact abd (zS afZ) 10001 s h1
end Go.Proofs.YtkinflmjagfapaaDoor
end
noncomputable section
namespace Go.Proofs.YtkinflmjagfapaaDoor
open Go.AM
set_option autoImplicit false
set_option linter.unusedVariables false
set_option maxRecDepth 100000
abbrev pY:FuncId:=59
abbrev oX:FuncId:=27
abbrev jb:FuncId:=86
abbrev zm:FuncId:=37
abbrev xG:FuncId:=74
abbrev vw:FuncId:=16
abbrev xH:FuncId:=15
abbrev vx:FuncId:=57
abbrev xI:FuncId:=58
abbrev zn:FuncId:=28
abbrev xJ:FuncId:=26
abbrev tf:FuncId:=56
abbrev me:FuncId:=5
abbrev vy:FuncId:=9
abbrev vz:FuncId:=17
abbrev og:FuncId:=52
abbrev wu:FuncId:=53
abbrev pr:FuncId:=55
abbrev yN:=Bool
noncomputable def qw(a0:Bs)(a1:Int)(r:yN):Prop:=aH Tryd.prog me [.sl .u8 (.may false) a0,.int .u8 a1] (.bool r)∧jK a0 a1 r
abbrev acq:=Bool
noncomputable def ka(r:acq):Prop:=aH Tryd.prog vy [] (.bool r)∧nk  r
noncomputable def acr:ct Tryd.prog:=.mk 9 fun us=>match us with
 | []=>let r:=pick ka;some (can ka,.bool r)
 |_=>none
abbrev adY:=Bs
noncomputable def dd(a0_0:List am)(r:adY):Prop:=aH Tryd.prog xH [.agg [.sl .atype (.may false) a0_0]] (.str r)∧rV a0_0 r
noncomputable def rf:ct Tryd.prog:=.mk 15 fun us=>match us with
 | [.agg [.sl .atype (.may _) a0_0]]=>let r:=pick (dd a0_0);some (can (dd a0_0),.str r)
 |_=>none
abbrev acs:=Int
noncomputable def gm(a0_0:List am)(r:acs):Prop:=aH Tryd.prog vw [.agg [.sl .atype (.may false) a0_0]] (.int .u64 r)∧rc a0_0 r
noncomputable def vA:ct Tryd.prog:=.mk 16 fun us=>match us with
 | [.agg [.sl .atype (.may _) a0_0]]=>let r:=pick (gm a0_0);some (can (gm a0_0),.int .u64 r)
 |_=>none
abbrev acu:=Int
noncomputable def kb(a0:Bs)(r:acu):Prop:=aH Tryd.prog vz [.str a0] (.int .u64 r)∧nj a0 r
noncomputable def acv:ct Tryd.prog:=.mk 17 fun us=>match us with
 | [.str a0]=>let r:=pick (kb a0);some (can (kb a0),.int .u64 r)
 |_=>none
abbrev adZ:=Bs
noncomputable def dP(a0:ak)(r:adZ):Prop:=aH Tryd.prog xJ [.agg (enc .jnode a0)] (.str r)∧c6 a0 r
noncomputable def xK:ct Tryd.prog:=.mk 26 fun us=>match us with
 | [.agg [.int .i64 a0_0,.int .i64 a0_1,.str a0_2,.sl .jnode (.may _) a0_3,.sl .str (.may _) a0_4]]=>let r:=pick (dP (⟨a0_0,a0_1,a0_2,a0_3,a0_4⟩));some (can (dP (⟨a0_0,a0_1,a0_2,a0_3,a0_4⟩)),.str r)
 |_=>none
abbrev wv:=ak×List (Int×Bool)×List am
noncomputable def aw(o0_0:List (Int×Bool))(o1_0:List am)(a1:Int)(r:wv):Prop:=aX Tryd.prog oX [.ptr 1 0,.int .i64 a1] [[.mp .ib o0_0],[.sl .atype (.may false) o1_0,.mr 0]] (.agg (enc .jnode r.1)) [[.mp .ib r.2.1],[.sl .atype (.may false) r.2.2,.mr 0]]∧dc o0_0 o1_0 a1 r
abbrev ae0:=Int
noncomputable def my(a0:Bs)(r:ae0):Prop:=aH Tryd.prog zn [.str a0] (.int .u64 r)∧po a0 r
noncomputable def ae1:ct Tryd.prog:=.mk 28 fun us=>match us with
 | [.str a0]=>let r:=pick (my a0);some (can (my a0),.int .u64 r)
 |_=>none
abbrev ae2:=Bs
noncomputable def gS(a0:Int)(r:ae2):Prop:=aH Tryd.prog zm [.int .i64 a0] (.str r)∧jm a0 r
noncomputable def zo:ct Tryd.prog:=.mk 37 fun us=>match us with
 | [.int .i64 a0]=>let r:=pick (gS a0);some (can (gS a0),.str r)
 |_=>none
abbrev uI:=Bs
noncomputable def dQ(a0:Bool)(r:uI):Prop:=aH Tryd.prog og [.bool a0] (.str r)∧lX a0 r
noncomputable def uJ:ct Tryd.prog:=.mk 52 fun us=>match us with
 | [.bool a0]=>let r:=pick (dQ a0);some (can (dQ a0),.str r)
 |_=>none
abbrev ww:=Bs
noncomputable def ii(a0 a1:Int)(r:ww):Prop:=aH Tryd.prog wu [.int .i64 a0,.int .i64 a1] (.str r)∧ss a0 a1 r
noncomputable def wz:ct Tryd.prog:=.mk 53 fun us=>match us with
 | [.int .i64 a0,.int .i64 a1]=>let r:=pick (ii a0 a1);some (can (ii a0 a1),.str r)
 |_=>none
abbrev acw:=Bs
noncomputable def kc(a0:Bs)(r:acw):Prop:=aH Tryd.prog qi [.str a0] (.str r)∧q9 a0 r
noncomputable def acx:ct Tryd.prog:=.mk 54 fun us=>match us with
 | [.str a0]=>let r:=pick (kc a0);some (can (kc a0),.str r)
 |_=>none
abbrev abe:=Bs
noncomputable def jp(a0:Bss)(a1:Bs)(r:abe):Prop:=aH Tryd.prog pr [.sl .str (.may false) a0,.str a1] (.str r)∧yG a0 a1 r
noncomputable def abf:ct Tryd.prog:=.mk 55 fun us=>match us with
 | [.sl .str (.may _) a0,.str a1]=>let r:=pick (jp a0 a1);some (can (jp a0 a1),.str r)
 |_=>none
abbrev abg:=Bss
noncomputable def gT(a0:List ak)(r:abg):Prop:=aH Tryd.prog tf [.sl .jnode (.may false) a0] (.ul .str r)∧qp a0 r
noncomputable def abh:ct Tryd.prog:=.mk 56 fun us=>match us with
 | [.sl .jnode (.may _) a0]=>let r:=pick (gT a0);some (can (gT a0),.ul .str r)
 |_=>none
abbrev acy:=Int×Int×Bs×Bool×List ak×Bool×Bss
noncomputable def cP(a0f:Bool)(a0:Bss)(a1f:Bool)(a1:List ak)(r:acy):Prop:=aH Tryd.prog vx [.sl .str (.may a0f) a0,.sl .jnode (.may a1f) a1] (.agg [.int .i64 r.1,.int .i64 r.2.1,.str r.2.2.1,.sl .jnode (.may r.2.2.2.1) r.2.2.2.2.1,.sl .str (.may r.2.2.2.2.2.1) r.2.2.2.2.2.2])∧ra a0f a0 a1f a1 r
noncomputable def vB:ct Tryd.prog:=.mk 57 fun us=>match us with
 | [.sl .str (.may a0f) a0,.sl .jnode (.may a1f) a1]=>let r:=pick (cP a0f a0 a1f a1);some (can (cP a0f a0 a1f a1),.agg [.int .i64 r.1,.int .i64 r.2.1,.str r.2.2.1,.sl .jnode (.may r.2.2.2.1) r.2.2.2.2.1,.sl .str (.may r.2.2.2.2.2.1) r.2.2.2.2.2.2])
 |_=>none
abbrev ad0:=ak
noncomputable def bi(a0:Bs)(r:ad0):Prop:=aH Tryd.prog xI [.str a0] (.agg (enc .jnode r))∧dK a0 r
noncomputable def xL:ct Tryd.prog:=.mk 58 fun us=>match us with
 | [.str a0]=>let r:=pick (bi a0);some (can (bi a0),.agg (enc .jnode r))
 |_=>none
abbrev xM:=ak×List (Int×Bool)×List am
noncomputable def aO(o0_0:List (Int×Bool))(o1_0:List am)(a1:am)(r:xM):Prop:=aX Tryd.prog pY [.ptr 1 0,.agg (enc .atype a1)] [[.mp .ib o0_0],[.sl .atype (.may false) o1_0,.mr 0]] (.agg (enc .jnode r.1)) [[.mp .ib r.2.1],[.sl .atype (.may false) r.2.2,.mr 0]]∧ny o0_0 o1_0 a1 r
abbrev ad1:=Bss
noncomputable def lp(r:ad1):Prop:=aH Tryd.prog xG [] (.sl .str (.may false) r)∧rU  r
noncomputable def ad2:ct Tryd.prog:=.mk 74 fun us=>match us with
 | []=>let r:=pick lp;some (can lp,.sl .str (.may false) r)
 |_=>none
abbrev oL:=Bs
noncomputable def cF(a0:Bool)(r:oL):Prop:=aH Tryd.prog jb [.bool a0] (.str r)∧gX a0 r
noncomputable def oM:ct Tryd.prog:=.mk 86 fun us=>match us with
 | [.bool a0]=>let r:=pick (cF a0);some (can (cF a0),.str r)
 |_=>none
end Go.Proofs.YtkinflmjagfapaaDoor
end
noncomputable section
namespace Go.AM
set_option autoImplicit false
def reJ(x:ak):ak:=.mk x.kind x.n x.s x.l x.names
instance:Inhabited nN:=⟨.mk 0 [] [] [] 0⟩
instance:Inhabited ak:=⟨.mk 0 0 [] [] []⟩
instance:Inhabited aN:=⟨⟨[],[],0,false,.mk 0 0 [] [] []⟩⟩
instance:Inhabited am:=⟨⟨0,[],[],0,[],false,[],0,[],[]⟩⟩
theorem mz:∀x,reJ x=x
 | .mk _ _ _ _ _=>rfl
end Go.AM
end
noncomputable section
namespace Go.Proofs.YtkinflmjagfapaaDoor
open Go.AM
set_option autoImplicit false
set_option linter.unusedVariables false
set_option maxRecDepth 100000
noncomputable def rh:ay:=tab (P:=Tryd.prog) [] [] [55] [uJ,wz,acx,abf,abh]
def rX:IR:=Rs [Bi 47 .lss 46 45] (Sq (Cn 47 .skip (.exit 1)) (Sq (.block 2 (Rs [Mv 48 46,Mv 4 48] (.gh (.opn (.slot 3)) (.ghp (.cls (.slot 3)) (.reg [Mv 49 3,Mv 50 4,Fa 51 4 1,Lq 52 51,Mv 53 4,Ix 54 .str 52 53,Lq 55 54,Ca 56 54 [55],Pp (.bin 57 .add 56 (kS [58])),Mv 58 3,Mv 59 4,Pp (.ixw 60 .str 58 59),Fo [0] [] (.ldw 61 1 false 60),Bi 62 .add 57 61,Pp (.ixw 63 .str 49 50),Fo [] [0] (.stw none 1 63 62)] [[],[],[],[2],[],[2,3,4],rg 2 5,rg 2 6,rg 2 7,[],[],[9,10],[9,10,11],rg 2 12,rg 0 13,rg 0 14]))))) (Rg [Bc 64 .add 46 1,Mv 46 64])))
def ri:IR:=Sq (.gh (.opn (.slot 3)) (.ghp (.cls (.slot 3)) (Rg [Mv 65 3,Ca 66 55 [65,kS [44]],Pp (.bin 67 .add (kS [123]) 66),Pp (.bin 68 .add 67 (kS [125])),Mv 2 68]))) .ret
def rj:IR:=Rs [Ms 2 [110,117,108,108]] .ret
def acz:IR:=Rs [Bx 1 0,Ms 2 []] (Sq (Rs [Fa 5 0 1,Lq 6 5] (.block 0 (Rs [Bc 8 .eql 6 2,Mv 7 8] (Cn 7 (Rs [Fa 9 1 1,Lq 10 9,Bc 11 .neq 10 0,Ca 12 52 [11],Mv 2 12] .ret) (Rs [Bc 14 .eql 6 3,Mv 13 14] (Cn 13 (Rs [Fa 15 1 1,Lq 16 15,Ca 17 53 [16,kI 10],Mv 2 17] .ret) (Rs [Bc 19 .eql 6 4,Mv 18 19] (Cn 18 (Rs [Fa 20 2 1,Lq 21 20,Ca 22 54 [21],Mv 2 22] .ret) (Rs [Bc 24 .eql 6 5,Mv 23 24] (Cn 23 (Rs [Fa 25 3 1,Lq 26 25,Pp (.callz 27 56 [.t 26]),Ca 28 55 [27,kS [44]],Pp (.bin 29 .add (kS [91]) 28),Pp (.bin 30 .add 29 (kS [93])),Mv 2 30] .ret) (Rs [Bc 32 .eql 6 6,Mv 31 32] (Cn 31 (Rs [Fa 33 3 1,Lq 34 33,Fa 35 3 1,Lq 36 35,Ll 37 36,Fa 38 4 1,Lq 39 38,Ll 40 39,Pp (.mx 41 true 37 40),Pp (.subl 42 .jnode 34 none (some 41)),Ca 43 56 [42],Pp (.mov 3 (.tk 43))] (Sq (Rs [Mv 44 3,Pp (.lnw 45 44),Mi 46 0] (.block 1 (.loop [1,3,45,46,1000000] 0 rX))) ri)) .skip)))))))))))) rj)
def vC:List RV:=[.t 2]
theorem acA:FnC Tryd.prog rh [55,2000055] 0 xJ Tryd.f26 acz vC:=fnC Tryd.func26
def abi(R:IR→(Ex→St→Ro)→St→Ro)(again0:St→Ro):Ex→St→Ro:=(bO again0 [1,3,45,46,1000000] 0 (aJ 1 (kseq (R ri) (aJ 0 (kseq (R rj) (fin vC))))))
abbrev lN:Type:=(ak×Bss×Int×Int)
def kM(x:lN):St:={env:=(.undef::.ea (enc .jnode x.1)::.undef::.ul .str x.2.1::(U 41 (.int .i64 x.2.2.1::.int .i64 x.2.2.2::(U 22 [])))),hp:=[]}
def pu(N:Nat):(St→Ro)→St→Ro:=fun again0 s=>run rh N rX (abi (run rh N) again0) s
def lO(N:Nat)(again0:lN→Ro)(x:lN):Ro:=
 let v1:ak:=x.1
 let v3:Bss:=x.2.1
 let v45:Int:=x.2.2.1
 let v46:Int:=x.2.2.2
 cond (decide (v46<v45)) (
  chk (decide (0<List.length v3)) (
   chk (ixl v46 v1.names) (
    let x8:=List.getD v1.names (Int.toNat v46) (az .str)
    ao (kc x8) (fun(r7:Bs)=>
     chk (decide (List.length r7+List.length ([58]:Bs)≤9223372036854775807)) (
      let x9:=(r7++([58]:Bs))
      chk ((decide (0≤v46)&&decide (v46<↑(List.length v3)))) (
       chk (decide ((Int.toNat v46)<List.length v3)) (
        let x10:=List.getD v3 (Int.toNat v46) (az .str)
        chk (decide (List.length x9+List.length x10≤9223372036854775807)) (
         chk ((decide (0≤v46)&&decide (v46<↑(List.length v3)))) (
          chk (decide ((Int.toNat v46)<List.length v3)) (
           let x11:=(List.set v3 (Int.toNat v46) (x9++x10))
           chk (Nat.beq (List.length v3) (List.length x11)) (
            let x12:=(IntKind.wrap .i64 (v46+1))
            again0 (v1,x11,v45,x12)))))))))))) (
  chk (decide (0<List.length v3)) (
   uq (jp v3 ([44]:Bs)) ((Nat.beq (List.length v3) (List.length v3)&&true)) (fun(r8:Bs)=>
    chk (decide (List.length ([123]:Bs)+List.length r8≤9223372036854775807)) (
     let x13:=(([123]:Bs)++r8)
     chk (decide (List.length x13+List.length ([125]:Bs)≤9223372036854775807)) (
      let x14:=(x13++([125]:Bs))
      chk (Nat.beq (List.length v3) (List.length v3)) (
       some (.str x14,[none,none])))))))
theorem aaH(N:Nat):LB (pu N) kM (lO N):=fun _ _=>by kernel_rfl
def ke(N:Nat)(p0:ak)(q0:lN→Ro):Ro:=
 cond (p0.kind==2) (
  ao (dQ (!(p0.n==0))) (fun(r1:Bs)=>
   some (.str r1,[]))) (
  cond (p0.kind==3) (
   ao (ii p0.n 10) (fun(r2:Bs)=>
    some (.str r2,[]))) (
   cond (p0.kind==4) (
    ao (kc p0.s) (fun(r3:Bs)=>
     some (.str r3,[]))) (
    cond (p0.kind==5) (
     ao (gT p0.l) (fun(r4:Bss)=>
      ao (jp r4 ([44]:Bs)) (fun(r5:Bs)=>
       chk (decide (List.length ([91]:Bs)+List.length r5≤9223372036854775807)) (
        let x1:=(([91]:Bs)++r5)
        chk (decide (List.length x1+List.length ([93]:Bs)≤9223372036854775807)) (
         let x2:=(x1++([93]:Bs))
         some (.str x2,[])))))) (
     cond (p0.kind==6) (
      let x3:=(↑(List.length p0.l):Int)
      let x4:=(↑(List.length p0.names):Int)
      let x5:=(if x4<x3 then x4 else x3)
      chk ((decide (0≤x5)&&decide (x5≤(↑(List.length p0.l):Int)))) (
       let x6:=(List.drop 0 (List.take (Int.toNat x5) p0.l))
       ao (gT x6) (fun(r6:Bss)=>
        let x7:=(↑(List.length r6):Int)
        q0 (p0,r6,x7,0)))) (
      some (.str ([110,117,108,108]:Bs),[]))))))
def vD(N:Nat)(p0:ak):Ro:=ke N p0 (fun z=>aT N (lO N) z)
theorem abj(N:Nat)(p0:ak)(h:Tot (vD N p0) (fun z=>∃(y0:Bs)(rest:List aq),z.1.dimR=.str y0∧z.2=rest∧c6 p0 (y0))):∃r,dP p0 r:=acA.finP (N:=N) ((cn _ (by kernel_rfl) rfl (fun C=>ke N p0 (fun z=>C 1000000 (kM z))) (fun C=>by kernel_rfl)).trans (Eq.trans (b:=ke N p0 (fun z=>bh N (pu N) (kM z))) (by kernel_rfl) (congrArg (ke N p0) (funext fun z=>bj (kM) (pu N) (lO N) (aaH N) N z)))) h fun _ ⟨y0,_,e,_,q⟩=>⟨(y0),e,q⟩
noncomputable def pv:ay:=tab (P:=Tryd.prog) [] [] [] [xK]
def qA:IR:=Rs [Bi 9 .lss 8 7] (Sq (Cn 9 .skip (.exit 0)) (Sq (.block 1 (Rs [Ix 10 .jnode 6 8,Ld 11 5 true 10,Pp (.alr 5 5),Fz 5 5 11] (Rg [Pp (.mov 12 (.tk 3)),Ld 13 5 true 5,Ca 14 26 [13],Pp (.bsl 15 .str [14] true),Pp (.apu 16 .str (.tk 12) 15),Pp (.mov 3 (.tk 16))]))) (Rg [Bc 17 .add 8 1,Mv 8 17])))
def qB:IR:=Rs [Pp (.mov 18 (.tk 3)),Pp (.mov 2 (.tk 18))] .ret
def aaI:IR:=Rs [Pp (.mov 2 (.c (.ul .str ([]:Bss))))] (Rs [Pp (.mov 3 (.c (.ul .str ([]:Bss))))] (Sq (Rs [Mv 6 0,Ll 7 6,Mi 8 0] (.block 0 (.loop [3,6,7,8,1000000] 0 qA))) qB))
def rY:List RV:=[.t 2]
theorem aaJ:FnC Tryd.prog pv [] 0 tf Tryd.f56 aaI rY:=fnC Tryd.func56
def zV(R:IR→(Ex→St→Ro)→St→Ro)(again0:St→Ro):Ex→St→Ro:=(bO again0 [3,6,7,8,1000000] 0 (aJ 0 (kseq (R qB) (fin rY))))
abbrev jN:Type:=(Bss×List ak×Int×Int)
def jf(x:jN):St:={env:=(U 3 (.ul .str x.1::.undef::.undef::.sl .jnode (.may false) x.2.1::.int .i64 x.2.2.1::.int .i64 x.2.2.2::(U 10 []))),hp:=[]}
def nn(N:Nat):(St→Ro)→St→Ro:=fun again0 s=>run pv N qA (zV (run pv N) again0) s
def jO(N:Nat)(again0:jN→Ro)(x:jN):Ro:=
 let v3:Bss:=x.1
 let v6:List ak:=x.2.1
 let v7:Int:=x.2.2.1
 let v8:Int:=x.2.2.2
 cond (decide (v8<v7)) (
  chk (ixl v8 v6) (
   let x2:=(List.getD v6 (Int.toNat v8) (az .jnode))
   ao (dP ⟨x2.kind,x2.n,x2.s,x2.l,x2.names⟩) (fun(r1:Bs)=>
    chk (decide ((List.length v3+List.length ([r1]:Bss))*16≤140737488355328)) (
     let x3:=(v3++([r1]:Bss))
     let x4:=(IntKind.wrap .i64 (v8+1))
     again0 (x3,v6,v7,x4))))) (
  some (.ul .str v3,[]))
theorem yO(N:Nat):LB (nn N) jf (jO N):=fun _ _=>by kernel_rfl
def iK(N:Nat)(p0:List ak)(q0:jN→Ro):Ro:=
 let x1:=(↑(List.length p0):Int)
 q0 (([]:Bss),p0,x1,0)
def rZ(N:Nat)(p0:List ak):Ro:=iK N p0 (fun z=>aT N (jO N) z)
theorem zW(N:Nat)(p0:List ak)(h:Tot (rZ N p0) (fun z=>∃(y0:Bss)(rest:List aq),z.1.dimR=.ul .str y0∧z.2=rest∧qp p0 (y0))):∃r,gT p0 r:=aaJ.finP (N:=N) ((cn _ (by kernel_rfl) rfl (fun C=>iK N p0 (fun z=>C 1000000 (jf z))) (fun C=>by kernel_rfl)).trans (Eq.trans (b:=iK N p0 (fun z=>bh N (nn N) (jf z))) (by kernel_rfl) (congrArg (iK N p0) (funext fun z=>bj (jf) (nn N) (jO N) (yO N) N z)))) h fun _ ⟨y0,_,e,_,q⟩=>⟨(y0),e,q⟩
end Go.Proofs.YtkinflmjagfapaaDoor
end
noncomputable section
namespace Go.Proofs.YtkinflmjagfapaaDoor
open Go.AM
set_option autoImplicit false
set_option linter.unusedVariables false
set_option maxRecDepth 100000
noncomputable def ad3:ay:=tab (P:=Tryd.prog) [] [] [] []
def acB:IR:=Rs [Pp (.mov 0 (.c (nl .str)))] (Rs [Pp (.bsl 1 .str [kS [],kS [110,117,108,108],kS [98,111,111,108,101,97,110],kS [105,110,116],kS [108,111,110,103],kS [102,108,111,97,116],kS [100,111,117,98,108,101],kS [98,121,116,101,115],kS [115,116,114,105,110,103],kS [114,101,99,111,114,100],kS [101,110,117,109],kS [102,105,120,101,100],kS [97,114,114,97,121],kS [109,97,112],kS [117,110,105,111,110]] false),Pp (.mov 0 (.tk 1))] .ret)
def acC:List RV:=[.t 0]
theorem acD:FnC Tryd.prog ad3 [] 0 xG Tryd.f74 acB acC:=fnC Tryd.func74
def vE(N:Nat):Ro:=
 some (.sl .str .own ([([]:Bs),([110,117,108,108]:Bs),([98,111,111,108,101,97,110]:Bs),([105,110,116]:Bs),([108,111,110,103]:Bs),([102,108,111,97,116]:Bs),([100,111,117,98,108,101]:Bs),([98,121,116,101,115]:Bs),([115,116,114,105,110,103]:Bs),([114,101,99,111,114,100]:Bs),([101,110,117,109]:Bs),([102,105,120,101,100]:Bs),([97,114,114,97,121]:Bs),([109,97,112]:Bs),([117,110,105,111,110]:Bs)]:Bss),[])
def vF(N:Nat):Ro:=vE N
theorem abk(N:Nat)(h:Tot (vF N ) (fun z=>∃(y0:Bss)(rest:List aq),z.1.dimR=.sl .str (.may false) y0∧z.2=rest∧rU  (y0))):∃r,lp  r:=acD.finP (N:=N) (by kernel_rfl) h fun _ ⟨y0,_,e,_,q⟩=>⟨(y0),e,q⟩
noncomputable def ae3:ay:=tab (P:=Tryd.prog) [] [] [] [ad2]
def ad4:IR:=Rs [Ms 2 []] (Sq (Rs [Mv 3 0,Bc 4 .lss 3 1,Mv 5 4,Gf 5 (.mov 6 0),Gf 5 (.bin 7 .gtr 6 (kI 14)),Po 8 5 7] (Cn 8 (Rs [Ms 2 []] .ret) .skip)) (Rs [Ca 9 74 [],Mv 10 0,Ix 11 .str 9 10,Lq 12 11,Mv 2 12] .ret))
def ad5:List RV:=[.t 2]
theorem ad6:FnC Tryd.prog ae3 [] 0 zm Tryd.f37 ad4 ad5:=fnC Tryd.func37
def xN(N:Nat)(p0:Int):Ro:=
 cond (decide (p0<1)) (
  some (.str ([]:Bs),[])) (
  cond (decide (14<p0)) (
   some (.str ([]:Bs),[])) (
   ao (lp) (fun(r1:Bss)=>
    chk (ixl p0 r1) (
     let x1:=List.getD r1 (Int.toNat p0) (az .str)
     some (.str x1,[])))))
def xO(N:Nat)(p0:Int):Ro:=xN N p0
theorem acE(N:Nat)(p0:Int)(h:Tot (xO N p0) (fun z=>∃(y0:Bs)(rest:List aq),z.1.dimR=.str y0∧z.2=rest∧jm p0 (y0))):∃r,gS p0 r:=ad6.finP (N:=N) (by kernel_rfl) h fun _ ⟨y0,_,e,_,q⟩=>⟨(y0),e,q⟩
noncomputable def ad7:ay:=tab (P:=Tryd.prog) [] [] [] []
def acF:IR:=Rs [Pp (.new 2 [vI 0,vI 0,vS,nl .jnode,nl .str])] (Rs [Mv 3 0,Pp (.bld 4 [vI 0,vI 0,vS,fu .jnode true,fu .str true] [(0,1,kI 4),(2,1,3)]),Sv 5 2 4] .ret)
def acG:List RV:=[.cell 2 5 true]
theorem acH:FnC Tryd.prog ad7 [] 0 xI Tryd.f58 acF acG:=fnC Tryd.func58
def vG(N:Nat)(p0:Bs):Ro:=
 some (.agg [.int .i64 4,.int .i64 0,.str p0,.sl .jnode (.may true) ([]:List ak),.sl .str (.may true) ([]:Bss)],[some [.int .i64 4,.int .i64 0,.str p0,.sl .jnode (.may true) ([]:List ak),.sl .str (.may true) ([]:Bss)]])
def vH(N:Nat)(p0:Bs):Ro:=vG N p0
theorem abl(N:Nat)(p0:Bs)(h:Tot (vH N p0) (fun z=>∃(y0:ak)(rest:List aq),z.1.dimR=.agg (enc .jnode y0)∧z.2=rest∧dK p0 (y0))):∃r,bi p0 r:=acH.finP (N:=N) (by kernel_rfl) h fun _ ⟨y0,_,e,_,q⟩=>⟨(y0),e,q⟩
noncomputable def vJ:ay:=tab (P:=Tryd.prog) [] [] [] []
def tg:IR:=Rs [Pp (.new 4 [vI 0,vI 0,vS,nl .jnode,nl .str])] (Rs [Mv 5 0,Mv 6 1,Pp (.bld 7 [vI 0,vI 0,vS,fu .jnode true,fu .str true] [(0,1,kI 6),(4,1,5),(3,1,6)]),Sv 5 4 7] .ret)
def th:List RV:=[.cell 4 5 true]
theorem abm:FnC Tryd.prog vJ [] 0 vx Tryd.f57 tg th:=fnC Tryd.func57
def ti(N:Nat)(p0f:Bool)(p0:Bss)(p1f:Bool)(p1:List ak):Ro:=
 some (.agg [.int .i64 6,.int .i64 0,.str ([]:Bs),.sl .jnode (.may p1f) p1,.sl .str (.may p0f) p0],[some [.int .i64 6,.int .i64 0,.str ([]:Bs),.sl .jnode (.may p1f) p1,.sl .str (.may p0f) p0]])
def pw(N:Nat)(p0f:Bool)(p0:Bss)(p1f:Bool)(p1:List ak):Ro:=ti N p0f p0 p1f p1
theorem aaK(N:Nat)(p0f:Bool)(p0:Bss)(p1f:Bool)(p1:List ak):callF vJ N 8 th tg [.sl .str (.may p0f) p0,.sl .jnode (.may p1f) p1] []=pw N p0f p0 p1f p1:=by kernel_rfl
theorem aaL(N:Nat)(p0f:Bool)(p0:Bss)(p1f:Bool)(p1:List ak)(h:Tot (pw N p0f p0 p1f p1) (fun z=>∃(y0:Int)(y1:Int)(y2:Bs)(y3:Bool)(y4:List ak)(y5:Bool)(y6:Bss)(rest:List aq),z.1=.agg [.int .i64 y0,.int .i64 y1,.str y2,.sl .jnode (.may y3) y4,.sl .str (.may y5) y6]∧z.2=rest∧ra p0f p0 p1f p1 (y0,y1,y2,y3,y4,y5,y6))):∃r,cP p0f p0 p1f p1 r:=by
 obtain⟨⟨v,hp⟩,hz,y0,y1,y2,y3,y4,y5,y6,rest,e1,e2,hq⟩:=h
 simp only at e1 e2
 subst e2
 subst e1
 exact⟨(y0,y1,y2,y3,y4,y5,y6),abm.pure (aaK N p0f p0 p1f p1) hz,hq⟩
noncomputable def uK:ay:=tab (P:=Tryd.prog) [] [] [] [oM]
def tj:IR:=Rs [Ms 2 []] (Rs [Mv 3 0,Ca 4 86 [3],Mv 2 4] .ret)
def tl:List RV:=[.t 2]
theorem tm:FnC Tryd.prog uK [] 0 og Tryd.f52 tj tl:=fnC Tryd.func52
def nB(N:Nat)(p0:Bool):Ro:=
 ao (cF p0) (fun(r1:Bs)=>
  some (.str r1,[]))
def nC(N:Nat)(p0:Bool):Ro:=nB N p0
theorem sF(N:Nat)(p0:Bool)(h:Tot (nC N p0) (fun z=>∃(y0:Bs)(rest:List aq),z.1.dimR=.str y0∧z.2=rest∧lX p0 (y0))):∃r,dQ p0 r:=tm.finP (N:=N) (by kernel_rfl) h fun _ ⟨y0,_,e,_,q⟩=>⟨(y0),e,q⟩
noncomputable def oN:ay:=tab (P:=Tryd.prog) [] [] [] []
def oh:IR:=Rs [Ms 2 []] (Sq (Rs [Mv 3 0] (Cn 3 (Rs [Ms 2 [116,114,117,101]] .ret) .skip)) (Rs [Ms 2 [102,97,108,115,101]] .ret))
def oi:List RV:=[.t 2]
theorem oj:FnC Tryd.prog oN [] 0 jb Tryd.f86 oh oi:=fnC Tryd.func86
def iL(N:Nat)(p0:Bool):Ro:=
 cond p0 (
  some (.str ([116,114,117,101]:Bs),[])) (
  some (.str ([102,97,108,115,101]:Bs),[]))
def iM(N:Nat)(p0:Bool):Ro:=iL N p0
theorem nM(N:Nat)(p0:Bool)(h:Tot (iM N p0) (fun z=>∃(y0:Bs)(rest:List aq),z.1.dimR=.str y0∧z.2=rest∧gX p0 (y0))):∃r,cF p0 r:=oj.finP (N:=N) (by kernel_rfl) h fun _ ⟨y0,_,e,_,q⟩=>⟨(y0),e,q⟩
end Go.Proofs.YtkinflmjagfapaaDoor
end
noncomputable section
namespace Go.Proofs.YtkinflmjagfapaaDoor
open Go.AM
set_option autoImplicit false
set_option linter.unusedVariables false
set_option maxRecDepth 100000
def jP:mj:=fun f us css=>match f,us,css with
 |27,[.ptr 1 0,.int .i64 a1],[[.mp .ib o0_0],[.sl .atype (.may false) o1_0,.mr 0]]=>some (can (aw o0_0 o1_0 a1),.agg [.int .i64 (((pick (aw o0_0 o1_0 a1)).1).kind),.int .i64 (((pick (aw o0_0 o1_0 a1)).1).n),.str (((pick (aw o0_0 o1_0 a1)).1).s),.sl .jnode (.may false) (((pick (aw o0_0 o1_0 a1)).1).l),.sl .str (.may false) (((pick (aw o0_0 o1_0 a1)).1).names)],[[.mp .ib ((pick (aw o0_0 o1_0 a1)).2.1)],[.sl .atype (.may false) ((pick (aw o0_0 o1_0 a1)).2.2),.mr 0]])
 |59,[.ptr 1 0,.agg [.int .i64 a1_0,.str a1_1,.sl .str (.may _) a1_2,.int .i64 a1_3,.sl .str (.may _) a1_4,.bool a1_5,.str a1_6,.int .i64 a1_7,.sl .afield (.may _) a1_8,.sl (.num .i64) (.may _) a1_9]],[[.mp .ib o0_0],[.sl .atype (.may false) o1_0,.mr 0]]=>some (can (aO o0_0 o1_0 (⟨a1_0,a1_1,a1_2,a1_3,a1_4,a1_5,a1_6,a1_7,a1_8,a1_9⟩)),.agg [.int .i64 (((pick (aO o0_0 o1_0 (⟨a1_0,a1_1,a1_2,a1_3,a1_4,a1_5,a1_6,a1_7,a1_8,a1_9⟩))).1).kind),.int .i64 (((pick (aO o0_0 o1_0 (⟨a1_0,a1_1,a1_2,a1_3,a1_4,a1_5,a1_6,a1_7,a1_8,a1_9⟩))).1).n),.str (((pick (aO o0_0 o1_0 (⟨a1_0,a1_1,a1_2,a1_3,a1_4,a1_5,a1_6,a1_7,a1_8,a1_9⟩))).1).s),.sl .jnode (.may false) (((pick (aO o0_0 o1_0 (⟨a1_0,a1_1,a1_2,a1_3,a1_4,a1_5,a1_6,a1_7,a1_8,a1_9⟩))).1).l),.sl .str (.may false) (((pick (aO o0_0 o1_0 (⟨a1_0,a1_1,a1_2,a1_3,a1_4,a1_5,a1_6,a1_7,a1_8,a1_9⟩))).1).names)],[[.mp .ib ((pick (aO o0_0 o1_0 (⟨a1_0,a1_1,a1_2,a1_3,a1_4,a1_5,a1_6,a1_7,a1_8,a1_9⟩))).2.1)],[.sl .atype (.may false) ((pick (aO o0_0 o1_0 (⟨a1_0,a1_1,a1_2,a1_3,a1_4,a1_5,a1_6,a1_7,a1_8,a1_9⟩))).2.2),.mr 0]])
 |_,_,_=>none
noncomputable def eI:ay:=(kK 2 jP (mQ (sq (P:=Tryd.prog) [zo,vB,xL])))
theorem rC:bX eI [27,59,2000027,2000059]:=(uF (by
 intro f us css hf
 unfold jP
 split<;>first|rfl|(simp at hf)) (lD _ _))
theorem sG:bL Tryd.prog eI:=by
 refine zQ ?_ ?_
 ·intro f us css v css' h
  unfold jP at h
  split at h
  ·simp only[Option.some.injEq,Prod.mk.injEq] at h
   obtain⟨hc,rfl,rfl⟩:=h
   exact((pO hc).1).dim rfl
  ·simp only[Option.some.injEq,Prod.mk.injEq] at h
   obtain⟨hc,rfl,rfl⟩:=h
   exact((pO hc).1).dim rfl
  ·simp at h
 exact uA _
def mA:IR:=Rs [Bi 46 .lss 45 44] (Sq (Cn 46 .skip (.exit 1)) (Sq (.block 2 (Rs [Ix 47 (.num .i64) 43 45,Lq 48 47,Mv 8 48] (.reg [Fa 49 3 6,Fo [] [3] (.ld 50 1 false true 49),Mv 51 0,Mv 52 8,Fo [] [0,1] (.call 53 27 [51,52]),Pp (.bsl 54 .jnode [53] true),Pp (.app 55 .jnode (.tk 50) 54),Fa 56 3 6,Fo [] [3] (.st none 1 56 (.tk 55))] [[],[0],[],[],[2,3],[2,3,4],rg 0 5,rg 0 6,rg 0 7]))) (Rg [Bc 57 .add 45 1,Mv 45 57])))
def mB:IR:=Rs [Pp (.ld 58 5 true false 6),Sv 5 4 58] .ret
def lY:IR:=Rs [Fa 80 0 5,Lq 81 80,Ca 82 37 [81],Ca 83 58 [82],Sv 5 4 83] .ret
def uL:IR:=Rs [Pp (.new 4 [vI 0,vI 0,vS,nl .jnode,nl .str])] (Rs [Mv 9 0,Nk 10 9,Fa 11 0 10,Fa 12 0 11,Lo 13 12,Mv 14 1,Ix 15 .atype 13 14,Ld 16 10 true 15,Pp (.alr 5 10),Fz 5 10 16] (Sq (Rs [Fa 17 0 5,Lq 18 17] (.block 0 (Rs [Bc 20 .eql 18 12,Mv 19 20] (Cn 19 (Sq (.reg [Pp (.bsl 21 .str [kS [116,121,112,101],kS [105,116,101,109,115]] true),Ca 22 58 [kS [97,114,114,97,121]],Mv 23 0,Fa 24 3 5,Lq 25 24,Fo [] [0,1] (.call 26 27 [23,25]),Pp (.bsl 27 .jnode [22,26] true),Ca 28 57 [21,27],Fo [] [2] (.st none 5 4 28)] [[],[],[],[],[3],rg 1 4,rg 1 5,rg 0 6,rg 0 7]) .ret) (Rs [Bc 30 .eql 18 13,Mv 29 30] (Cn 29 (Sq (.reg [Pp (.bsl 31 .str [kS [116,121,112,101],kS [118,97,108,117,101,115]] true),Ca 32 58 [kS [109,97,112]],Mv 33 0,Fa 34 3 5,Lq 35 34,Fo [] [0,1] (.call 36 27 [33,35]),Pp (.bsl 37 .jnode [32,36] true),Ca 38 57 [31,37],Fo [] [2] (.st none 5 4 38)] [[],[],[],[],[3],rg 1 4,rg 1 5,rg 0 6,rg 0 7]) .ret) (Rs [Bc 40 .eql 18 14,Mv 39 40] (Cn 39 (Rs [Pp (.bld 41 [vI 0,vI 0,vS,nl .jnode,nl .str] [(0,1,kI 5)]),Pp (.new 6 [vI 0,vI 0,vS,nl .jnode,nl .str]),Sv 5 6 41] (Sq (Rs [Fa 42 9 5,Lq 43 42,Ll 44 43,Mi 45 0] (.block 1 (.loop [0,4,6,43,44,45,1000000] 4 mA))) mB)) (Sq (Rs [Bc 60 .eql 18 9,Mv 59 60] (Cn 59 .skip (Rs [Bc 61 .eql 18 10,Mv 59 61] (Cn 59 .skip (Rg [Bc 62 .eql 18 11,Mv 59 62]))))) (Cn 59 (Sq (Rs [Mv 63 0,Nk 64 63,Fa 65 1 64,Lo 66 65,Mv 67 1,Pp (.mget 68 .ib false (.t 66) (.t 67))] (Cn 68 (Rs [Fa 69 1 5,Lq 70 69,Ca 71 58 [70],Sv 5 4 71] .ret) .skip)) (Rs [Mv 72 0,Nk 73 72,Fa 74 1 73,Lo 75 74,Mv 76 1,Pp (.mput none .ib (.t 75) (.t 76) (.c (.bool true)))] (Rs [Mv 77 0,Ld 78 10 true 5,Ca 79 59 [77,78],Sv 5 4 79] .ret))) .skip)))))))))) lY))
def ol:List RV:=[.cell 4 5 true]
theorem uM:FnC Tryd.prog eI [27,59,2000027,2000059] 2 oX Tryd.f27 uL ol:=⟨sG,rC,Tryd.func27,by kernel_rfl,by kernel_rfl,by decide⟩
def tn(R:IR→(Ex→St→Ro)→St→Ro)(again0:St→Ro):Ex→St→Ro:=(bO again0 [0,4,6,43,44,45,1000000] 4 (aJ 1 (kseq (R mB) (aJ 0 (kseq (R lY) (fin ol))))))
abbrev fN:Type:=(List Int×Int×Int×List (Int×Bool)×List am×Int×Int×Bs×List ak×Bss×Int×Int×Bs×List ak×Bss)
def ff(x:fN):St:={env:=(.ptr 1 0::(U 3 (.ptr 2 0::.undef::.ptr 3 0::(U 36 (.sl (.num .i64) (.may false) x.1::.int .i64 x.2.1::.int .i64 x.2.2.1::(U 38 [])))))),hp:=[some [.mp .ib x.2.2.2.1],some [.sl .atype (.may false) x.2.2.2.2.1,.mr 0],some [.int .i64 x.2.2.2.2.2.1,.int .i64 x.2.2.2.2.2.2.1,.str x.2.2.2.2.2.2.2.1,.sl .jnode .own x.2.2.2.2.2.2.2.2.1,.sl .str .own x.2.2.2.2.2.2.2.2.2.1],some [.int .i64 x.2.2.2.2.2.2.2.2.2.2.1,.int .i64 x.2.2.2.2.2.2.2.2.2.2.2.1,.str x.2.2.2.2.2.2.2.2.2.2.2.2.1,.sl .jnode .own x.2.2.2.2.2.2.2.2.2.2.2.2.2.1,.sl .str .own x.2.2.2.2.2.2.2.2.2.2.2.2.2.2]]}
def jq(N:Nat):(St→Ro)→St→Ro:=fun again0 s=>run eI N mA (tn (run eI N) again0) s
def fO(N:Nat)(again0:fN→Ro)(x:fN):Ro:=
 let v43:List Int:=x.1
 let v44:Int:=x.2.1
 let v45:Int:=x.2.2.1
 let o0_0:List (Int×Bool):=x.2.2.2.1
 let o1_0:List am:=x.2.2.2.2.1
 let o2_0:Int:=x.2.2.2.2.2.1
 let o2_1:Int:=x.2.2.2.2.2.2.1
 let o2_2:Bs:=x.2.2.2.2.2.2.2.1
 let o2_3:List ak:=x.2.2.2.2.2.2.2.2.1
 let o2_4:Bss:=x.2.2.2.2.2.2.2.2.2.1
 let o3_0:Int:=x.2.2.2.2.2.2.2.2.2.2.1
 let o3_1:Int:=x.2.2.2.2.2.2.2.2.2.2.2.1
 let o3_2:Bs:=x.2.2.2.2.2.2.2.2.2.2.2.2.1
 let o3_3:List ak:=x.2.2.2.2.2.2.2.2.2.2.2.2.2.1
 let o3_4:Bss:=x.2.2.2.2.2.2.2.2.2.2.2.2.2.2
 cond (decide (v45<v44)) (
  chk (ixl v45 v43) (
   let x3:=List.getD v43 (Int.toNat v45) (az (.num .i64))
   ao (aw o0_0 o1_0 x3) (fun r7=>
    chk (decide ((List.length o3_3+List.length ([(reJ r7.1)]:List ak))*80≤140737488355328)) (
     let x4:=(o3_3++([(reJ r7.1)]:List ak))
     let x5:=(IntKind.wrap .i64 (v45+1))
     again0 (v43,v44,x5,r7.2.1,r7.2.2,o2_0,o2_1,o2_2,o2_3,o2_4,o3_0,o3_1,o3_2,x4,o3_4))))) (
  some (.agg [.int .i64 o3_0,.int .i64 o3_1,.str o3_2,.sl .jnode (.may false) o3_3,.sl .str (.may false) o3_4],[some [.mp .ib o0_0],some [.sl .atype (.may false) o1_0,.mr 0],some [.int .i64 o3_0,.int .i64 o3_1,.str o3_2,.sl .jnode (.may false) o3_3,.sl .str (.may false) o3_4],some [.int .i64 o3_0,.int .i64 o3_1,.str o3_2,.sl .jnode .own o3_3,.sl .str .own o3_4]]))
theorem sH(N:Nat):LB (jq N) ff (fO N):=fun _ _=>by kernel_rfl
def cj(N:Nat)(o0_0:List (Int×Bool))(o1_0:List am)(p1:Int)(q0:fN→Ro):Ro:=
 let z0:=fun g0 g1 g2 g3 g4 g5 g6 g7 g8=>(some (.agg [.int .i64 g0,.int .i64 g1,.str g2,.sl .jnode (.may g3) g4,.sl .str (.may g5) g6],[some [.mp .ib g7],some [.sl .atype (.may false) g8,.mr 0],some [.int .i64 g0,.int .i64 g1,.str g2,.sl .jnode (.may g3) g4,.sl .str (.may g5) g6]]):Ro)
 chk (ixl p1 o1_0) (
  let x1:=(List.getD o1_0 (Int.toNat p1) (az .atype))
  cond (x1.kind==12) (
   ao (bi ([97,114,114,97,121]:Bs)) (fun(r1:ak)=>
    ao (aw o0_0 o1_0 x1.items) (fun r2=>
     ao (cP true ([([116,121,112,101]:Bs),([105,116,101,109,115]:Bs)]:Bss) true ([(reJ r1),(reJ r2.1)]:List ak)) (fun r3=>
      z0 r3.1 r3.2.1 r3.2.2.1 r3.2.2.2.1 r3.2.2.2.2.1 r3.2.2.2.2.2.1 r3.2.2.2.2.2.2 r2.2.1 r2.2.2)))) (
   cond (x1.kind==13) (
    ao (bi ([109,97,112]:Bs)) (fun(r4:ak)=>
     ao (aw o0_0 o1_0 x1.items) (fun r5=>
      ao (cP true ([([116,121,112,101]:Bs),([118,97,108,117,101,115]:Bs)]:Bss) true ([(reJ r4),(reJ r5.1)]:List ak)) (fun r6=>
       z0 r6.1 r6.2.1 r6.2.2.1 r6.2.2.2.1 r6.2.2.2.2.1 r6.2.2.2.2.2.1 r6.2.2.2.2.2.2 r5.2.1 r5.2.2)))) (
    cond (x1.kind==14) (
     let x2:=(↑(List.length x1.branches):Int)
     q0 (x1.branches,x2,0,o0_0,o1_0,0,0,([]:Bs),([]:List ak),([]:Bss),5,0,([]:Bs),([]:List ak),([]:Bss))) (
     cond (x1.kind==9) (
      let x6:=(adl (k:=.ib) o0_0 p1)
      cond x6 (
       ao (bi x1.name) (fun(r8:ak)=>
        z0 r8.kind r8.n r8.s false r8.l false r8.names o0_0 o1_0)) (
       let x7:=(iz (k:=.ib) o0_0 p1 true)
       ao (aO x7 o1_0 x1) (fun r9=>
        z0 r9.1.kind r9.1.n r9.1.s false r9.1.l false r9.1.names r9.2.1 r9.2.2))) (
      cond (x1.kind==10) (
       let x8:=(adl (k:=.ib) o0_0 p1)
       cond x8 (
        ao (bi x1.name) (fun(r10:ak)=>
         z0 r10.kind r10.n r10.s false r10.l false r10.names o0_0 o1_0)) (
        let x9:=(iz (k:=.ib) o0_0 p1 true)
        ao (aO x9 o1_0 x1) (fun r11=>
         z0 r11.1.kind r11.1.n r11.1.s false r11.1.l false r11.1.names r11.2.1 r11.2.2))) (
       cond (x1.kind==11) (
        let x10:=(adl (k:=.ib) o0_0 p1)
        cond x10 (
         ao (bi x1.name) (fun(r12:ak)=>
          z0 r12.kind r12.n r12.s false r12.l false r12.names o0_0 o1_0)) (
         let x11:=(iz (k:=.ib) o0_0 p1 true)
         ao (aO x11 o1_0 x1) (fun r13=>
          z0 r13.1.kind r13.1.n r13.1.s false r13.1.l false r13.1.names r13.2.1 r13.2.2))) (
        ao (gS x1.kind) (fun(r14:Bs)=>
         ao (bi r14) (fun(r15:ak)=>
          z0 r15.kind r15.n r15.s false r15.l false r15.names o0_0 o1_0)))))))))
def gv(N:Nat)(o0_0:List (Int×Bool))(o1_0:List am)(p1:Int):Ro:=cj N o0_0 o1_0 p1 (fun z=>aT N (fO N) z)
theorem jr(N:Nat)(o0_0:List (Int×Bool))(o1_0:List am)(p1:Int)(h:Tot (gv N o0_0 o1_0 p1) (fun z=>∃(y0:ak)(y1:List (Int×Bool))(y2:List am)(rest:List aq),z.1.dimR=.agg (enc .jnode y0)∧z.2=some [.mp .ib y1]::some [.sl .atype (.may false) y2,.mr 0]::rest∧dc o0_0 o1_0 p1 (y0,y1,y2))):∃r,aw o0_0 o1_0 p1 r:=FnC.finO (css:=[[.mp .ib o0_0],[.sl .atype (.may false) o1_0,.mr 0]]) uM (N:=N) ((cn _ (by kernel_rfl) rfl (fun C=>cj N o0_0 o1_0 p1 (fun z=>C 1000000 (ff z))) (fun C=>by kernel_rfl)).trans (Eq.trans (b:=cj N o0_0 o1_0 p1 (fun z=>bh N (jq N) (ff z))) (by kernel_rfl) (congrArg (cj N o0_0 o1_0 p1) (funext fun z=>bj (ff) (jq N) (fO N) (sH N) N z)))) h fun _ ⟨y0,y1,y2,_,e,f,q⟩=>⟨(y0,y1,y2),e,⟨_,f⟩,q⟩
def kv:mj:=fun f us css=>match f,us,css with
 |27,[.ptr 1 0,.int .i64 a1],[[.mp .ib o0_0],[.sl .atype (.may false) o1_0,.mr 0]]=>some (can (aw o0_0 o1_0 a1),.agg [.int .i64 (((pick (aw o0_0 o1_0 a1)).1).kind),.int .i64 (((pick (aw o0_0 o1_0 a1)).1).n),.str (((pick (aw o0_0 o1_0 a1)).1).s),.sl .jnode (.may false) (((pick (aw o0_0 o1_0 a1)).1).l),.sl .str (.may false) (((pick (aw o0_0 o1_0 a1)).1).names)],[[.mp .ib ((pick (aw o0_0 o1_0 a1)).2.1)],[.sl .atype (.may false) ((pick (aw o0_0 o1_0 a1)).2.2),.mr 0]])
 |_,_,_=>none
noncomputable def cI:ay:=(kK 2 kv (mQ (sq (P:=Tryd.prog) [zo,vB,xL])))
theorem sI:bX cI [27,2000027]:=(uF (by
 intro f us css hf
 unfold kv
 split<;>first|rfl|(simp at hf)) (lD _ _))
theorem tp:bL Tryd.prog cI:=by
 refine zQ ?_ ?_
 ·intro f us css v css' h
  unfold kv at h
  split at h
  ·simp only[Option.some.injEq,Prod.mk.injEq] at h
   obtain⟨hc,rfl,rfl⟩:=h
   exact((pO hc).1).dim rfl
  ·simp at h
 exact uA _
def nD:IR:=Rs [Bi 50 .lss 49 48] (Sq (Cn 50 .skip (.exit 3)) (Sq (.block 4 (Rs [Ix 51 .str 47 49,Lq 52 51,Mv 9 52] (.reg [Fa 53 3 5,Fo [] [3] (.ld 54 1 false true 53),Mv 55 9,Ca 56 58 [55],Pp (.bsl 57 .jnode [56] true),Pp (.app 58 .jnode (.tk 54) 57),Fa 59 3 5,Fo [] [3] (.st none 1 59 (.tk 58))] [[],[0],[],[2],[2,3],rg 0 4,rg 0 5,rg 0 6]))) (Rg [Bc 60 .add 49 1,Mv 49 60])))
def mC:IR:=Rs [Bi 20 .lss 19 18] (Sq (Cn 20 .skip (.exit 1)) (Sq (.block 2 (Rs [Ix 21 .afield 17 19,Ld 22 9 true 21,Pp (.alr 11 9),Fz 11 9 22] (.reg [Fa 23 3 5,Fo [] [3] (.ld 24 1 false true 23),Pp (.bsl 25 .str [kS [110,97,109,101],kS [116,121,112,101]] true),Fa 26 0 11,Lq 27 26,Ca 28 58 [27],Mv 29 0,Fa 30 2 11,Lq 31 30,Fo [] [0,1] (.call 32 27 [29,31]),Pp (.bsl 33 .jnode [28,32] true),Ca 34 57 [25,33],Pp (.bsl 35 .jnode [34] true),Pp (.app 36 .jnode (.tk 24) 35),Fa 37 3 5,Fo [] [3] (.st none 1 37 (.tk 36))] [[],[0],[],[],[3],[3,4],[],[],[7],rg 3 8,rg 3 9,rg 2 10,rg 2 11,rg 0 12,rg 0 13,rg 0 14]))) (Rg [Bc 38 .add 19 1,Mv 19 38])))
def iT:IR:=Sq (.reg [Pp (.mov 61 (.tk 6)),Mv 62 7,Pp (.bsl 63 .str [62] true),Pp (.app 64 .str (.tk 61) 63),Fa 65 1 3,Lq 66 65,Ca 67 58 [66],Fa 68 0 3,Lq 69 68,Ca 70 37 [69],Ca 71 58 [70],Fo [3] [] (.ld 72 5 true false 5),Pp (.bsl 73 .jnode [67,71,72] true),Ca 74 57 [64,73],Fo [] [2] (.st none 5 4 74)] [[],[],[1],[0,1,2],[],[4],rg 0 5,[],[7],rg 0 8,rg 0 9,[],rg 0 11,rg 0 12,rg 0 13]) .ret
def wC:IR:=Rs [Bx 3 1,Pp (.new 4 [vI 0,vI 0,vS,nl .jnode,nl .str])] (Rs [Pp (.bld 12 [vI 0,vI 0,vS,nl .jnode,nl .str] [(0,1,kI 5)]),Pp (.new 5 [vI 0,vI 0,vS,nl .jnode,nl .str]),Sv 5 5 12] (Rs [Pp (.bsl 13 .str [kS [110,97,109,101],kS [116,121,112,101]] false),Pp (.mov 6 (.tk 13)),Ms 7 []] (Sq (Rs [Fa 14 0 3,Lq 15 14] (.block 0 (Rs [Bc 40 .eql 15 11,Mv 39 40] (Cn 39 (.reg [Fa 41 7 3,Lq 42 41,Pp (.bld 43 [vI 0,vI 0,vS,nl .jnode,nl .str] [(0,1,kI 3),(1,1,42)]),Ms 7 [115,105,122,101],Fo [] [3] (.st none 5 5 43)] [[],[0],[0,1],[],rg 0 3]) (Rs [Bc 45 .eql 15 10,Mv 44 45] (Cn 44 (Rs [Ms 7 [115,121,109,98,111,108,115]] (Rs [Fa 46 4 3,Lq 47 46,Ll 48 47,Mi 49 0] (.block 3 (.loop [3,4,5,6,7,47,48,49,1000000] 4 nD)))) (Rs [Ms 7 [102,105,101,108,100,115]] (Rs [Fa 16 8 3,Lq 17 16,Ll 18 17,Mi 19 0] (.block 1 (.loop [0,3,4,5,6,7,17,18,19,1000001] 4 mC)))))))))) iT)))
def kw:List RV:=[.cell 4 5 true]
theorem wD:FnC Tryd.prog cI [27,2000027] 2 pY Tryd.f59 wC kw:=⟨tp,sI,Tryd.func59,by kernel_rfl,by kernel_rfl,by decide⟩
def uN(R:IR→(Ex→St→Ro)→St→Ro)(again0:St→Ro):Ex→St→Ro:=(bO again0 [3,4,5,6,7,47,48,49,1000000] 4 (aJ 3 (aJ 0 (kseq (R iT) (fin kw)))))
abbrev gw:Type:=(am×Bss×Bs×Bss×Int×Int×List (Int×Bool)×List am×Int×Int×Bs×List ak×Bss×Int×Int×Bs×List ak×Bss)
def fP(x:gw):St:={env:=(U 3 (.ea (enc .atype x.1)::.ptr 2 0::.ptr 3 0::.sl .str .own x.2.1::.str x.2.2.1::(U 39 (.sl .str (.may false) x.2.2.2.1::.int .i64 x.2.2.2.2.1::.int .i64 x.2.2.2.2.2.1::(U 25 []))))),hp:=[some [.mp .ib x.2.2.2.2.2.2.1],some [.sl .atype (.may false) x.2.2.2.2.2.2.2.1,.mr 0],some [.int .i64 x.2.2.2.2.2.2.2.2.1,.int .i64 x.2.2.2.2.2.2.2.2.2.1,.str x.2.2.2.2.2.2.2.2.2.2.1,.sl .jnode .own x.2.2.2.2.2.2.2.2.2.2.2.1,.sl .str .own x.2.2.2.2.2.2.2.2.2.2.2.2.1],some [.int .i64 x.2.2.2.2.2.2.2.2.2.2.2.2.2.1,.int .i64 x.2.2.2.2.2.2.2.2.2.2.2.2.2.2.1,.str x.2.2.2.2.2.2.2.2.2.2.2.2.2.2.2.1,.sl .jnode .own x.2.2.2.2.2.2.2.2.2.2.2.2.2.2.2.2.1,.sl .str .own x.2.2.2.2.2.2.2.2.2.2.2.2.2.2.2.2.2]]}
def jQ(N:Nat):(St→Ro)→St→Ro:=fun again0 s=>run cI N nD (uN (run cI N) again0) s
def gz(N:Nat)(again0:gw→Ro)(x:gw):Ro:=
 let v3:am:=x.1
 let v6:Bss:=x.2.1
 let v7:Bs:=x.2.2.1
 let v47:Bss:=x.2.2.2.1
 let v48:Int:=x.2.2.2.2.1
 let v49:Int:=x.2.2.2.2.2.1
 let o0_0:List (Int×Bool):=x.2.2.2.2.2.2.1
 let o1_0:List am:=x.2.2.2.2.2.2.2.1
 let o2_0:Int:=x.2.2.2.2.2.2.2.2.1
 let o2_1:Int:=x.2.2.2.2.2.2.2.2.2.1
 let o2_2:Bs:=x.2.2.2.2.2.2.2.2.2.2.1
 let o2_3:List ak:=x.2.2.2.2.2.2.2.2.2.2.2.1
 let o2_4:Bss:=x.2.2.2.2.2.2.2.2.2.2.2.2.1
 let o3_0:Int:=x.2.2.2.2.2.2.2.2.2.2.2.2.2.1
 let o3_1:Int:=x.2.2.2.2.2.2.2.2.2.2.2.2.2.2.1
 let o3_2:Bs:=x.2.2.2.2.2.2.2.2.2.2.2.2.2.2.2.1
 let o3_3:List ak:=x.2.2.2.2.2.2.2.2.2.2.2.2.2.2.2.2.1
 let o3_4:Bss:=x.2.2.2.2.2.2.2.2.2.2.2.2.2.2.2.2.2
 cond (decide (v49<v48)) (
  chk (ixl v49 v47) (
   let x3:=List.getD v47 (Int.toNat v49) (az .str)
   ao (bi x3) (fun(r5:ak)=>
    chk (decide ((List.length o3_3+List.length ([(reJ r5)]:List ak))*80≤140737488355328)) (
     let x4:=(o3_3++([(reJ r5)]:List ak))
     let x5:=(IntKind.wrap .i64 (v49+1))
     again0 (v3,v6,v7,v47,v48,x5,o0_0,o1_0,o2_0,o2_1,o2_2,o2_3,o2_4,o3_0,o3_1,o3_2,x4,o3_4))))) (
  chk (decide ((List.length v6+List.length ([v7]:Bss))*16≤140737488355328)) (
   let x6:=(v6++([v7]:Bss))
   ao (bi v3.name) (fun(r6:ak)=>
    ao (gS v3.kind) (fun(r7:Bs)=>
     ao (bi r7) (fun(r8:ak)=>
      ao (cP false x6 true ([(reJ r6),(reJ r8),⟨o3_0,o3_1,o3_2,o3_3,o3_4⟩]:List ak)) (fun r9=>
       some (.agg [.int .i64 r9.1,.int .i64 r9.2.1,.str r9.2.2.1,.sl .jnode (.may r9.2.2.2.1) r9.2.2.2.2.1,.sl .str (.may r9.2.2.2.2.2.1) r9.2.2.2.2.2.2],[some [.mp .ib o0_0],some [.sl .atype (.may false) o1_0,.mr 0],some [.int .i64 r9.1,.int .i64 r9.2.1,.str r9.2.2.1,.sl .jnode (.may r9.2.2.2.1) r9.2.2.2.2.1,.sl .str (.may r9.2.2.2.2.2.1) r9.2.2.2.2.2.2],some [.int .i64 o3_0,.int .i64 o3_1,.str o3_2,.sl .jnode .own o3_3,.sl .str .own o3_4]])))))))
theorem tq(N:Nat):LB (jQ N) fP (gz N):=fun _ _=>by kernel_rfl
def uO(R:IR→(Ex→St→Ro)→St→Ro)(again1:St→Ro):Ex→St→Ro:=(bO again1 [0,3,4,5,6,7,17,18,19,1000001] 4 (aJ 1 (aJ 0 (kseq (R iT) (fin kw)))))
abbrev gA:Type:=(am×Bss×Bs×List aN×Int×Int×List (Int×Bool)×List am×Int×Int×Bs×List ak×Bss×Int×Int×Bs×List ak×Bss)
def fQ(x:gA):St:={env:=(.ptr 1 0::.undef::.undef::.ea (enc .atype x.1)::.ptr 2 0::.ptr 3 0::.sl .str .own x.2.1::.str x.2.2.1::(U 9 (.sl .afield (.may false) x.2.2.2.1::.int .i64 x.2.2.2.2.1::.int .i64 x.2.2.2.2.2.1::(U 55 [])))),hp:=[some [.mp .ib x.2.2.2.2.2.2.1],some [.sl .atype (.may false) x.2.2.2.2.2.2.2.1,.mr 0],some [.int .i64 x.2.2.2.2.2.2.2.2.1,.int .i64 x.2.2.2.2.2.2.2.2.2.1,.str x.2.2.2.2.2.2.2.2.2.2.1,.sl .jnode .own x.2.2.2.2.2.2.2.2.2.2.2.1,.sl .str .own x.2.2.2.2.2.2.2.2.2.2.2.2.1],some [.int .i64 x.2.2.2.2.2.2.2.2.2.2.2.2.2.1,.int .i64 x.2.2.2.2.2.2.2.2.2.2.2.2.2.2.1,.str x.2.2.2.2.2.2.2.2.2.2.2.2.2.2.2.1,.sl .jnode .own x.2.2.2.2.2.2.2.2.2.2.2.2.2.2.2.2.1,.sl .str .own x.2.2.2.2.2.2.2.2.2.2.2.2.2.2.2.2.2]]}
def jR(N:Nat):(St→Ro)→St→Ro:=fun again1 s=>run cI N mC (uO (run cI N) again1) s
def gB(N:Nat)(again1:gA→Ro)(x:gA):Ro:=
 let v3:am:=x.1
 let v6:Bss:=x.2.1
 let v7:Bs:=x.2.2.1
 let v17:List aN:=x.2.2.2.1
 let v18:Int:=x.2.2.2.2.1
 let v19:Int:=x.2.2.2.2.2.1
 let o0_0:List (Int×Bool):=x.2.2.2.2.2.2.1
 let o1_0:List am:=x.2.2.2.2.2.2.2.1
 let o2_0:Int:=x.2.2.2.2.2.2.2.2.1
 let o2_1:Int:=x.2.2.2.2.2.2.2.2.2.1
 let o2_2:Bs:=x.2.2.2.2.2.2.2.2.2.2.1
 let o2_3:List ak:=x.2.2.2.2.2.2.2.2.2.2.2.1
 let o2_4:Bss:=x.2.2.2.2.2.2.2.2.2.2.2.2.1
 let o3_0:Int:=x.2.2.2.2.2.2.2.2.2.2.2.2.2.1
 let o3_1:Int:=x.2.2.2.2.2.2.2.2.2.2.2.2.2.2.1
 let o3_2:Bs:=x.2.2.2.2.2.2.2.2.2.2.2.2.2.2.2.1
 let o3_3:List ak:=x.2.2.2.2.2.2.2.2.2.2.2.2.2.2.2.2.1
 let o3_4:Bss:=x.2.2.2.2.2.2.2.2.2.2.2.2.2.2.2.2.2
 cond (decide (v19<v18)) (
  chk (ixl v19 v17) (
   let x8:=(List.getD v17 (Int.toNat v19) (az .afield))
   ao (bi x8.name) (fun(r10:ak)=>
    ao (aw o0_0 o1_0 x8.typ) (fun r11=>
     ao (cP true ([([110,97,109,101]:Bs),([116,121,112,101]:Bs)]:Bss) true ([(reJ r10),(reJ r11.1)]:List ak)) (fun r12=>
      chk (decide ((List.length o3_3+List.length ([⟨r12.1,r12.2.1,r12.2.2.1,r12.2.2.2.2.1,r12.2.2.2.2.2.2⟩]:List ak))*80≤140737488355328)) (
       let x9:=(o3_3++([⟨r12.1,r12.2.1,r12.2.2.1,r12.2.2.2.2.1,r12.2.2.2.2.2.2⟩]:List ak))
       let x10:=(IntKind.wrap .i64 (v19+1))
       again1 (v3,v6,v7,v17,v18,x10,r11.2.1,r11.2.2,o2_0,o2_1,o2_2,o2_3,o2_4,o3_0,o3_1,o3_2,x9,o3_4))))))) (
  chk (decide ((List.length v6+List.length ([v7]:Bss))*16≤140737488355328)) (
   let x11:=(v6++([v7]:Bss))
   ao (bi v3.name) (fun(r13:ak)=>
    ao (gS v3.kind) (fun(r14:Bs)=>
     ao (bi r14) (fun(r15:ak)=>
      ao (cP false x11 true ([(reJ r13),(reJ r15),⟨o3_0,o3_1,o3_2,o3_3,o3_4⟩]:List ak)) (fun r16=>
       some (.agg [.int .i64 r16.1,.int .i64 r16.2.1,.str r16.2.2.1,.sl .jnode (.may r16.2.2.2.1) r16.2.2.2.2.1,.sl .str (.may r16.2.2.2.2.2.1) r16.2.2.2.2.2.2],[some [.mp .ib o0_0],some [.sl .atype (.may false) o1_0,.mr 0],some [.int .i64 r16.1,.int .i64 r16.2.1,.str r16.2.2.1,.sl .jnode (.may r16.2.2.2.1) r16.2.2.2.2.1,.sl .str (.may r16.2.2.2.2.2.1) r16.2.2.2.2.2.2],some [.int .i64 o3_0,.int .i64 o3_1,.str o3_2,.sl .jnode .own o3_3,.sl .str .own o3_4]])))))))
theorem tr(N:Nat):LB (jR N) fQ (gB N):=fun _ _=>by kernel_rfl
def eK(N:Nat)(o0_0:List (Int×Bool))(o1_0:List am)(p1:am)(q0:gw→Ro)(q1:gA→Ro):Ro:=
 cond (p1.kind==11) (
  chk (decide ((List.length ([([110,97,109,101]:Bs),([116,121,112,101]:Bs)]:Bss)+List.length ([([115,105,122,101]:Bs)]:Bss))*16≤140737488355328)) (
   let x1:=(([([110,97,109,101]:Bs),([116,121,112,101]:Bs)]:Bss)++([([115,105,122,101]:Bs)]:Bss))
   ao (bi p1.name) (fun(r1:ak)=>
    ao (gS p1.kind) (fun(r2:Bs)=>
     ao (bi r2) (fun(r3:ak)=>
      ao (cP false x1 true ([(reJ r1),(reJ r3),⟨3,p1.size,([]:Bs),([]:List ak),([]:Bss)⟩]:List ak)) (fun r4=>
       some (.agg [.int .i64 r4.1,.int .i64 r4.2.1,.str r4.2.2.1,.sl .jnode (.may r4.2.2.2.1) r4.2.2.2.2.1,.sl .str (.may r4.2.2.2.2.2.1) r4.2.2.2.2.2.2],[some [.mp .ib o0_0],some [.sl .atype (.may false) o1_0,.mr 0],some [.int .i64 r4.1,.int .i64 r4.2.1,.str r4.2.2.1,.sl .jnode (.may r4.2.2.2.1) r4.2.2.2.2.1,.sl .str (.may r4.2.2.2.2.2.1) r4.2.2.2.2.2.2],some [.int .i64 3,.int .i64 p1.size,.str ([]:Bs),.sl .jnode .own ([]:List ak),.sl .str .own ([]:Bss)]]))))))) (
  cond (p1.kind==10) (
   let x2:=(↑(List.length p1.syms):Int)
   q0 (p1,([([110,97,109,101]:Bs),([116,121,112,101]:Bs)]:Bss),([115,121,109,98,111,108,115]:Bs),p1.syms,x2,0,o0_0,o1_0,0,0,([]:Bs),([]:List ak),([]:Bss),5,0,([]:Bs),([]:List ak),([]:Bss))) (
   let x7:=(↑(List.length p1.fields):Int)
   q1 (p1,([([110,97,109,101]:Bs),([116,121,112,101]:Bs)]:Bss),([102,105,101,108,100,115]:Bs),p1.fields,x7,0,o0_0,o1_0,0,0,([]:Bs),([]:List ak),([]:Bss),5,0,([]:Bs),([]:List ak),([]:Bss))))
def oY(N:Nat)(o0_0:List (Int×Bool))(o1_0:List am)(p1:am):Ro:=eK N o0_0 o1_0 p1 (fun z=>aT N (gz N) z) (fun z=>aT N (gB N) z)
theorem uP(N:Nat)(o0_0:List (Int×Bool))(o1_0:List am)(p1:am)(h:Tot (oY N o0_0 o1_0 p1) (fun z=>∃(y0:ak)(y1:List (Int×Bool))(y2:List am)(rest:List aq),z.1.dimR=.agg (enc .jnode y0)∧z.2=some [.mp .ib y1]::some [.sl .atype (.may false) y2,.mr 0]::rest∧ny o0_0 o1_0 p1 (y0,y1,y2))):∃r,aO o0_0 o1_0 p1 r:=FnC.finO (css:=[[.mp .ib o0_0],[.sl .atype (.may false) o1_0,.mr 0]]) wD (N:=N) ((cn _ (by kernel_rfl) rfl (fun C=>eK N o0_0 o1_0 p1 (fun z=>C 1000000 (fP z)) (fun z=>C 1000001 (fQ z))) (fun C=>by kernel_rfl)).trans (Eq.trans (b:=eK N o0_0 o1_0 p1 (fun z=>bh N (jQ N) (fP z)) (fun z=>bh N (jR N) (fQ z))) (by kernel_rfl) (congr (congrArg (eK N o0_0 o1_0 p1) (funext fun z=>bj (fP) (jQ N) (gz N) (tq N) N z)) (funext fun z=>bj (fQ) (jR N) (gB N) (tr N) N z)))) h fun _ ⟨y0,y1,y2,_,e,f,q⟩=>⟨(y0,y1,y2),e,⟨_,f⟩,q⟩
end Go.Proofs.YtkinflmjagfapaaDoor
end
noncomputable section
namespace Go.Proofs.YtkinflmjagfapaaDoor
open Go.AM
set_option autoImplicit false
set_option linter.unusedVariables false
set_option maxRecDepth 100000
noncomputable def px:ay:=tab (P:=Tryd.prog) [] [] [] []
def qC:IR:=Sq (Rs [Mv 7 3,Bc 8 .geq 7 0] (Cn 8 .skip (.exit 0))) (Sq (.block 1 (Rs [Mv 11 0,Mv 12 3,Pp (.idx 13 11 12),Pp (.bin 14 .eql 13 (.c (.int .u8 46)))] (Cn 14 (Rs [Mv 15 0,Mv 16 3,Pp (.subs 17 15 none (some 16)),Mv 2 17] .ret) .skip))) (Rg [Mv 9 3,Bc 10 .sub 9 1,Mv 3 10]))
def qD:IR:=Rs [Ms 2 []] .ret
def aaM:IR:=Rs [Ms 2 []] (Sq (Rs [Mv 4 0,Pp (.lens 5 4),Bc 6 .sub 5 1,Mv 3 6] (.block 0 (.loop [0,3,1000000] 0 qC))) qD)
def sa:List RV:=[.t 2]
theorem aaN:FnC Tryd.prog px [] 0 ta Tryd.f79 aaM sa:=fnC Tryd.func79
def zX(R:IR→(Ex→St→Ro)→St→Ro)(a:St→Ro):Ex→St→Ro:=(bO a [0,3,1000000] 0 (aJ 0 (kseq (R qD) (fin sa))))
abbrev jS:Type:=(Bs×Int)
def jg:jS→St:=fun(a,b)=>{env:=(.str a::.undef::.undef::.int .i64 b::(U 14 [])),hp:=[]}
def np(N:Nat):(St→Ro)→St→Ro:=fun a s=>run px N qC (zX (run px N) a) s
def jT(N:Nat)(a:jS→Ro):jS→Ro:=fun(c,b)=>
 cond (decide (0≤b)) (
 chk (ixl b c) (
 let d:=(↑(UInt8.toNat (List.getD c (Int.toNat b) 0)):Int)
 cond (d==46) (
 chk (decide (0≤b)&&decide (b≤(↑(List.length c):Int))) (
 let e:=(List.drop 0 (List.take (Int.toNat b) c))
 some (.str e,[]))) (
 let f:=(IntKind.wrap .i64 (b-1))
 a (c,f)))) (
 some (.str ([]:Bs),[]))
theorem yP(N:Nat):LB (np N) jg (jT N):=fun _ _=>by kernel_rfl
def iN(N:Nat)(a:Bs)(b:jS→Ro):Ro:=
 let c:=(↑(List.length a):Int)
 let d:=(IntKind.wrap .i64 (c-1))
 b (a,d)
def sb(N:Nat)(a:Bs):Ro:=iN N a (fun z=>aT N (jT N) z)
theorem zY(N:Nat)(a:Bs)(h:Tot (sb N a) (fun z=>∃(c:Bs)(rest:List aq),z.1.dimR=.str c∧z.2=rest∧gp a (c))):∃r,jn a r:=aaN.finP (N:=N) ((cn _ (by kernel_rfl) rfl (fun C=>iN N a (fun z=>C 1000000 (jg z))) (fun C=>by kernel_rfl)).trans (Eq.trans (b:=iN N a (fun z=>bh N (np N) (jg z))) (by kernel_rfl) (congrArg (iN N a) (funext fun z=>bj (jg) (np N) (jT N) (yP N) N z)))) h fun _ ⟨c,_,e,_,q⟩=>⟨(c),e,q⟩
noncomputable def ae4:ay:=tab (P:=Tryd.prog) [] [] [] [adP]
def ad8:IR:=Rs [Bx 2 0,Ms 4 []] (Sq (Rs [Mv 5 1,Bc 6 .lss 5 0,Mv 7 6,Gf 7 (.mov 8 1),Gf 7 (.fad 9 0 2),Gf 7 (.lde 10 1 false 9),Gf 7 (.lenl 11 10),Gf 7 (.bin 12 .geq 8 11),Po 13 7 12] (Cn 13 (Rs [Ms 4 []] .ret) .skip)) (Sq (Rs [Fa 14 0 2,Lq 15 14,Mv 16 1,Ix 17 .atype 15 16,Fa 18 1 17,Lo 19 18,Pp (.bin 20 .neq 19 (kS []))] (Cn 20 (Rs [Fa 21 0 2,Lq 22 21,Mv 23 1,Ix 24 .atype 22 23,Fa 25 1 24,Lo 26 25,Mv 4 26] .ret) .skip)) (Rs [Fa 27 0 2,Lq 28 27,Mv 29 1,Ix 30 .atype 28 29,Fa 31 0 30,Lo 32 31,Ca 33 50 [32],Mv 4 33] .ret)))
def ad9:List RV:=[.t 4]
theorem aea:FnC Tryd.prog ae4 [] 0 zj Tryd.f76 ad8 ad9:=fnC Tryd.func76
def xP(N:Nat)(a:List am)(b:Int):Ro:=
 cond (decide (b<0)) (
 some (.str ([]:Bs),[])) (
 let c:=(↑(List.length a):Int)
 cond (decide (c≤b)) (
 some (.str ([]:Bs),[])) (
 chk (ixl b a) (
 let d:=(List.getD a (Int.toNat b) (az .atype))
 let e:=(!decide (d.name=([]:Bs)))
 cond e (
 chk (ixl b a) (
 let f:=(List.getD a (Int.toNat b) (az .atype))
 some (.str f.name,[]))) (
 chk (ixl b a) (
 let g:=(List.getD a (Int.toNat b) (az .atype))
 ao (lk g.kind) (fun(h:Bs)=>
 some (.str h,[])))))))
def xQ(N:Nat)(a:List am)(b:Int):Ro:=xP N a b
theorem acI(N:Nat)(a:List am)(c:Int)(h:Tot (xQ N a c) (fun z=>∃(b:Bs)(rest:List aq),z.1.dimR=.str b∧z.2=rest)):∃r,kp a c r:=aea.finP0 (N:=N) (by kernel_rfl) h fun _ ⟨b,_,e,_⟩=>⟨(b),e⟩
noncomputable def kz:ay:=tab (P:=Tryd.prog) [] [bA] [] [aeU,adR]
def mD:IR:=Sq (Rs [Mv 12 8,Mv 13 1,Pp (.lens 14 13),Bi 15 .lss 12 14] (Cn 15 .skip (.exit 0))) (Sq (.block 1 (Rs [Mv 18 1,Mv 19 8,Pp (.idx 20 18 19),Pp (.bin 21 .eql 20 (.c (.int .u8 46)))] (Cn 21 (Rg [Mv 22 1,Mv 7 22]) .skip))) (Rg [Mv 16 8,Bc 17 .add 16 1,Mv 8 17]))
def mE:IR:=Sq (Rs [Mv 23 1,Pp (.bin 24 .eql 23 (kS [])),Mv 25 24,Gf 25 (.mov 26 7),Gf 25 (.call 27 103 [26]),Gf 25 (.un 28 .not 27),Po 29 25 28] (Cn 29 (Rg [Mv 30 0,Ca 31 38 [30,kI 6]]) .skip)) (Rs [Mv 32 7,Mv 6 32] .ret)
def uQ:IR:=Rs [Ms 6 []] (Rs [Mv 9 2,Mv 10 1,Ca 11 102 [9,10],Mv 7 11] (Sq (Rs [Mi 8 0] (.block 0 (.loop [0,1,7,8,1000000] 1 mD))) mE))
def om:List RV:=[.t 6]
theorem uR:FnC Tryd.prog kz [38,2000038] 1 oU Tryd.f78 uQ om:=fnC Tryd.func78
def tt(R:IR→(Ex→St→Ro)→St→Ro)(a:St→Ro):Ex→St→Ro:=(bO a [0,1,7,8,1000000] 1 (aJ 0 (kseq (R mE) (fin om))))
abbrev fR:Type:=(Bs×Bs×Int×List am×Int)
def fg:fR→St:=fun(a,b,c,d,e)=>{env:=(.ptr 0 0::.str a::(U 5 (.str b::.int .i64 c::(U 24 [])))),hp:=[some [.ul .atype d,.int .i64 e]]}
def jt(N:Nat):(St→Ro)→St→Ro:=fun a s=>run kz N mD (tt (run kz N) a) s
def fS(N:Nat)(c:fR→Ro):fR→Ro:=fun(d,f,e,a,b)=>
 let j:=(↑(List.length d):Int)
 let g:=fun k l=>(some (.str f,[some [.ul .atype k,.int .i64 l]]):Ro)
 cond (decide (e<j)) (
 chk (ixl e d) (
 let m:=(↑(UInt8.toNat (List.getD d (Int.toNat e) 0)):Int)
 cond (m==46) (
 let n:=(IntKind.wrap .i64 (e+1))
 c (d,d,n,a,b)) (
 let o:=(IntKind.wrap .i64 (e+1))
 c (d,f,o,a,b)))) (
 let p:=decide (d=([]:Bs))
 cond p (
 ao (ap a b 6) (fun h=>
 g h.2.1 h.2.2)) (
 ao (lm f) (fun(q:Bool)=>
 cond (!q) (
 ao (ap a b 6) (fun i=>
 g i.2.1 i.2.2)) (
 g a b))))
theorem sJ(N:Nat):LB (jt N) fg (fS N):=fun _ _=>by kernel_rfl
def dR(N:Nat)(a:List am)(b:Int)(c d:Bs)(e:fR→Ro):Ro:=
 ao (mw d c) (fun(f:Bs)=>
 e (c,f,0,a,b))
def oq(N:Nat)(a:List am)(b:Int)(c d:Bs):Ro:=dR N a b c d (fun z=>aT N (fS N) z)
theorem tu(N:Nat)(a:List am)(c:Int)(d g:Bs)(h:Tot (oq N a c d g) (fun z=>∃(i:Bs)(j:List am)(k:Int)(rest:List aq),z.1.dimR=.str i∧z.2=some [.ul .atype j,.int .i64 k]::rest∧mt a c d g (i,j,k))):∃r,da a c d g r:=FnC.finO (css:=[[.ul .atype a,.int .i64 c]]) uR (N:=N) ((cn _ (by kernel_rfl) rfl (fun C=>dR N a c d g (fun z=>C 1000000 (fg z))) (fun C=>by kernel_rfl)).trans (Eq.trans (b:=dR N a c d g (fun z=>bh N (jt N) (fg z))) (by kernel_rfl) (congrArg (dR N a c d g) (funext fun z=>bj (fg) (jt N) (fS N) (sJ N) N z)))) h fun _ ⟨i,j,k,_,e,f,q⟩=>⟨(i,j,k),e,⟨_,f⟩,q⟩
noncomputable def xR:ay:=tab (P:=Tryd.prog) [] [bA] [] [lI]
def wE:IR:=Rs [Bx 5 1,Ms 8 []] (Rs [Ld 12 5 true 5,Mv 13 2,Ca 14 41 [12,13],Mv 11 14,Ex_ 15 0 11,Ex_ 16 1 11,Pp (.alr 9 5),Fz 9 5 15,Mv 10 16] (Sq (Rs [Mv 17 10,Un 18 17,Mv 19 18,Gt 19 (.mov 20 3),Gt 19 (.un 21 .not 20),Pa 22 19 21] (Cn 22 (Rs [Ms 8 []] .ret) .skip)) (Sq (Rs [Mv 23 10,Un 24 23,Mv 25 24,Gf 25 (.fad 26 0 9),Gf 25 (.lde 27 1 false 26),Gf 25 (.bin 28 .neq 27 (kI 4)),Po 29 25 28] (Cn 29 (Rs [Mv 30 0,Ca 31 38 [30,kI 2]] (Rs [Ms 8 []] .ret)) .skip)) (Rs [Fa 32 2 9,Lq 33 32,Mv 8 33] .ret))))
def wF:List RV:=[.t 8]
theorem wG:FnC Tryd.prog xR [38,2000038] 1 pV Tryd.f77 wE wF:=fnC Tryd.func77
def oZ(N:Nat)(a:List am)(b d e:Int)(f:Bs)(g:List ak)(h:Bss)(p:Bs)(q:Bool):Ro:=
 let i:=fun j r=>(some (.str ([]:Bs),[some [.ul .atype j,.int .i64 r]]):Ro)
 let k:=fun j=>(some (.str j,[some [.ul .atype a,.int .i64 b]]):Ro)
 ao (bP d e f g h p) (fun c=>
 cond (!c.2.2.2.2.2) (
 cond (!q) (
 i a b) (
 cond (!c.2.2.2.2.2) (
 ao (ap a b 2) (fun l=>
 i l.2.1 l.2.2)) (
 cond (!(c.1==4)) (
 ao (ap a b 2) (fun m=>
 i m.2.1 m.2.2)) (
 k c.2.2.1)))) (
 cond (!c.2.2.2.2.2) (
 ao (ap a b 2) (fun n=>
 i n.2.1 n.2.2)) (
 cond (!(c.1==4)) (
 ao (ap a b 2) (fun o=>
 i o.2.1 o.2.2)) (
 k c.2.2.1))))
def pa(N:Nat)(a:List am)(b c d:Int)(e:Bs)(f:List ak)(g:Bss)(h:Bs)(i:Bool):Ro:=oZ N a b c d e f g h i
theorem uS(N:Nat)(a:List am)(b c d:Int)(g:Bs)(i:List ak)(j:Bss)(n:Bs)(o:Bool)(h:Tot (pa N a b c d g i j n o) (fun z=>∃(k:Bs)(l:List am)(m:Int)(rest:List aq),z.1.dimR=.str k∧z.2=some [.ul .atype l,.int .i64 m]::rest∧nx a b c d g i j n o (k,l,m))):∃r,cb a b c d g i j n o r:=FnC.finO (css:=[[.ul .atype a,.int .i64 b]]) wG (N:=N) (by kernel_rfl) h fun _ ⟨k,l,m,_,e,f,q⟩=>⟨(k,l,m),e,⟨_,f⟩,q⟩
noncomputable def kA:ay:=tab (P:=Tryd.prog) [] [bA] [] [lI]
def mF:IR:=Sq (Rs [Mv 25 11,Fa 26 3 8,Lq 27 26,Ll 28 27,Bi 29 .lss 25 28,Mv 30 29,Gt 30 (.mov 31 0),Gt 30 (.nck 32 31),Gt 30 (.fad 33 1 32),Gt 30 (.ld 34 1 false false 33),Gt 30 (.bin 35 .eql 34 (kI 0)),Pa 36 30 35] (Cn 36 .skip (.exit 0))) (Sq (.block 1 (Sq (Rs [Fa 39 3 8,Lq 40 39,Mv 41 11,Ix 42 .jnode 40 41,Fa 43 0 42,Lo 44 43,Bc 45 .neq 44 4] (Cn 45 (Rg [Mv 46 0,Ca 47 38 [46,kI 2]]) .skip)) (Rg [Pp (.mov 48 (.tk 10)),Fa 49 3 8,Lq 50 49,Mv 51 11,Ix 52 .jnode 50 51,Fa 53 2 52,Lo 54 53,Pp (.bsl 55 .str [54] true),Pp (.app 56 .str (.tk 48) 55),Pp (.mov 10 (.tk 56))]))) (Rg [Mv 37 11,Bc 38 .add 37 1,Mv 11 38]))
def lZ:IR:=Rs [Mv 57 10,Mv 6 57,Mb 7 true] .ret
def uT:IR:=Rs [Bx 4 1,Pp (.mov 6 (.c (nl .str))),Mb 7 false] (Rs [Ld 13 5 true 4,Mv 14 2,Ca 15 41 [13,14],Mv 12 15,Ex_ 16 0 12,Ex_ 17 1 12,Pp (.alr 8 5),Fz 8 5 16,Mv 9 17] (Sq (Rs [Mv 18 9,Un 19 18] (Cn 19 (Rs [Pp (.mov 6 (.c (nl .str))),Mb 7 false] .ret) .skip)) (Sq (Rs [Fa 20 0 8,Lq 21 20,Bc 22 .neq 21 5] (Cn 22 (Rg [Mv 23 0,Ca 24 38 [23,kI 2]]) .skip)) (Rs [Pp (.mov 10 (.c (nl .str)))] (Sq (Rs [Mi 11 0] (.block 0 (.loop [0,8,10,11,1000000] 1 mF))) lZ)))))
def ot:List RV:=[.t 6,.t 7]
theorem uU:FnC Tryd.prog kA [38,2000038] 1 oS Tryd.f80 uT ot:=fnC Tryd.func80
def tv(R:IR→(Ex→St→Ro)→St→Ro)(a:St→Ro):Ex→St→Ro:=(bO a [0,8,10,11,1000000] 1 (aJ 0 (kseq (R lZ) (fin ot))))
abbrev fT:Type:=(Int×Int×Bs×List ak×Bss×Bss×Int×List am×Int)
def fh:fT→St:=fun(a,b,c,d,e,f,g,h,i)=>{env:=(.ptr 0 0::(U 7 (.ea [.int .i64 a,.int .i64 b,.str c,.sl .jnode (.may false) d,.sl .str (.may false) e]::.undef::.sl .str .own f::.int .i64 g::(U 46 [])))),hp:=[some [.ul .atype h,.int .i64 i]]}
def ju(N:Nat):(St→Ro)→St→Ro:=fun a s=>run kA N mF (tv (run kA N) a) s
def dx(N:Nat)(c:fT→Ro):fT→Ro:=fun(g,h,i,a,j,e,b,f,d)=>
 let o:=(↑(List.length a):Int)
 let k:=(some (.tup [.sl .str (.may false) e,.bool true],[some [.ul .atype f,.int .i64 d]]):Ro)
 cond (decide (b<o)) (
 cond (d==0) (
 chk (ixl b a) (
 let p:=(List.getD a (Int.toNat b) (az .jnode))
 cond (!(p.kind==4)) (
 ao (ap f d 2) (fun l=>
 chk (ixl b a) (
 let m:=(List.getD a (Int.toNat b) (az .jnode))
 chk (decide ((List.length e+List.length ([m.s]:Bss))*16≤140737488355328)) (
 let q:=(e++([m.s]:Bss))
 let r:=(IntKind.wrap .i64 (b+1))
 c (g,h,i,a,j,q,r,l.2.1,l.2.2))))) (
 chk (ixl b a) (
 let n:=(List.getD a (Int.toNat b) (az .jnode))
 chk (decide ((List.length e+List.length ([n.s]:Bss))*16≤140737488355328)) (
 let t:=(e++([n.s]:Bss))
 let u:=(IntKind.wrap .i64 (b+1))
 c (g,h,i,a,j,t,u,f,d)))))) (
 k)) (
 k)
theorem sK(N:Nat):LB (ju N) fh (dx N):=fun _ _=>by kernel_rfl
def dS(N:Nat)(b:List am)(c d e:Int)(f:Bs)(g:List ak)(h:Bss)(k:Bs)(i:fT→Ro):Ro:=
 ao (bP d e f g h k) (fun a=>
 cond (!a.2.2.2.2.2) (
 some (.tup [.sl .str (.may false) ([]:Bss),.bool false],[some [.ul .atype b,.int .i64 c]])) (
 cond (!(a.1==5)) (
 ao (ap b c 2) (fun j=>
 i (a.1,a.2.1,a.2.2.1,a.2.2.2.1,a.2.2.2.2.1,([]:Bss),0,j.2.1,j.2.2))) (
 i (a.1,a.2.1,a.2.2.1,a.2.2.2.1,a.2.2.2.2.1,([]:Bss),0,b,c))))
def ou(N:Nat)(a:List am)(b c d:Int)(e:Bs)(f:List ak)(g:Bss)(h:Bs):Ro:=dS N a b c d e f g h (fun z=>aT N (dx N) z)
theorem tx(N:Nat)(a:List am)(c d g:Int)(i:Bs)(j:List ak)(k:Bss)(l:Bs)(h:Tot (ou N a c d g i j k l) (fun z=>∃(m:Bss)(n:Bool)(o:List am)(p:Int)(rest:List aq),z.1.dimR=.tup [.sl .str (.may false) m,.bool n]∧z.2=some [.ul .atype o,.int .i64 p]::rest∧iS a c d g i j k l (m,n,o,p))):∃r,bI a c d g i j k l r:=FnC.finO (css:=[[.ul .atype a,.int .i64 c]]) uU (N:=N) ((cn _ (by kernel_rfl) rfl (fun C=>dS N a c d g i j k l (fun z=>C 1000000 (fh z))) (fun C=>by kernel_rfl)).trans (Eq.trans (b:=dS N a c d g i j k l (fun z=>bh N (ju N) (fh z))) (by kernel_rfl) (congrArg (dS N a c d g i j k l) (funext fun z=>bj (fh) (ju N) (dx N) (sK N) N z)))) h fun _ ⟨m,n,o,p,_,e,f,q⟩=>⟨(m,n,o,p),e,⟨_,f⟩,q⟩
noncomputable def aU:ay:=tab (P:=Tryd.prog) [] [bA,ll,ks] [] [lI,su]
def lq:IR:=Sq (Rs [Mv 56 9,Mv 57 8,Bi 58 .lss 56 57] (Cn 58 .skip (.exit 2))) (Sq (.block 3 (Sq (.reg [Mv 61 6,Mv 62 9,Ix 63 .str 61 62,Lq 64 63,Mv 65 6,Mv 66 8,Ix 67 .str 65 66,Lq 68 67,Bi 69 .eql 64 68] [[],[],[0,1],[0,1,2],[],[],[4,5],[4,5,6],rg 0 7]) (Cn 69 (Rg [Mv 70 0,Ca 71 38 [70,kI 5]]) .skip))) (Rg [Mv 59 9,Bc 60 .add 59 1,Mv 9 60]))
def kN:IR:=Rg [Mv 46 8,Bc 47 .add 46 1,Mv 8 47]
def dG:IR:=Sq (Rs [Mv 35 8,Mv 36 6,Ll 37 36,Bi 38 .lss 35 37,Mv 39 38,Gt 39 (.mov 40 0),Gt 39 (.nck 41 40),Gt 39 (.fad 42 1 41),Gt 39 (.ld 43 1 false false 42),Gt 39 (.bin 44 .eql 43 (kI 0)),Pa 45 39 44] (Cn 45 .skip (.exit 0))) (Sq (.block 1 (Sq (Rs [Mv 48 6,Mv 49 8,Ix 50 .str 48 49,Lq 51 50,Ca 52 104 [51],Un 53 52] (Cn 53 (Rg [Mv 54 0,Ca 55 38 [54,kI 6]]) .skip)) (Rs [Mi 9 0] (.block 2 (.loop [0,2,4,6,8,9,1000000] 1 lq))))) kN)
def kO:IR:=Sq (Rs [Mv 80 14,Mv 81 6,Ll 82 81,Bi 83 .lss 80 82] (Cn 83 .skip (.exit 4))) (Sq (.block 5 (Rg [Mv 86 13,Mv 87 86,Gf 87 (.mov 88 6),Gf 87 (.mov 89 14),Gf 87 (.ixa 90 .str 88 89),Gf 87 (.lde 91 1 false 90),Gf 87 (.mov 92 12),Gf 87 (.bin 93 .eql 91 92),Po 94 87 93,Mv 13 94])) (Rg [Mv 84 14,Bc 85 .add 84 1,Mv 14 85]))
def kP:IR:=Sq (Rs [Mv 95 11,Mv 96 95,Gt 96 (.mov 97 13),Gt 96 (.un 98 .not 97),Pa 99 96 98] (Cn 99 (Rg [Mv 100 0,Ca 101 38 [100,kI 6]]) .skip)) (Rs [Mv 102 0,Nk 103 102,Fa 104 1 103,Lo 105 104,Bc 106 .eql 105 0] (Cn 106 (.gh (.opn (.cell 0 0)) (.ghp (.cls (.cell 0 0)) (.reg [Mv 107 0,Nk 108 107,Fa 109 0 108,Fa 110 0 109,Fo [0] [] (.ld 111 1 false false 110),Mv 112 2,Mv 113 0,Nk 114 113,Fa 115 0 114,Fa 116 0 115,Fo [0] [] (.ld 117 1 false false 116),Mv 118 2,Mv 119 0,Nk 120 119,Fa 121 0 120,Fa 122 0 121,Fo [0] [] (.ld 123 1 false false 122),Mv 124 2,Mv 125 6,Mv 126 11,Mv 127 12,Pp (.ixw 128 .atype 111 112),Pp (.fdw 129 4 128),Fo [] [1] (.stw none 1 129 125),Pp (.ixw 130 .atype 117 118),Pp (.fdw 131 5 130),Fo [] [1] (.stw none 1 131 126),Pp (.ixw 132 .atype 123 124),Pp (.fdw 133 6 132),Fo [] [1] (.stw none 1 133 127)] [[],[0],[0,1],[0,1,2],rg 0 3,[],[],[6],[6,7],[6,7,8],rg 6 9,[],[],[12],[12,13],[12,13,14],rg 12 15,[],[],[],[],rg 0 10++rg 12 16++[18],rg 0 10++rg 12 16++[18]++[21],rg 0 10++rg 12 16++[18]++[21,22],rg 0 16++[18,19]++[21,22,23],rg 0 16++[18,19]++rg 21 24,rg 0 16++[18,19]++rg 21 25,rg 0 26,rg 0 27,rg 0 28]))) .skip))
def gD:IR:=Rs [Ld 73 5 true 4,Ca 74 41 [73,kS [100,101,102,97,117,108,116]],Mv 72 74,Ex_ 75 0 72,Ex_ 76 1 72,Pp (.alr 10 5),Fz 10 5 75,Mv 11 76] (Rs [Mv 77 0,Ld 78 5 true 4,Ca 79 77 [77,78,kS [100,101,102,97,117,108,116],kB false],Mv 12 79] (Rs [Mb 13 false] (Sq (Rs [Mi 14 0] (.block 4 (.loop [0,2,6,11,12,13,14,1000002] 1 kO))) kP)))
def sL:IR:=Rs [Bx 4 1] (Rs [Mv 16 0,Ld 17 5 true 4,Ca 18 80 [16,17,kS [115,121,109,98,111,108,115]],Mv 15 18,Ex_ 19 0 15,Ex_ 20 1 15,Mv 6 19,Mv 7 20] (Sq (Rs [Mv 21 7,Un 22 21] (Cn 22 (Rg [Mv 23 0,Ca 24 38 [23,kI 2]]) .skip)) (Sq (Rs [Mv 25 6,Ll 26 25,Bc 27 .eql 26 0] (Cn 27 (Rg [Mv 28 0,Ca 29 38 [28,kI 6]]) .skip)) (Sq (Rs [Mv 30 6,Ll 31 30,Bc 32 .gtr 31 30] (Cn 32 (Rg [Mv 33 0,Ca 34 38 [33,kI 3]]) .skip)) (Sq (Rs [Mi 8 0] (.block 0 (.loop [0,2,4,6,8,1000001] 1 dG))) gD)))))
def fj:List RV:=[]
theorem sM:FnC Tryd.prog aU [38,77,80,2000038,2000077,2000080] 1 nA Tryd.f82 sL fj:=fnC Tryd.func82
def eo(R:IR→(Ex→St→Ro)→St→Ro)(a:St→Ro):Ex→St→Ro:=(bO a [0,2,4,6,8,1000001] 1 (aJ 0 (kseq (R gD) (fin fj))))
abbrev bw:Type:=(Int×Int×Int×Bs×List ak×Bss×Bss×Int×List am×Int)
def aL:bw→St:=fun(a,b,c,d,e,f,g,h,i,j)=>{env:=(.ptr 0 0::.undef::.int .i64 a::.undef::.ea [.int .i64 b,.int .i64 c,.str d,.sl .jnode (.may false) e,.sl .str (.may false) f]::.undef::.sl .str (.may false) g::.undef::.int .i64 h::(U 125 [])),hp:=[some [.ul .atype i,.int .i64 j]]}
def rD(R:IR→(Ex→St→Ro)→St→Ro)(a b:St→Ro):Ex→St→Ro:=(bO b [0,2,4,6,8,9,1000000] 1 (aJ 2 (aJ 1 (kseq (R kN) (eo R a)))))
abbrev ep:Type:=(Int×Int×Int×Bs×List ak×Bss×Bss×Int×Int×List am×Int)
def cJ:ep→St:=fun(b,c,d,e,f,g,h,i,j,k,a)=>{env:=(.ptr 0 0::.undef::.int .i64 b::.undef::.ea [.int .i64 c,.int .i64 d,.str e,.sl .jnode (.may false) f,.sl .str (.may false) g]::.undef::.sl .str (.may false) h::.undef::.int .i64 i::.int .i64 j::(U 124 [])),hp:=[some [.ul .atype k,.int .i64 a]]}
def eq(N:Nat)(a:St→Ro):(St→Ro)→St→Ro:=fun b s=>run aU N lq (rD (run aU N) a b) s
def cf(N:Nat)(i:bw→Ro)(a:ep→Ro):ep→Ro:=fun(m,b,c,d,e,f,j,k,l,g,h)=>
 cond (decide (l<k)) (
 chk (ixl l j) (
 let o:=List.getD j (Int.toNat l) (az .str)
 chk (ixl k j) (
 let p:=List.getD j (Int.toNat k) (az .str)
 cond (decide (o=p)) (
 ao (ap g h 5) (fun n=>
 let q:=(IntKind.wrap .i64 (l+1))
 a (m,b,c,d,e,f,j,k,q,n.2.1,n.2.2))) (
 let r:=(IntKind.wrap .i64 (l+1))
 a (m,b,c,d,e,f,j,k,r,g,h))))) (
 let s:=(IntKind.wrap .i64 (k+1))
 i (m,b,c,d,e,f,j,s,g,h))
theorem rk(N:Nat)(a:St→Ro):LB (eq N a) cJ (cf N (fun y=>a (aL y))):=fun _ _=>by kernel_rfl
def rE(R:IR→(Ex→St→Ro)→St→Ro)(a:St→Ro):Ex→St→Ro:=(bO a [0,2,6,11,12,13,14,1000002] 1 (aJ 4 (kseq (R kP) (fin fj))))
abbrev et:Type:=(Int×Bss×Bool×Bs×Bool×Int×List am×Int)
def cK:et→St:=fun(a,b,c,d,e,f,g,h)=>{env:=(.ptr 0 0::.undef::.int .i64 a::(U 3 (.sl .str (.may false) b::(U 4 (.bool c::.str d::.bool e::.int .i64 f::(U 119 [])))))),hp:=[some [.ul .atype g,.int .i64 h]]}
def eu(N:Nat):(St→Ro)→St→Ro:=fun a s=>run aU N kO (rE (run aU N) a) s
def cg(N:Nat)(f:et→Ro):et→Ro:=fun(c,j,g,h,q,i,b,d)=>
 let u:=(↑(List.length j):Int)
 let v:=fun w x=>(some (.tup [],[some [.ul .atype w,.int .i64 x],none,none]):Ro)
 let y:=fun w x=>(some (.tup [],[some [.ul .atype w,.int .i64 x]]):Ro)
 cond (decide (i<u)) (
 cond q (
 let z:=(IntKind.wrap .i64 (i+1))
 f (c,j,g,h,true,z,b,d)) (
 chk (ixl i j) (
 let aa:=List.getD j (Int.toNat i) (az .str)
 let ab:=(IntKind.wrap .i64 (i+1))
 f (c,j,g,h,decide (aa=h),ab,b,d)))) (
 cond g (
 cond (!q) (
 ao (ap b d 6) (fun e=>
 cond (e.2.2==0) (
 chk (decide (0<List.length e.2.1)) (
 chk (decide (0≤c)&&decide (c<↑(List.length e.2.1))) (
 chk (decide ((Int.toNat c)<List.length e.2.1)) (
 let k:=(List.set e.2.1 (Int.toNat c) (let a:=List.getD e.2.1 (Int.toNat c) (az .atype);⟨a.kind,a.name,a.aliases,a.items,j,a.hasdef,a.df,a.size,a.fields,a.branches⟩))
 chk (decide (0≤c)&&decide (c<↑(List.length e.2.1))) (
 chk (decide ((Int.toNat c)<List.length k)) (
 let l:=(List.set k (Int.toNat c) (let a:=List.getD k (Int.toNat c) (az .atype);⟨a.kind,a.name,a.aliases,a.items,a.syms,g,a.df,a.size,a.fields,a.branches⟩))
 chk (decide (0≤c)&&decide (c<↑(List.length e.2.1))) (
 chk (decide ((Int.toNat c)<List.length l)) (
 let r:=(List.set l (Int.toNat c) (let a:=List.getD l (Int.toNat c) (az .atype);⟨a.kind,a.name,a.aliases,a.items,a.syms,a.hasdef,h,a.size,a.fields,a.branches⟩))
 chk (Nat.beq (List.length e.2.1) (List.length r)) (
 v r e.2.2))))))))) (
 y e.2.1 e.2.2))) (
 cond (d==0) (
 chk (decide (0<List.length b)) (
 chk (decide (0≤c)&&decide (c<↑(List.length b))) (
 chk (decide ((Int.toNat c)<List.length b)) (
 let m:=(List.set b (Int.toNat c) (let a:=List.getD b (Int.toNat c) (az .atype);⟨a.kind,a.name,a.aliases,a.items,j,a.hasdef,a.df,a.size,a.fields,a.branches⟩))
 chk (decide (0≤c)&&decide (c<↑(List.length b))) (
 chk (decide ((Int.toNat c)<List.length m)) (
 let n:=(List.set m (Int.toNat c) (let a:=List.getD m (Int.toNat c) (az .atype);⟨a.kind,a.name,a.aliases,a.items,a.syms,g,a.df,a.size,a.fields,a.branches⟩))
 chk (decide (0≤c)&&decide (c<↑(List.length b))) (
 chk (decide ((Int.toNat c)<List.length n)) (
 let s:=(List.set n (Int.toNat c) (let a:=List.getD n (Int.toNat c) (az .atype);⟨a.kind,a.name,a.aliases,a.items,a.syms,a.hasdef,h,a.size,a.fields,a.branches⟩))
 chk (Nat.beq (List.length b) (List.length s)) (
 v s d))))))))) (
 y b d))) (
 cond (d==0) (
 chk (decide (0<List.length b)) (
 chk (decide (0≤c)&&decide (c<↑(List.length b))) (
 chk (decide ((Int.toNat c)<List.length b)) (
 let o:=(List.set b (Int.toNat c) (let a:=List.getD b (Int.toNat c) (az .atype);⟨a.kind,a.name,a.aliases,a.items,j,a.hasdef,a.df,a.size,a.fields,a.branches⟩))
 chk (decide (0≤c)&&decide (c<↑(List.length b))) (
 chk (decide ((Int.toNat c)<List.length o)) (
 let p:=(List.set o (Int.toNat c) (let a:=List.getD o (Int.toNat c) (az .atype);⟨a.kind,a.name,a.aliases,a.items,a.syms,g,a.df,a.size,a.fields,a.branches⟩))
 chk (decide (0≤c)&&decide (c<↑(List.length b))) (
 chk (decide ((Int.toNat c)<List.length p)) (
 let t:=(List.set p (Int.toNat c) (let a:=List.getD p (Int.toNat c) (az .atype);⟨a.kind,a.name,a.aliases,a.items,a.syms,a.hasdef,h,a.size,a.fields,a.branches⟩))
 chk (Nat.beq (List.length b) (List.length t)) (
 v t d))))))))) (
 y b d)))
theorem rl(N:Nat):LB (eu N) cK (cg N):=fun _ _=>by kernel_rfl
def ey(N:Nat):(St→Ro)→St→Ro:=fun a s=>run aU N dG (eo (run aU N) a) s
def dT(N:Nat)(k:bw→Ro)(o:ep→Ro)(p:et→Ro):bw→Ro:=fun(l,a,b,c,d,e,h,j,g,f)=>
 let r:=(↑(List.length h):Int)
 cond (decide (j<r)) (
 cond (f==0) (
 chk (ixl j h) (
 let s:=List.getD h (Int.toNat j) (az .str)
 ao (fe s) (fun(t:Bool)=>
 cond (!t) (
 ao (ap g f 6) (fun q=>
 o (l,a,b,c,d,e,h,j,0,q.2.1,q.2.2))) (
 o (l,a,b,c,d,e,h,j,0,g,f))))) (
 ao (bP a b c d e ([100,101,102,97,117,108,116]:Bs)) (fun u=>
 ao (cb g f a b c d e ([100,101,102,97,117,108,116]:Bs) false) (fun m=>
 p (l,h,u.2.2.2.2.2,m.1,false,0,m.2.1,m.2.2))))) (
 ao (bP a b c d e ([100,101,102,97,117,108,116]:Bs)) (fun n=>
 ao (cb g f a b c d e ([100,101,102,97,117,108,116]:Bs) false) (fun i=>
 p (l,h,n.2.2.2.2.2,i.1,false,0,i.2.1,i.2.2))))
def cV(N:Nat)(a:bw→Ro)(x:bw):Ro:=dT N a (fun z=>aT N (cf N a) z) (fun z=>aT N (cg N) z) x
def ip(N:Nat)(a:St→Ro):List (Nat×(St→Ro)):=(ca aU N dG (eo (run aU N) a)++(ca aU N gD (fin fj)++[]))
theorem rm(N:Nat):∀(a:St→Ro)(x:bw),ey N a (aL x)=cV N (fun y=>a (aL y)) x:=by
 intro a x
 have hX:∀C:Nat→St→Ro,bW C aU N dG (eo (bW C aU N) a) (aL x)=dT N (fun y=>a (aL y)) (fun z=>C 1000000 (cJ z)) (fun z=>C 1000002 (cK z)) x:=by
  intro C
  kernel_rfl
 have h:ey N a (aL x)=dT N (fun y=>a (aL y)) (fun z=>bh N (eq N a) (cJ z)) (fun z=>bh N (eu N) (cK z)) x:=(eX (C:=ic (ip N a)) (cE (bb (l:=(ip N a)) (by kernel_rfl))) (pP (eW (jJ (cE (fL (bb (l:=(ip N a)) (by kernel_rfl)))) rfl))) _).trans ((hX _).trans (by kernel_rfl))
 have e1:(fun z=>bh N (eq N a) (cJ z))=(fun z=>aT N (cf N (fun y=>a (aL y))) z):=funext fun z=>bj (cJ) (eq N a) (cf N (fun y=>a (aL y))) (rk N a) N z
 have e2:(fun z=>bh N (eu N) (cK z))=(fun z=>aT N (cg N) z):=funext fun z=>bj (cK) (eu N) (cg N) (rl N) N z
 rw[h,e1,e2]
 rfl
def de(N:Nat)(k:List am)(l a b:Int)(c:Bs)(d:List ak)(e:Bss)(h:Int)(i:bw→Ro):Ro:=
 ao (bI k l a b c d e ([115,121,109,98,111,108,115]:Bs)) (fun f=>
 cond (!f.2.1) (
 ao (ap f.2.2.1 f.2.2.2 2) (fun j=>
 let v:=(↑(List.length f.1):Int)
 cond (v==0) (
 ao (ap j.2.1 j.2.2 6) (fun p=>
 let w:=(↑(List.length f.1):Int)
 cond (decide (30<w)) (
 ao (ap p.2.1 p.2.2 3) (fun u=>
 i (h,a,b,c,d,e,f.1,0,u.2.1,u.2.2))) (
 i (h,a,b,c,d,e,f.1,0,p.2.1,p.2.2)))) (
 let q:=(↑(List.length f.1):Int)
 cond (decide (30<q)) (
 ao (ap j.2.1 j.2.2 3) (fun m=>
 i (h,a,b,c,d,e,f.1,0,m.2.1,m.2.2))) (
 i (h,a,b,c,d,e,f.1,0,j.2.1,j.2.2))))) (
 let r:=(↑(List.length f.1):Int)
 cond (r==0) (
 ao (ap f.2.2.1 f.2.2.2 6) (fun g=>
 let s:=(↑(List.length f.1):Int)
 cond (decide (30<s)) (
 ao (ap g.2.1 g.2.2 3) (fun n=>
 i (h,a,b,c,d,e,f.1,0,n.2.1,n.2.2))) (
 i (h,a,b,c,d,e,f.1,0,g.2.1,g.2.2)))) (
 let t:=(↑(List.length f.1):Int)
 cond (decide (30<t)) (
 ao (ap f.2.2.1 f.2.2.2 3) (fun o=>
 i (h,a,b,c,d,e,f.1,0,o.2.1,o.2.2))) (
 i (h,a,b,c,d,e,f.1,0,f.2.2.1,f.2.2.2)))))
def mG(N:Nat)(a:List am)(b c d:Int)(e:Bs)(f:List ak)(g:Bss)(h:Int):Ro:=de N a b c d e f g h (fun z=>aT N (cV N) z)
theorem rF(N:Nat)(a:List am)(c d g:Int)(i:Bs)(j:List ak)(k:Bss)(l:Int)(h:Tot (mG N a c d g i j k l) (fun z=>∃(m:List am)(n:Int)(rest:List aq),z.1.dimR=.tup []∧z.2=some [.ul .atype m,.int .i64 n]::rest∧b7 a c d g i j k l (m,n))):∃r,dw a c d g i j k l r:=FnC.finO (css:=[[.ul .atype a,.int .i64 c]]) sM (N:=N) ((cn _ (by kernel_rfl) rfl (fun C=>de N a c d g i j k l (fun z=>C 1000001 (aL z))) (fun C=>by kernel_rfl)).trans (Eq.trans (b:=de N a c d g i j k l (fun z=>bh N (ey N) (aL z))) (by kernel_rfl) (congrArg (de N a c d g i j k l) (funext fun z=>bj (aL) (ey N) (cV N) (rm N) N z)))) h fun _ ⟨m,n,_,e,f,q⟩=>⟨(m,n),e,⟨_,f⟩,q⟩
noncomputable def lr:ay:=tab (P:=Tryd.prog) [] [bA,je,pW] [] [xz]
def nE:IR:=Sq (Rs [Mv 26 9,Mv 27 1,Pp (.lens 28 27),Bi 29 .lss 26 28] (Cn 29 .skip (.exit 0))) (Sq (.block 1 (Rg [Mv 32 8,Mv 33 32,Gf 33 (.mov 34 1),Gf 33 (.mov 35 9),Gf 33 (.idx 36 34 35),Gf 33 (.bin 37 .eql 36 (.c (.int .u8 46))),Po 38 33 37,Mv 8 38])) (Rg [Mv 30 9,Bc 31 .add 30 1,Mv 9 31]))
def mH:IR:=Sq (Rs [Mv 39 8,Un 40 39,Mv 41 40,Gt 41 (.mov 42 2),Gt 41 (.bin 43 .neq 42 (kS [])),Pa 44 41 43] (Cn 44 (Rs [Mv 46 0,Mv 47 2,Pp (.bin 48 .add 47 (kS [46])),Mv 49 1,Bi 50 .add 48 49,Ca 51 75 [46,50],Mv 45 51,Ex_ 52 0 45,Ex_ 53 1 45,Mv 10 52,Mv 11 53] (Rs [Mv 54 11] (Cn 54 (Rs [Mv 55 10,Mv 6 55] .ret) .skip))) .skip)) (Rs [Mv 57 0,Mv 58 1,Ca 59 75 [57,58],Mv 56 59,Ex_ 60 0 56,Ex_ 61 1 56,Mv 12 60,Mv 13 61] (Sq (Rs [Mv 62 13,Un 63 62] (Cn 63 (Rs [Mv 64 0,Ca 65 38 [64,kI 4],Mv 6 65] .ret) .skip)) (Rs [Mv 66 12,Mv 6 66] .ret)))
def wH:IR:=Rs [Mi 6 0] (Rs [Mv 14 1,Ca 15 43 [14],Mv 7 15] (Sq (Rs [Mv 16 7,Bc 17 .geq 16 1,Mv 18 17,Gt 18 (.mov 19 7),Gt 18 (.bin 20 .leq 19 (kI 8)),Pa 21 18 20] (Cn 21 (Rs [Mv 22 0,Mv 23 7,Pp (.bld 24 [vI 0,vS,fu .str true,vI 0,fu .str true,.bool false,vS,vI 0,fu .afield true,fu (.num .i64) true] [(0,1,23)]),Ca 25 44 [22,24],Mv 6 25] .ret) .skip)) (Rs [Mb 8 false] (Sq (Rs [Mi 9 0] (.block 0 (.loop [0,1,2,8,9,1000000] 1 nE))) mH))))
def pc:List RV:=[.t 6]
theorem wI:FnC Tryd.prog lr [38,44,75,2000038,2000044,2000075] 1 pT Tryd.f39 wH pc:=fnC Tryd.func39
def uV(R:IR→(Ex→St→Ro)→St→Ro)(a:St→Ro):Ex→St→Ro:=(bO a [0,1,2,8,9,1000000] 1 (aJ 0 (kseq (R mH) (fin pc))))
abbrev gE:Type:=(Bs×Bs×Bool×Int×List am×Int)
def fU:gE→St:=fun(a,b,c,d,e,f)=>{env:=(.ptr 0 0::.str a::.str b::(U 5 (.bool c::.int .i64 d::(U 57 [])))),hp:=[some [.ul .atype e,.int .i64 f]]}
def jU(N:Nat):(St→Ro)→St→Ro:=fun a s=>run lr N nE (uV (run lr N) a) s
def dU(N:Nat)(c:gE→Ro):gE→Ro:=fun(d,i,n,j,a,b)=>
 let p:=(↑(List.length d):Int)
 cond (decide (j<p)) (
 cond n (
 let q:=(IntKind.wrap .i64 (j+1))
 c (d,i,true,q,a,b)) (
 chk (ixl j d) (
 let r:=(↑(UInt8.toNat (List.getD d (Int.toNat j) 0)):Int)
 let s:=(IntKind.wrap .i64 (j+1))
 c (d,i,(r==46),s,a,b)))) (
 cond (!n) (
 let t:=(!decide (i=([]:Bs)))
 cond t (
 chk (decide (List.length i+List.length ([46]:Bs)≤9223372036854775807)) (
 let o:=(i++([46]:Bs))
 chk (decide (List.length o+List.length d≤9223372036854775807)) (
 ao (bB a b (o++d)) (fun e=>
 cond e.2.1 (
 some (.int .i64 e.1,[some [.ul .atype e.2.2.1,.int .i64 e.2.2.2]])) (
 ao (bB e.2.2.1 e.2.2.2 d) (fun f=>
 cond (!f.2.1) (
 ao (ap f.2.2.1 f.2.2.2 4) (fun k=>
 some (.int .i64 k.1,[some [.ul .atype k.2.1,.int .i64 k.2.2]]))) (
 some (.int .i64 f.1,[some [.ul .atype f.2.2.1,.int .i64 f.2.2.2]])))))))) (
 ao (bB a b d) (fun g=>
 cond (!g.2.1) (
 ao (ap g.2.2.1 g.2.2.2 4) (fun l=>
 some (.int .i64 l.1,[some [.ul .atype l.2.1,.int .i64 l.2.2]]))) (
 some (.int .i64 g.1,[some [.ul .atype g.2.2.1,.int .i64 g.2.2.2]]))))) (
 ao (bB a b d) (fun h=>
 cond (!h.2.1) (
 ao (ap h.2.2.1 h.2.2.2 4) (fun m=>
 some (.int .i64 m.1,[some [.ul .atype m.2.1,.int .i64 m.2.2]]))) (
 some (.int .i64 h.1,[some [.ul .atype h.2.2.1,.int .i64 h.2.2.2]])))))
theorem tz(N:Nat):LB (jU N) fU (dU N):=fun _ _=>by kernel_rfl
def eL(N:Nat)(a:List am)(b:Int)(c f:Bs)(g:gE→Ro):Ro:=
 ao (gY c) (fun(d:Int)=>
 cond (decide (1≤d)) (
 cond (decide (d≤8)) (
 ao (cr a b d ([]:Bs) ([]:Bss) 0 ([]:Bss) false ([]:Bs) 0 ([]:List aN) ([]:List Int)) (fun e=>
 some (.int .i64 e.1,[some [.ul .atype e.2.1,.int .i64 e.2.2]]))) (
 g (c,f,false,0,a,b))) (
 g (c,f,false,0,a,b)))
def pd(N:Nat)(a:List am)(b:Int)(c d:Bs):Ro:=eL N a b c d (fun z=>aT N (dU N) z)
theorem uW(N:Nat)(a:List am)(c:Int)(d g:Bs)(h:Tot (pd N a c d g) (fun z=>∃(i:Int)(j:List am)(k:Int)(rest:List aq),z.1.dimR=.int .i64 i∧z.2=some [.ul .atype j,.int .i64 k]::rest∧jl a c d g (i,j,k))):∃r,dv a c d g r:=FnC.finO (css:=[[.ul .atype a,.int .i64 c]]) wI (N:=N) ((cn _ (by kernel_rfl) rfl (fun C=>eL N a c d g (fun z=>C 1000000 (fU z))) (fun C=>by kernel_rfl)).trans (Eq.trans (b:=eL N a c d g (fun z=>bh N (jU N) (fU z))) (by kernel_rfl) (congrArg (eL N a c d g) (funext fun z=>bj (fU) (jU N) (dU N) (tz N) N z)))) h fun _ ⟨i,j,k,_,e,f,q⟩=>⟨(i,j,k),e,⟨_,f⟩,q⟩
noncomputable def bu:ay:=tab (P:=Tryd.prog) [] [iE,bA,je] [76] [aeS]
def l7:IR:=Sq (Rs [Mv 70 13,Mv 71 10,Ll 72 71,Bi 73 .lss 70 72] (Cn 73 .skip (.exit 2))) (Sq (.block 3 (Sq (.gh (.opn (.cell 0 0)) (.ghp (.cls (.cell 0 0)) (.reg [Mv 76 0,Nk 77 76,Fa 78 0 77,Fo [0] [] (.ld 79 1 true false 78),Mv 80 10,Mv 81 13,Ix 82 (.num .i64) 80 81,Lq 83 82,Fo [0,1] [] (.call 84 76 [79,83]),Mv 85 0,Nk 86 85,Fa 87 0 86,Fo [0] [] (.ld 88 1 true false 87),Mv 89 12,Fo [0,1] [] (.call 90 76 [88,89]),Bi 91 .eql 84 90] [[],[0],[0,1],[0,1,2],[],[],[4,5],[4,5,6],rg 0 7,[],[9],[9,10],[9,10,11],[],rg 0 13,rg 0 14]))) (Cn 91 (Rs [Mv 92 0,Ca 93 38 [92,kI 6],Mv 8 93] .ret) .skip))) (Rg [Mv 74 13,Bc 75 .add 74 1,Mv 13 75]))
def l8:IR:=Rg [Pp (.mov 94 (.tk 10)),Mv 95 12,Pp (.bsl 96 (.num .i64) [95] true),Pp (.app 97 (.num .i64) (.tk 94) 96),Pp (.mov 10 (.tk 97))]
def l9:IR:=Rg [Mv 41 11,Bc 42 .add 41 1,Mv 11 42]
def ez:IR:=Sq (Rs [Mv 29 11,Fa 30 3 5,Lq 31 30,Ll 32 31,Bi 33 .lss 29 32,Mv 34 33,Gt 34 (.mov 35 0),Gt 34 (.nck 36 35),Gt 34 (.fad 37 1 36),Gt 34 (.ld 38 1 false false 37),Gt 34 (.bin 39 .eql 38 (kI 0)),Pa 40 34 39] (Cn 40 .skip (.exit 0))) (Sq (.block 1 (Rs [Mv 43 0,Fa 44 3 5,Lq 45 44,Mv 46 11,Ix 47 .jnode 45 46,Ld 48 5 true 47,Mv 49 2,Mv 50 3,Bc 51 .add 50 1,Ca 52 23 [43,48,49,51],Mv 12 52] (Sq (Rs [Mv 53 0,Nk 54 53,Fa 55 1 54,Lo 56 55,Bc 57 .neq 56 0] (Cn 57 (Rs [Mi 8 0] .ret) .skip)) (Sq (Sq (.gh (.opn (.cell 0 0)) (.ghp (.cls (.cell 0 0)) (Rg [Mv 58 0,Nk 59 58,Fa 60 0 59,Fa 61 0 60,Lo 62 61,Mv 63 12,Pp (.ixw 64 .atype 62 63),Pp (.fdw 65 0 64),Pp (.ldw 66 1 false 65),Bc 67 .eql 66 14]))) (Cn 67 (Rs [Mv 68 0,Ca 69 38 [68,kI 6],Mv 8 69] .ret) .skip)) (Sq (Rs [Mi 13 0] (.block 2 (.loop [0,2,3,5,9,10,11,12,13,1000000] 1 l7))) l8))))) l9)
def iq:IR:=Sq (Rs [Mv 98 0,Nk 99 98,Fa 100 1 99,Lo 101 100,Bc 102 .eql 101 0] (Cn 102 (.gh (.opn (.cell 0 0)) (.ghp (.cls (.cell 0 0)) (Rg [Mv 103 0,Nk 104 103,Fa 105 0 104,Fa 106 0 105,Lo 107 106,Mv 108 9,Mv 109 10,Pp (.ixw 110 .atype 107 108),Pp (.fdw 111 9 110),Pp (.stw none 1 111 109)]))) .skip)) (Rs [Mv 112 9,Mv 8 112] .ret)
def uX:IR:=Rs [Bx 5 1,Mi 8 0] (Rs [Mv 14 0,Pp (.bld 15 [vI 0,vS,fu .str true,vI 0,fu .str true,.bool false,vS,vI 0,fu .afield true,fu (.num .i64) true] [(0,1,kI 14)]),Ca 16 44 [14,15],Mv 9 16] (Sq (Rs [Fa 17 3 5,Lq 18 17,Ll 19 18,Bc 20 .eql 19 0] (Cn 20 (Rs [Mv 21 0,Ca 22 38 [21,kI 6],Mv 8 22] .ret) .skip)) (Sq (Rs [Fa 23 3 5,Lq 24 23,Ll 25 24,Bc 26 .gtr 25 30] (Cn 26 (Rs [Mv 27 0,Ca 28 38 [27,kI 3],Mv 8 28] .ret) .skip)) (Rs [Pp (.mov 10 (.c (nl (.num .i64))))] (Sq (Rs [Mi 11 0] (.block 0 (.loop [0,2,3,5,9,10,11,1000001] 1 ez))) iq)))))
def jV:List RV:=[.t 8]
theorem uY:FnC Tryd.prog bu [23,38,44,76,2000023,2000038,2000044,2000076] 1 oT Tryd.f40 uX jV:=fnC Tryd.func40
def fV(R:IR→(Ex→St→Ro)→St→Ro)(a:St→Ro):Ex→St→Ro:=(bO a [0,2,3,5,9,10,11,1000001] 1 (aJ 0 (kseq (R iq) (fin jV))))
abbrev bJ:Type:=(Bs×Int×Int×Int×Bs×List ak×Bss×Int×List Int×Int×List am×Int)
def aS:bJ→St:=fun(c,d,e,f,g,h,i,j,k,l,a,b)=>{env:=(.ptr 0 0::.undef::.str c::.int .i64 d::.undef::.ea [.int .i64 e,.int .i64 f,.str g,.sl .jnode (.may false) h,.sl .str (.may false) i]::(U 3 (.int .i64 j::.sl (.num .i64) .own k::.int .i64 l::(U 101 [])))),hp:=[some [.ul .atype a,.int .i64 b]]}
def tC(R:IR→(Ex→St→Ro)→St→Ro)(a b:St→Ro):Ex→St→Ro:=(bO b [0,2,3,5,9,10,11,12,13,1000000] 1 (aJ 2 (kseq (R l8) (aJ 1 (kseq (R l9) (fV R a))))))
abbrev fW:Type:=(Bs×Int×Int×Int×Bs×List ak×Bss×Int×List Int×Int×Int×Int×List am×Int)
def dg:fW→St:=fun(e,f,g,h,i,j,k,l,m,n,a,b,c,d)=>{env:=(.ptr 0 0::.undef::.str e::.int .i64 f::.undef::.ea [.int .i64 g,.int .i64 h,.str i,.sl .jnode (.may false) j,.sl .str (.may false) k]::(U 3 (.int .i64 l::.sl (.num .i64) .own m::.int .i64 n::.int .i64 a::.int .i64 b::(U 99 [])))),hp:=[some [.ul .atype c,.int .i64 d]]}
def fX(N:Nat)(a:St→Ro):(St→Ro)→St→Ro:=fun b s=>run bu N l7 (tC (run bu N) a b) s
def dy(N:Nat)(d:bJ→Ro)(e:fW→Ro):fW→Ro:=fun(q,r,h,i,j,k,l,s,b,m,f,g,a,c)=>
 let t:=(↑(List.length b):Int)
 cond (decide (g<t)) (
 chk (decide (0<List.length a)) (
 chk (ixl g b) (
 let u:=List.getD b (Int.toNat g) (az (.num .i64))
 uq (kp a u) (Nat.beq (List.length a) (List.length a)&&true) (fun(v:Bs)=>
 uq (kp a f) (Nat.beq (List.length a) (List.length a)&&true) (fun(w:Bs)=>
 chk (Nat.beq (List.length a) (List.length a)) (
 cond (decide (v=w)) (
 ao (ap a c 6) (fun n=>
 some (.int .i64 n.1,[some [.ul .atype n.2.1,.int .i64 n.2.2],none,none]))) (
 let x:=(IntKind.wrap .i64 (g+1))
 e (q,r,h,i,j,k,l,s,b,m,f,x,a,c)))))))) (
 chk (decide ((List.length b+List.length ([f]:List Int))*8≤140737488355328)) (
 let o:=(b++([f]:List Int))
 let p:=(IntKind.wrap .i64 (m+1))
 d (q,r,h,i,j,k,l,s,o,p,a,c)))
theorem sN(N:Nat)(a:St→Ro):LB (fX N a) dg (dy N (fun y=>a (aS y))):=fun _ _=>by kernel_rfl
def fY(N:Nat):(St→Ro)→St→Ro:=fun a s=>run bu N ez (fV (run bu N) a) s
def fl(N:Nat)(r:bJ→Ro)(y:fW→Ro):bJ→Ro:=fun(v,w,i,j,k,e,m,f,h,g,a,b)=>
 let z:=(↑(List.length e):Int)
 let t:=fun g0 g1 g2=>(some (.int .i64 g0,[some [.ul .atype g1,.int .i64 g2],none,none]):Ro)
 let x:=(some (.int .i64 f,[some [.ul .atype a,.int .i64 b]]):Ro)
 cond (decide (g<z)) (
 cond (b==0) (
 chk (ixl g e) (
 let o:=(List.getD e (Int.toNat g) (az .jnode))
 let x5:=(IntKind.wrap .i64 (w+1))
 ao (bq a b o.kind o.n o.s o.l o.names v x5) (fun d=>
 cond (!(d.2.2==0)) (
 some (.int .i64 0,[some [.ul .atype d.2.1,.int .i64 d.2.2]])) (
 chk (decide (0<List.length d.2.1)) (
 chk (decide (0≤d.1)&&decide (d.1<↑(List.length d.2.1))) (
 chk (decide ((Int.toNat d.1)<List.length d.2.1)) (
 let x6:=(List.getD d.2.1 (Int.toNat d.1) (az .atype)).kind
 chk (Nat.beq (List.length d.2.1) (List.length d.2.1)) (
 cond (x6==14) (
 ao (ap d.2.1 d.2.2 6) (fun u=>
 t u.1 u.2.1 u.2.2)) (
 y (v,w,i,j,k,e,m,f,h,g,d.1,0,d.2.1,d.2.2)))))))))) (
 cond (b==0) (
 chk (decide (0<List.length a)) (
 chk (decide (0≤f)&&decide (f<↑(List.length a))) (
 chk (decide ((Int.toNat f)<List.length a)) (
 let p:=(List.set a (Int.toNat f) (let c:=List.getD a (Int.toNat f) (az .atype);⟨c.kind,c.name,c.aliases,c.items,c.syms,c.hasdef,c.df,c.size,c.fields,h⟩))
 chk (Nat.beq (List.length a) (List.length p)) (
 t f p b))))) (
 x))) (
 cond (b==0) (
 chk (decide (0<List.length a)) (
 chk (decide (0≤f)&&decide (f<↑(List.length a))) (
 chk (decide ((Int.toNat f)<List.length a)) (
 let q:=(List.set a (Int.toNat f) (let c:=List.getD a (Int.toNat f) (az .atype);⟨c.kind,c.name,c.aliases,c.items,c.syms,c.hasdef,c.df,c.size,c.fields,h⟩))
 chk (Nat.beq (List.length a) (List.length q)) (
 t f q b))))) (
 x))
def fZ(N:Nat)(a:bJ→Ro)(x:bJ):Ro:=fl N a (fun z=>aT N (dy N a) z) x
def jv(N:Nat)(a:St→Ro):List (Nat×(St→Ro)):=(ca bu N ez (fV (run bu N) a)++(ca bu N iq (fin jV)++[]))
theorem sO(N:Nat):∀(a:St→Ro)(x:bJ),fY N a (aS x)=fZ N (fun y=>a (aS y)) x:=by
 intro a x
 have hX:∀C:Nat→St→Ro,bW C bu N ez (fV (bW C bu N) a) (aS x)=fl N (fun y=>a (aS y)) (fun z=>C 1000000 (dg z)) x:=by
  intro C
  kernel_rfl
 have h:fY N a (aS x)=fl N (fun y=>a (aS y)) (fun z=>bh N (fX N a) (dg z)) x:=(eX (C:=ic (jv N a)) (cE (bb (l:=(jv N a)) (by kernel_rfl))) (pP (eW (jJ (cE (fL (bb (l:=(jv N a)) (by kernel_rfl)))) rfl))) _).trans ((hX _).trans (by kernel_rfl))
 have e1:(fun z=>bh N (fX N a) (dg z))=(fun z=>aT N (dy N (fun y=>a (aS y))) z):=funext fun z=>bj (dg) (fX N a) (dy N (fun y=>a (aS y))) (sN N a) N z
 rw[h,e1]
 rfl
def dV(N:Nat)(c:List am)(d e f:Int)(g:Bs)(a:List ak)(h:Bss)(k:Bs)(l:Int)(m:bJ→Ro):Ro:=
 ao (cr c d 14 ([]:Bs) ([]:Bss) 0 ([]:Bss) false ([]:Bs) 0 ([]:List aN) ([]:List Int)) (fun b=>
 let n:=(↑(List.length a):Int)
 cond (n==0) (
 ao (ap b.2.1 b.2.2 6) (fun i=>
 some (.int .i64 i.1,[some [.ul .atype i.2.1,.int .i64 i.2.2]]))) (
 let o:=(↑(List.length a):Int)
 cond (decide (30<o)) (
 ao (ap b.2.1 b.2.2 3) (fun j=>
 some (.int .i64 j.1,[some [.ul .atype j.2.1,.int .i64 j.2.2]]))) (
 m (k,l,e,f,g,a,h,b.1,([]:List Int),0,b.2.1,b.2.2))))
def ov(N:Nat)(a:List am)(b c d:Int)(e:Bs)(f:List ak)(g:Bss)(h:Bs)(i:Int):Ro:=dV N a b c d e f g h i (fun z=>aT N (fZ N) z)
theorem tD(N:Nat)(a:List am)(c d g:Int)(i:Bs)(j:List ak)(k:Bss)(l:Bs)(m:Int)(h:Tot (ov N a c d g i j k l m) (fun z=>∃(n:Int)(o:List am)(p:Int)(rest:List aq),z.1.dimR=.int .i64 n∧z.2=some [.ul .atype o,.int .i64 p]::rest∧ms a c d g i j k l m (n,o,p))):∃r,eG a c d g i j k l m r:=FnC.finO (css:=[[.ul .atype a,.int .i64 c]]) uY (N:=N) ((cn _ (by kernel_rfl) rfl (fun C=>dV N a c d g i j k l m (fun z=>C 1000001 (aS z))) (fun C=>by kernel_rfl)).trans (Eq.trans (b:=dV N a c d g i j k l m (fun z=>bh N (fY N) (aS z))) (by kernel_rfl) (congrArg (dV N a c d g i j k l m) (funext fun z=>bj (aS) (fY N) (fZ N) (sO N) N z)))) h fun _ ⟨n,o,p,_,e,f,q⟩=>⟨(n,o,p),e,⟨_,f⟩,q⟩
noncomputable def aB:ay:=tab (P:=Tryd.prog) [] [iE,bA,ll,ks] [] [lI,su]
def dW:IR:=Sq (Rs [Mv 81 16,Mv 82 12,Ll 83 82,Bi 84 .lss 81 83] (Cn 84 .skip (.exit 2))) (Sq (.block 3 (Sq (.reg [Mv 87 12,Mv 88 16,Ix 89 .afield 87 88,Fa 90 0 89,Fo [] [] (.ld 91 1 false false 90),Fa 92 0 15,Fo [1] [] (.ld 93 1 false false 92),Bi 94 .eql 91 93] [[],[],[0,1],[0,1,2],rg 0 3,[],[5],rg 0 6]) (Cn 94 (Rg [Mv 95 0,Ca 96 38 [95,kI 5]]) .skip))) (Rg [Mv 85 16,Bc 86 .add 85 1,Mv 16 86]))
def lu:IR:=Sq (Rs [Mv 127 19,Fa 128 1 15,Lo 129 128,Ll 130 129,Bi 131 .lss 127 130,Mv 132 131,Gt 132 (.mov 133 0),Gt 132 (.nck 134 133),Gt 132 (.fad 135 1 134),Gt 132 (.ld 136 1 false false 135),Gt 132 (.bin 137 .eql 136 (kI 0)),Pa 138 132 137] (Cn 138 .skip (.exit 4))) (Sq (.block 5 (Rs [Fa 141 1 15,Lo 142 141,Mv 143 19,Ix 144 .str 142 143,Lq 145 144,Ca 146 104 [145],Un 147 146] (Cn 147 (Rg [Mv 148 0,Ca 149 38 [148,kI 6]]) .skip))) (Rg [Mv 139 19,Bc 140 .add 139 1,Mv 19 140]))
def lv:IR:=Rg [Pp (.mov 150 (.tk 12)),Pp (.ld 151 9 true false 15),Pp (.bsl 152 .afield [151] true),Pp (.app 153 .afield (.tk 150) 152),Pp (.mov 12 (.tk 153))]
def hJ:IR:=Rs [Ld 98 5 true 14,Ca 99 41 [98,kS [116,121,112,101]],Mv 97 99,Ex_ 100 0 97,Ex_ 101 1 97,Pp (.alr 17 5),Fz 17 5 100,Mv 18 101] (Sq (Rs [Mv 102 18,Un 103 102] (Cn 103 (Rg [Mv 104 0,Ca 105 38 [104,kI 2]]) .skip)) (Rs [Mv 106 0,Ld 107 5 true 17,Mv 108 3,Mv 109 4,Bc 110 .add 109 1,Ca 111 23 [106,107,108,110],Fa 112 2 15,Sv 1 112 111] (Rs [Ld 114 5 true 14,Ca 115 41 [114,kS [100,101,102,97,117,108,116]],Mv 113 115,Ex_ 116 0 113,Ex_ 117 1 113,Fa 118 4 15,Sv 5 118 116,Fa 119 3 15,Sv 1 119 117] (Rs [Mv 121 0,Ld 122 5 true 14,Ca 123 80 [121,122,kS [97,108,105,97,115,101,115]],Mv 120 123,Ex_ 124 0 120,Ex_ 125 1 120,Fa 126 1 15,Sk 1 126 124] (Sq (Rs [Mi 19 0] (.block 4 (.loop [0,2,3,4,10,12,13,15,19,1000001] 2 lu))) lv)))))
def cL:IR:=Rg [Mv 52 13,Bc 53 .add 52 1,Mv 13 53]
def dX:IR:=Sq (Rs [Mv 40 13,Fa 41 3 10,Lq 42 41,Ll 43 42,Bi 44 .lss 40 43,Mv 45 44,Gt 45 (.mov 46 0),Gt 45 (.nck 47 46),Gt 45 (.fad 48 1 47),Gt 45 (.ld 49 1 false false 48),Gt 45 (.bin 50 .eql 49 (kI 0)),Pa 51 45 50] (Cn 51 .skip (.exit 0))) (Sq (.block 1 (Rs [Fa 54 3 10,Lq 55 54,Mv 56 13,Ix 57 .jnode 55 56,Ld 58 5 true 57,Pp (.alr 14 5),Fz 14 5 58] (Sq (Rs [Fa 59 0 14,Lq 60 59,Bc 61 .neq 60 6] (Cn 61 (Rs [Mv 62 0,Ca 63 38 [62,kI 2]] .ret) .skip)) (Rs [Mv 64 0,Ld 65 5 true 14,Ca 66 77 [64,65,kS [110,97,109,101],kB true],Pp (.bld 67 [vS,nl .str,vI 0,.bool false,vI 0,vI 0,vS,nl .jnode,nl .str] [(0,1,66)]),Pp (.new 15 [vS,nl .str,vI 0,.bool false,vI 0,vI 0,vS,nl .jnode,nl .str]),Sv 9 15 67] (Sq (Rs [Mv 68 0,Nk 69 68,Fa 70 1 69,Lo 71 70,Bc 72 .eql 71 0,Mv 73 72,Gt 73 (.fad 74 0 15),Gt 73 (.ld 75 1 false false 74),Gt 73 (.call 76 104 [75]),Gt 73 (.un 77 .not 76),Pa 78 73 77] (Cn 78 (Rg [Mv 79 0,Ca 80 38 [79,kI 6]]) .skip)) (Sq (Rs [Mi 16 0] (.block 2 (.loop [0,2,3,4,10,12,13,14,15,16,1000000] 2 dW))) hJ)))))) cL)
def dY:IR:=Rs [Mv 154 0,Nk 155 154,Fa 156 1 155,Lo 157 156,Bc 158 .eql 157 0] (Cn 158 (.gh (.opn (.cell 0 0)) (.ghp (.cls (.cell 0 0)) (Rg [Mv 159 0,Nk 160 159,Fa 161 0 160,Fa 162 0 161,Lo 163 162,Mv 164 2,Mv 165 12,Pp (.ixw 166 .atype 163 164),Pp (.fdw 167 8 166),Pp (.stw none 1 167 165)]))) .skip)
def tE:IR:=Rs [Bx 6 1] (Rs [Ld 21 5 true 6,Ca 22 41 [21,kS [102,105,101,108,100,115]],Mv 20 22,Ex_ 23 0 20,Ex_ 24 1 20,Pp (.alr 10 5),Fz 10 5 23,Mv 11 24] (Sq (Rs [Mv 25 11,Un 26 25,Mv 27 26,Gf 27 (.fad 28 0 10),Gf 27 (.lde 29 1 false 28),Gf 27 (.bin 30 .neq 29 (kI 5)),Po 31 27 30] (Cn 31 (Rs [Mv 32 0,Ca 33 38 [32,kI 2]] .ret) .skip)) (Sq (Rs [Fa 34 3 10,Lq 35 34,Ll 36 35,Bc 37 .gtr 36 30] (Cn 37 (Rs [Mv 38 0,Ca 39 38 [38,kI 3]] .ret) .skip)) (Rs [Pp (.mov 12 (.c (nl .afield)))] (Sq (Rs [Mi 13 0] (.block 0 (.loop [0,2,3,4,10,12,13,1000002] 1 dX))) dY)))))
def f6:List RV:=[]
theorem tF:FnC Tryd.prog aB [23,38,77,80,2000023,2000038,2000077,2000080] 1 n8 Tryd.f81 tE f6:=fnC Tryd.func81
def bQ(R:IR→(Ex→St→Ro)→St→Ro)(a:St→Ro):Ex→St→Ro:=(bO a [0,2,3,4,10,12,13,1000002] 1 (aJ 0 (kseq (R dY) (fin f6))))
abbrev be:Type:=(Int×Bs×Int×Int×Int×Bs×List ak×Bss×List aN×Int×List am×Int)
def aD:be→St:=fun(c,d,e,f,g,h,i,j,k,l,a,b)=>{env:=(.ptr 0 0::.undef::.int .i64 c::.str d::.int .i64 e::(U 5 (.ea [.int .i64 f,.int .i64 g,.str h,.sl .jnode (.may false) i,.sl .str (.may false) j]::.undef::.sl .afield .own k::.int .i64 l::(U 154 [])))),hp:=[some [.ul .atype a,.int .i64 b]]}
def iU(R:IR→(Ex→St→Ro)→St→Ro)(a b:St→Ro):Ex→St→Ro:=(bO b [0,2,3,4,10,12,13,14,15,16,1000000] 2 (aJ 2 (kseq (R hJ) (aJ 1 (kseq (R cL) (bQ R a))))))
abbrev bR:Type:=(Int×Bs×Int×Int×Int×Bs×List ak×Bss×List aN×Int×Int×Int×Bs×List ak×Bss×Int×List am×Int×Bs×Bss×Int×Bool×Int×Int×Bs×List ak×Bss)
def aY:bR→St:=fun(r,s,t,u,v,w,x,y,z,x9,a,b,c,d,e,f,g,h,i,j,k,l,m,n,o,p,q)=>{env:=(.ptr 0 0::.undef::.int .i64 r::.str s::.int .i64 t::(U 5 (.ea [.int .i64 u,.int .i64 v,.str w,.sl .jnode (.may false) x,.sl .str (.may false) y]::.undef::.sl .afield .own z::.int .i64 x9::.ea [.int .i64 a,.int .i64 b,.str c,.sl .jnode (.may false) d,.sl .str (.may false) e]::.ptr 1 0::.int .i64 f::(U 151 [])))),hp:=[some [.ul .atype g,.int .i64 h],some [.str i,.sl .str .own j,.int .i64 k,.bool l,.int .i64 m,.int .i64 n,.str o,.sl .jnode .own p,.sl .str .own q]]}
def sP(R:IR→(Ex→St→Ro)→St→Ro)(a b:St→Ro):Ex→St→Ro:=(bO b [0,2,3,4,10,12,13,15,19,1000001] 2 (aJ 4 (kseq (R lv) (aJ 1 (kseq (R cL) (bQ R a))))))
abbrev fm:Type:=(Int×Bs×Int×Int×Int×Bs×List ak×Bss×List aN×Int×Int×List am×Int×Bs×Bss×Int×Bool×Int×Int×Bs×List ak×Bss)
def cW:fm→St:=fun(m,n,o,p,q,r,s,t,u,v,a,b,c,d,e,f,g,h,i,j,k,l)=>{env:=(.ptr 0 0::.undef::.int .i64 m::.str n::.int .i64 o::(U 5 (.ea [.int .i64 p,.int .i64 q,.str r,.sl .jnode (.may false) s,.sl .str (.may false) t]::.undef::.sl .afield .own u::.int .i64 v::.undef::.ptr 1 0::(U 3 (.int .i64 a::(U 148 [])))))),hp:=[some [.ul .atype b,.int .i64 c],some [.str d,.sl .str (.may false) e,.int .i64 f,.bool g,.int .i64 h,.int .i64 i,.str j,.sl .jnode (.may false) k,.sl .str (.may false) l]]}
def fo(N:Nat)(a:St→Ro):(St→Ro)→St→Ro:=fun b s=>run aB N lu (sP (run aB N) a b) s
def bS(N:Nat)(s:be→Ro)(t:fm→Ro):fm→Ro:=fun(v2,v3,v4,k,l,m,n,o,p,u,q,r,j,b,a,c,d,e,f,g,h,i)=>
 let x9:=(↑(List.length a):Int)
 let z0:=fun w x g2=>t (v2,v3,v4,k,l,m,n,o,p,u,w,x,g2,b,a,c,d,e,f,g,h,i)
 let z1:=fun w x=>s (v2,v3,v4,k,l,m,n,o,w,x,r,j)
 cond (decide (q<x9)) (
 cond (j==0) (
 chk (ixl q a) (
 let y:=List.getD a (Int.toNat q) (az .str)
 ao (fe y) (fun(z:Bool)=>
 cond (!z) (
 ao (ap r j 6) (fun v=>
 let aa:=(IntKind.wrap .i64 (q+1))
 z0 aa v.2.1 v.2.2)) (
 let ab:=(IntKind.wrap .i64 (q+1))
 z0 ab r j)))) (
 chk (decide ((List.length p+List.length ([⟨b,a,c,d,⟨e,f,g,h,i⟩⟩]:List aN))*136≤140737488355328)) (
 let ac:=(p++([⟨b,a,c,d,⟨e,f,g,h,i⟩⟩]:List aN))
 let ad:=(IntKind.wrap .i64 (u+1))
 z1 ac ad))) (
 chk (decide ((List.length p+List.length ([⟨b,a,c,d,⟨e,f,g,h,i⟩⟩]:List aN))*136≤140737488355328)) (
 let ae:=(p++([⟨b,a,c,d,⟨e,f,g,h,i⟩⟩]:List aN))
 let af:=(IntKind.wrap .i64 (u+1))
 z1 ae af))
theorem rG(N:Nat)(a:St→Ro):LB (fo N a) cW (bS N (fun y=>a (aD y))):=fun _ _=>by kernel_rfl
def dh(N:Nat)(a:St→Ro):(St→Ro)→St→Ro:=fun b s=>run aB N dW (iU (run aB N) a b) s
def eA(N:Nat)(aj:be→Ro)(s:bR→Ro)(q2:fm→Ro):bR→Ro:=fun(v2,y,z,g,h,i,j,k,o,t,a,b,c,d,e,r,l,m,n,aa,ab,ac,ad,ae,af,ag,ah)=>
 let x4:=(↑(List.length o):Int)
 let z0:=fun g0 g1 g2=>s (v2,y,z,g,h,i,j,k,o,t,a,b,c,d,e,g0,g1,g2,n,aa,ab,ac,ad,ae,af,ag,ah)
 cond (decide (r<x4)) (
 chk (ixl r o) (
 let x5:=(List.getD o (Int.toNat r) (az .afield))
 cond (decide (x5.name=n)) (
 ao (ap l m 5) (fun r9=>
 let x6:=(IntKind.wrap .i64 (r+1))
 z0 x6 r9.2.1 r9.2.2)) (
 let x7:=(IntKind.wrap .i64 (r+1))
 z0 x7 l m))) (
 ao (bP a b c d e ([116,121,112,101]:Bs)) (fun f=>
 cond (!f.2.2.2.2.2) (
 ao (ap l m 2) (fun ai=>
 let x8:=(IntKind.wrap .i64 (z+1))
 ao (bq ai.2.1 ai.2.2 f.1 f.2.1 f.2.2.1 f.2.2.2.1 f.2.2.2.2.1 y x8) (fun u=>
 ao (bP a b c d e ([100,101,102,97,117,108,116]:Bs)) (fun p=>
 ao (bI u.2.1 u.2.2 a b c d e ([97,108,105,97,115,101,115]:Bs)) (fun v=>
 q2 (v2,y,z,g,h,i,j,k,o,t,0,v.2.2.1,v.2.2.2,n,v.1,u.1,p.2.2.2.2.2,p.1,p.2.1,p.2.2.1,p.2.2.2.1,p.2.2.2.2.1)))))) (
 let al:=(IntKind.wrap .i64 (z+1))
 ao (bq l m f.1 f.2.1 f.2.2.1 f.2.2.2.1 f.2.2.2.2.1 y al) (fun w=>
 ao (bP a b c d e ([100,101,102,97,117,108,116]:Bs)) (fun q=>
 ao (bI w.2.1 w.2.2 a b c d e ([97,108,105,97,115,101,115]:Bs)) (fun x=>
 q2 (v2,y,z,g,h,i,j,k,o,t,0,x.2.2.1,x.2.2.2,n,x.1,w.1,q.2.2.2.2.2,q.1,q.2.1,q.2.2.1,q.2.2.2.1,q.2.2.2.2.1)))))))
def cq(N:Nat)(a:be→Ro)(b:bR→Ro)(x:bR):Ro:=eA N a b (fun z=>aT N (bS N a) z) x
def di(N:Nat)(a b:St→Ro):List (Nat×(St→Ro)):=(ca aB N dW (iU (run aB N) a b)++(ca aB N hJ (aJ 1 (kseq (run aB N cL) (bQ (run aB N) a)))++(ca aB N cL (bQ (run aB N) a)++(ca aB N dY (fin f6)++[]))))
theorem rH(N:Nat)(a:St→Ro):∀(b:St→Ro)(x:bR),dh N a b (aY x)=cq N (fun y=>a (aD y)) (fun y=>b (aY y)) x:=by
 intro b x
 have hX:∀C:Nat→St→Ro,bW C aB N dW (iU (bW C aB N) a b) (aY x)=eA N (fun y=>a (aD y)) (fun y=>b (aY y)) (fun z=>C 1000001 (cW z)) x:=by
  intro C
  kernel_rfl
 have h:dh N a b (aY x)=eA N (fun y=>a (aD y)) (fun y=>b (aY y)) (fun z=>bh N (fo N a) (cW z)) x:=(eX (C:=ic (di N a b)) (cE (bb (l:=(di N a b)) (by kernel_rfl))) (pP (eW (jJ (cE (fL (bb (l:=(di N a b)) (by kernel_rfl)))) (eW (jJ (cE (fL (fL (bb (l:=(di N a b)) (by kernel_rfl))))) (pP (eW (jJ (cE (fL (fL (fL (bb (l:=(di N a b)) (by kernel_rfl)))))) rfl)))))))) _).trans ((hX _).trans (by kernel_rfl))
 have e2:(fun z=>bh N (fo N a) (cW z))=(fun z=>aT N (bS N (fun y=>a (aD y))) z):=funext fun z=>bj (cW) (fo N a) (bS N (fun y=>a (aD y))) (rG N a) N z
 rw[h,e2]
 rfl
def fp(N:Nat):(St→Ro)→St→Ro:=fun a s=>run aB N dX (bQ (run aB N) a) s
def eB(N:Nat)(t:be→Ro)(q1:bR→Ro):be→Ro:=fun(f,v3,v4,i,j,k,d,m,o,h,a,b)=>
 let x2:=(↑(List.length d):Int)
 let u:=fun p v=>(some (.tup [],[some [.ul .atype p,.int .i64 v]]):Ro)
 let x:=fun p=>(some (.tup [],[some [.ul .atype p,.int .i64 b],none,none]):Ro)
 let w:=fun p v g2 g3 g4 g5 g6 g7=>q1 (f,v3,v4,i,j,k,d,m,o,h,p,v,g2,g3,g4,0,g5,g6,g7,([]:Bss),0,false,0,0,([]:Bs),([]:List ak),([]:Bss))
 cond (decide (h<x2)) (
 cond (b==0) (
 chk (ixl h d) (
 let c:=(List.getD d (Int.toNat h) (az .jnode))
 cond (!(c.kind==6)) (
 ao (ap a b 2) (fun y=>
 u y.2.1 y.2.2)) (
 ao (cb a b c.kind c.n c.s c.l c.names ([110,97,109,101]:Bs) true) (fun g=>
 cond (g.2.2==0) (
 ao (fe g.1) (fun(r7:Bool)=>
 cond (!r7) (
 ao (ap g.2.1 g.2.2 6) (fun z=>
 w c.kind c.n c.s c.l c.names z.2.1 z.2.2 g.1)) (
 w c.kind c.n c.s c.l c.names g.2.1 g.2.2 g.1))) (
 w c.kind c.n c.s c.l c.names g.2.1 g.2.2 g.1))))) (
 cond (b==0) (
 chk (decide (0<List.length a)) (
 chk (decide (0≤f)&&decide (f<↑(List.length a))) (
 chk (decide ((Int.toNat f)<List.length a)) (
 let q:=(List.set a (Int.toNat f) (let e:=List.getD a (Int.toNat f) (az .atype);⟨e.kind,e.name,e.aliases,e.items,e.syms,e.hasdef,e.df,e.size,o,e.branches⟩))
 chk (Nat.beq (List.length a) (List.length q)) (
 x q))))) (
 u a b))) (
 cond (b==0) (
 chk (decide (0<List.length a)) (
 chk (decide (0≤f)&&decide (f<↑(List.length a))) (
 chk (decide ((Int.toNat f)<List.length a)) (
 let r:=(List.set a (Int.toNat f) (let e:=List.getD a (Int.toNat f) (az .atype);⟨e.kind,e.name,e.aliases,e.items,e.syms,e.hasdef,e.df,e.size,o,e.branches⟩))
 chk (Nat.beq (List.length a) (List.length r)) (
 x r))))) (
 u a b))
def fq(N:Nat)(a:be→Ro)(x:be):Ro:=eB N a (fun z=>aT N (cq N a) z) x
def iV(N:Nat)(a:St→Ro):List (Nat×(St→Ro)):=(ca aB N dX (bQ (run aB N) a)++(ca aB N dY (fin f6)++[]))
theorem rI(N:Nat):∀(a:St→Ro)(x:be),fp N a (aD x)=fq N (fun y=>a (aD y)) x:=by
 intro a x
 have hX:∀C:Nat→St→Ro,bW C aB N dX (bQ (bW C aB N) a) (aD x)=eB N (fun y=>a (aD y)) (fun z=>C 1000000 (aY z)) x:=by
  intro C
  kernel_rfl
 have h:fp N a (aD x)=eB N (fun y=>a (aD y)) (fun z=>bh N (dh N a) (aY z)) x:=(eX (C:=ic (iV N a)) (cE (bb (l:=(iV N a)) (by kernel_rfl))) (pP (eW (jJ (cE (fL (bb (l:=(iV N a)) (by kernel_rfl)))) rfl))) _).trans ((hX _).trans (by kernel_rfl))
 have e1:(fun z=>bh N (dh N a) (aY z))=(fun z=>aT N (cq N (fun y=>a (aD y))) z):=funext fun z=>bj (aY) (dh N a) (cq N (fun y=>a (aD y))) (rH N a) N z
 rw[h,e1]
 rfl
def dz(N:Nat)(a:List am)(b d e:Int)(f:Bs)(g:List ak)(h:Bss)(m:Int)(n:Bs)(o:Int)(p:be→Ro):Ro:=
 let i:=fun q r=>(some (.tup [],[some [.ul .atype q,.int .i64 r]]):Ro)
 ao (bP d e f g h ([102,105,101,108,100,115]:Bs)) (fun c=>
 cond (!c.2.2.2.2.2) (
 ao (ap a b 2) (fun j=>
 i j.2.1 j.2.2)) (
 cond (!(c.1==5)) (
 ao (ap a b 2) (fun k=>
 i k.2.1 k.2.2)) (
 let s:=(↑(List.length c.2.2.2.1):Int)
 cond (decide (30<s)) (
 ao (ap a b 3) (fun l=>
 i l.2.1 l.2.2)) (
 p (m,n,o,c.1,c.2.1,c.2.2.1,c.2.2.2.1,c.2.2.2.2.1,([]:List aN),0,a,b)))))
def nF(N:Nat)(a:List am)(b c d:Int)(e:Bs)(f:List ak)(g:Bss)(h:Int)(i:Bs)(j:Int):Ro:=dz N a b c d e f g h i j (fun z=>aT N (fq N) z)
theorem sQ(N:Nat)(a:List am)(c d g:Int)(i:Bs)(j:List ak)(k:Bss)(l:Int)(m:Bs)(n:Int)(h:Tot (nF N a c d g i j k l m n) (fun z=>∃(o:List am)(p:Int)(rest:List aq),z.1.dimR=.tup []∧z.2=some [.ul .atype o,.int .i64 p]::rest∧ce a c d g i j k l m n (o,p))):∃r,dM a c d g i j k l m n r:=FnC.finO (css:=[[.ul .atype a,.int .i64 c]]) tF (N:=N) ((cn _ (by kernel_rfl) rfl (fun C=>dz N a c d g i j k l m n (fun z=>C 1000002 (aD z))) (fun C=>by kernel_rfl)).trans (Eq.trans (b:=dz N a c d g i j k l m n (fun z=>bh N (fp N) (aD z))) (by kernel_rfl) (congrArg (dz N a c d g i j k l m n) (funext fun z=>bj (aD) (fp N) (fq N) (rI N) N z)))) h fun _ ⟨o,p,_,e,f,q⟩=>⟨(o,p),e,⟨_,f⟩,q⟩
noncomputable def bd:ay:=tab (P:=Tryd.prog) [] [bA,je,pW,ll,wq,ks,uE,tc] [] [lI,abb]
def ft:IR:=Sq (Rs [Mv 59 17,Mv 60 15,Ll 61 60,Bi 62 .lss 59 61,Mv 63 62,Gt 63 (.mov 64 0),Gt 63 (.nck 65 64),Gt 63 (.fad 66 1 65),Gt 63 (.ld 67 1 false false 66),Gt 63 (.bin 68 .eql 67 (kI 0)),Pa 69 63 68] (Cn 69 .skip (.exit 0))) (Sq (.block 1 (.reg [Fa 72 2 14,Fo [] [1] (.ld 73 1 false true 72),Mv 74 0,Mv 75 15,Mv 76 17,Ix 77 .str 75 76,Lq 78 77,Mv 79 3,Fo [] [0] (.call 80 78 [74,78,79]),Pp (.bsl 81 .str [80] true),Pp (.app 82 .str (.tk 73) 81),Fa 83 2 14,Fo [] [1] (.st none 1 83 (.tk 82))] [[],[0],[],[],[],[3,4],[3,4,5],[],rg 2 7,rg 2 8,rg 0 9,rg 0 10,rg 0 11])) (Rg [Mv 70 17,Bc 71 .add 70 1,Mv 17 71]))
def ma:IR:=Sq (Rs [Mv 101 0,Nk 102 101,Fa 103 1 102,Lo 104 103,Bc 105 .neq 104 0] (Cn 105 (Rs [Mi 10 0] .ret) .skip)) (Rs [Mv 106 0,Pp (.ld 107 10 true false 14),Ca 108 44 [106,107],Mv 20 108] (Sq (Rs [Mv 109 2] (.block 2 (Rs [Bc 150 .eql 109 9,Mv 149 150] (Cn 149 (Rg [Mv 151 0,Ld 152 5 true 6,Mv 153 20,Mv 154 3,Mv 155 4,Ca 156 81 [151,152,153,154,155]]) (Rs [Bc 158 .eql 109 10,Mv 157 158] (Cn 157 (Rg [Mv 159 0,Ld 160 5 true 6,Mv 161 20,Ca 162 82 [159,160,161]]) (Rs [Ld 111 5 true 6,Ca 112 41 [111,kS [115,105,122,101]],Mv 110 112,Ex_ 113 0 110,Ex_ 114 1 110,Pp (.alr 21 5),Fz 21 5 113,Mv 22 114] (Sq (Rs [Mv 115 22,Un 116 115,Mv 117 116,Gf 117 (.fad 118 0 21),Gf 117 (.lde 119 1 false 118),Gf 117 (.bin 120 .neq 119 (kI 3)),Po 121 117 120] (Cn 121 (Rs [Mv 122 0,Ca 123 38 [122,kI 2],Mv 10 123] .ret) .skip)) (Sq (Rs [Fa 124 1 21,Lq 125 124,Bc 126 .lss 125 0,Mv 127 126,Gf 127 (.fad 128 1 21),Gf 127 (.lde 129 1 false 128),Gf 127 (.bin 130 .gtr 129 (kI 5000)),Po 131 127 130] (Cn 131 (Rs [Mv 132 0,Ca 133 38 [132,kI 6],Mv 10 133] .ret) .skip)) (Rs [Mv 134 0,Nk 135 134,Fa 136 1 135,Lo 137 136,Bc 138 .eql 137 0] (Cn 138 (.gh (.opn (.cell 0 0)) (.ghp (.cls (.cell 0 0)) (.reg [Mv 139 0,Nk 140 139,Fa 141 0 140,Fa 142 0 141,Fo [0] [] (.ld 143 1 false false 142),Mv 144 20,Fa 145 1 21,Lq 146 145,Pp (.ixw 147 .atype 143 144),Pp (.fdw 148 7 147),Fo [] [2] (.stw none 1 148 146)] [[],[0],[0,1],[0,1,2],rg 0 3,[],[],[6],rg 0 7,rg 0 8,rg 0 9]))) .skip))))))))))) (Rs [Mv 163 20,Mv 10 163] .ret)))
def iu:IR:=Rs [Mv 85 0,Fa 86 1 14,Lo 87 86,Ca 88 75 [85,87],Mv 84 88,Ex_ 89 0 84,Ex_ 90 1 84,Mv 18 89,Mv 19 90] (Sq (Rs [Mv 91 0,Nk 92 91,Fa 93 1 92,Lo 94 93,Bc 95 .eql 94 0,Mv 96 95,Gt 96 (.mov 97 19),Pa 98 96 97] (Cn 98 (Rg [Mv 99 0,Ca 100 38 [99,kI 5]]) .skip)) (.cut [0,2,3,4,6,14,1000001] 2 ma))
def eC:IR:=Sq (Rs [Mv 39 0,Nk 40 39,Fa 41 1 40,Lo 42 41,Bc 43 .neq 42 0] (Cn 43 (Rs [Mi 10 0] .ret) .skip)) (Rs [Mv 44 2,Mv 45 0,Mv 46 11,Mv 47 3,Ca 48 78 [45,46,47],Pp (.bld 49 [vI 0,vS,nl .str,vI 0,nl .str,.bool false,vS,vI 0,nl .afield,nl (.num .i64)] [(0,1,44),(1,1,48)]),Pp (.new 14 [vI 0,vS,nl .str,vI 0,nl .str,.bool false,vS,vI 0,nl .afield,nl (.num .i64)]),Sv 10 14 49] (Rs [Fa 50 1 14,Lo 51 50,Ca 52 79 [51],Mv 3 52] (Rs [Mv 54 0,Ld 55 5 true 6,Ca 56 80 [54,55,kS [97,108,105,97,115,101,115]],Mv 53 56,Ex_ 57 0 53,Ex_ 58 1 53,Mv 15 57,Mv 16 58] (Sq (Rs [Mi 17 0] (.block 0 (.loop [0,2,3,4,6,14,15,17,1000000] 2 ft))) iu))))
def uZ:IR:=Rs [Bx 6 1,Mi 10 0] (Rs [Mv 23 0,Ld 24 5 true 6,Ca 25 77 [23,24,kS [110,97,109,101],kB true],Mv 11 25] (Rs [Ld 27 5 true 6,Ca 28 41 [27,kS [110,97,109,101,115,112,97,99,101]],Mv 26 28,Ex_ 29 0 26,Ex_ 30 1 26,Pp (.alr 12 5),Fz 12 5 29,Mv 13 30] (Sq (Rs [Mv 31 13] (Cn 31 (Sq (Rs [Fa 32 0 12,Lq 33 32,Bc 34 .neq 33 4] (Cn 34 (Rg [Mv 35 0,Ca 36 38 [35,kI 2]]) .skip)) (Rg [Fa 37 2 12,Lq 38 37,Mv 3 38])) .skip)) (.cut [0,2,3,4,6,11,1000002] 1 eC))))
def ck:List RV:=[.t 10]
theorem u0:FnC Tryd.prog bd [38,44,75,77,78,80,81,82,2000038,2000044,2000075,2000077,2000078,2000080,2000081,2000082] 1 oR Tryd.f42 uZ ck:=fnC Tryd.func42
abbrev dA:Type:=(Int×Bs×Int×Int×Int×Bs×List ak×Bss×Bs×List am×Int)
def dj:dA→St:=fun(b,c,d,e,f,g,h,i,j,k,a)=>{env:=(.ptr 0 0::.undef::.int .i64 b::.str c::.int .i64 d::.undef::.ea [.int .i64 e,.int .i64 f,.str g,.sl .jnode (.may false) h,.sl .str (.may false) i]::(U 4 (.str j::(U 152 [])))),hp:=[some [.ul .atype k,.int .i64 a]]}
def jw(R:IR→(Ex→St→Ro)→St→Ro)(a:St→Ro):Ex→St→Ro:=(bO a [0,2,3,4,6,14,15,17,1000000] 2 (aJ 0 (kseq (R iu) (fin ck))))
abbrev b8:Type:=(Int×Bs×Int×Int×Int×Bs×List ak×Bss×Bss×Int×List am×Int×Int×Bs×Bss×Int×Bss×Bool×Bs×Int×List aN×List Int)
def bg:b8→St:=fun(m,n,o,p,q,r,s,t,u,v,a,b,c,d,e,f,g,h,i,j,k,l)=>{env:=(.ptr 0 0::.undef::.int .i64 m::.str n::.int .i64 o::.undef::.ea [.int .i64 p,.int .i64 q,.str r,.sl .jnode (.may false) s,.sl .str (.may false) t]::(U 7 (.ptr 1 0::.sl .str (.may false) u::.undef::.int .i64 v::(U 146 [])))),hp:=[some [.ul .atype a,.int .i64 b],some [.int .i64 c,.str d,.sl .str .own e,.int .i64 f,.sl .str .own g,.bool h,.str i,.int .i64 j,.sl .afield .own k,.sl (.num .i64) .own l]]}
abbrev jx:Type:=(Int×Bs×Int×Int×Int×Bs×List ak×Bss×List am×Int×Int×Bs×Bss×Int×Bss×Bool×Bs×Int×List aN×List Int)
def fv:jx→St:=fun(k,l,m,n,o,p,q,r,s,t,a,b,c,d,e,f,g,h,i,j)=>{env:=(.ptr 0 0::.undef::.int .i64 k::.str l::.int .i64 m::.undef::.ea [.int .i64 n,.int .i64 o,.str p,.sl .jnode (.may false) q,.sl .str (.may false) r]::(U 7 (.ptr 1 0::(U 149 [])))),hp:=[some [.ul .atype s,.int .i64 t],some [.int .i64 a,.str b,.sl .str .own c,.int .i64 d,.sl .str .own e,.bool f,.str g,.int .i64 h,.sl .afield .own i,.sl (.num .i64) .own j]]}
def jy(N:Nat):St→Ro:=fun s=>run bd N ma (fin ck) s
def cB(N:Nat):jx→Ro:=fun(v2,v3,v4,b,c,d,e,f,t,g,h,i,j,k,l,m,n,o,p,q)=>
 let u:=fun g0 g1 g2=>(some (.int .i64 g0,[some [.ul .atype g1,.int .i64 g2],some [.int .i64 h,.str i,.sl .str .own j,.int .i64 k,.sl .str .own l,.bool m,.str n,.int .i64 o,.sl .afield .own p,.sl (.num .i64) .own q]]):Ro)
 cond (!(g==0)) (
 u 0 t g) (
 ao (cr t g h i j k l m n o p q) (fun a=>
 cond (v2==9) (
 ao (dM a.2.1 a.2.2 b c d e f a.1 v3 v4) (fun z=>
 u a.1 z.1 z.2)) (
 cond (v2==10) (
 ao (dw a.2.1 a.2.2 b c d e f a.1) (fun aa=>
 u a.1 aa.1 aa.2)) (
 ao (bP b c d e f ([115,105,122,101]:Bs)) (fun r=>
 cond (!r.2.2.2.2.2) (
 ao (ap a.2.1 a.2.2 2) (fun v=>
 u v.1 v.2.1 v.2.2)) (
 cond (!(r.1==3)) (
 ao (ap a.2.1 a.2.2 2) (fun w=>
 u w.1 w.2.1 w.2.2)) (
 cond (decide (r.2.1<0)) (
 ao (ap a.2.1 a.2.2 6) (fun x=>
 u x.1 x.2.1 x.2.2)) (
 cond (decide (5000<r.2.1)) (
 ao (ap a.2.1 a.2.2 6) (fun y=>
 u y.1 y.2.1 y.2.2)) (
 cond (a.2.2==0) (
 chk (decide (0<List.length a.2.1)) (
 chk (decide (0≤a.1)&&decide (a.1<↑(List.length a.2.1))) (
 chk (decide ((Int.toNat a.1)<List.length a.2.1)) (
 let x5:=(List.set a.2.1 (Int.toNat a.1) (let s:=List.getD a.2.1 (Int.toNat a.1) (az .atype);⟨s.kind,s.name,s.aliases,s.items,s.syms,s.hasdef,s.df,r.2.1,s.fields,s.branches⟩))
 chk (Nat.beq (List.length a.2.1) (List.length x5)) (
 some (.int .i64 a.1,[some [.ul .atype x5,.int .i64 a.2.2],some [.int .i64 h,.str i,.sl .str .own j,.int .i64 k,.sl .str .own l,.bool m,.str n,.int .i64 o,.sl .afield .own p,.sl (.num .i64) .own q],none,none])))))) (
 u a.1 a.2.1 a.2.2))))))))))
theorem sR(N:Nat):LJ (jy N) fv (cB N):=fun _=>by kernel_rfl
def dB(N:Nat):(St→Ro)→St→Ro:=fun a s=>run bd N ft (jw (run bd N) a) s
def fw(N:Nat)(f:b8→Ro)(q2:jx→Ro):b8→Ro:=fun(v2,z,v4,i,j,k,l,m,g,h,d,b,n,c,e,o,p,q,r,s,t,u)=>
 let x1:=(↑(List.length g):Int)
 let w:=fun g0 g1=>q2 (v2,z,v4,i,j,k,l,m,g0,g1,n,c,e,o,p,q,r,s,t,u)
 cond (decide (h<x1)) (
 cond (b==0) (
 chk (ixl h g) (
 let x2:=List.getD g (Int.toNat h) (az .str)
 ao (da d b x2 z) (fun y=>
 chk (decide ((List.length e+List.length ([y.1]:Bss))*16≤140737488355328)) (
 let x3:=(e++([y.1]:Bss))
 let x4:=(IntKind.wrap .i64 (h+1))
 f (v2,z,v4,i,j,k,l,m,g,x4,y.2.1,y.2.2,n,c,x3,o,p,q,r,s,t,u))))) (
 ao (bB d b c) (fun v=>
 cond (v.2.2.2==0) (
 cond v.2.1 (
 ao (ap v.2.2.1 v.2.2.2 5) (fun r9=>
 w r9.2.1 r9.2.2)) (
 w v.2.2.1 v.2.2.2)) (
 w v.2.2.1 v.2.2.2)))) (
 ao (bB d b c) (fun a=>
 cond (a.2.2.2==0) (
 cond a.2.1 (
 ao (ap a.2.2.1 a.2.2.2 5) (fun x=>
 w x.2.1 x.2.2)) (
 w a.2.2.1 a.2.2.2)) (
 w a.2.2.1 a.2.2.2)))
def cC(N:Nat)(a:b8→Ro)(x:b8):Ro:=fw N a (fun z=>cB N z) x
def jz(N:Nat)(a:St→Ro):List (Nat×(St→Ro)):=(ca bd N ft (jw (run bd N) a)++(ca bd N iu (fin ck)++[]))
theorem sS(N:Nat):∀(a:St→Ro)(x:b8),dB N a (bg x)=cC N (fun y=>a (bg y)) x:=by
 intro a x
 have hX:∀C:Nat→St→Ro,bW C bd N ft (jw (bW C bd N) a) (bg x)=fw N (fun y=>a (bg y)) (fun z=>C 1000001 (fv z)) x:=by
  intro C
  kernel_rfl
 have h:dB N a (bg x)=fw N (fun y=>a (bg y)) (fun z=>jy N (fv z)) x:=(eX (C:=ic (jz N a)) (cE (bb (l:=(jz N a)) (by kernel_rfl))) (pP (eW (jJ (cE (fL (bb (l:=(jz N a)) (by kernel_rfl)))) rfl))) _).trans ((hX _).trans (by kernel_rfl))
 have e2:(fun z=>jy N (fv z))=(fun z=>cB N z):=funext fun z=>sR N z
 rw[h,e2]
 rfl
def jA(N:Nat):St→Ro:=fun s=>run bd N eC (fin ck) s
def fx(N:Nat)(l:b8→Ro):dA→Ro:=fun(k,m,n,b,c,d,e,f,i,g,a)=>
 cond (!(a==0)) (
 some (.int .i64 0,[some [.ul .atype g,.int .i64 a]])) (
 ao (da g a i m) (fun h=>
 ao (jn h.1) (fun(o:Bs)=>
 ao (bI h.2.1 h.2.2 b c d e f ([97,108,105,97,115,101,115]:Bs)) (fun j=>
 l (k,o,n,b,c,d,e,f,j.1,0,j.2.2.1,j.2.2.2,k,h.1,([]:Bss),0,([]:Bss),false,([]:Bs),0,([]:List aN),([]:List Int))))))
def f7(N:Nat)(x:dA):Ro:=fx N (fun z=>aT N (cC N) z) x
def nG(N:Nat):List (Nat×(St→Ro)):=(ca bd N eC (fin ck)++[])
theorem sT(N:Nat):∀(x:dA),jA N (dj x)=f7 N x:=by
 intro x
 have hX:∀C:Nat→St→Ro,bW C bd N eC (fin ck) (dj x)=fx N (fun z=>C 1000000 (bg z)) x:=by
  intro C
  kernel_rfl
 have h:jA N (dj x)=fx N (fun z=>bh N (dB N) (bg z)) x:=(eX (C:=ic (nG N)) (cE (bb (l:=(nG N)) (by kernel_rfl))) rfl _).trans ((hX _).trans (by kernel_rfl))
 have e1:(fun z=>bh N (dB N) (bg z))=(fun z=>aT N (cC N) z):=funext fun z=>bj (bg) (dB N) (cC N) (sS N) N z
 rw[h,e1]
 rfl
def dZ(N:Nat)(g:List am)(h a b:Int)(c:Bs)(d:List ak)(e:Bss)(j:Int)(n:Bs)(k:Int)(l:dA→Ro):Ro:=
 ao (cb g h a b c d e ([110,97,109,101]:Bs) true) (fun f=>
 ao (bP a b c d e ([110,97,109,101,115,112,97,99,101]:Bs)) (fun i=>
 cond i.2.2.2.2.2 (
 cond (!(i.1==4)) (
 ao (ap f.2.1 f.2.2 2) (fun m=>
 l (j,i.2.2.1,k,a,b,c,d,e,f.1,m.2.1,m.2.2))) (
 l (j,i.2.2.1,k,a,b,c,d,e,f.1,f.2.1,f.2.2))) (
 l (j,n,k,a,b,c,d,e,f.1,f.2.1,f.2.2))))
def oz(N:Nat)(a:List am)(b c d:Int)(e:Bs)(f:List ak)(g:Bss)(h:Int)(i:Bs)(j:Int):Ro:=dZ N a b c d e f g h i j (fun z=>f7 N z)
theorem tG(N:Nat)(a:List am)(c d g:Int)(i:Bs)(j:List ak)(k:Bss)(l:Int)(m:Bs)(n:Int)(h:Tot (oz N a c d g i j k l m n) (fun z=>∃(o:Int)(p:List am)(s:Int)(rest:List aq),z.1.dimR=.int .i64 o∧z.2=some [.ul .atype p,.int .i64 s]::rest∧db a c d g i j k l m n (o,p,s))):∃r,eH a c d g i j k l m n r:=FnC.finO (css:=[[.ul .atype a,.int .i64 c]]) u0 (N:=N) ((cn _ (by kernel_rfl) rfl (fun C=>dZ N a c d g i j k l m n (fun z=>C 1000002 (dj z))) (fun C=>by kernel_rfl)).trans (Eq.trans (b:=dZ N a c d g i j k l m n (fun z=>jA N (dj z))) (by kernel_rfl) (congrArg (dZ N a c d g i j k l m n) (funext fun z=>sT N z)))) h fun _ ⟨o,p,s,_,e,f,q⟩=>⟨(o,p,s),e,⟨_,f⟩,q⟩
noncomputable def aC:ay:=tab (P:=Tryd.prog) [] [iE,bA,xy,wj,wm,je] [] [lI,xz]
def mI:IR:=Rs [Ld 88 5 true 5,Mv 89 12,Ca 90 41 [88,89],Mv 87 90,Ex_ 91 0 87,Ex_ 92 1 87,Pp (.alr 13 5),Fz 13 5 91,Mv 14 92] (Sq (Rs [Mv 93 14,Un 94 93] (Cn 94 (Rs [Mv 95 0,Ca 96 38 [95,kI 2],Mv 8 96] .ret) .skip)) (Rs [Mv 97 0,Ld 98 5 true 13,Mv 99 2,Mv 100 3,Bc 101 .add 100 1,Ca 102 23 [97,98,99,101],Mv 15 102] (Sq (Rs [Mv 103 0,Nk 104 103,Fa 105 1 104,Lo 106 105,Bc 107 .eql 106 0] (Cn 107 (.gh (.opn (.cell 0 0)) (.ghp (.cls (.cell 0 0)) (Rg [Mv 108 0,Nk 109 108,Fa 110 0 109,Fa 111 0 110,Lo 112 111,Mv 113 11,Mv 114 15,Pp (.ixw 115 .atype 112 113),Pp (.fdw 116 3 115),Pp (.stw none 1 116 114)]))) .skip)) (Rs [Mv 117 11,Mv 8 117] .ret))))
def fy:IR:=Cn 75 (Rs [Mv 78 0,Fa 79 2 9,Lq 80 79,Ca 81 43 [80],Pp (.bld 82 [vI 0,vS,fu .str true,vI 0,fu .str true,.bool false,vS,vI 0,fu .afield true,fu (.num .i64) true] [(0,1,81)]),Ca 83 44 [78,82],Mv 11 83] (Rs [Ms 12 [105,116,101,109,115]] (Sq (Rs [Fa 84 2 9,Lq 85 84,Pp (.bin 86 .eql 85 (kS [109,97,112]))] (Cn 86 (Rg [Ms 12 [118,97,108,117,101,115]]) .skip)) (.cut [0,2,3,5,11,12,1000000] 1 mI)))) .skip
def fA:IR:=Cn 63 (Sq (.reg [Mv 67 0,Ld 68 5 true 5,Fa 69 2 9,Lq 70 69,Ca 71 43 [70],Mv 72 2,Mv 73 3,Fo [] [0] (.call 74 42 [67,68,71,72,73]),Mv 8 74] [[],[],[],[2],[2,3],[],[],rg 0 6,rg 0 7]) .ret) (Sq (Rs [Pp (.bin 76 .eql 62 (kS [97,114,114,97,121])),Mv 75 76] (Cn 75 .skip (Rg [Pp (.bin 77 .eql 62 (kS [109,97,112])),Mv 75 77]))) (.cut [0,2,3,5,9,75,1000001] 1 fy))
def mJ:IR:=Rs [Mv 118 0,Fa 119 2 9,Lq 120 119,Mv 121 2,Ca 122 39 [118,120,121],Mv 8 122] .ret
def fB:IR:=.cut [0,2,9,1000003] 1 mJ
def bT:IR:=Rs [Mv 123 0,Ca 124 38 [123,kI 2],Mv 8 124] .ret
def wJ:IR:=Rs [Bx 5 1,Mi 8 0] (Sq (Rs [Mv 16 0,Nk 17 16,Fa 18 1 17,Lo 19 18,Bc 20 .neq 19 0] (Cn 20 (Rs [Mi 8 0] .ret) .skip)) (Sq (Rs [Mv 21 3,Bc 22 .gtr 21 20] (Cn 22 (Rs [Mv 23 0,Ca 24 38 [23,kI 3],Mv 8 24] .ret) .skip)) (Sq (Rs [Fa 25 0 5,Lq 26 25] (.block 0 (Rs [Bc 28 .eql 26 4,Mv 27 28] (Cn 27 (Rs [Mv 29 0,Fa 30 2 5,Lq 31 30,Mv 32 2,Ca 33 39 [29,31,32],Mv 8 33] .ret) (Rs [Bc 35 .eql 26 5,Mv 34 35] (Cn 34 (Rs [Mv 36 0,Ld 37 5 true 5,Mv 38 2,Mv 39 3,Ca 40 40 [36,37,38,39],Mv 8 40] .ret) (Rs [Bc 42 .eql 26 6,Mv 41 42] (Cn 41 (Rs [Ld 44 5 true 5,Ca 45 41 [44,kS [116,121,112,101]],Mv 43 45,Ex_ 46 0 43,Ex_ 47 1 43,Pp (.alr 9 5),Fz 9 5 46,Mv 10 47] (Sq (Rs [Mv 48 10,Un 49 48] (Cn 49 (Rs [Mv 50 0,Ca 51 38 [50,kI 2],Mv 8 51] .ret) .skip)) (Sq (Rs [Fa 52 0 9,Lq 53 52,Bc 54 .neq 53 4] (Cn 54 (Rs [Mv 55 0,Ld 56 5 true 9,Mv 57 2,Mv 58 3,Bc 59 .add 58 1,Ca 60 23 [55,56,57,59],Mv 8 60] .ret) .skip)) (Sq (Rs [Fa 61 2 9,Lq 62 61] (.block 1 (Sq (Rs [Pp (.bin 64 .eql 62 (kS [114,101,99,111,114,100])),Mv 63 64] (Cn 63 .skip (Rs [Pp (.bin 65 .eql 62 (kS [101,110,117,109])),Mv 63 65] (Cn 63 .skip (Rg [Pp (.bin 66 .eql 62 (kS [102,105,120,101,100])),Mv 63 66]))))) (.cut [0,2,3,5,9,62,63,1000002] 1 fA)))) fB)))) .skip)))))))) bT)))
def cu:List RV:=[.t 8]
theorem wK:FnC Tryd.prog aC [23,38,39,40,42,44,2000023,2000038,2000039,2000040,2000042,2000044] 1 pU Tryd.f23 wJ cu:=fnC Tryd.func23
abbrev d6:Type:=(Bs×Int×Int×Int×Bs×List ak×Bss×Int×Int×Bs×List ak×Bss×Bs×Bool×List am×Int)
def dC:d6→St:=fun(g,h,i,j,k,l,m,n,o,p,a,b,c,d,e,f)=>{env:=(.ptr 0 0::.undef::.str g::.int .i64 h::.undef::.ea [.int .i64 i,.int .i64 j,.str k,.sl .jnode (.may false) l,.sl .str (.may false) m]::(U 3 (.ea [.int .i64 n,.int .i64 o,.str p,.sl .jnode (.may false) a,.sl .str (.may false) b]::(U 52 (.str c::.bool d::(U 61 [])))))),hp:=[some [.ul .atype e,.int .i64 f]]}
def cl(R:IR→(Ex→St→Ro)→St→Ro):Ex→St→Ro:=(aJ 1 (kseq (R fB) (aJ 0 (kseq (R bT) (fin cu)))))
abbrev d7:Type:=(Bs×Int×Int×Int×Bs×List ak×Bss×Int×Int×Bs×List ak×Bss×Bool×List am×Int)
def cD:d7→St:=fun(f,g,h,i,j,k,l,m,n,o,a,b,c,d,e)=>{env:=(.ptr 0 0::.undef::.str f::.int .i64 g::.undef::.ea [.int .i64 h,.int .i64 i,.str j,.sl .jnode (.may false) k,.sl .str (.may false) l]::(U 3 (.ea [.int .i64 m,.int .i64 n,.str o,.sl .jnode (.may false) a,.sl .str (.may false) b]::(U 65 (.bool c::(U 49 [])))))),hp:=[some [.ul .atype d,.int .i64 e]]}
abbrev jW:Type:=(Bs×Int×Int×Int×Bs×List ak×Bss×Int×Bs×List am×Int)
def f8:jW→St:=fun(b,c,d,e,f,g,h,i,j,k,a)=>{env:=(.ptr 0 0::.undef::.str b::.int .i64 c::.undef::.ea [.int .i64 d,.int .i64 e,.str f,.sl .jnode (.may false) g,.sl .str (.may false) h]::(U 5 (.int .i64 i::.str j::(U 112 [])))),hp:=[some [.ul .atype k,.int .i64 a]]}
def jX(N:Nat):St→Ro:=fun s=>run aC N mI (cl (run aC N)) s
def d8(N:Nat):jW→Ro:=fun(o,p,h,i,j,k,l,b,m,e,f)=>
 ao (bP h i j k l m) (fun c=>
 cond (!c.2.2.2.2.2) (
 ao (ap e f 2) (fun g=>
 some (.int .i64 g.1,[some [.ul .atype g.2.1,.int .i64 g.2.2]]))) (
 let q:=(IntKind.wrap .i64 (p+1))
 ao (bq e f c.1 c.2.1 c.2.2.1 c.2.2.2.1 c.2.2.2.2.1 o q) (fun a=>
 cond (a.2.2==0) (
 chk (decide (0<List.length a.2.1)) (
 chk (decide (0≤b)&&decide (b<↑(List.length a.2.1))) (
 chk (decide ((Int.toNat b)<List.length a.2.1)) (
 let n:=(List.set a.2.1 (Int.toNat b) (let d:=List.getD a.2.1 (Int.toNat b) (az .atype);⟨d.kind,d.name,d.aliases,a.1,d.syms,d.hasdef,d.df,d.size,d.fields,d.branches⟩))
 chk (Nat.beq (List.length a.2.1) (List.length n)) (
 some (.int .i64 b,[some [.ul .atype n,.int .i64 a.2.2],none,none])))))) (
 some (.int .i64 b,[some [.ul .atype a.2.1,.int .i64 a.2.2]])))))
theorem tH(N:Nat):LJ (jX N) f8 (d8 N):=fun _=>by kernel_rfl
abbrev jY:Type:=(Bs×Int×Int×Bs×List ak×Bss×List am×Int)
def ga:jY→St:=fun(a,b,c,d,e,f,g,h)=>{env:=(.ptr 0 0::.undef::.str a::(U 6 (.ea [.int .i64 b,.int .i64 c,.str d,.sl .jnode (.may false) e,.sl .str (.may false) f]::(U 115 [])))),hp:=[some [.ul .atype g,.int .i64 h]]}
def u6(R:IR→(Ex→St→Ro)→St→Ro):Ex→St→Ro:=(aJ 0 (kseq (R bT) (fin cu)))
def jZ(N:Nat):St→Ro:=fun s=>run aC N mJ (u6 (run aC N)) s
def d9(N:Nat):jY→Ro:=fun(e,_,_,b,_,_,c,d)=>
 ao (dv c d b e) (fun a=>
 some (.int .i64 a.1,[some [.ul .atype a.2.1,.int .i64 a.2.2]]))
theorem tI(N:Nat):LJ (jZ N) ga (d9 N):=fun _=>by kernel_rfl
def gF(N:Nat):St→Ro:=fun s=>run aC N fy (cl (run aC N)) s
def gb(N:Nat)(p:jW→Ro)(r:jY→Ro):d7→Ro:=fun(n,q,c,d,e,f,g,j,k,b,l,m,o,h,i)=>
 cond o (
 ao (gY b) (fun(s:Int)=>
 ao (cr h i s ([]:Bs) ([]:Bss) 0 ([]:Bss) false ([]:Bs) 0 ([]:List aN) ([]:List Int)) (fun a=>
 let t:=decide (b=([109,97,112]:Bs))
 cond t (
 p (n,q,c,d,e,f,g,a.1,([118,97,108,117,101,115]:Bs),a.2.1,a.2.2)) (
 p (n,q,c,d,e,f,g,a.1,([105,116,101,109,115]:Bs),a.2.1,a.2.2))))) (
 r (n,j,k,b,l,m,h,i))
def eb(N:Nat)(x:d7):Ro:=gb N (fun z=>d8 N z) (fun z=>d9 N z) x
def gG(N:Nat):List (Nat×(St→Ro)):=(ca aC N fy (cl (run aC N))++(ca aC N fB (aJ 0 (kseq (run aC N bT) (fin cu)))++(ca aC N bT (fin cu)++[])))
theorem tJ(N:Nat):∀(x:d7),gF N (cD x)=eb N x:=by
 intro x
 have hX:∀C:Nat→St→Ro,bW C aC N fy (cl (bW C aC N)) (cD x)=gb N (fun z=>C 1000000 (f8 z)) (fun z=>C 1000003 (ga z)) x:=by
  intro C
  kernel_rfl
 have h:gF N (cD x)=gb N (fun z=>jX N (f8 z)) (fun z=>jZ N (ga z)) x:=(eX (C:=ic (gG N)) (cE (bb (l:=(gG N)) (by kernel_rfl))) (eW (jJ (cE (fL (bb (l:=(gG N)) (by kernel_rfl)))) (eW (jJ (cE (fL (fL (bb (l:=(gG N)) (by kernel_rfl))))) rfl)))) _).trans ((hX _).trans (by kernel_rfl))
 have e2:(fun z=>jX N (f8 z))=(fun z=>d8 N z):=funext fun z=>tH N z
 have e3:(fun z=>jZ N (ga z))=(fun z=>d9 N z):=funext fun z=>tI N z
 rw[h,e2,e3]
 rfl
def j0(N:Nat):St→Ro:=fun s=>run aC N fA (cl (run aC N)) s
def gc(N:Nat)(s:d7→Ro):d6→Ro:=fun(p,q,a,b,c,d,e,i,j,f,k,l,m,n,g,h)=>
 let r:=fun t=>s (p,q,a,b,c,d,e,i,j,f,k,l,t,g,h)
 cond n (
 ao (gY f) (fun(u:Int)=>
 ao (eH g h a b c d e u p q) (fun o=>
 some (.int .i64 o.1,[some [.ul .atype o.2.1,.int .i64 o.2.2]])))) (
 let v:=decide (m=([97,114,114,97,121]:Bs))
 cond v (
 r true) (
 let w:=decide (m=([109,97,112]:Bs))
 r w))
def gH(N:Nat)(x:d6):Ro:=gc N (fun z=>eb N z) x
def gI(N:Nat):List (Nat×(St→Ro)):=(ca aC N fA (cl (run aC N))++(ca aC N fB (aJ 0 (kseq (run aC N bT) (fin cu)))++(ca aC N bT (fin cu)++[])))
theorem tK(N:Nat):∀(x:d6),j0 N (dC x)=gH N x:=by
 intro x
 have hX:∀C:Nat→St→Ro,bW C aC N fA (cl (bW C aC N)) (dC x)=gc N (fun z=>C 1000001 (cD z)) x:=by
  intro C
  kernel_rfl
 have h:j0 N (dC x)=gc N (fun z=>gF N (cD z)) x:=(eX (C:=ic (gI N)) (cE (bb (l:=(gI N)) (by kernel_rfl))) (eW (jJ (cE (fL (bb (l:=(gI N)) (by kernel_rfl)))) (eW (jJ (cE (fL (fL (bb (l:=(gI N)) (by kernel_rfl))))) rfl)))) _).trans ((hX _).trans (by kernel_rfl))
 have e1:(fun z=>gF N (cD z))=(fun z=>eb N z):=funext fun z=>tJ N z
 rw[h,e1]
 rfl
def eM(N:Nat)(b:List am)(a d f:Int)(e:Bs)(g:List ak)(h:Bss)(j:Bs)(k:Int)(s:d6→Ro):Ro:=
 let l:=fun t u r v w x=>s (j,k,d,f,e,g,h,t,u,r,v,w,r,x,b,a)
 cond (!(a==0)) (
 some (.int .i64 0,[some [.ul .atype b,.int .i64 a]])) (
 cond (decide (20<k)) (
 ao (ap b a 3) (fun m=>
 some (.int .i64 m.1,[some [.ul .atype m.2.1,.int .i64 m.2.2]]))) (
 cond (d==4) (
 ao (dv b a e j) (fun n=>
 some (.int .i64 n.1,[some [.ul .atype n.2.1,.int .i64 n.2.2]]))) (
 cond (d==5) (
 ao (eG b a d f e g h j k) (fun o=>
 some (.int .i64 o.1,[some [.ul .atype o.2.1,.int .i64 o.2.2]]))) (
 cond (d==6) (
 ao (bP d f e g h ([116,121,112,101]:Bs)) (fun c=>
 cond (!c.2.2.2.2.2) (
 ao (ap b a 2) (fun p=>
 some (.int .i64 p.1,[some [.ul .atype p.2.1,.int .i64 p.2.2]]))) (
 cond (!(c.1==4)) (
 let y:=(IntKind.wrap .i64 (k+1))
 ao (bq b a c.1 c.2.1 c.2.2.1 c.2.2.2.1 c.2.2.2.2.1 j y) (fun q=>
 some (.int .i64 q.1,[some [.ul .atype q.2.1,.int .i64 q.2.2]]))) (
 let z:=decide (c.2.2.1=([114,101,99,111,114,100]:Bs))
 cond z (
 l c.1 c.2.1 c.2.2.1 c.2.2.2.1 c.2.2.2.2.1 true) (
 let x8:=decide (c.2.2.1=([101,110,117,109]:Bs))
 cond x8 (
 l c.1 c.2.1 c.2.2.1 c.2.2.2.1 c.2.2.2.2.1 true) (
 let x9:=decide (c.2.2.1=([102,105,120,101,100]:Bs))
 l c.1 c.2.1 c.2.2.1 c.2.2.2.1 c.2.2.2.2.1 x9)))))) (
 ao (ap b a 2) (fun i=>
 some (.int .i64 i.1,[some [.ul .atype i.2.1,.int .i64 i.2.2]])))))))
def pe(N:Nat)(a:List am)(b c d:Int)(e:Bs)(f:List ak)(g:Bss)(h:Bs)(i:Int):Ro:=eM N a b c d e f g h i (fun z=>gH N z)
theorem u7(N:Nat)(a:List am)(c d g:Int)(i:Bs)(j:List ak)(k:Bss)(l:Bs)(m:Int)(h:Tot (pe N a c d g i j k l m) (fun z=>∃(n:Int)(o:List am)(p:Int)(rest:List aq),z.1.dimR=.int .i64 n∧z.2=some [.ul .atype o,.int .i64 p]::rest∧cA a c d g i j k l m (n,o,p))):∃r,bq a c d g i j k l m r:=FnC.finO (css:=[[.ul .atype a,.int .i64 c]]) wK (N:=N) ((cn _ (by kernel_rfl) rfl (fun C=>eM N a c d g i j k l m (fun z=>C 1000002 (dC z))) (fun C=>by kernel_rfl)).trans (Eq.trans (b:=eM N a c d g i j k l m (fun z=>j0 N (dC z))) (by kernel_rfl) (congrArg (eM N a c d g i j k l m) (funext fun z=>tK N z)))) h fun _ ⟨n,o,p,_,e,f,q⟩=>⟨(n,o,p),e,⟨_,f⟩,q⟩
noncomputable def aeb:ay:=tab (P:=Tryd.prog) [] [iE] [] []
def acJ:IR:=Rs [Bx 1 0,Pp (.new 2 [nl .atype]),Mi 3 0] (Rs [Pp (.bld 5 [.ul .atype ([]:List am),vI 0] []),Pp (.box 6 5),Mv 4 6] (Rs [Mv 7 4,Ld 8 5 true 1,Ca 9 23 [7,8,kS [],kI 1]] (Sq (Rs [Mv 10 4,Nk 11 10,Fa 12 1 11,Lo 13 12,Bc 14 .neq 13 0] (Cn 14 (Sq (.reg [Pp (.bld 15 [nl .atype] []),Mv 16 4,Nk 17 16,Fa 18 1 17,Fo [1] [] (.ld 19 1 false false 18),Fo [] [0] (.st none 1 2 15),Mv 3 19] [[],[],[1],[1,2],[1,2,3],[0],rg 0 5]) .ret) .skip)) (Sq (.gh (.fz (.cell 1 0)) (Rg [Mv 20 4,Nk 21 20,Fa 22 0 21,Pp (.ld 23 1 true false 22),Sv 1 2 23,Mi 3 0])) .ret))))
def acK:List RV:=[.cell 2 1 true,.t 3]
theorem acL:FnC Tryd.prog aeb [23,2000023] 0 xp Tryd.f10 acJ acK:=fnC Tryd.func10
def vK(N:Nat)(b c:Int)(d:Bs)(e:List ak)(f:Bss):Ro:=
 let g:=fun h i j k l=>(some (.tup [.agg [.sl .atype (.may false) h],.int .i64 i],[some [j],some [k,.int .i64 l]]):Ro)
 ao (bq ([]:List am) 0 b c d e f ([]:Bs) 1) (fun a=>
 cond (!(a.2.2==0)) (
 g ([]:List am) a.2.2 (.sl .atype .own ([]:List am)) (.ul .atype a.2.1) a.2.2) (
 g a.2.1 0 (.sl .atype (.may false) a.2.1) (.sl .atype .own a.2.1) a.2.2))
def vL(N:Nat)(a b:Int)(c:Bs)(d:List ak)(e:Bss):Ro:=vK N a b c d e
theorem abn(N:Nat)(a b:Int)(c:Bs)(d:List ak)(f:Bss)(h:Tot (vL N a b c d f) (fun z=>∃(g:List am)(i:Int)(rest:List aq),z.1.dimR=.tup [.agg [.sl .atype (.may false) g],.int .i64 i]∧z.2=rest∧rT a b c d f (g,i))):∃r,lj a b c d f r:=acL.finP (N:=N) (by kernel_rfl) h fun _ ⟨g,i,_,e,_,q⟩=>⟨(g,i),e,q⟩
end Go.Proofs.YtkinflmjagfapaaDoor
end
